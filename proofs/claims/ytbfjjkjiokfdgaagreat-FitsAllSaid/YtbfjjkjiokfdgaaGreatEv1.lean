/-
 For countersign/countersignlaw20.FitsAll: the evaluator and its soundness, part 1 of 4: what a run of the abstract evaluator answers, the model's run answers, in every world and on every schedule. No conditions beyond those that each theorem states.
-/
import GoSem.Step
import Derived.Below
import Derived.Calls
import Derived.Wp
import Derived.IntWalk
import Derived.Laws.Strings
import Derived.Laws.StructEq
namespace Go
theorem lL:type_of% @Nat.lt_of_lt_of_le:=Nat.lt_of_lt_of_le
theorem lg:type_of% @Nat.le_refl:=Nat.le_refl
theorem lh:type_of% @List.getElem?_eq_getElem:=List.getElem?_eq_getElem
theorem lq:type_of% @List.length_append:=List.length_append
theorem lu:type_of% @List.getElem_mem:=List.getElem_mem
theorem ku:type_of% @List.take_succ_eq_append_getElem:=List.take_succ_eq_append_getElem
theorem kw:type_of% @List.getD_eq_getElem?_getD:=List.getD_eq_getElem?_getD
theorem kz:type_of% @if_neg:=if_neg
theorem gp:type_of% @decide_eq_true:=decide_eq_true
theorem gq:type_of% @Nat.zero_le:=Nat.zero_le
theorem gy:type_of% @List.mem_singleton:=List.mem_singleton
theorem gz:type_of% @List.mem_append:=List.mem_append
theorem pg:type_of% @List.length_cons:=List.length_cons
theorem pq:type_of% @Bool.and_eq_true:=Bool.and_eq_true
theorem pz:type_of% @if_pos:=if_pos
theorem qc:type_of% @List.length_map:=List.length_map
theorem qf:type_of% @Nat.zero_add:=Nat.zero_add
theorem qg:type_of% @List.mem_cons:=List.mem_cons
theorem qh:type_of% @Option.some.injEq:=Option.some.injEq
theorem qi:type_of% @decide_eq_false:=decide_eq_false
theorem qj:type_of% @Nat.mul_one:=Nat.mul_one
theorem ql:type_of% @List.mem_cons_self:=List.mem_cons_self
theorem qm:type_of% @List.getElem?_eq_some_iff:=List.getElem?_eq_some_iff
theorem qo:type_of% @List.length_take:=List.length_take
theorem qp:type_of% @List.mem_map:=List.mem_map
theorem qw:type_of% @List.append_assoc:=List.append_assoc
theorem qx:type_of% @List.mem_cons_of_mem:=List.mem_cons_of_mem
theorem qy:type_of% @cond_true:=cond_true
theorem rf:type_of% @Nat.eq_of_beq_eq_true:=Nat.eq_of_beq_eq_true
theorem rq:type_of% @Int.ofNat_eq_natCast:=Int.ofNat_eq_natCast
theorem ry:type_of% @List.length_eq_zero_iff:=List.length_eq_zero_iff
theorem tq:type_of% @Nat.le_trans:=Nat.le_trans
theorem tu:type_of% @List.take_of_length_le:=List.take_of_length_le
theorem uA:type_of% @List.flatMap_append:=List.flatMap_append
theorem uB:type_of% @List.flatMap_singleton:=List.flatMap_singleton
theorem uC:type_of% @List.getElem?_append_right:=List.getElem?_append_right
theorem uf:type_of% @List.getElem?_append_left:=List.getElem?_append_left
theorem ug:type_of% @List.flatMap_cons:=List.flatMap_cons
theorem uh:type_of% @List.append_nil:=List.append_nil
theorem ui:type_of% @List.map_append:=List.map_append
theorem uj:type_of% @List.take_length:=List.take_length
theorem uk:type_of% @Nat.add_assoc:=Nat.add_assoc
theorem ul:type_of% @Classical.choose_spec:=Classical.choose_spec
theorem um:type_of% @Nat.min_le_right:=Nat.min_le_right
theorem uo:type_of% @List.length_nil:=List.length_nil
theorem uq:type_of% @List.mem_of_getElem?:=List.mem_of_getElem?
theorem ut:type_of% @List.drop_eq_getElem_cons:=List.drop_eq_getElem_cons
theorem uu:type_of% @List.mem_range:=List.mem_range
theorem uw:type_of% @List.pairwise_iff_getElem:=List.pairwise_iff_getElem
theorem uy:type_of% @List.mem_filter:=List.mem_filter
theorem uz:type_of% @Nat.mul_le_mul_right:=Nat.mul_le_mul_right
theorem vk:type_of% @List.drop_eq_nil_of_le:=List.drop_eq_nil_of_le
theorem vw:type_of% @List.mem_of_find?_eq_some:=List.mem_of_find?_eq_some
theorem vz:type_of% @decide_eq_true_iff:=decide_eq_true_iff
theorem xF:type_of% @Nat.mod_lt:=Nat.mod_lt
theorem xe:type_of% @Bool.not_eq_true':=Bool.not_eq_true'
theorem xf:type_of% @List.nodup_append:=List.nodup_append
theorem xg:type_of% @List.length_drop:=List.length_drop
theorem xh:type_of% @Nat.add_mul:=Nat.add_mul
theorem xk:type_of% @List.length_set:=List.length_set
theorem xm:type_of% @decide_eq_false_iff_not:=decide_eq_false_iff_not
theorem xn:type_of% @Nat.lt_irrefl:=Nat.lt_irrefl
theorem xq:type_of% @decide_eq_true_eq:=decide_eq_true_eq
theorem xu:type_of% @List.drop_append_of_le_length:=List.drop_append_of_le_length
theorem xw:type_of% @List.getElem?_map:=List.getElem?_map
theorem xx:type_of% @Nat.ble_eq_true_of_le:=Nat.ble_eq_true_of_le
theorem xy:type_of% @Nat.add_zero:=Nat.add_zero
theorem yc:type_of% @List.all_eq_true:=List.all_eq_true
theorem yf:type_of% @Nat.lt_or_ge:=Nat.lt_or_ge
theorem yg:type_of% @Nat.min_eq_left:=Nat.min_eq_left
theorem yh:type_of% @List.pairwise_append:=List.pairwise_append
theorem yj:type_of% @List.filter_append:=List.filter_append
theorem yl:type_of% @List.pairwise_cons:=List.pairwise_cons
theorem yt:type_of% @List.length_filter_le:=List.length_filter_le
theorem yu:type_of% @List.getElem?_cons_succ:=List.getElem?_cons_succ
theorem yw:type_of% @Nat.le_of_lt:=Nat.le_of_lt
theorem yx:type_of% @List.mem_flatMap:=List.mem_flatMap
theorem yz:type_of% @Array.getD_eq_getD_getElem?:=Array.getD_eq_getD_getElem?
theorem zf:type_of% @List.getElem?_drop:=List.getElem?_drop
theorem zg:type_of% @Nat.le_of_ble_eq_true:=Nat.le_of_ble_eq_true
theorem zh:type_of% @cond_false:=cond_false
theorem zk:type_of% @List.length_pos_iff:=List.length_pos_iff
theorem zn:type_of% @Array.getElem?_eq_some_iff:=Array.getElem?_eq_some_iff
theorem zo:type_of% @Nat.add_sub_cancel_left:=Nat.add_sub_cancel_left
theorem zq:type_of% @List.pairwise_singleton:=List.pairwise_singleton
theorem zt:type_of% @Array.getElem?_eq_getElem:=Array.getElem?_eq_getElem
theorem zu:type_of% @List.mem_append_left:=List.mem_append_left
theorem zx:type_of% @List.map_singleton:=List.map_singleton
theorem zy:type_of% @List.map_cons:=List.map_cons
theorem ae:type_of% @List.nil_append:=List.nil_append
theorem af:type_of% @Bool.or_eq_true:=Bool.or_eq_true
theorem ag:type_of% @List.any_eq_true:=List.any_eq_true
theorem ah:type_of% @List.mem_append_right:=List.mem_append_right
theorem ai:type_of% @List.flatten_cons:=List.flatten_cons
theorem aj:type_of% @Bool.false_eq_true:=Bool.false_eq_true
theorem ak:type_of% @Nat.lt_succ_self:=Nat.lt_succ_self
theorem au:type_of% @Nat.one_mul:=Nat.one_mul
theorem ay:type_of% @List.getElem_of_mem:=List.getElem_of_mem
theorem bf:type_of% @List.getElem?_eq_none:=List.getElem?_eq_none
theorem bg:type_of% @List.take_append_drop:=List.take_append_drop
theorem bu:type_of% @List.map_map:=List.map_map
theorem bz:type_of% @Nat.min_le_left:=Nat.min_le_left
theorem cu:type_of% @List.getElem_map:=List.getElem_map
theorem dC:type_of% @List.mem_flatten:=List.mem_flatten
theorem dE:type_of% @List.take_zero:=List.take_zero
theorem dh:type_of% @eq_true:=eq_true
theorem dm:type_of% @List.take_succ_cons:=List.take_succ_cons
theorem eQ:type_of% @List.mem_map_of_mem:=List.mem_map_of_mem
theorem ig:type_of% @Nat.not_lt_zero:=Nat.not_lt_zero
theorem ik:type_of% @if_true:=if_true
theorem iq:type_of% @List.length_replicate:=List.length_replicate
theorem iw:type_of% @List.filter_cons:=List.filter_cons
theorem iy:type_of% @List.mem_of_mem_take:=List.mem_of_mem_take
theorem mf:type_of% @List.take_length_add_append:=List.take_length_add_append
theorem mg:type_of% @List.drop_length_add_append:=List.drop_length_add_append
theorem ny:type_of% @List.flatten_append:=List.flatten_append
theorem nz:type_of% @List.cons_append:=List.cons_append
theorem og:type_of% @Array.toList_map:=Array.toList_map
theorem oh:type_of% @List.not_mem_nil:=List.not_mem_nil
theorem oq:type_of% @List.drop_zero:=List.drop_zero
theorem ou:type_of% @List.nodup_cons:=List.nodup_cons
theorem oz:type_of% @Nat.lt_trichotomy:=Nat.lt_trichotomy
theorem lA0:type_of% @List.map_congr_left:=List.map_congr_left
theorem lA4:type_of% @if_false:=if_false
theorem lA5:type_of% @Nat.mul_comm:=Nat.mul_comm
theorem lA6:type_of% @Nat.add_sub_cancel:=Nat.add_sub_cancel
theorem lA7:type_of% @List.getElem?_take:=List.getElem?_take
theorem lA8:type_of% @List.map_nil:=List.map_nil
theorem lA9:type_of% @List.range_succ:=List.range_succ
theorem lAA:type_of% @List.any_append:=List.any_append
theorem lAB:type_of% @List.mem_iff_getElem?:=List.mem_iff_getElem?
theorem lAC:type_of% @Option.ne_none_iff_exists':=Option.ne_none_iff_exists'
theorem lAD:type_of% @List.getElem?_set:=List.getElem?_set
theorem lAE:type_of% @Bool.eq_false_iff:=Bool.eq_false_iff
theorem lAF:type_of% @List.length_range:=List.length_range
theorem lAG:type_of% @Bool.or_eq_false_iff:=Bool.or_eq_false_iff
theorem lAH:type_of% @List.mem_or_eq_of_mem_set:=List.mem_or_eq_of_mem_set
theorem lAI:type_of% @List.drop_drop:=List.drop_drop
theorem lAJ:type_of% @Option.isSome_iff_exists:=Option.isSome_iff_exists
theorem lAK:type_of% @Nat.le_of_not_lt:=Nat.le_of_not_lt
theorem lAL:type_of% @Nat.zero_mul:=Nat.zero_mul
theorem lAM:type_of% @Nat.sub_self:=Nat.sub_self
theorem lAN:type_of% @List.flatMap_map:=List.flatMap_map
theorem lAO:type_of% @List.drop_length:=List.drop_length
theorem lAP:type_of% @List.getElem?_cons_zero:=List.getElem?_cons_zero
theorem lAQ:type_of% @Bool.eq_iff_iff:=Bool.eq_iff_iff
theorem lAR:type_of% @Nat.eq_zero_or_pos:=Nat.eq_zero_or_pos
theorem lAS:type_of% @Nat.lt_of_le_of_lt:=Nat.lt_of_le_of_lt
theorem lAT:type_of% @Array.getElem?_eq_none:=Array.getElem?_eq_none
theorem lAU:type_of% @List.pairwise_map:=List.pairwise_map
theorem lAV:type_of% @Array.getElem?_modify:=Array.getElem?_modify
theorem lAW:type_of% @Nat.beq_refl:=Nat.beq_refl
theorem lAX:type_of% @List.length_mergeSort:=List.length_mergeSort
theorem lAY:type_of% @Int.negSucc_eq:=Int.negSucc_eq
theorem lAZ:type_of% @List.any_map:=List.any_map
theorem lE0:type_of% @List.length_singleton:=List.length_singleton
theorem lE1:type_of% @Nat.sub_le_sub_right:=Nat.sub_le_sub_right
theorem lE2:type_of% @List.mem_iff_getElem:=List.mem_iff_getElem
theorem lE3:type_of% @List.getElem_set:=List.getElem_set
theorem lE4:type_of% @List.take_append:=List.take_append
theorem lE5:type_of% @List.all_cons:=List.all_cons
theorem lE6:type_of% @List.forIn_cons:=List.forIn_cons
theorem lE7:type_of% @List.foldl_cons:=List.foldl_cons
theorem lE8:type_of% @List.find?_some:=List.find?_some
theorem lE9:type_of% @Nat.lt_trans:=Nat.lt_trans
theorem lEA:type_of% @List.map_set:=List.map_set
end Go
noncomputable section
namespace Go.Ev
structure Q(α:Type) where
 (c0 c1 c2 c3 c4 c5 c6 c7:α)
def TT(α:Type):Nat->Type
 |0=>α
 |d+1=>Q (TT α d)
structure wR(α:Type)(d:Nat) where f:TT α d->α
structure vR(α:Type)(d:Nat) where f:TT α d->α->TT α d
structure kX(α:Type) where f:Q α->α
structure kU(α:Type) where f:(α->α)->Q α->Q α
def aZu(α:Type):kX α:=⟨fun t=>Q.rec (motive:=fun _=>α) (fun c0 _ _ _ _ _ _ _=>c0) t⟩
def bCN(α:Type):kX α:=⟨fun t=>Q.rec (motive:=fun _=>α) (fun _ c1 _ _ _ _ _ _=>c1) t⟩
def bFM(α:Type):kX α:=⟨fun t=>Q.rec (motive:=fun _=>α) (fun _ _ c2 _ _ _ _ _=>c2) t⟩
def bBO(α:Type):kX α:=⟨fun t=>Q.rec (motive:=fun _=>α) (fun _ _ _ c3 _ _ _ _=>c3) t⟩
def bEb(α:Type):kX α:=⟨fun t=>Q.rec (motive:=fun _=>α) (fun _ _ _ _ c4 _ _ _=>c4) t⟩
def aS0(α:Type):kX α:=⟨fun t=>Q.rec (motive:=fun _=>α) (fun _ _ _ _ _ c5 _ _=>c5) t⟩
def aZL(α:Type):kX α:=⟨fun t=>Q.rec (motive:=fun _=>α) (fun _ _ _ _ _ _ c6 _=>c6) t⟩
def aYS(α:Type):kX α:=⟨fun t=>Q.rec (motive:=fun _=>α) (fun _ _ _ _ _ _ _ c7=>c7) t⟩
def bEc(α:Type):kU α:=⟨fun f t=>Q.rec (motive:=fun _=>Q α) (fun c0 c1 c2 c3 c4 c5 c6 c7=>⟨f c0,c1,c2,c3,c4,c5,c6,c7⟩) t⟩
def aU7(α:Type):kU α:=⟨fun f t=>Q.rec (motive:=fun _=>Q α) (fun c0 c1 c2 c3 c4 c5 c6 c7=>⟨c0,f c1,c2,c3,c4,c5,c6,c7⟩) t⟩
def aTd(α:Type):kU α:=⟨fun f t=>Q.rec (motive:=fun _=>Q α) (fun c0 c1 c2 c3 c4 c5 c6 c7=>⟨c0,c1,f c2,c3,c4,c5,c6,c7⟩) t⟩
def aTA(α:Type):kU α:=⟨fun f t=>Q.rec (motive:=fun _=>Q α) (fun c0 c1 c2 c3 c4 c5 c6 c7=>⟨c0,c1,c2,f c3,c4,c5,c6,c7⟩) t⟩
def aVZ(α:Type):kU α:=⟨fun f t=>Q.rec (motive:=fun _=>Q α) (fun c0 c1 c2 c3 c4 c5 c6 c7=>⟨c0,c1,c2,c3,f c4,c5,c6,c7⟩) t⟩
def bBt(α:Type):kU α:=⟨fun f t=>Q.rec (motive:=fun _=>Q α) (fun c0 c1 c2 c3 c4 c5 c6 c7=>⟨c0,c1,c2,c3,c4,f c5,c6,c7⟩) t⟩
def bAD(α:Type):kU α:=⟨fun f t=>Q.rec (motive:=fun _=>Q α) (fun c0 c1 c2 c3 c4 c5 c6 c7=>⟨c0,c1,c2,c3,c4,c5,f c6,c7⟩) t⟩
def aS5(α:Type):kU α:=⟨fun f t=>Q.rec (motive:=fun _=>Q α) (fun c0 c1 c2 c3 c4 c5 c6 c7=>⟨c0,c1,c2,c3,c4,c5,c6,f c7⟩) t⟩
def sel(α:Type)(k:Nat):kX α:=Nat.rec (motive:=fun _=>kX α) (aZu α) (fun k _=>Nat.rec (motive:=fun _=>kX α) (bCN α) (fun k _=>Nat.rec (motive:=fun _=>kX α) (bFM α) (fun k _=>Nat.rec (motive:=fun _=>kX α) (bBO α) (fun k _=>Nat.rec (motive:=fun _=>kX α) (bEb α) (fun k _=>Nat.rec (motive:=fun _=>kX α) (aS0 α) (fun k _=>Nat.rec (motive:=fun _=>kX α) (aZL α) (fun _ _=>aYS α) k) k) k) k) k) k) k
def aNm(α:Type)(k:Nat):kU α:=Nat.rec (motive:=fun _=>kU α) (bEc α) (fun k _=>Nat.rec (motive:=fun _=>kU α) (aU7 α) (fun k _=>Nat.rec (motive:=fun _=>kU α) (aTd α) (fun k _=>Nat.rec (motive:=fun _=>kU α) (aTA α) (fun k _=>Nat.rec (motive:=fun _=>kU α) (aVZ α) (fun k _=>Nat.rec (motive:=fun _=>kU α) (bBt α) (fun k _=>Nat.rec (motive:=fun _=>kU α) (bAD α) (fun _ _=>aS5 α) k) k) k) k) k) k) k
def dJ{α:Type}(d:Nat):Nat->wR α d:=
 Nat.rec (motive:=fun d=>Nat->wR α d) (fun _=>⟨fun t=>t⟩)
  (fun d ih i=>wR.rec (motive:=fun _=>wR α (d+1)) (fun g=>kX.rec (motive:=fun _=>wR α (d+1)) (fun s=>⟨fun t=>g (s t)⟩) (sel (TT α d) (Nat.land i 7))) (ih (Nat.shiftRight i 3))) d
def setter{α:Type}(d:Nat):Nat->vR α d:=
 Nat.rec (motive:=fun d=>Nat->vR α d) (fun _=>⟨fun _ v=>v⟩)
  (fun d ih i=>vR.rec (motive:=fun _=>vR α (d+1)) (fun g=>kU.rec (motive:=fun _=>vR α (d+1)) (fun s=>⟨fun t v=>s (fun c=>g c v) t⟩) (aNm (TT α d) (Nat.land i 7))) (ih (Nat.shiftRight i 3))) d
def same{α:Type}(a:α):(d:Nat)->TT α d
 |0=>a
 |d+1=>(⟨same a d,same a d,same a d,same a d,same a d,same a d,same a d,same a d⟩:Q (TT α d))
inductive AV where
 |undef
 |lit (v:Value)
 |bool (b:Bool)
 |int (k:IntKind) (n:Int)
 |str (len bits:Nat)
 |ptr (b o:Nat)
 |cK
 |sl (b o len cap:Nat) (ex:Bool)
 |aA
 |sle
 |map (m:Nat)
 |dV
 |fn (f:FuncId) (first cap:List AV)
 |yield (l:Nat)
 |jH
 |iface (t:TypeId) (v:AV)
 |oM
 |agg (l:List AV)
 |aX (l:List AV)
structure lD where
 (key val:AV)
 born:Nat
inductive bO where
 |dead
 |cells (d n:Nat) (c:TT AV d) (ro:Bool) (z:Nat)
 |map (es:List lD) (clock:Nat)
 |gJ (len bits pos:Nat)
 |loop (ready:Bool) (pending:Option Code) (d n:Nat) (L:TT AV d) (params:List Tmp) (assign body:Code)
def bO.wr:bO->Bool
 | .dead=>false
 | .cells _ _ _ ro _=> !ro
 |_=>true
def HD:Nat:=7
structure Mem where
 t:TT bO HD
 x:Nat->bO
def Mem.get(m:Mem)(i:Nat):bO:=bif Nat.blt i 2097152 then(dJ HD i).f m.t else m.x i
def Mem.put(m:Mem)(i:Nat)(b:bO):Mem:=bif Nat.blt i 2097152 then⟨(setter HD i).f m.t b,m.x⟩else⟨m.t,fun c=>bif Nat.beq c i then b else m.x c⟩
structure Hp where
 t:Mem
 nx:Nat
def Hp.get(H:Hp)(i:Nat):bO:=H.t.get i
def Hp.put(H:Hp)(i:Nat)(b:bO):Hp:=⟨H.t.put i b,H.nx⟩
def Hp.empty:Hp:=⟨⟨same .dead HD,fun _=>.dead⟩,0⟩
inductive Ex where
 |normal|exit (id:Nat)|goto (l:Nat)|ret
inductive R0 where
 |bad
 |val (v:AV)
 |new (v:AV) (b:bO)
inductive R1 where
 |bad
 |ok (v:AV) (H:Hp)
inductive Rc(d:Nat) where
 |bad
 |ok (e:Ex) (L:TT AV d) (H:Hp)
inductive Cl where
 |f (id:FuncId)
 |y (l:Nat)
 |d (id:FuncId)
abbrev Call:=Cl->List AV->Hp->R1
def iO(n:Nat):Nat:=
 bif Nat.ble n 8 then 1 else bif Nat.ble n 64 then 2 else bif Nat.ble n 512 then 3 else bif Nat.ble n 4096 then 4 else bif Nat.ble n 32768 then 5 else bif Nat.ble n 262144 then 6 else n
def tF{d:Nat}(c:TT AV d)(k:Nat):Nat->List AV:=
 Nat.rec (motive:=fun _=>Nat->List AV) (fun _=>[]) (fun _ ih o=>(dJ d o).f c::ih (Nat.succ o)) k
def nV{d:Nat}(l:List AV):Nat->TT AV d->TT AV d:=
 List.rec (motive:=fun _=>Nat->TT AV d->TT AV d) (fun _ c=>c) (fun v _ ih o c=>ih (Nat.succ o) ((setter d o).f c v)) l
def aB(z:Nat)(l:List AV):bO:=.cells (iO l.length) l.length (nV l 0 (same .undef _)) false z
def jL(l:List UInt8):Nat:=l.foldr (fun b acc=>acc*256+b.toNat) 0
def qo4:Value->AV
 | .bool b=>.bool b
 | .int k n=>.int k n
 | .string s=>.str s.data.toList.length (jL s.data.toList)
 | .pointer none=>.cK
 | .slice none 0 0=>.aA
 | .map none=>.dV
 | .nilFunc=>.jH
 | .nilIface=>.oM
 |v=>.lit v
def aAS:Value->Bool
 | .agg _| .tuple _=>false
 |_=>true
def qwf:Value->AV
 | .agg cs=>bif cs.toList.all aAS then .agg (cs.toList.map qo4)else .lit (.agg cs)
 | .tuple ⟨[]⟩=>.undef
 |v=>qo4 v
def AV.cells:AV->List AV
 | .agg l=>l
 |v=>[v]
def p8(P:Program)(t:TypeId):Option Bool:=(P.underlying t).map fun| .struct _| .array _ _=>true|_=>false
def gX(P:Program)(t:TypeId):Option Nat:=(P.info? t).map (·.size)
def qjw(P:Program)(t:TypeId):Option Nat:=(P.info? t).map (·.bytes)
def qk4:Value->Option (List AV)
 | .agg cs=>bif cs.toList.all aAS then some (cs.toList.map qo4)else none
 | .tuple _=>none
 |v=>some [qo4 v]
def qj1(P:Program)(t:TypeId):Option (List AV):=((P.info? t).bind (·.zero)).bind qk4
/- numbers -/
def qw1(k:IntKind)(n:Int):Bool:=
 match n with
 | .ofNat m=>Nat.blt m (match k with| .i8=>128| .i16=>32768| .i32=>2147483648| .i64=>9223372036854775808| .u8=>256| .u16=>65536| .u32=>4294967296| .u64=>18446744073709551616)
 | .negSucc m=>match k with| .i8=>Nat.blt m 128| .i16=>Nat.blt m 32768| .i32=>Nat.blt m 2147483648| .i64=>Nat.blt m 9223372036854775808|_=>false
def uS(k:IntKind)(n:Int):Int:=bif qw1 k n then n else k.wrap n
def pO(a b:Int):Bool:=
 match a,b with
 | .ofNat m,.ofNat n=>Nat.blt m n
 | .negSucc m,.negSucc n=>Nat.blt n m
 | .negSucc _,.ofNat _=>true
 | .ofNat _,.negSucc _=>false
def rD(a b:Int):Bool:=
 match a,b with
 | .ofNat m,.ofNat n=>Nat.beq m n
 | .negSucc m,.negSucc n=>Nat.beq m n
 |_,_=>false
def zle:IntKind->Nat
 | .i8=>0| .i16=>1| .i32=>2| .i64=>3| .u8=>4| .u16=>5| .u32=>6| .u64=>7
def vO(a b:IntKind):Bool:=Nat.beq (zle a) (zle b)
structure B2 where f:IntKind->Int->Int->R0
def nH:BinOp->B2
 | .add=>⟨fun k a b=>.val (.int k (uS k (a+b)))⟩
 | .sub=>⟨fun k a b=>.val (.int k (uS k (a-b)))⟩
 | .mul=>⟨fun k a b=>.val (.int k (uS k (a*b)))⟩
 | .quo=>⟨fun k a b=>bif rD b 0 then .bad else .val (.int k (uS k (a.tdiv b)))⟩
 | .rem=>⟨fun k a b=>bif rD b 0 then .bad else .val (.int k (a.tmod b))⟩
 | .and=>⟨fun k a b=>.val (.int k (k.wrap (BitVec.ofInt k.bits a &&& BitVec.ofInt k.bits b).toNat))⟩
 | .or=>⟨fun k a b=>.val (.int k (k.wrap (BitVec.ofInt k.bits a ||| BitVec.ofInt k.bits b).toNat))⟩
 | .xor=>⟨fun k a b=>.val (.int k (k.wrap (BitVec.ofInt k.bits a ^^^ BitVec.ofInt k.bits b).toNat))⟩
 | .andNot=>⟨fun k a b=>.val (.int k (k.wrap (BitVec.ofInt k.bits a &&& ~~~ BitVec.ofInt k.bits b).toNat))⟩
 | .eql=>⟨fun _ a b=>.val (.bool (rD a b))⟩
 | .neq=>⟨fun _ a b=>.val (.bool (!rD a b))⟩
 | .lss=>⟨fun _ a b=>.val (.bool (pO a b))⟩
 | .leq=>⟨fun _ a b=>.val (.bool (!pO b a))⟩
 | .gtr=>⟨fun _ a b=>.val (.bool (pO b a))⟩
 | .geq=>⟨fun _ a b=>.val (.bool (!pO a b))⟩
 |_=>⟨fun _ _ _=>.bad⟩
def qje:BinOp->B2
 | .shl=>⟨fun k a b=>bif pO b 0 then .bad else .val (.int k (uS k (a*2 ^ (min b.toNat k.bits))))⟩
 | .shr=>⟨fun k a b=>bif pO b 0 then .bad else .val (.int k (a.fdiv (2 ^ (min b.toNat k.bits))))⟩
 |_=>⟨fun _ _ _=>.bad⟩
/- strings: length, and the bytes packed from the first on -/
def vC(bits i:Nat):Nat:=Nat.land (Nat.shiftRight bits (Nat.mul 8 i)) 255
def qd1(f:Nat):(n a m b:Nat)->Bool:=
 Nat.rec (motive:=fun _=>Nat->Nat->Nat->Nat->Bool) (fun n _ m _=>Nat.blt n m)
  (fun _ ih n a m b=>bif Nat.beq m 0 then false else bif Nat.beq n 0 then true else
   bif Nat.beq (Nat.land a 255) (Nat.land b 255)then ih (Nat.pred n) (Nat.shiftRight a 8) (Nat.pred m) (Nat.shiftRight b 8)
   else Nat.blt (Nat.land a 255) (Nat.land b 255)) f
def eqS(n a m b:Nat):Bool:=Nat.beq n m&&Nat.beq a b
structure S2 where f:Nat->Nat->Nat->Nat->R0
def mJ:BinOp->S2
 | .add=>⟨fun n a m b=>bif Nat.ble (n+m) 1099511627776 then .val (.str (n+m) (Nat.add a (Nat.shiftLeft b (Nat.mul 8 n))))else .bad⟩
 | .eql=>⟨fun n a m b=>.val (.bool (eqS n a m b))⟩
 | .neq=>⟨fun n a m b=>.val (.bool (!eqS n a m b))⟩
 | .lss=>⟨fun n a m b=>.val (.bool (qd1 n n a m b))⟩
 | .leq=>⟨fun n a m b=>.val (.bool (qd1 n n a m b||eqS n a m b))⟩
 | .gtr=>⟨fun n a m b=>.val (.bool (!(qd1 n n a m b||eqS n a m b)))⟩
 | .geq=>⟨fun n a m b=>.val (.bool (!qd1 n n a m b))⟩
 |_=>⟨fun _ _ _ _=>.bad⟩
/- parts of aggregates -/
structure P1 where f:List AV->Nat->Option AV
def qlq(P:Program)(t:TypeId):P1:=
 match p8 P t,gX P t with
 |some true,some k=>⟨fun cs off=>some (.agg ((cs.drop off).take k))⟩
 |some false,_=>⟨fun cs off=>cs[off]?⟩
 |_,_=>⟨fun _ _=>none⟩
/- equality at a type -/
structure E2 where f:AV->AV->Option Bool
def andThen(a b:Option Bool):Option Bool:=
 match a with|some true=>b|some false=>some false|none=>none
def qs6(p:P1)(e:E2)(xs ys:List AV)(off:Nat):Option Bool:=
 match p.f xs off,p.f ys off with
 |some a,some b=>e.f a b
 |_,_=>none
def qhw:AV->AV->Option Bool
 | .bool a,.bool b=>some (a==b)
 |_,_=>none
def qqf:AV->AV->Option Bool
 | .int k a,.int k' b=>bif vO k k' then some (rD a b)else none
 |_,_=>none
def bH:AV->AV->Option Bool
 | .str n a,.str m b=>some (eqS n a m b)
 |_,_=>none
def qpp:AV->AV->Option Bool
 | .cK,.cK=>some true
 | .cK,.ptr _ _=>some false
 | .ptr _ _,.cK=>some false
 |_,_=>none
def aEA:AV->AV->Option Bool
 | .aA,.aA=>some true
 | .aA,.sl .. =>some false
 | .aA,.sle=>some false
 | .sl ..,.aA=>some false
 | .sle,.aA=>some false
 |_,_=>none
def zto:AV->AV->Option Bool
 | .dV,.dV=>some true
 | .dV,.map _=>some false
 | .map _,.dV=>some false
 |_,_=>none
def eqFn:AV->AV->Option Bool
 | .jH,.jH=>some true
 | .jH,.fn .. =>some false
 | .fn ..,.jH=>some false
 |_,_=>none
def aDP:AV->AV->Option Bool
 | .oM,.iface .. =>some false
 | .iface ..,.oM=>some false
 |_,_=>none
def dQ(f:List AV->List AV->Option Bool):AV->AV->Option Bool
 | .agg xs,.agg ys=>f xs ys
 |_,_=>none
def eqFields(fs:List (P1×E2×Nat))(xs ys:List AV):Option Bool:=
 fs.foldr (fun f r=>andThen (qs6 f.1 f.2.1 xs ys f.2.2) r) (some true)
def zJ(p:P1)(e:E2)(z:Nat)(xs ys:List AV):Nat->Nat->Option Bool
 |0,_=>some true
 |k+1,i=>andThen (qs6 p e xs ys (i*z)) (zJ p e z xs ys k (i+1))
def wC(P:Program):Nat->TypeId->E2
 |0,_=>⟨fun _ _=>none⟩
 |d+1,t=>
  match P.underlying t with
  |some .bool=>⟨qhw⟩
  |some (.int _)=>⟨qqf⟩
  |some .string=>⟨bH⟩
  |some (.struct fs)=>
   if P.stoodInHeld t then⟨fun _ _=>none⟩else
   let l:=(fs.toList.filter fun f=>f.name != "_").map fun f=>(qlq P f.type,wC P d f.type,f.offset)
   ⟨dQ (eqFields l)⟩
  |some (.array len e)=>
   match gX P e with
   |some z=>let p:=qlq P e;let q:=wC P d e;⟨dQ fun xs ys=>zJ p q z xs ys len 0⟩
   |none=>⟨fun _ _=>none⟩
  |some (.pointer _)=>⟨qpp⟩
  |some (.slice _)=>⟨aEA⟩
  |some (.map ..)=>⟨zto⟩
  |some (.func ..)=>⟨eqFn⟩
  |some (.interface _)=>⟨aDP⟩
  |_=>⟨fun _ _=>none⟩
def qc7:Nat:=20
/- operations on values -/
def eD(c a b:AV):R0:=
 match c with
 | .bool true=>.val a
 | .bool false=>.val b
 |_=>.bad
def gY(g:IntKind->Int->Int->R0)(x y:AV):R0:=
 match x,y with
 | .int k a,.int k' b=>bif vO k k' then g k a b else .bad
 |_,_=>.bad
def qyi(g:IntKind->Int->Int->R0)(x y:AV):R0:=
 match x,y with
 | .int k a,.int _ b=>g k a b
 |_,_=>.bad
def fO(g:Nat->Nat->Nat->Nat->R0)(x y:AV):R0:=
 match x,y with
 | .str n a,.str m b=>g n a m b
 |_,_=>.bad
def mF(neg:Bool)(r:Option Bool):R0:=
 match r with
 |some b=>.val (.bool (bif neg then !b else b))
 |none=>.bad
structure V2 where f:AV->AV->R0
def vM(P:Program)(op:BinOp)(t:TypeId):V2:=
 match P.underlying t with
 |some (.int _)=>
  match op with
  | .shl| .shr=>match qje op with|⟨g⟩=>⟨qyi g⟩
  |_=>match nH op with|⟨g⟩=>⟨gY g⟩
 |some .string=>match mJ op with|⟨g⟩=>⟨fO g⟩
 |some .bool|some (.pointer _)|some (.slice _)|some (.map ..)|some (.func ..)|some (.interface _)=>
  match op,wC P qc7 t with
  | .eql,⟨e⟩=>⟨fun x y=>mF false (e x y)⟩
  | .neq,⟨e⟩=>⟨fun x y=>mF true (e x y)⟩
  |_,_=>⟨fun _ _=>.bad⟩
 |some (.struct _)|some (.array ..)=>
  if P.eqGuardType P.depth t then⟨fun _ _=>.bad⟩else
  match op,wC P qc7 t with
  | .eql,⟨e⟩=>⟨fun x y=>mF false (e x y)⟩
  | .neq,⟨e⟩=>⟨fun x y=>mF true (e x y)⟩
  |_,_=>⟨fun _ _=>.bad⟩
 |_=>⟨fun _ _=>.bad⟩
structure V1 where f:AV->R0
def l8:UnOp->V1
 | .not=>⟨fun x=>match x with| .bool b=>.val (.bool !b)|_=>.bad⟩
 | .neg=>⟨fun x=>match x with| .int k n=>.val (.int k (uS k (0-n)))|_=>.bad⟩
 |_=>⟨fun _=>.bad⟩
/- memory -/
def dK(b:bO)(o:Nat):R0:=
 match b with
 | .cells d n c _ _=>bif Nat.blt o n then .val ((dJ d o).f c)else .bad
 |_=>.bad
def aT(H:Hp)(a:AV):R0:=
 match a with
 | .ptr b o=>dK (H.get b) o
 |_=>.bad
def eB(b:bO)(o k:Nat):Option (List AV):=
 match b with
 | .cells _ n c _ _=>bif Nat.ble (o+k) n then some (tF c k o)else none
 |_=>none
def aCI(r:Option (List AV)):R0:=match r with|some l=>.val (.agg l)|none=>.bad
def dD(k:Nat)(H:Hp)(a:AV):R0:=
 match a with
 | .ptr b o=>aCI (eB (H.get b) o k)
 |_=>.bad
def wH(b:bO)(o:Nat)(l:List AV):Option bO:=
 match b with
 | .cells d n c false z=>bif Nat.ble (o+l.length) n then some (.cells d n (nV l o c) false z)else none
 |_=>none
def storeAt(H:Hp)(b o:Nat)(l:List AV)(v:AV):R1:=
 match wH (H.get b) o l with
 |some blk=>.ok v (H.put b blk)
 |none=>.bad
def kL(H:Hp)(a x:AV):R1:=
 match a,x with
 | .ptr _ _,.agg _=>.bad
 | .ptr _ _,.aX _=>.bad
 | .ptr _ _,.undef=>.bad
 | .ptr _ _,.lit _=>.bad
 | .ptr b o,v=>storeAt H b o [v] .undef
 |_,_=>.bad
def xV(k:Nat)(H:Hp)(a x:AV):R1:=
 match a,x with
 | .ptr b o,.agg l=>bif Nat.beq l.length k then storeAt H b o l .undef else .bad
 |_,_=>.bad
def jT(nm:Nat)(x:AV):R0:=
 match x with
 | .agg _| .aX _| .undef| .lit _=>.bad
 |v=>.new (.ptr nm 0) (aB 0 [v])
def pK(k:Nat)(nm:Nat)(x:AV):R0:=
 match x with
 | .agg l=>bif Nat.beq l.length k then .new (.ptr nm 0) (aB 0 l)else .bad
 |_=>.bad
def aP(off:Nat)(x:AV):R0:=match x with| .ptr b o=>.val (.ptr b (Nat.add o off))|_=>.bad
def q9l(p:P1)(off:Nat)(x:AV):R0:=
 match x with
 | .agg l=>match p.f l off with|some v=>.val v|none=>.bad
 |_=>.bad
def aH(z:Nat)(x i:AV):R0:=
 match x,i with
 | .sl b o len _ _,.int _ (.ofNat i)=>bif Nat.blt i len then .val (.ptr b (Nat.add o (Nat.mul i z)))else .bad
 |_,_=>.bad
def fQ(len z:Nat)(x i:AV):R0:=
 match x,i with
 | .ptr b o,.int _ (.ofNat i)=>bif Nat.blt i len then .val (.ptr b (Nat.add o (Nat.mul i z)))else .bad
 |_,_=>.bad
def qek(x i:AV):R0:=
 match x,i with
 | .str n a,.int _ (.ofNat i)=>bif Nat.blt i n then .val (.int .u8 (.ofNat (vC a i)))else .bad
 |_,_=>.bad
def aGJ(p:P1)(len z:Nat)(x i:AV):R0:=
 match x,i with
 | .agg l,.int _ (.ofNat i)=>bif Nat.blt i len then(match p.f l (Nat.mul i z)with|some v=>.val v|none=>.bad)else .bad
 |_,_=>.bad
/- slices -/
def bnd(x:Option AV)(dflt y:Nat):Option Nat:=
 match x with
 |none=>some dflt
 |some (.int _ (.ofNat n))=>bif Nat.ble n y then some n else none
 |some _=>none
structure Bd where
 (l h m:Nat)
def bounds(len cap:Nat)(lo hi mx:Option AV):Option Bd:=
 match mx,hi with
 |some _,none=>none
 |_,_=>
  match bnd mx cap cap with
  |none=>none
  |some m=>match bnd hi len m with
   |none=>none
   |some h=>match bnd lo 0 h with
    |none=>none
    |some l=>some ⟨l,h,m⟩
def qvx(x:AV)(lo hi:Option AV):R0:=
 match x with
 | .str n a=>match bounds n n lo hi none with
  |some b=>.val (.str (b.h-b.l) (Nat.land (Nat.shiftRight a (Nat.mul 8 b.l)) (Nat.sub (Nat.shiftLeft 1 (Nat.mul 8 (b.h-b.l))) 1)))
  |none=>.bad
 |_=>.bad
def iD(b o z:Nat)(bd:Bd)(ex:Bool):R0:=
 bif Nat.beq bd.m bd.l then(bif ex then .val (.sl b o 0 0 true)else .val .sle)
 else .val (.sl b (Nat.add o (Nat.mul bd.l z)) (Nat.sub bd.h bd.l) (Nat.sub bd.m bd.l) ex)
def kM(z:Nat)(x:AV)(lo hi mx:Option AV):R0:=
 match x with
 | .aA=>match bounds 0 0 lo hi mx with|some _=>.val .aA|none=>.bad
 | .sl b o len cap ex=>match bounds len cap lo hi mx with
  |some bd=>iD b o z bd (match mx with|some _=>true|none=>ex)
  |none=>.bad
 |_=>.bad
def qmf(len z:Nat)(x:AV)(lo hi mx:Option AV):R0:=
 match x with
 | .ptr b o=>match bounds len len lo hi mx with|some bd=>iD b o z bd true|none=>.bad
 |_=>.bad
def aV(l:List AV)(n:Nat):List AV:=Nat.rec (motive:=fun _=>List AV) [] (fun _ r=>l++r) n
def gH:Nat:=1099511627776
def qjs(z:List AV)(bytes:Nat)(nm:Nat)(l c:AV):R0:=
 match l,c with
 | .int _ (.ofNat n),.int _ (.ofNat m)=>bif Nat.ble n m&&Nat.ble (Nat.mul m bytes) gH&&Nat.ble m gH then .new (.sl nm 0 n m true) (aB 0 (aV z m))else .bad
 |_,_=>.bad
/- building aggregates: parts in the order of their offsets -/
def qok(c:List AV)(off size:Nat)(v:List AV):Option (List AV):=
 bif Nat.beq v.length size&&Nat.ble (off+size) c.length then some (c.take off++v++c.drop (off+size))else none
def yS:AV->Option (List AV)
 | .agg l=>some l
 | .aX _| .undef| .lit _=>none
 |v=>some [v]
def bK(c:List AV):List (Nat×Nat×AV)->Option (List AV)
 | []=>some c
 |(off,size,v)::r=>match yS v with
  |some l=>match qok c off size l with|some c'=>bK c' r|none=>none
  |none=>none
/- maps -/
structure zS where
 i:Nat
 x:lD
def xQ(e:AV->AV->Option Bool)(k:AV)(es:List lD):Nat->Option (Option zS):=
 List.rec (motive:=fun _=>Nat->Option (Option zS)) (fun _=>some none)
  (fun x _ ih i=>match e k x.key with|some true=>some (some ⟨i,x⟩)|some false=>ih (Nat.succ i)|none=>none) es
def zry:AV->AV->Bool
 | .int k a,.int k' b=>vO k k'&&rD a b
 | .str n a,.str m b=>eqS n a m b
 | .bool a,.bool b=>a==b
 |_,_=>false
def zau:List AV->List AV->Bool
 | [],[]=>true
 |a::l,b::m=>zry a b&&zau l m
 |_,_=>false
def sameKey:AV->AV->Bool
 | .agg l,.agg m=>zau l m
 |a,b=>zry a b
def qii(s:Option Nat)(k:AV):Bool:=
 match s,k with
 |none,.agg _=>false
 |none,_=>true
 |some n,.agg l=>Nat.beq l.length n
 |some _,_=>false
def qws(P:Program):Nat->TypeId->Bool
 |0,_=>false
 |d+1,t=>
  match P.underlying t,gX P t with
  |some (.int _),some _|some .string,some _|some .bool,some _=>true
  |some (.struct fs),some n=>fs.toList.all fun f=>match gX P f.type with
   |some m=>Nat.ble (f.offset+m) n&&qws P d f.type&&Nat.blt 0 m
   |none=>false
  |some (.array len e),some n=>match gX P e with
   |some m=>Nat.ble (len*m) n&&qws P d e&&Nat.blt 0 m
   |none=>false
  |_,_=>false
structure Ky where
 e:AV->AV->Option Bool
 s:Option Nat
def rY(P:Program)(kt:TypeId):Option Ky:=
 match qws P qc7 kt,wC P qc7 kt,p8 P kt,gX P kt with
 |true,⟨e⟩,some true,some n=>some ⟨e,some n⟩
 |true,⟨e⟩,some false,some _=>some ⟨e,none⟩
 |_,_,_,_=>none
def qqe(ky:Ky)(k:AV)(es:List lD):Option (Option zS):=
 bif qii ky.s k then xQ ky.e k es 0 else none
def zw1(H:Hp):AV->Option (List lD)
 | .dV=>some []
 | .map m=>match H.get m with| .map es _=>some es|_=>none
 |_=>none
def zkz(ok:Bool)(z:AV)(r:Option (Option zS)):R0:=
 match r with
 |some (some h)=>.val (bif ok then .aX [h.x.val,.bool true]else h.x.val)
 |some none=>.val (bif ok then .aX [z,.bool false]else z)
 |none=>.bad
def qL(ky:Ky)(z:AV)(ok:Bool)(H:Hp)(m k:AV):R0:=
 match zw1 H m with
 |some es=>zkz ok z (qqe ky k es)
 |none=>.bad
def nI(ky:Ky)(H:Hp)(m k v:AV):R1:=
 match m with
 | .map b=>match H.get b with
  | .map es clock=>match qqe ky k es with
   |some (some h)=>bif sameKey h.x.key k then .ok .undef (H.put b (.map (es.set h.i ⟨k,v,h.x.born⟩) clock))else .bad
   |some none=>.ok .undef (H.put b (.map (es++[⟨k,v,clock⟩]) (Nat.succ clock)))
   |none=>.bad
  |_=>.bad
 |_=>.bad
def zl8(ky:Ky)(z:AV)(H:Hp)(m k:AV):R1:=
 match m with
 | .map b=>match H.get b with
  | .map es clock=>match qqe ky k es with
   |some (some h)=>bif sameKey h.x.key k then .ok (.aX [h.x.val,.int .i64 (.ofNat h.x.born)]) (H.put b (.map (es.set h.i ⟨k,h.x.val,h.x.born⟩) clock))else .bad
   |some none=>.ok (.aX [z,.int .i64 (.ofNat clock)]) (H.put b (.map (es++[⟨k,z,clock⟩]) (Nat.succ clock)))
   |none=>.bad
  |_=>.bad
 |_=>.bad
def zi5(n:Nat)(es:List lD):Nat->Option zS:=
 List.rec (motive:=fun _=>Nat->Option zS) (fun _=>none) (fun x _ ih i=>bif Nat.beq x.born n then some ⟨i,x⟩else ih (Nat.succ i)) es
def qw3(H:Hp)(m s v:AV):R1:=
 match m,s with
 | .map b,.int _ (.ofNat n)=>match H.get b with
  | .map es clock=>match zi5 n es 0 with
   |some h=>.ok .undef (H.put b (.map (es.set h.i ⟨h.x.key,v,h.x.born⟩) clock))
   |none=>.bad
  |_=>.bad
 |_,_=>.bad
/- builtins -/
def i64(n:Nat):AV:=.int .i64 (.ofNat n)
def oL(x:AV):R0:=match x with| .str n _=>.val (i64 n)|_=>.bad
def aD(x:AV):R0:=
 match x with
 | .sl _ _ n _ _=>.val (i64 n)
 | .aA=>.val (i64 0)
 | .sle=>.val (i64 0)
 |_=>.bad
def aAe(H:Hp)(x:AV):R0:=
 match x with
 | .dV=>.val (i64 0)
 | .map m=>match H.get m with| .map es _=>.val (i64 es.length)|_=>.bad
 |_=>.bad
def gW(x:AV):R0:=
 match x with
 | .sl _ _ _ c true=>.val (i64 c)
 | .aA=>.val (i64 0)
 |_=>.bad
def oI(x y:AV):R0:=
 match x,y with
 | .int k a,.int _ b=>.val (.int k (bif pO b a then b else a))
 |_,_=>.bad
def qC(x y:AV):R0:=
 match x,y with
 | .int k a,.int _ b=>.val (.int k (bif pO a b then b else a))
 |_,_=>.bad
def qE(g:AV->AV->R0)(x:AV)(l:List AV):R0:=
 List.rec (motive:=fun _=>AV->R0) (fun x=>.val x) (fun y _ ih x=>match g x y with| .val z=>ih z|_=>.bad) l x
def qz6(bits n:Nat):List AV:=Nat.rec (motive:=fun _=>Nat->List AV) (fun _=>[]) (fun _ ih i=>.int .u8 (.ofNat (vC bits i))::ih (Nat.succ i)) n 0
structure Src where
 n:Nat
 l:List AV
def zrq(z:Nat)(H:Hp)(x:AV):Option Src:=
 match x with
 | .aA| .sle=>some ⟨0,[]⟩
 | .sl b o n _ _=>match eB (H.get b) o (Nat.mul n z)with|some l=>some ⟨n,l⟩|none=>none
 | .str n a=>some ⟨n,qz6 a n⟩
 |_=>none
def oQ(z:Nat)(H:Hp)(x:AV):Option Src:=
 match x with
 | .str _ _=>bif Nat.beq z 1 then zrq z H x else none
 |_=>zrq z H x
def qth(w:Nat)(zl:List AV)(x:AV):Option Src:=
 match x with
 | .int _ (.ofNat n)=>bif Nat.ble n gH&&Nat.ble (Nat.mul n w) gH then some ⟨n,aV zl n⟩else none
 |_=>none
def aO(H:Hp)(b:bO):Hp:=⟨H.t.put H.nx b,Nat.succ H.nx⟩
def grow(z:Nat)(H:Hp)(old:List AV)(s:Src)(n:Nat):R1:=.ok (.sl H.nx 0 n n false) (aO H (aB z (old++s.l)))
def qhx(b:bO)(e z:Nat):Bool:=match b with| .cells _ n _ false z'=>Nat.beq n e&&Nat.beq z' z|_=>false
def j5(z bytes:Nat)(H:Hp)(s:AV)(src:Option Src):R1:=
 match src with
 |none=>.bad
 |some x=>
  match s with
  | .aA=>bif Nat.beq x.n 0 then .ok .aA H else bif Nat.ble (Nat.mul x.n bytes) gH&&Nat.ble x.n gH then grow z H [] x x.n else .bad
  | .sl b o len cap ex=>
   bif Nat.ble (len+x.n) cap then storeAt H b (o+len*z) x.l (.sl b o (len+x.n) cap ex)
   else bif Nat.ble (Nat.mul (len+x.n) bytes) gH&&Nat.ble (len+x.n) gH then
    match eB (H.get b) o (Nat.mul len z)with
    |none=>.bad
    |some old=>bif ex then grow z H old x (len+x.n)else
     bif qhx (H.get b) (o+cap*z) z then grow z (H.put b .dead) old x (len+x.n)else .bad
   else .bad
  |_=>.bad
def copyV(z:Nat)(H:Hp)(d:AV)(src:Option Src):R1:=
 match src,d with
 |some x,.sl b o n _ _=>storeAt H b o (x.l.take (Nat.mul (min x.n n) z)) (i64 (min x.n n))
 |some _,.aA=>.ok (i64 0) H
 |some _,.sle=>.ok (i64 0) H
 |_,_=>.bad
def aF4(ky:Ky)(H:Hp)(m k:AV):R1:=
 match m with
 | .map b=>match H.get b with
  | .map es clock=>match qqe ky k es with
   |some (some h)=>.ok .undef (H.put b (.map (es.eraseIdx h.i) clock))
   |some none=>.ok .undef (H.put b (.map es clock))
   |none=>.bad
  |_=>.bad
 |_=>.bad
def qik(zl:List AV)(H:Hp)(x:AV):R1:=
 match x with
 | .aA=>.ok .undef H
 | .sl b o n _ _=>bif Nat.beq n 0 then .ok .undef H else storeAt H b o (aV zl n) .undef
 |_=>.bad
def zmy(H:Hp)(x:AV):R1:=
 match x with
 | .dV=>.ok .undef H
 | .map b=>match H.get b with| .map _ clock=>.ok .undef (H.put b (.map [] clock))|_=>.bad
 |_=>.bad
def z1k(x:AV)(r:Option Src):Option Src:=
 match x,r with
 | .int .u8 (.ofNat _),some s=>some ⟨s.n+1,x::s.l⟩
 |_,_=>none
def z1j(l:List AV):Option Src:=
 List.rec (motive:=fun _=>Option Src) (some ⟨0,[]⟩) (fun x _ ih=>z1k x ih) l
def zka(l:List AV):Nat:=
 List.rec (motive:=fun _=>Nat) 0 (fun x _ ih=>match x with
  | .int _ (.ofNat b)=>Nat.add (Nat.land b 255) (Nat.mul 256 ih)
  |_=>0) l
def z0l(H:Hp)(x:AV):R0:=
 match x with
 | .aA| .sle=>.val (.str 0 0)
 | .sl b o n _ _=>match eB (H.get b) o n with
  |some l=>match z1j l with|some _=>.val (.str n (zka l))|none=>.bad
  |none=>.bad
 |_=>.bad
def q4g(nm:Nat)(x:AV):R0:=
 match x with
 | .str n a=>.new (.sl nm 0 n n false) (aB 1 (qz6 a n))
 |_=>.bad
def qw7(k:IntKind)(x:AV):R0:=match x with| .int _ n=>.val (.int k (uS k n))|_=>.bad
/- an operation, made ready once: quiet (it looks at the heap, or not), or with effects -/
inductive jI(d:Nat) where
 |q (looks:Bool) (f:Nat->TT AV d->Hp->R0)
 |e (f:Call->TT AV d->Hp->R1)
structure Rd(d:Nat) where f:TT AV d->AV
def aG(d n:Nat):Operand->Rd d
 | .tmp t=>bif Nat.blt t n then(match dJ (α:=AV) d t with|⟨g⟩=>⟨g⟩)else⟨fun _=>.undef⟩
 | .const v=>⟨fun _=>qwf v⟩
 | .global g=>⟨fun _=>.lit (.pointer (some ⟨g,0,none⟩))⟩
 | .func f=>⟨fun _=>.fn f [] []⟩
structure RdL(d:Nat) where f:TT AV d->List AV
def tO(d n:Nat):List Operand->RdL d
 | []=>⟨fun _=>[]⟩
 |x::r=>match aG d n x,tO d n r with|⟨g⟩,⟨h⟩=>⟨fun L=>g L::h L⟩
structure RdO(d:Nat) where f:TT AV d->Option AV
def xS(d n:Nat):Option Operand->RdO d
 |none=>⟨fun _=>none⟩
 |some x=>match aG d n x with|⟨g⟩=>⟨fun L=>some (g L)⟩
structure RdP(d:Nat) where f:TT AV d->List (Nat×Nat×AV)
def qqb(d n:Nat)(place:Nat->Option (Nat×Nat)):List (Nat×Operand)->Option (RdP d)
 | []=>some ⟨fun _=>[]⟩
 |(i,x)::r=>
  match place i,aG d n x,qqb d n place r with
  |some (off,size),⟨g⟩,some ⟨h⟩=>some ⟨fun L=>(off,size,g L)::h L⟩
  |_,_,_=>none
def d9(d:Nat):jI d:=.e fun _ _ _=>.bad
def bR(r:Option (List AV)):R0:=match r with|some l=>.val (.agg l)|none=>.bad
def sZ(len:Nat)(nm:Nat)(r:Option (List AV)):R0:=match r with|some l=>.new (.sl nm 0 len len true) (aB 0 l)|none=>.bad
def qfw(P:Program)(fs:Array Field)(i:Nat):Option (Nat×Nat):=
 match fs[i]? with
 |some f=>(gX P f.type).map fun s=>(f.offset,s)
 |none=>none
def uG(O:Call)(f:AV)(args:List AV)(H:Hp):R1:=
 match f with
 | .fn g first cap=>O (.f g) (first++args++cap) H
 | .yield l=>O (.y l) args H
 |_=>.bad
def qgw(O:Call)(f:AV)(args:List AV)(H:Hp):R1:=
 match f with
 | .fn g first cap=>O (.f g) (first++args++cap) H
 |_=>.bad
def uY(P:Program)(d n:Nat)(args:List Operand)(types:List TypeId):jI d:=
 match args,types with
 | [x],[t]=>
  match P.underlying t with
  |some (.array n _)=>.q false fun _ _ _=>.val (i64 n)
  |some (.pointer arr)=>match P.underlying arr with|some (.array n _)=>.q false fun _ _ _=>.val (i64 n)|_=>d9 d
  |some .string=>match aG d n x with|⟨g⟩=>.q false fun _ L _=>oL (g L)
  |some (.slice _)=>match aG d n x with|⟨g⟩=>.q false fun _ L _=>aD (g L)
  |some (.map ..)=>match aG d n x with|⟨g⟩=>.q true fun _ L H=>aAe H (g L)
  |_=>d9 d
 |_,_=>d9 d
def zC(P:Program)(d n:Nat)(args:List Operand)(types:List TypeId):jI d:=
 match args,types with
 | [x],[t]=>
  match P.underlying t with
  |some (.array n _)=>.q false fun _ _ _=>.val (i64 n)
  |some (.slice _)=>match aG d n x with|⟨g⟩=>.q false fun _ L _=>gW (g L)
  |_=>d9 d
 |_,_=>d9 d
def zN(d n:Nat)(args:List Operand):jI d:=
 match args with
 |x::r=>match aG d n x,tO d n r with|⟨g⟩,⟨h⟩=>.q false fun _ L _=>qE oI (g L) (h L)
 |_=>d9 d
def yM(d n:Nat)(args:List Operand):jI d:=
 match args with
 |x::r=>match aG d n x,tO d n r with|⟨g⟩,⟨h⟩=>.q false fun _ L _=>qE qC (g L) (h L)
 |_=>d9 d
structure Ap where
 (z w:Nat)
 zl:List AV
def apS(P:Program)(e:TypeId):Option Ap:=
 match gX P e,qjw P e,qj1 P e with
 |some z,some w,some zl=>bif Nat.beq zl.length z then some ⟨z,w,zl⟩else none
 |_,_,_=>none
def zR(P:Program)(d n:Nat)(args:List Operand)(types:List TypeId):jI d:=
 match args,types with
 | [x,y],[t,u]=>
  match P.underlying t with
  |some (.slice e)=>
   match apS P e,P.underlying u with
   |some ap,some (.int _)=>match aG d n x,aG d n y with|⟨g⟩,⟨h⟩=>.e fun _ L H=>j5 ap.z ap.w H (g L) (qth ap.w ap.zl (h L))
   |some ap,some (.slice _)=>match aG d n x,aG d n y with|⟨g⟩,⟨h⟩=>.e fun _ L H=>j5 ap.z ap.w H (g L) (oQ ap.z H (h L))
   |some ap,some .string=>match aG d n x,aG d n y with|⟨g⟩,⟨h⟩=>.e fun _ L H=>j5 ap.z ap.w H (g L) (oQ ap.z H (h L))
   |_,_=>d9 d
  |_=>d9 d
 |_,_=>d9 d
def q5w(P:Program)(d n:Nat)(args:List Operand)(types:List TypeId):jI d:=
 match args,types with
 | [x,y],[t,_]=>
  match P.underlying t with
  |some (.slice e)=>match gX P e with
   |some z=>match aG d n x,aG d n y with|⟨g⟩,⟨h⟩=>.e fun _ L H=>copyV z H (g L) (oQ z H (h L))
   |none=>d9 d
  |_=>d9 d
 |_,_=>d9 d
def zT(P:Program)(d n:Nat)(args:List Operand)(types:List TypeId):jI d:=
 match args,types with
 | [x,y],t::_=>
  match P.underlying t with
  |some (.map kt _)=>match rY P kt with
   |some ky=>match aG d n x,aG d n y with|⟨g⟩,⟨h⟩=>.e fun _ L H=>aF4 ky H (g L) (h L)
   |none=>d9 d
  |_=>d9 d
 |_,_=>d9 d
def yT(P:Program)(d n:Nat)(args:List Operand)(types:List TypeId):jI d:=
 match args,types with
 | [x],[t]=>
  match P.underlying t with
  |some (.slice e)=>match apS P e with
   |some ap=>match aG d n x with|⟨g⟩=>.e fun _ L H=>qik ap.zl H (g L)
   |none=>d9 d
  |some (.map ..)=>match aG d n x with|⟨g⟩=>.e fun _ L H=>zmy H (g L)
  |_=>d9 d
 |_,_=>d9 d
def qem(P:Program)(d n:Nat)(b:Builtin)(args:List Operand)(types:List TypeId):jI d:=
 match b with
 | .len=>uY P d n args types
 | .cap=>zC P d n args types
 | .min=>zN d n args
 | .max=>yM d n args
 | .append=>zR P d n args types
 | .copy=>q5w P d n args types
 | .delete=>zT P d n args types
 | .clear=>yT P d n args types
 |_=>d9 d
def z5l(d n:Nat)(x:Operand):jI d:=
 match aG d n x with|⟨g⟩=>.q false fun _ L _=>.val (g L)
def z0v(d n:Nat)(c a b:Operand):jI d:=
 match aG d n c,aG d n a,aG d n b with|⟨gc⟩,⟨ga⟩,⟨gb⟩=>.q false fun _ L _=>eD (gc L) (ga L) (gb L)
def q74(P:Program)(d:Nat)(t:TypeId):jI d:=
 match qj1 P t with
 |some z=>.q false fun nm _ _=>.new (.ptr nm 0) (aB 0 z)
 |none=>d9 d
def aB3(P:Program)(d n:Nat)(t:TypeId)(x:Operand):jI d:=
 match p8 P t,gX P t,aG d n x with
 |some true,some k,⟨g⟩=>.q false fun nm L _=>pK k nm (g L)
 |some false,some _,⟨g⟩=>.q false fun nm L _=>jT nm (g L)
 |_,_,_=>d9 d
def q73(P:Program)(d n:Nat)(t:TypeId)(ps:Array (Nat×Operand)):jI d:=
 match P.underlying t,qj1 P t with
 |some (.struct fs),some z=>if fs.toList.all fun f=>(gX P f.type).isSome then match qqb d n (qfw P fs) ps.toList with
  |some ⟨h⟩=>.q false fun _ L _=>bR (bK z (h L))
  |none=>d9 d
  else d9 d
 |some (.array _ e),some z=>match gX P e with
  |some s=>match qqb d n (fun i=>some (i*s,s)) ps.toList with
   |some ⟨h⟩=>.q false fun _ L _=>bR (bK z (h L))
   |none=>d9 d
  |none=>d9 d
 |_,_=>d9 d
def qfk(P:Program)(d n:Nat)(t:TypeId)(len:Nat)(ps:Array (Nat×Operand)):jI d:=
 match P.underlying t with
 |some (.slice e)=>match gX P e,qj1 P e with
  |some s,some z=>bif Nat.ble (len*s) 65536&&Nat.beq z.length s then match qqb d n (fun i=>some (i*s,s)) ps.toList with
   |some ⟨h⟩=>.q false fun nm L _=>sZ len nm (bK (aV z len) (h L))
   |none=>d9 d
   else d9 d
  |_,_=>d9 d
 |_=>d9 d
def zjh(P:Program)(d n:Nat)(t:TypeId)(a:Operand):jI d:=
 match p8 P t,gX P t,aG d n a with
 |some true,some k,⟨g⟩=>.q true fun _ L H=>dD k H (g L)
 |some false,some _,⟨g⟩=>.q true fun _ L H=>aT H (g L)
 |_,_,_=>d9 d
def qym(P:Program)(d n:Nat)(t:TypeId)(a x:Operand):jI d:=
 match p8 P t,gX P t,aG d n a,aG d n x with
 |some true,some k,⟨g⟩,⟨h⟩=>.e fun _ L H=>xV k H (g L) (h L)
 |some false,some 1,⟨g⟩,⟨h⟩=>.e fun _ L H=>kL H (g L) (h L)
 |_,_,_,_=>d9 d
def qom(d n:Nat)(x:Operand):jI d:=
 match aG d n x with
 |⟨g⟩=>.q false fun _ L _=>match g L with| .ptr b o=>.val (.ptr b o)| .fn a b c=>.val (.fn a b c)| .yield l=>.val (.yield l)|_=>.bad
def zji(P:Program)(d n:Nat)(op:BinOp)(t:TypeId)(x y:Operand):jI d:=
 match vM P op t,aG d n x,aG d n y with
 |⟨e⟩,⟨g⟩,⟨h⟩=>.q false fun _ L _=>e (g L) (h L)
def z5j(d n:Nat)(op:UnOp)(x:Operand):jI d:=
 match l8 op,aG d n x with|⟨e⟩,⟨g⟩=>.q false fun _ L _=>e (g L)
def qmg(P:Program)(d n:Nat)(s t:TypeId)(x:Operand):jI d:=
 match P.underlying s,P.underlying t,aG d n x with
 |some (.int _),some (.int k),⟨g⟩=>.q false fun _ L _=>qw7 k (g L)
 |some .string,some .string,⟨g⟩=>.q false fun _ L _=>match g L with| .str n a=>.val (.str n a)|_=>.bad
 |some .string,some (.slice e),⟨g⟩=>match P.underlying e with
  |some (.int .u8)=>.q false fun nm L _=>q4g nm (g L)
  |_=>d9 d
 |some (.slice e),some .string,⟨g⟩=>match P.underlying e with
  |some (.int .u8)=>match gX P e with|some 1=>.q true fun _ L H=>z0l H (g L)|_=>d9 d
  |_=>d9 d
 |_,_,_=>d9 d
def qc8(P:Program)(d n:Nat)(t:TypeId)(x:Operand):jI d:=
 match P.underlying t,aG d n x with
 |some (.interface _),_=>d9 d
 |some _,⟨g⟩=>.q false fun _ L _=>.val (.iface t (g L))
 |none,_=>d9 d
def qyn(d n:Nat)(f:FuncId)(first cap:Array Operand):jI d:=
 match tO d n first.toList,tO d n cap.toList with
 |⟨g⟩,⟨h⟩=>.q false fun _ L _=>.val (.fn f (g L) (h L))
def q71(d:Nat)  :jI d:=
 .q false fun nm _ _=>.new (.map nm) (.map [] 0)
def qg5(P:Program)(d n:Nat)(t:TypeId)(l c:Operand):jI d:=
 match P.underlying t,aG d n l,aG d n c with
 |some (.slice e),⟨g⟩,⟨h⟩=>match qj1 P e,qjw P e,gX P e with
  |some z,some w,some s=>bif Nat.beq z.length s then .q false fun nm L _=>qjs z w nm (g L) (h L)else d9 d
  |_,_,_=>d9 d
 |_,_,_=>d9 d
def q7z(P:Program)(d n:Nat)(t:TypeId)(x:Operand)(lo hi mx:Option Operand):jI d:=
 match P.underlying t,aG d n x,xS d n lo,xS d n hi,xS d n mx with
 |some .string,⟨g⟩,⟨l⟩,⟨h⟩,_=>match mx with
  |none=>.q false fun _ L _=>qvx (g L) (l L) (h L)
  |some _=>d9 d
 |some (.slice e),⟨g⟩,⟨l⟩,⟨h⟩,⟨m⟩=>match gX P e with
  |some z=>.q false fun _ L _=>kM z (g L) (l L) (h L) (m L)
  |none=>d9 d
 |some (.array n e),⟨g⟩,⟨l⟩,⟨h⟩,⟨m⟩=>match gX P e with
  |some z=>.q false fun _ L _=>qmf n z (g L) (l L) (h L) (m L)
  |none=>d9 d
 |some (.pointer arr),⟨g⟩,⟨l⟩,⟨h⟩,⟨m⟩=>match P.underlying arr with
  |some (.array n e)=>match gX P e with
   |some z=>.q false fun _ L _=>qmf n z (g L) (l L) (h L) (m L)
   |none=>d9 d
  |_=>d9 d
 |_,_,_,_,_=>d9 d
def qe4(P:Program)(d n:Nat)(s:TypeId)(x:Operand)(f:Nat):jI d:=
 match P.underlying s,aG d n x with
 |some (.struct fs),⟨g⟩=>match fs[f]? with
  |some fl=>match gX P fl.type with
   |some (_+1)=>.q false fun _ L _=>aP fl.offset (g L)
   |_=>d9 d
  |none=>d9 d
 |_,_=>d9 d
def qyp(P:Program)(d n:Nat)(t:TypeId)(x:Operand)(f:Nat):jI d:=
 match P.underlying t,aG d n x with
 |some (.struct fs),⟨g⟩=>match fs[f]? with
  |some fl=>match qlq P fl.type with|p=>.q false fun _ L _=>q9l p fl.offset (g L)
  |none=>d9 d
 |_,_=>d9 d
def qe3(P:Program)(d n:Nat)(t:TypeId)(x i:Operand):jI d:=
 match P.underlying t,aG d n x,aG d n i with
 |some (.slice e),⟨g⟩,⟨h⟩=>match gX P e with
  |some z=>.q false fun _ L _=>aH z (g L) (h L)
  |none=>d9 d
 |some (.array n e),⟨g⟩,⟨h⟩=>match gX P e with
  |some z=>.q false fun _ L _=>fQ n z (g L) (h L)
  |none=>d9 d
 |_,_,_=>d9 d
def qyo(P:Program)(d n:Nat)(t:TypeId)(x i:Operand):jI d:=
 match P.underlying t,aG d n x,aG d n i with
 |some .string,⟨g⟩,⟨h⟩=>.q false fun _ L _=>qek (g L) (h L)
 |some (.array n e),⟨g⟩,⟨h⟩=>match gX P e,qlq P e with
  |some z,p=>.q false fun _ L _=>aGJ p n z (g L) (h L)
  |none,_=>d9 d
 |_,_,_=>d9 d
def qv0(P:Program)(d n:Nat)(t:TypeId)(m k:Operand)(ok:Bool):jI d:=
 match P.underlying t,aG d n m,aG d n k with
 |some (.map kt et),⟨g⟩,⟨h⟩=>match rY P kt,(P.info? et).bind (·.zero)with
  |some ky,some z=>.q true fun _ L H=>qL ky (qwf z) ok H (g L) (h L)
  |_,_=>d9 d
 |_,_,_=>d9 d
def qdu(P:Program)(d n:Nat)(t:TypeId)(m k x:Operand):jI d:=
 match P.underlying t,aG d n m,aG d n k,aG d n x with
 |some (.map kt _),⟨g⟩,⟨h⟩,⟨i⟩=>match rY P kt with
  |some ky=>.e fun _ L H=>nI ky H (g L) (h L) (i L)
  |none=>d9 d
 |_,_,_,_=>d9 d
def qjf(P:Program)(d n:Nat)(t:TypeId)(m k:Operand):jI d:=
 match P.underlying t,aG d n m,aG d n k with
 |some (.map kt et),⟨g⟩,⟨h⟩=>match rY P kt,(P.info? et).bind (·.zero)with
  |some ky,some z=>.e fun _ L H=>zl8 ky (qwf z) H (g L) (h L)
  |_,_=>d9 d
 |_,_,_=>d9 d
def qon(d n:Nat)(m s x:Operand):jI d:=
 match aG d n m,aG d n s,aG d n x with
 |⟨g⟩,⟨h⟩,⟨i⟩=>.e fun _ L H=>qw3 H (g L) (h L) (i L)
/- ranges over maps of at most one entry: an iterator is a block; its map's name and one more (0: no map), the map's clock, and what was seen -/
def zjv(H:Hp)(x:AV):R1:=
 match x with
 | .dV=>.ok (.ptr H.nx 0) (aO H (.gJ 0 0 0))
 | .map b=>match H.get b with
  | .map _ clock=>.ok (.ptr H.nx 0) (aO H (.gJ (Nat.succ b) clock 0))
  |_=>.bad
 |_=>.bad
def z6n(H:Hp)(b m since pos:Nat)(es:List lD):R1:=
 match es with
 | []=>.ok (.aX [.bool false]) H
 | [e]=>bif Nat.blt e.born since then
   (bif Nat.beq pos 0 then .ok (.aX [.bool true,e.key,e.val]) (H.put b (.gJ m since (Nat.succ e.born)))
    else bif Nat.beq pos (Nat.succ e.born)then .ok (.aX [.bool false]) H else .bad)else .bad
 |_=>.bad
def z1s(H:Hp)(x:AV):R1:=
 match x with
 | .ptr b o=>bif Nat.beq o 0 then(match H.get b with
  | .gJ m since pos=>match m with
   |0=>.ok (.aX [.bool false]) H
   |m'+1=>match H.get m' with
    | .map es clock=>bif Nat.beq clock since then z6n H b (Nat.succ m') since pos es else .bad
    |_=>.bad
  |_=>.bad)else .bad
 |_=>.bad
def aF5(H:Hp)(x:AV):R0:=
 match x with
 | .ptr b o=>bif Nat.beq o 0 then(match H.get b with
  | .gJ m since pos=>match m,pos with
   |m'+1,p+1=>match H.get m' with
    | .map es clock=>bif Nat.beq clock since then(match es with
     | [e]=>bif Nat.beq e.born p then .val (.aX [e.key,e.val])else .bad
     |_=>.bad)else .bad
    |_=>.bad
   |_,_=>.bad
  |_=>.bad)else .bad
 |_=>.bad
def zwn(d n:Nat)(x:Operand):jI d:=
 match aG d n x with
 |⟨g⟩=>.q true fun _ L H=>aF5 H (g L)
def q70(P:Program)(d n:Nat)(t:TypeId)(x:Operand):jI d:=
 match P.underlying t,aG d n x with
 |some (.map _ _),⟨g⟩=>.e fun _ L H=>zjv H (g L)
 |_,_=>d9 d
def zrz(d n:Nat)(x:Operand)(s:Bool):jI d:=
 match s,aG d n x with
 |false,⟨g⟩=>.e fun _ L H=>z1s H (g L)
 |true,_=>d9 d
def qv1(d n:Nat)(x:Operand)(i:Nat):jI d:=
 match aG d n x with
 |⟨g⟩=>.q false fun _ L _=>match g L with
  | .aX l=>match l[i]? with|some v=>.val v|none=>.bad
  |_=>.bad
/- the one function without a body that is known: the comparison of two strings -/
def qpy:String := "internal".push (Char.ofNat 47) ++ "bytealg.abigen_runtime_cmpstring"
def zs8(P:Program)(f:FuncId):Bool:=
 match P.funcs[f]? with
 |some fn=>fn.body.isNone&&fn.name==qpy&&fn.origin == ""
 |none=>false
def aHb(l:List AV):R0:=
 match l with
 | [.str n a,.str m b]=>.val (.int .i64 (bif qd1 n n a m b then .negSucc 0 else bif eqS n a m b then .ofNat 0 else .ofNat 1))
 |_=>.bad
def q72(P:Program)(d n:Nat)(f:FuncId)(args:List Operand):jI d:=
 match tO d n args,zs8 P f with
 |⟨g⟩,true=>.q false fun _ L _=>aHb (g L)
 |⟨g⟩,false=>.e fun O L H=>O (.f f) (g L) H
def gZ(P:Program)(d n:Nat)(o:Oper):jI d:=
 match o.op with
 | .move x| .assign x=>z5l d n x
 | .pick c a b=>z0v d n c a b
 | .alloc t=>q74 P d t
 | .box t x=>aB3 P d n t x
 | .build t ps=>q73 P d n t ps
 | .buildSlice t len ps=>qfk P d n t len ps
 | .load t a=>zjh P d n t a
 | .store t a x=>qym P d n t a x
 | .nilCheck x=>qom d n x
 | .binOp op t x y _=>zji P d n op t x y
 | .unOp op _ x=>z5j d n op x
 | .convert s t x=>qmg P d n s t x
 | .makeInterface t x=>qc8 P d n t x
 | .makeFunc (.func f) first cap=>qyn d n f first cap
 | .makeMap _ none=>q71 d
 | .makeSlice t l c=>qg5 P d n t l c
 | .slice t x lo hi mx=>q7z P d n t x lo hi mx
 | .fieldAddr s x f=>qe4 P d n s x f
 | .field t x f=>qyp P d n t x f
 | .indexAddr t x i=>qe3 P d n t x i
 | .index t x i=>qyo P d n t x i
 | .lookup t m k ok=>qv0 P d n t m k ok
 | .mapUpdate t m k x| .insert t m k x=>qdu P d n t m k x
 | .mapEntry t m k=>qjf P d n t m k
 | .entryStore _ m s x=>qon d n m s x
 | .extract x i=>qv1 d n x i
 | .range t x=>q70 P d n t x
 | .next x s=>zrz d n x s
 | .entry x=>zwn d n x
 | .call {callee:=.builtin b,args,argTypes}=>qem P d n b args.toList argTypes.toList
 | .call {callee:=.value (.func f),args,..}=>q72 P d n f args.toList
 | .call {callee:=.value x,args,..}=>match aG d n x,tO d n args.toList with
  |⟨h⟩,⟨g⟩=>.e fun O L H=>uG O (h L) (g L) H
 |_=>d9 d
/- running operations one behind the other -/
inductive Rs(d:Nat) where
 |bad
 |ok (L:TT AV d) (H:Hp)
structure Wd(d:Nat) where f:TT AV d->Option Bool
def r9(d n:Nat)(ops:Array Oper)(o:Oper):Wd d:=
 match o.guard with
 |none=>⟨fun _=>some true⟩
 |some (j,want)=>match(ops[j]?).bind (·.dst)with
  |some t=>bif Nat.blt t n then(match dJ (α:=AV) d t with
   |⟨g⟩=>⟨fun L=>match g L with| .bool b=>some (b==want)| .undef=>some false|_=>none⟩)else⟨fun _=>none⟩
  |none=>⟨fun _=>none⟩
structure Pt(d:Nat) where f:TT AV d->AV->TT AV d
def dW(d n:Nat):Option Tmp->Pt d
 |some t=>bif Nat.blt t n then(match setter (α:=AV) d t with|⟨s⟩=>⟨s⟩)else⟨fun L _=>L⟩
 |none=>⟨fun L _=>L⟩
structure St(d:Nat) where f:Call->TT AV d->Hp->Rs d
def doQ{d:Nat}(put:TT AV d->AV->TT AV d)(L:TT AV d)(H:Hp)(r:R0):Rs d:=
 match r with
 | .bad=>.bad
 | .val v=>.ok (put L v) H
 | .new v b=>.ok (put L v) (aO H b)
def doE{d:Nat}(put:TT AV d->AV->TT AV d)(L:TT AV d)(r:R1):Rs d:=
 match r with
 | .bad=>.bad
 | .ok v H=>.ok (put L v) H
def ifW{d:Nat}(w:Option Bool)(a b:Rs d):Rs d:=
 match w with
 |some true=>a
 |some false=>b
 |none=>.bad
def xY(P:Program)(d n:Nat)(ops:Array Oper)(o:Oper):St d:=
 match gZ P d n o,o.guard,r9 d n ops o,dW d n o.dst with
 | .q _ f,none,_,⟨put⟩=>⟨fun _ L H=>doQ put L H (f H.nx L H)⟩
 | .e f,none,_,⟨put⟩=>⟨fun O L H=>doE put L (f O L H)⟩
 | .q _ f,some _,⟨w⟩,⟨put⟩=>⟨fun _ L H=>ifW (w L) (doQ put L H (f H.nx L H)) (.ok (put L .undef) H)⟩
 | .e f,some _,⟨w⟩,⟨put⟩=>⟨fun O L H=>ifW (w L) (doE put L (f O L H)) (.ok (put L .undef) H)⟩
def zcd{d:Nat}(r:Rs d)(k:TT AV d->Hp->Rs d):Rs d:=match r with| .bad=>.bad| .ok L H=>k L H
/- deferred calls wait in the slot behind the temporaries -/
def qR(o:Oper):Bool:=match o.op with| .defer _=>true|_=>false
structure DfC where
 x:Operand
 args:List Operand
def yJ(o:Oper):Option DfC:=
 match o.op,o.guard with
 | .defer {callee:=.value x,args,..},none=>some ⟨x,args.toList⟩
 |_,_=>none
def dl:AV->List AV
 | .aX l=>l
 |_=>[]
def doD{d:Nat}(n:Nat)(put:TT AV d->AV->TT AV d)(L:TT AV d)(H:Hp)(x:AV)(as:List AV):Rs d:=
 match x with
 | .fn f first cap=>.ok (put ((setter d n).f L (.aX (.fn f (first++as++cap) []::dl ((dJ d n).f L)))) .undef) H
 |_=>.bad
def qjb(P:Program)(d n:Nat)(ops:Array Oper)(o:Oper):St d:=
 match yJ o with
 |none=>xY P d n ops o
 |some c=>match aG d n c.x,tO d n c.args,dW d n o.dst with
  |⟨g⟩,⟨h⟩,⟨put⟩=>⟨fun _ L H=>doD n put L H (g L) (h L)⟩
def pY(P:Program)(d n:Nat)(ops:Array Oper):List Oper->St d
 | []=>⟨fun _ L H=>.ok L H⟩
 |o::r=>⟨fun O L H=>zcd ((qjb P d n ops o).f O L H) ((pY P d n ops r).f O)⟩
/- regions that draw their order -/
def hasB(m i:Nat):Bool:=Nat.beq (Nat.land (Nat.shiftRight m i) 1) 1
def sS(m i:Nat):Nat:=Nat.lor m (Nat.shiftLeft 1 i)
def aBa(m k:Nat):Bool:=Nat.beq (Nat.lor m k) k
def vH(o:Oper):List Nat:=(o.after.toList.filter (Region.binds .any)).map (·.on)
def qsv(ms:List Nat)(o:Oper):Nat:=(vH o).foldl (fun s j=>Nat.lor (sS s j) (ms.getD j 0)) 0
def yQ(ms:List Nat):List Oper->List Nat
 | []=>ms
 |o::r=>yQ (ms++[qsv ms o]) r
def z4z:Operand->Option Tmp
 | .tmp t=>some t
 |_=>none
def kY(ops:Array Oper)(o:Oper):List Tmp:=
 o.op.operands.toList.filterMap z4z++(match o.guard with|some (j,_)=>((ops[j]?).bind (·.dst)).toList|none=>[])
def qhy:Op->Bool
 | .alloc _| .box .. | .buildSlice .. | .convert .. | .makeMap .. | .makeSlice .. =>true
 |_=>false
structure Pj(d:Nat) where f:TT AV d->TT AV d
def mW(d n:Nat):List Tmp->Pj d
 | []=>⟨fun _=>same .undef d⟩
 |t::r=>bif Nat.blt t n then(match dJ (α:=AV) d t,setter (α:=AV) d t,mW d n r with|⟨g⟩,⟨s⟩,⟨p⟩=>⟨fun L=>s (p L) (g L)⟩)else mW d n r
mutual
def pN:Nat->AV->AV->Bool
 |0,_,_=>false
 |k+1,x,y=>match x,y with
  | .undef,.undef| .cK,.cK| .aA,.aA| .sle,.sle| .dV,.dV| .jH,.jH| .oM,.oM=>true
  | .bool a,.bool b=>a==b
  | .int i a,.int j b=>decide (i=j)&&decide (a=b)
  | .str a b,.str c e=>Nat.beq a c&&Nat.beq b e
  | .ptr a b,.ptr c e=>Nat.beq a c&&Nat.beq b e
  | .sl a b c e f,.sl a' b' c' e' f'=>Nat.beq a a'&&Nat.beq b b'&&Nat.beq c c'&&Nat.beq e e'&&f==f'
  | .map a,.map b=>Nat.beq a b
  | .yield a,.yield b=>Nat.beq a b
  | .fn f a b,.fn g c e=>Nat.beq f g&&qU k a c&&qU k b e
  | .iface t a,.iface u b=>Nat.beq t u&&pN k a b
  | .agg a,.agg b=>qU k a b
  | .aX a,.aX b=>qU k a b
  |_,_=>false
def qU:Nat->List AV->List AV->Bool
 |0,_,_=>false
 |_,[],[]=>true
 |k+1,x::l,y::m=>pN k x y&&qU k l m
 |_,_,_=>false
end
structure Pd where
 (i nm:Nat)
 b:bO
structure Wt where
 (i A:Nat)
 f:Hp->R0
 v:AV
inductive Rx(d:Nat) where
 |bad
 |ok (L:TT AV d) (H:Hp) (pend:List Pd) (jA:List Wt)
structure Sx(d:Nat) where f:Call->Nat->TT AV d->Hp->List Pd->List Wt->Rx d
def eP(A:Nat)(pend:List Pd)(H:Hp):Hp:=
 List.rec (motive:=fun _=>Hp) H (fun p _ ih=>bif hasB A p.i then ih.put p.nm p.b else ih) pend
def nQ(pend:List Pd)(H:Hp):Hp:=
 List.rec (motive:=fun _=>Hp) H (fun p _ ih=>ih.put p.nm p.b) pend
def qJ(A:Nat)(pend:List Pd):List Pd:=
 List.rec (motive:=fun _=>List Pd) [] (fun p _ ih=>bif hasB A p.i then ih else p::ih) pend
def qG(A:Nat)(jA:List Wt):List Wt:=
 List.rec (motive:=fun _=>List Wt) [] (fun p _ ih=>bif hasB A p.i then ih else p::ih) jA
def zjg(r:R0)(v:AV):Bool:=match r with| .val u=>pN 64 u v|_=>false
def qi8(pend:List Pd)(H:Hp)(jA:List Wt):Bool:=
 List.rec (motive:=fun _=>Bool) true (fun x _ ih=>zjg (x.f (eP x.A pend H)) x.v&&ih) jA
def qX{d:Nat}(put:TT AV d->AV->TT AV d)(lk al:Bool)(i A nm:Nat)(L:TT AV d)(H:Hp)(pend:List Pd)(jA:List Wt)(f:Hp->R0)(w:Option Bool):Rx d:=
 match w with
 |none=>.bad
 |some false=>.ok (put L .undef) H pend jA
 |some true=>match f (eP A pend H)with
  | .bad=>.bad
  | .val v=>.ok (put L v) H pend (bif lk then⟨i,A,f,v⟩::jA else jA)
  | .new v b=>bif al&&b.wr then .ok (put L v) H (⟨i,nm,b⟩::pend) jA else .bad
def eX{d:Nat}(put:TT AV d->AV->TT AV d)(A:Nat)(L:TT AV d)(H:Hp)(pend:List Pd)(jA:List Wt)(r:R1)(w:Option Bool):Rx d:=
 match w with
 |none=>.bad
 |some false=>.ok (put L .undef) H pend jA
 |some true=>match r with
  | .bad=>.bad
  | .ok v H'=>bif qi8 (qJ A pend) H' (qG A jA)then .ok (put L v) H' (qJ A pend) (qG A jA)else .bad
def qx9(P:Program)(d n:Nat)(ops:Array Oper)(i A:Nat)(o:Oper):Sx d:=
 match gZ P d n o,mW d n (kY ops o),r9 d n ops o,dW d n o.dst with
 | .q lk f,⟨pj⟩,⟨w⟩,⟨put⟩=>⟨fun _ base L H pend jA=>qX put lk (qhy o.op&& !lk) i A (base+i) L H pend jA (f (base+i) (pj L)) (w (pj L))⟩
 | .e f,⟨pj⟩,⟨w⟩,⟨put⟩=>⟨fun O _ L H pend jA=>eX put A L H pend jA (f O (pj L) (eP A pend H)) (w (pj L))⟩
def z3j{d:Nat}(r:Rx d)(k:TT AV d->Hp->List Pd->List Wt->Rx d):Rx d:=match r with| .bad=>.bad| .ok L H p w=>k L H p w
def sP(P:Program)(d n:Nat)(ops:Array Oper)(ms:List Nat):List Nat->Sx d
 | []=>⟨fun _ _ L H p w=>.ok L H p w⟩
 |i::r=>match ops[i]? with
  |some o=>⟨fun O base L H p w=>z3j ((qx9 P d n ops i (ms.getD i 0) o).f O base L H p w) ((sP P d n ops ms r).f O base)⟩
  |none=>⟨fun _ _ _ _ _ _=>.bad⟩
def isE{d:Nat}:jI d->Bool
 | .e _=>true
 | .q .. =>false
def aEe{d:Nat}:jI d->Bool
 | .q lk _=>lk
 | .e _=>false
structure Kd where
 (i A:Nat)
 (l7 lk:Bool)
def qsx(P:Program)(d n:Nat)(ms:List Nat):Nat->List Oper->List Kd
 |_,[]=>[]
 |i,o::r=>⟨i,ms.getD i 0,isE (gZ P d n o),aEe (gZ P d n o)⟩::qsx P d n ms (i+1) r
def zmf(ks:List Kd):Nat:=ks.foldl (fun s k=>bif k.l7 then sS s k.i else s) 0
def zj8(EM:Nat):Nat->Nat->List Kd->List Nat
 |0,_,ks=>ks.map (·.i)
 |k+1,E,ks=>
  match ks.filter (fun x=> !x.l7&&aBa (Nat.land x.A EM) E),ks.filter (fun x=>x.l7|| !aBa (Nat.land x.A EM) E)with
  |now,rest=>now.map (·.i) ++
   match rest.filter (fun x=>x.l7&&aBa (Nat.land x.A EM) E)with
   |e::_=>e.i::zj8 EM k (sS E e.i) (rest.filter fun x=> !(Nat.beq x.i e.i))
   | []=>rest.map (·.i)
def qy4(ops:Array Oper)(ks:List Kd):Nat->Nat->List Nat->Bool
 |_,_,[]=>true
 |D,E,i::r=>match ops[i]?,ks[i]? with
  |some o,some k=>(vH o).all (hasB D)&& !hasB D i&&(!(k.l7||k.lk)||aBa E k.A)&&qy4 ops ks (sS D i) (bif k.l7 then sS E i else E) r
  |_,_=>false
def qtc:Nat->List Oper->Bool
 |_,[]=>true
 |i,o::r=>(vH o).all (fun j=>Nat.blt j i)&&qtc (i+1) r
def q7k(ops:Array Oper)(ms:List Nat):Bool:=
 (List.range ops.size).all fun k=>match ops[k]? with
  |none=>false
  |some o=>(List.range ops.size).all fun i=>match ops[i]? with
   |none=>false
   |some o'=>match o'.dst with
    |none=>true
    |some t=>Nat.beq i k||hasB (ms.getD k 0) i||hasB (ms.getD i 0) k|| !((kY ops o).contains t||o.dst==some t)
structure Pln where
 ms:List Nat
 ord:List Nat
 up:Nat
def q43(P:Program)(d n:Nat)(ops:Array Oper):Option Pln:=
 match yQ [] ops.toList with
 |ms=>match qsx P d n ms 0 ops.toList with
  |ks=>match zj8 (zmf ks) ks.length 0 ks with
   |ord=>bif qtc 0 ops.toList&&q7k ops ms&&Nat.beq ord.length ops.size&&qy4 ops ks 0 0 ord then
     some ⟨ms,ord,bif ops.toList.any (fun o=>qhy o.op)then ops.size else 0⟩else none
def qls(P:Program)(d n:Nat)(ops:Array Oper):St d:=
 match q43 P d n ops with
 |none=>⟨fun _ _ _=>.bad⟩
 |some pl=>match sP P d n ops pl.ms pl.ord with
  |⟨g⟩=>⟨fun O L H=>match g O H.nx L ⟨H.t,H.nx+pl.up⟩ [] []with| .bad=>.bad| .ok L' H' pend _=>.ok L' (nQ pend H')⟩
/- code -/
structure Dn(d:Nat) where f:Call->TT AV d->Hp->Rc d
def mR{d:Nat}:Rs d->Rc d
 | .bad=>.bad
 | .ok L H=>.ok .normal L H
def rA{d:Nat}(r:Rc d)(k:TT AV d->Hp->Rc d):Rc d:=
 match r with
 | .ok .normal L H=>k L H
 |r=>r
def qtb{d:Nat}(id:Nat)(r:Rc d):Rc d:=
 match r with
 | .ok (.exit id') L H=>bif Nat.beq id' id then .ok .normal L H else .ok (.exit id') L H
 |r=>r
def condC{d:Nat}(c:AV)(a b:Rc d):Rc d:=
 match c with
 | .bool true=>a
 | .bool false=>b
 |_=>.bad
def qqd{d:Nat}(b:TT AV d->Hp->Rc d)(n:Nat):TT AV d->Hp->Rc d:=
 Nat.rec (motive:=fun _=>TT AV d->Hp->Rc d) (fun _ _=>.bad) (fun _ ih L H=>rA (b L H) ih) n
def bX:Nat:=1000000
def endLoop{d:Nat}(l:Nat)(r:R1)(L:TT AV d):Rc d:=
 match r with
 | .bad=>.bad
 | .ok _ H=>match H.get l with
  | .loop true none .. =>.ok .normal L (H.put l .dead)
  | .loop false (some .ret) .. =>.ok .ret L (H.put l .dead)
  | .loop false (some (.exit id)) .. =>.ok (.exit id) L (H.put l .dead)
  |_=>.bad
def kQ:Code->Bool
 | .region _ ops _=> !(ops.toList.any qR)
 | .seq a b=>kQ a&&kQ b
 | .cond _ a b=>kQ a&&kQ b
 | .block _ b=>kQ b
 | .loop b=>kQ b
 | .scope _=>false
 | .rangeFunc .. =>false
 |_=>true
def den(P:Program)(d n:Nat):Code->Dn d
 | .skip| .label _=>⟨fun _ L H=>.ok .normal L H⟩
 | .region _ ops false=>⟨fun O L H=>mR ((pY P d n ops ops.toList).f O L H)⟩
 | .region _ ops true=>match qls P d n ops with|⟨g⟩=>⟨fun O L H=>mR (g O L H)⟩
 | .seq a b=>⟨fun O L H=>rA ((den P d n a).f O L H) ((den P d n b).f O)⟩
 | .cond x a b=>match aG d n x with|⟨g⟩=>⟨fun O L H=>condC (g L) ((den P d n a).f O L H) ((den P d n b).f O L H)⟩
 | .block id b=>⟨fun O L H=>qtb id ((den P d n b).f O L H)⟩
 | .loop b=>⟨fun O L H=>qqd ((den P d n b).f O) bX L H⟩
 | .scope b=>den P d n b
 | .exit id=>⟨fun _ L H=>.ok (.exit id) L H⟩
 | .goto _=>⟨fun _ _ _=>.bad⟩
 | .ret=>⟨fun _ L H=>.ok .ret L H⟩
 | .rangeFunc f ps assign body=>match aG d n f,kQ assign&&kQ body with
  |_,false=>⟨fun _ _ _=>.bad⟩
  |⟨g⟩,true=>⟨fun O L H=>endLoop H.nx (qgw O (g L) [.yield H.nx] (aO H (.loop true none d n L ps.toList assign body))) L⟩
 | .refuse _=>⟨fun _ _ _=>.bad⟩
/- functions -/
structure Rv(d:Nat) where f:TT AV d->Hp->Option AV
def aAR(P:Program)(d n:Nat):ResultVar->Rv d
 | .tmp t=>match aG d n (.tmp t)with|⟨g⟩=>⟨fun L _=>some (g L)⟩
 | .cell a t=>match aG d n (.tmp a),p8 P t,gX P t with
  |⟨g⟩,some true,some k=>⟨fun L H=>match dD k H (g L)with| .val v=>some v|_=>none⟩
  |⟨g⟩,some false,some _=>⟨fun L H=>match aT H (g L)with| .val v=>some v|_=>none⟩
  |_,_,_=>⟨fun _ _=>none⟩
structure RvL(d:Nat) where f:TT AV d->Hp->Option (List AV)
def zax(P:Program)(d n:Nat):List ResultVar->RvL d
 | []=>⟨fun _ _=>some []⟩
 |x::r=>match aAR P d n x,zax P d n r with
  |⟨g⟩,⟨h⟩=>⟨fun L H=>match g L H,h L H with|some v,some l=>some (v::l)|_,_=>none⟩
def qcj(P:Program)(d n:Nat)(rs:List ResultVar):Rv d:=
 match rs with
 | [x]=>aAR P d n x
 |l=>match zax P d n l with|⟨h⟩=>⟨fun L H=>match h L H with|some l=>some (.aX l)|none=>none⟩
def aAK(O:Call)(l:List AV):Hp->Option Hp:=
 List.rec (motive:=fun _=>Hp->Option Hp) (fun H=>some H) (fun x _ ih H=>match x with
  | .fn g all []=>match O (.d g) all H with| .ok _ H'=>ih H'| .bad=>none
  |_=>none) l
def fJ(v:Option AV)(H:Hp):R1:=match v with|some v=>.ok v H|none=>.bad
def iE{d:Nat}(n:Nat)(O:Call)(res:TT AV d->Hp->Option AV)(L:TT AV d)(H:Hp):R1:=
 match aAK O (dl ((dJ d n).f L)) H with
 |some H'=>fJ (res L H') H'
 |none=>.bad
def aCO{d:Nat}(n:Nat)(O:Call)(res:TT AV d->Hp->Option AV)(r:Rc d):R1:=
 match r with
 | .ok .normal L H=>iE n O res L H
 | .ok .ret L H=>iE n O res L H
 |_=>.bad
structure Fd where f:Call->List AV->Hp->R1
def aM(P:Program)(f:FuncId):Fd:=
 match P.funcs[f]? with
 |none=>⟨fun _ _ _=>.bad⟩
 |some fn=>if fn.name == "runtime.NumGoroutine" then⟨fun _ _ _=> .bad⟩else match fn.body with
  |none=>⟨fun _ _ _=>.bad⟩
  |some c=>
   match qcj P (iO (fn.ntmps+1)) fn.ntmps fn.results.toList with
   |⟨res⟩=>⟨fun O args H=>bif Nat.ble args.length fn.ntmps&&Nat.ble (fn.ntmps+1) 262144 then aCO fn.ntmps O res ((den P (iO (fn.ntmps+1)) fn.ntmps c).f O (nV args 0 (same .undef _)) H)else .bad⟩
def qox(P:Program)(f:FuncId):Bool:=
 match P.funcs[f]? with
 |some fn=>(match fn.body with|some c=>kQ c|none=>false)
 |none=>false
def yH{d:Nat}(L:TT AV d)(ps:List Tmp)(args:List AV):TT AV d:=
 match ps,args with
 |p::ps,a::as=>yH ((setter d p).f L a) ps as
 |_,_=>L
def zwx:Ex->Option (Option Code)
 | .normal=>some none
 | .ret=>some (some .ret)
 | .exit id=>some (some (.exit id))
 | .goto _=>none
def endRound{d:Nat}(l:Nat)(r:Rc d):R1:=
 match r with
 | .bad=>.bad
 | .ok e _ H=>match zwx e with
  |none=>.bad
  |some j=>match H.get l with
   | .loop false none d n L ps assign body=>.ok (.bool j.isNone) (H.put l (.loop j.isNone j d n L ps assign body))
   |_=>.bad
def qez(P:Program)(O:Call)(l:Nat)(args:List AV)(H:Hp):R1:=
 match H.get l with
 | .loop true none d n L ps assign body=>
  bif Nat.beq ps.length args.length&&ps.all (fun p=>Nat.blt p n)then
   match(den P d n assign).f O (yH ((setter d n).f L .undef) ps args) H with
   | .ok .normal L1 H1=>match H1.get l with
    | .loop true none d' n' L' ps' oC body'=>endRound l ((den P d n body).f O L1 (H1.put l (.loop false none d' n' L' ps' oC body')))
    |_=>.bad
   |_=>.bad
  else .bad
 |_=>.bad
def qsy:R1->Bool
 | .ok (.bool b) _=>b
 |_=>false
end Go.Ev
end
noncomputable section
namespace Go.Ev
variable {α:Type}
def qoy(k:Nat)(t:Q α):α:=
 match k with
 |0=>t.c0|1=>t.c1|2=>t.c2|3=>t.c3|4=>t.c4|5=>t.c5|6=>t.c6|_=>t.c7
def aGb(k:Nat)(t:Q α)(v:α):Q α:=
 match k with
 |0=>{t with c0:=v}|1=>{t with c1:=v}|2=>{t with c2:=v}|3=>{t with c3:=v}
 |4=>{t with c4:=v}|5=>{t with c5:=v}|6=>{t with c6:=v}|_=>{t with c7:=v}
theorem z7h(i:Nat):Nat.land i 7=i%8:=by have:=Nat.and_two_pow_sub_one_eq_mod i 3;omega
theorem aKJ(i:Nat):Nat.shiftRight i 3=i / 8:=by have:=Nat.shiftRight_eq_div_pow i 3;omega
theorem lt8{k:Nat}(h:k<8):k=0\/k=1\/k=2\/k=3\/k=4\/k=5\/k=6\/k=7:=by omega
theorem qd4(d i:Nat)(t:TT α (d+1)):(dJ (d+1) i).f t=(dJ d (i / 8)).f (qoy (i%8) t):=by have e:dJ (α:=α) (d+1) i=wR.rec (motive:=fun _=>wR α (d+1)) (fun g=>kX.rec (motive:=fun _=>wR α (d+1)) (fun s=>⟨fun t=>g (s t)⟩) (sel (TT α d) (Nat.land i 7))) (dJ d (Nat.shiftRight i 3)):=rfl;rw[e,z7h,aKJ];generalize dJ (α:=α) d (i / 8)=g;cases g;cases t;rcases lt8 (xF i (by decide:8>0))with h|h|h|h|h|h|h|h<;>rw[h]<;>rfl
theorem q4s(d i:Nat)(t:TT α (d+1))(v:α):(setter (d+1) i).f t v=aGb (i%8) t ((setter d (i / 8)).f (qoy (i%8) t) v):=by have e:setter (α:=α) (d+1) i=vR.rec (motive:=fun _=>vR α (d+1)) (fun g=>kU.rec (motive:=fun _=>vR α (d+1)) (fun s=>⟨fun t v=>s (fun c=>g c v) t⟩) (aNm (TT α d) (Nat.land i 7))) (setter d (Nat.shiftRight i 3)):=rfl;rw[e,z7h,aKJ];generalize setter (α:=α) d (i / 8)=g;cases g;cases t;rcases lt8 (xF i (by decide:8>0))with h|h|h|h|h|h|h|h<;>rw[h]<;>rfl
theorem zsi(k j:Nat)(hk:k<8)(hj:j<8)(t:Q α)(v:α):qoy k (aGb j t v)=if k=j then v else qoy k t:=by
 rcases lt8 hk with rfl|rfl|rfl|rfl|rfl|rfl|rfl|rfl <;>
  rcases lt8 hj with rfl|rfl|rfl|rfl|rfl|rfl|rfl|rfl<;>simp[qoy,aGb]
theorem qev(d:Nat):∀(i j:Nat) (t:TT α d) (v:α),i<8 ^ d->j<8 ^ d -> (dJ d i).f ((setter d j).f t v)=if i=j then v else(dJ d i).f t:=by
 induction d with
 |zero=>
  intro i j t v hi hj;have:i=j:=by simp at hi hj;omega
  subst this;rw[pz rfl];rfl
 |succ d ih=>
  intro i j t v hi hj;have e:(dJ (d+1) i).f ((setter (d+1) j).f t v)=(dJ d (i / 8)).f (if i%8=j%8 then(setter d (j / 8)).f (qoy (j%8) (t:Q (TT α d))) v else qoy (i%8) (t:Q (TT α d))):=by rw[qd4,q4s];exact congrArg _ (zsi _ _ (xF _ (by decide)) (xF _ (by decide)) _ _)
  rw[e,qd4];by_cases hm:i%8=j%8
  ·rw[pz hm,ih _ _ _ _ (by omega) (by omega)];by_cases hq:i / 8=j / 8
   ·rw[pz hq,pz (by omega)]
   ·rw[kz hq,kz (by omega),hm]
  ·rw[kz hm,kz (by omega)]
theorem qhc(a:α)(d:Nat):∀ i,(dJ d i).f (same a d)=a:=by
 induction d with
 |zero=>intro i;rfl
 |succ d ih=>
  intro i;rw[qd4];have:qoy (i%8) (same a (d+1):Q (TT α d))=same a d:=by rcases lt8 (xF i (by decide:8>0))with h|h|h|h|h|h|h|h<;>rw[h]<;>rfl
  rw[this,ih]
theorem qb3(n:Nat):n<=8 ^ iO n:=by
 unfold iO;simp only[cond_eq_ite,Nat.ble_eq];split
 ·omega
 split
 ·omega
 split
 ·omega
 split
 ·omega
 split
 ·omega
 split
 ·omega
 ·exact yw (Nat.lt_pow_self (by decide))
theorem q9t(n:Nat)(_:n<=262144):n<=8 ^ iO n:=qb3 n
theorem zr5{d:Nat}(c:TT AV d)(o:Nat):tF c 0 o=[]:=rfl
theorem qv7{d:Nat}(c:TT AV d)(k o:Nat):tF c (k+1) o=(dJ d o).f c::tF c k (o+1):=rfl
theorem qg9{d:Nat}(c:TT AV d)(k:Nat):∀ o,(tF c k o).length=k:=by
 induction k with
 |zero=>intro o;rfl
 |succ k ih=>intro o;rw[qv7,pg,ih]
theorem zjs{d:Nat}(c:TT AV d)(k:Nat):∀ o i,i<k->(tF c k o)[i]? =some ((dJ d (o+i)).f c):=by
 induction k with
 |zero=>intro o i h;omega
 |succ k ih=>
  intro o i h;rw[qv7];cases i with
  |zero=>rfl
  |succ i=>rw[yu,ih _ _ (by omega),show o+1+i=o+(i+1)by omega]
theorem z0d{d:Nat}(o:Nat)(c:TT AV d):nV [] o c=c:=rfl
theorem zrc{d:Nat}(v:AV)(l:List AV)(o:Nat)(c:TT AV d):nV (v::l) o c=nV l (o+1) ((setter d o).f c v):=rfl
theorem qh8{d:Nat}(l:List AV):∀(o:Nat) (c:TT AV d) (i:Nat),o+l.length<=8 ^ d->i<8 ^ d -> (dJ d i).f (nV l o c)=if o<=i/\i<o+l.length then l.getD (i-o) .undef else(dJ d i).f c:=by
 induction l with
 |nil=>intro o c i _ _;rw[z0d,kz (by simp)]
 |cons v l ih=>
  intro o c i h hi;rw[pg]at h;rw[zrc,ih _ _ _ (by omega) hi,qev _ _ _ _ _ hi (by omega)];simp only[pg];by_cases h1:o+1<=i/\i<o+1+l.length
  ·rw[pz h1,pz (by omega)];obtain⟨j,hj⟩:∃ j,i-o=j+1:=⟨i-o-1,by omega⟩;rw[hj,List.getD_cons_succ];congr 1;omega
  ·rw[kz h1];by_cases h2:i=o
   ·simp_all
   ·rw[kz h2,kz (by omega)]
end Go.Ev
end
noncomputable section
namespace Go.Ev
open Go.RowKit
structure Loc where
 (blk base ext z:Nat)
abbrev Im:=Nat->Option Loc
def yR(n a:Nat)(s:ByteArray):Prop:=s.data.toList.length=n/\jL s.data.toList=a
mutual
def aL(ι:Im):AV->Value->Prop
 | .undef,V=>V=.tuple #[]
 | .lit v,V=>V=v
 | .bool b,V=>V=.bool b
 | .int k n,V=>V=.int k n
 | .str n a,V=>∃ s,V=.string s/\yR n a s
 | .ptr b o,V=>∃ l,ι b=some l/\V=.pointer (some ⟨l.blk,l.base+o,none⟩)
 | .cK,V=>V=.pointer none
 | .sl b o len cap ex,V=>len<=cap/\∃ l,ι b=some l/\V=.slice (some ⟨l.blk,l.base+o,none⟩) len (if ex then cap else cap+l.ext)
 | .aA,V=>V=.slice none 0 0
 | .sle,V=>∃ a c,V=.slice (some a) 0 c
 | .map b,V=>∃ l,ι b=some l/\V=.map (some l.blk)
 | .dV,V=>V=.map none
 | .fn f first cap,V=>∃ F C,aI ι first F/\aI ι cap C/\V=.func (.func f) F.toArray C.toArray
 | .yield b,V=>∃ l,ι b=some l/\V=.func (.yield l.blk) #[] #[]
 | .jH,V=>V=.nilFunc
 | .iface t v,V=>∃ X,aL ι v X/\V=.iface t X
 | .oM,V=>V=.nilIface
 | .agg l,V=>∃ vs,aI ι l vs/\V=.agg vs.toArray/\∀ v∈vs,v.oneCell=true
 | .aX l,V=>∃ vs,aI ι l vs/\V=.tuple vs.toArray
def aI(ι:Im):List AV->List Value->Prop
 | [],vs=>vs=[]
 |a::l,vs=>∃ v r,vs=v::r/\aL ι a v/\aI ι l r
end
def Im.le(ι ι':Im):Prop:=∀ b l,ι b=some l->ι' b=some l
theorem Im.le_refl(ι:Im):ι.le ι:=fun _ _ h=>h
theorem Im.le_trans{a b c:Im}(h:a.le b)(k:b.le c):a.le c:=fun x l e=>k x l (h x l e)
mutual
theorem aL.mono{ι ι':Im}(h:ι.le ι'):(v:AV)->(V:Value)->aL ι v V->aL ι' v V
 | .undef,V,hr| .lit _,V,hr| .bool _,V,hr| .int _ _,V,hr| .str _ _,V,hr| .cK,V,hr| .aA,V,hr| .sle,V,hr
 | .dV,V,hr| .jH,V,hr| .oM,V,hr=>by simpa only[aL] using hr
 | .ptr b o,V,hr=>by simp only[aL]at *;obtain⟨l,h1,h2⟩:=hr;exact⟨l,h _ _ h1,h2⟩
 | .sl b o len cap ex,V,hr=>by simp only[aL]at *;obtain⟨h0,l,h1,h2⟩:=hr;exact⟨h0,l,h _ _ h1,h2⟩
 | .map b,V,hr=>by simp only[aL]at *;obtain⟨l,h1,h2⟩:=hr;exact⟨l,h _ _ h1,h2⟩
 | .yield b,V,hr=>by simp only[aL]at *;obtain⟨l,h1,h2⟩:=hr;exact⟨l,h _ _ h1,h2⟩
 | .fn f first cap,V,hr=>by simp only[aL]at *;obtain⟨F,C,h1,h2,h3⟩:=hr;exact⟨F,C,aI.mono h first F h1,aI.mono h cap C h2,h3⟩
 | .iface t v,V,hr=>by simp only[aL]at *;obtain⟨X,h1,h2⟩:=hr;exact⟨X,aL.mono h v X h1,h2⟩
 | .agg l,V,hr=>by simp only[aL]at *;obtain⟨vs,h1,h2⟩:=hr;exact⟨vs,aI.mono h l vs h1,h2⟩
 | .aX l,V,hr=>by simp only[aL]at *;obtain⟨vs,h1,h2⟩:=hr;exact⟨vs,aI.mono h l vs h1,h2⟩
theorem aI.mono{ι ι':Im}(h:ι.le ι'):(l:List AV)->(vs:List Value)->aI ι l vs->aI ι' l vs
 | [],vs,hr=>by simpa only[aI] using hr
 |a::l,vs,hr=>by simp only[aI]at *;obtain⟨v,r,h1,h2,h3⟩:=hr;exact⟨v,r,h1,aL.mono h a v h2,aI.mono h l r h3⟩
end
theorem aI.length{ι:Im}:∀{l:List AV} {vs:List Value},aI ι l vs->vs.length=l.length
 | [],vs,h=>by simp only[aI]at h;simp[h]
 |a::l,vs,h=>by simp only[aI]at h;obtain⟨v,r,rfl,_,h3⟩:=h;simp[aI.length h3]
theorem aI.get{ι:Im}:∀{l:List AV} {vs:List Value},aI ι l vs->∀(i:Nat) (a:AV),l[i]? =some a->∃ v,vs[i]? =some v/\aL ι a v
 | [],vs,h,i,a,hi=>by simp at hi
 |x::l,vs,h,i,a,hi=>by
  simp only[aI]at h;obtain⟨v,r,rfl,h2,h3⟩:=h;cases i with
  |zero=>simp at hi;subst hi;exact⟨v,rfl,h2⟩
  |succ i=>simp at hi;obtain⟨v',h4,h5⟩:=aI.get h3 i a hi;exact⟨v',by simpa using h4,h5⟩
theorem aI.append{ι:Im}:∀{l m:List AV} {vs us:List Value},aI ι l vs->aI ι m us->aI ι (l++m) (vs++us)
 | [],m,vs,us,h,k=>by simp only[aI]at h;subst h;simpa using k
 |x::l,m,vs,us,h,k=>by simp only[aI]at h;obtain⟨v,r,rfl,h2,h3⟩:=h;simp only[nz,aI];exact⟨v,r++us,rfl,h2,aI.append h3 k⟩
theorem aI.drop{ι:Im}:∀{l:List AV} {vs:List Value} (n:Nat),aI ι l vs->aI ι (l.drop n) (vs.drop n)
 |l,vs,0,h=>by simpa using h
 | [],vs,n+1,h=>by simp only[aI]at h;subst h;simp[aI]
 |x::l,vs,n+1,h=>by simp only[aI]at h;obtain⟨v,r,rfl,h2,h3⟩:=h;simpa using aI.drop n h3
theorem aI.take{ι:Im}:∀{l:List AV} {vs:List Value} (n:Nat),aI ι l vs->aI ι (l.take n) (vs.take n)
 |l,vs,0,h=>by simp[aI]
 | [],vs,n+1,h=>by simp only[aI]at h;subst h;simp[aI]
 |x::l,vs,n+1,h=>by simp only[aI]at h;obtain⟨v,r,rfl,h2,h3⟩:=h;simp only[dm,aI];exact⟨v,r.take n,rfl,h2,aI.take n h3⟩
theorem aI.aAd{ι:Im}:∀{l:List AV} {vs:List Value},vs.length=l.length->(∀(i:Nat) (a:AV),l[i]? =some a->∃ v,vs[i]? =some v/\aL ι a v)->aI ι l vs
 | [],vs,h,_=>by simp only[aI];exact ry.1 (by simpa using h)
 |x::l,[],h,_=>by simp at h
 |x::l,v::r,h,k=>by
  simp only[aI];refine⟨v,r,rfl,?_,aI.aAd (by simpa using h) fun i a hi=>?_⟩
  ·obtain⟨v',h1,h2⟩:=k 0 x rfl;simp at h1;subst h1;exact h2
  ·obtain⟨v',h1,h2⟩:=k (i+1) a (by simpa using hi);exact⟨v',by simpa using h1,h2⟩
theorem aI.singleton{ι:Im}{a:AV}{v:Value}(h:aL ι a v):aI ι [a] [v]:=by simp only[aI];exact⟨v,[],rfl,h,rfl⟩
def bY(ι:Im):List lD->List MapEntry->Prop
 | [],es=>es=[]
 |x::l,es=>∃ e r,es=e::r/\aL ι x.key e.key/\aL ι x.val e.val/\e.born=x.born/\bY ι l r
theorem bY.mono{ι ι':Im}(h:ι.le ι'):∀(l:List lD) (es:List MapEntry),bY ι l es->bY ι' l es
 | [],es,k=>k
 |x::l,es,k=>by simp only[bY]at *;obtain⟨e,r,h1,h2,h3,h4,h5⟩:=k;exact⟨e,r,h1,aL.mono h _ _ h2,aL.mono h _ _ h3,h4,bY.mono h _ _ h5⟩
structure LR(ι:Im)(d n:Nat)(L:TT AV d)(tmps:Array Value):Prop where
 size:tmps.size=n
 fits:n<8 ^ d
 get:∀ i,i<n->aL ι ((dJ d i).f L) (tmps.getD i Go.undef)
theorem LR.fit{ι:Im}{d n:Nat}{L:TT AV d}{tmps:Array Value}(k:LR ι d n L tmps):n<=8 ^ d:=yw k.fits
theorem LR.mono{ι ι':Im}{d n:Nat}{L:TT AV d}{tmps:Array Value}(h:ι.le ι')(k:LR ι d n L tmps):LR ι' d n L tmps:=
 ⟨k.size,k.fits,fun i hi=>aL.mono h _ _ (k.get i hi)⟩
theorem LR.set{ι:Im}{d n:Nat}{L:TT AV d}{tmps:Array Value}(k:LR ι d n L tmps){t:Nat}(ht:t<n){v:AV}{V:Value}(hv:aL ι v V):LR ι d n ((setter d t).f L v) (tmps.setIfInBounds t V):=by
 have hs:=k.size;have hf:=k.fits;refine⟨by simp[hs],hf,fun i hi=>?_⟩;rw[qev _ _ _ _ _ (by omega) (by omega)];by_cases h:i=t
 ·subst h;rw[pz rfl];simp[hs,ht];exact hv
 ·rw[kz h];have:=k.get i hi;simpa [Array.getElem?_setIfInBounds_ne (Ne.symm h)] using this
def BR(ι:Im)(w:World)(b:Nat):bO->Prop
 | .dead=>True
 | .cells d n c ro z=>∃ l,ι b=some l/\(n<=8 ^ d/\l.z=z) /\
   (∀i,i<n->∃ V,w.cell? ⟨l.blk,l.base+i,none⟩=some V/\aL ι ((dJ d i).f c) V/\V.oneCell=true/\(ro=false->w.frozen? ⟨l.blk,l.base+i,none⟩=false)) /\
   (ro=false->∀ j,j<l.ext*l.z->∃ V,w.cell? ⟨l.blk,l.base+(n+j),none⟩=some V/\w.frozen? ⟨l.blk,l.base+(n+j),none⟩=false/\V.oneCell=true)
 | .map es clock=>∃ l ES,ι b=some l/\w.heap[l.blk]? =some (.map ES.toArray clock)/\bY ι es ES
 | .gJ m since pos=>∃ l r,ι b=some l/\l.base=0/\w.heap[l.blk]? =some (.mapIter r since (match pos with|0=> #[]|p+1=> #[p]) since) /\
   (match m with|0=>r=none|m'+1=>∃ lm,ι m'=some lm/\r=some lm.blk)
 | .loop ready pending d n L params assign body=>∃ l lp,ι b=some l/\w.heap[l.blk]? =some (.loop lp) /\
   lp.state=(if ready then .ready else if pending.isSome then .done else .busy)/\lp.pending=pending/\lp.params.toList=params/\lp.assign=assign/\lp.body=body/\LR ι d n L lp.tmps/\kQ assign=true/\kQ body=true
def bO.dF:bO->Bool
 | .dead=>true
 |_=>false
theorem bO.bE{b:bO}(h:b.wr=true):b.dF=false:=by cases b<;>simp_all [bO.wr,bO.dF]
def iB(_:Nat):Prop:=True
theorem pF{b:Nat}:iB b:=trivial
structure HR(ι:Im)(H:Hp)(w:World):Prop where
 top:iB (H.nx)
 blk:∀ b,iB (b)->BR ι w b (H.get b)
 low:∀ b l,iB (b)->(H.get b).dF=false->ι b=some l->l.blk<w.heap.size
 inj:∀ b c l m,iB (b)->iB (c)->(H.get b).wr=true->(H.get c).dF=false->ι b=some l->ι c=some m->l.blk=m.blk->b=c
 fresh:∀ b,H.nx<=b->ι b=none
 free:∀ b,H.nx<=b->iB (b)->H.get b=.dead
theorem HR.lt{ι:Im}{H:Hp}{w:World}(_:HR ι H w){b:Nat}{l:Loc}(_:ι b=some l):iB (b):=by exact pF
structure Fr(ι ι':Im)(H H':Hp)(w w':World):Prop where
 le:ι.le ι'
 nx:H.nx<=H'.nx
 dom:∀ b,ι b=none->ι' b≠none->H.nx<=b
 os:w'.os=w.os
 tape:w'.tape=w.tape
 output:w'.output=w.output
 size:w.heap.size<=w'.heap.size
 keep:∀ c,c<w.heap.size->(∀b l,iB (b)->(H.get b).wr=true->ι b=some l->l.blk≠c)->w'.heap[c]? =w.heap[c]?
 new:∀ b l,iB (b)->(H'.get b).wr=true->ι' b=some l->w.heap.size<=l.blk\/∃ b0 l0,iB (b0)/\(H.get b0).wr=true/\ι b0=some l0/\l0.blk=l.blk
 live:∀ b l,iB (b)->(H'.get b).dF=false->ι' b=some l->w.heap.size<=l.blk\/∃ b0 l0,iB (b0)/\(H.get b0).dF=false/\ι b0=some l0/\l0.blk=l.blk
theorem Fr.refl(ι:Im)(H:Hp)(w:World):Fr ι ι H H w w:=
 ⟨Im.le_refl _,lg _,fun _ h k=>absurd h k,rfl,rfl,rfl,lg _,fun _ _ _=>rfl,fun b l hb h1 h2=>.inr ⟨b,l,hb,h1,h2,rfl⟩,fun b l hb h1 h2=>.inr ⟨b,l,hb,h1,h2,rfl⟩⟩
theorem Fr.trans{ι ι' aAI:Im}{H H' H'':Hp}{w w' w'':World}(f:Fr ι ι' H H' w w')(g:Fr ι' aAI H' H'' w' w''):Fr ι aAI H H'' w w'':=by
 refine⟨Im.le_trans f.le g.le,tq f.nx g.nx,fun b h k=>?_,g.os.trans f.os,g.tape.trans f.tape,g.output.trans f.output,tq f.size g.size,fun c hc hk=>?_,fun b l hb h1 h2=>?_,fun b l hb h1 h2=>?_⟩
 ·cases h':ι' b with
  |none=>exact tq f.nx (g.dom b h' k)
  |some l=>exact f.dom b h (by simp[h'])
 ·rw[g.keep c (lL hc f.size) ?_,f.keep c hc hk];intro b l hb h1 h2 he;rcases f.new b l hb h1 h2 with h3|⟨b0,l0,h3,h4,h5,h6⟩
  ·omega
  ·exact hk b0 l0 h3 h4 h5 (h6.trans he)
 ·rcases g.new b l hb h1 h2 with h3|⟨b0,l0,h3,h4,h5,h6⟩
  ·exact .inl (tq f.size h3)
  ·rcases f.new b0 l0 h3 h4 h5 with h7|⟨b1,l1,h7,h8,h9,h10⟩
   ·exact .inl (by omega)
   ·exact .inr ⟨b1,l1,h7,h8,h9,h10.trans h6⟩
 ·rcases g.live b l hb h1 h2 with h3|⟨b0,l0,h3,h4,h5,h6⟩
  ·exact .inl (tq f.size h3)
  ·rcases f.live b0 l0 h3 h4 h5 with h7|⟨b1,l1,h7,h8,h9,h10⟩
   ·exact .inl (by omega)
   ·exact .inr ⟨b1,l1,h7,h8,h9,h10.trans h6⟩
theorem Fr.below{ι ι':Im}{H H':Hp}{w w':World}(f:Fr ι ι' H H' w w')(B:Nat)(hB:B<=w.heap.size)(h:∀ b l,iB (b)->(H.get b).wr=true->ι b=some l->B<=l.blk):Below B w w':=
 ⟨f.os,f.tape,f.output,f.size,fun k hk=>f.keep k (by omega) fun b l hb h1 h2 he=>by have:=h b l hb h1 h2;omega⟩
end Go.Ev
end
noncomputable section
namespace Go.Ev
open Go.RowKit
theorem qs9{w w':World}{a:Addr}(h:w'.heap[a.block]? =w.heap[a.block]?):w'.cell? a=w.cell? a:=by unfold World.cell?;rw[h]
theorem qlo{w w':World}{a:Addr}(h:w'.heap[a.block]? =w.heap[a.block]?):w'.frozen? a=w.frozen? a:=by unfold World.frozen?;rw[h]
theorem BR.keep{ι:Im}{w w':World}{b:Nat}{k:bO}(h:BR ι w b k)(hk:∀ l,k.dF=false->ι b=some l->w'.heap[l.blk]? =w.heap[l.blk]?):BR ι w' b k:=by
 cases k with
 |dead=>trivial
 |cells d n c ro z=>
  obtain⟨l,h1,h2,h3,h4⟩:=h;have e:=hk l rfl h1;refine⟨l,h1,h2,fun i hi=>?_,fun hr j hj=>?_⟩
  ·obtain⟨V,a,b,c,d⟩:=h3 i hi;exact⟨V,by rw[qs9 (w:=w) e];exact a,b,c,fun hr=>by rw[qlo (w:=w) e];exact d hr⟩
  ·obtain⟨V,a,b⟩:=h4 hr j hj;exact⟨V,by rw[qs9 (w:=w) e];exact a,by rw[qlo (w:=w) e];exact b⟩
 |map es clock=>obtain⟨l,ES,h1,h2,h3⟩:=h;exact⟨l,ES,h1,by rw[hk l rfl h1];exact h2,h3⟩
 |gJ=>obtain⟨l,r,h1,h0,h2,h3⟩:=h;exact⟨l,r,h1,h0,by rw[hk l rfl h1];exact h2,h3⟩
 |loop=>obtain⟨l,lp,h1,h2,h3⟩:=h;exact⟨l,lp,h1,by rw[hk l rfl h1];exact h2,h3⟩
theorem BR.mono{ι ι':Im}{w:World}{b:Nat}{k:bO}(hle:ι.le ι')(h:BR ι w b k):BR ι' w b k:=by
 cases k with
 |dead=>trivial
 |cells d n c ro z=>obtain⟨l,h1,h2,h3,h4⟩:=h;refine⟨l,hle _ _ h1,h2,fun i hi=>?_,h4⟩;obtain⟨V,a,b,c,d⟩:=h3 i hi;exact⟨V,a,aL.mono hle _ _ b,c,d⟩
 |map es clock=>obtain⟨l,ES,h1,h2,h3⟩:=h;exact⟨l,ES,hle _ _ h1,h2,bY.mono hle _ _ h3⟩
 |gJ m=>
  obtain⟨l,r,h1,h0,h2,h3⟩:=h;refine⟨l,r,hle _ _ h1,h0,h2,?_⟩;cases m with
  |zero=>exact h3
  |succ m=>obtain⟨lm,k1,k2⟩:=h3;exact⟨lm,hle _ _ k1,k2⟩
 |loop=>obtain⟨l,lp,h1,h2,h3,h4,h5,h6,h7,h8⟩:=h;exact⟨l,lp,hle _ _ h1,h2,h3,h4,h5,h6,h7,h8.1.mono hle,h8.2⟩
theorem BR.some{ι:Im}{w:World}{b:Nat}{k:bO}(h:BR ι w b k)(hd:k.dF=false):∃ l,ι b=some l:=by
 cases k with
 |dead=>simp[bO.dF]at hd
 |cells d n c ro z=>obtain⟨l,h1,_⟩:=h;exact⟨l,h1⟩
 |map es clock=>obtain⟨l,_,h1,_⟩:=h;exact⟨l,h1⟩
 |gJ=>obtain⟨l,_,h1,_⟩:=h;exact⟨l,h1⟩
 |loop=>obtain⟨l,_,h1,_⟩:=h;exact⟨l,h1⟩
theorem z9m:8 ^ HD=2097152:=by decide
theorem Mem.get_put(m:Mem)(b c:Nat)(k:bO):(m.put b k).get c=if c=b then k else m.get c:=by
 unfold Mem.put Mem.get;cases hb:Nat.blt b 2097152 with
 |true=>
  have hb':b<8 ^ HD:=by rw[z9m];simp[Nat.blt]at hb;omega
  cases hc:Nat.blt c 2097152 with
  |true=>
   have hc':c<8 ^ HD:=by rw[z9m];simp[Nat.blt]at hc;omega
   exact qev _ _ _ _ _ hc' hb'
  |false=>
   have:c≠b:=fun e=>by subst e;rw[hb]at hc;cases hc
   simp_all
 |false=>
  cases hc:Nat.blt c 2097152 with
  |true=>
   have:c≠b:=fun e=>by subst e;rw[hb]at hc;cases hc
   simp_all
  |false=>
   show(bif Nat.beq c b then k else m.x c)=if c=b then k else m.x c
   by_cases e:c=b
   ·simp
   ·rw[kz e];have:Nat.beq c b=false:=by
     cases h:Nat.beq c b with
     |false=>rfl
     |true=>exact absurd (rf h) e
    rw[this];rfl
theorem Hp.get_put(H:Hp)(b c:Nat)(k:bO)(_:iB (b))(_:iB (c)):(H.put b k).get c=if c=b then k else H.get c:=by exact Mem.get_put H.t b c k
theorem HR.put{ι:Im}{H:Hp}{w w':World}(h:HR ι H w){b:Nat}(hb:iB (b))(hwr:(H.get b).wr=true){l:Loc}(hl:ι b=some l)(k:bO)(os:w'.os=w.os)(tape:w'.tape=w.tape)(output:w'.output=w.output)(size:w'.heap.size=w.heap.size)(keep:∀ c,c≠l.blk->w'.heap[c]? =w.heap[c]?)(hk:BR ι w' b k):HR ι (H.put b k) w'/\Fr ι ι H (H.put b k) w w':=by
 have live:=bO.bE hwr;refine⟨⟨h.top,fun c hc=>?_,fun c m hc h1 h2=>?_,fun c c' m m' hc hc' h1 h2 h3 h4 h5=>?_,h.fresh,fun c hc hc'=>?_⟩,
  ⟨Im.le_refl _,lg _,fun c h1 h2=>absurd h1 h2,os,tape,output,by omega,fun c hc h1=>keep c fun e=>h1 b l hb hwr hl e.symm,fun c m hc h1 h2=>?_,fun c m hc h1 h2=>?_⟩⟩
 ·rw[Hp.get_put _ _ _ _ hb hc];by_cases e:c=b
  ·simp_all
  ·rw[kz e];exact(h.blk c hc).keep fun m hd hm=>keep _ fun e'=>e (h.inj b c l m hb hc hwr hd hl hm e'.symm).symm
 ·rw[Hp.get_put _ _ _ _ hb hc]at h1;rw[size];by_cases e:c=b
  ·subst e;rw[hl]at h2;cases h2;exact h.low c l hc live hl
  ·rw[kz e]at h1;exact h.low c m hc h1 h2
 ·rw[Hp.get_put _ _ _ _ hb hc]at h1;rw[Hp.get_put _ _ _ _ hb hc']at h2;by_cases e:c=b
  ·subst e;by_cases e':c'=c
   ·omega
   ·rw[kz e']at h2;exact h.inj c c' m m' hc hc' hwr h2 h3 h4 h5
  ·rw[kz e]at h1;by_cases e':c'=b
   ·subst e';exact h.inj c c' m m' hc hc' h1 live h3 h4 h5
   ·rw[kz e']at h2;exact h.inj c c' m m' hc hc' h1 h2 h3 h4 h5
 ·have h2:=h.free c hc hc';rw[Hp.get_put _ _ _ _ hb hc'];have:c≠b:=fun e=>by subst e;rw[h2]at hwr;simp[bO.wr]at hwr
  simp_all
 ·rw[Hp.get_put _ _ _ _ hb hc]at h1;by_cases e:c=b
  ·subst e;exact .inr ⟨c,m,hc,hwr,h2,rfl⟩
  ·rw[kz e]at h1;exact .inr ⟨c,m,hc,h1,h2,rfl⟩
 ·rw[Hp.get_put _ _ _ _ hb hc]at h1;by_cases e:c=b
  ·subst e;exact .inr ⟨c,m,hc,live,h2,rfl⟩
  ·rw[kz e]at h1;exact .inr ⟨c,m,hc,h1,h2,rfl⟩
theorem HR.kill{ι:Im}{H:Hp}{w:World}(h:HR ι H w){b:Nat}(hb:iB (b))(hwr:(H.get b).wr=true):HR ι (H.put b .dead) w/\Fr ι ι H (H.put b .dead) w w:=by obtain⟨l,hl⟩:=(h.blk b hb).some (bO.bE hwr);exact h.put hb hwr hl .dead rfl rfl rfl rfl (fun _ _=>rfl) trivial
def Im.set(ι:Im)(b:Nat)(l:Loc):Im:=fun c=>if c=b then some l else ι c
theorem Im.bC(ι:Im)(b:Nat)(l:Loc):(ι.set b l) b=some l:=by simp[Im.set]
theorem Im.dX(ι:Im){b c:Nat}(l:Loc)(h:c≠b):(ι.set b l) c=ι c:=by simp[Im.set,h]
theorem Im.iW{ι:Im}{b:Nat}(l:Loc)(h:ι b=none):ι.le (ι.set b l):=fun c m hc=>by rw[Im.dX];exact hc;intro e;subst e;rw[h]at hc;cases hc
theorem HR.add{ι:Im}{H:Hp}{w w':World}(h:HR ι H w){b nx':Nat}(hb:iB (b))(hi:ι b=none)(hd:H.get b=.dead)(hn:H.nx<=nx')(hn':iB (nx'))(hbn:b<nx')(l:Loc)(k:bO)(size:w.heap.size<=w'.heap.size)(keep:∀ c m,iB (c)->(H.get c).dF=false->ι c=some m->w'.heap[m.blk]? =w.heap[m.blk]?)(hlow:k.dF=false->l.blk<w'.heap.size)(sep:∀ c m,iB (c)->(H.get c).dF=false->ι c=some m->m.blk≠l.blk)(hk:BR (ι.set b l) w' b k):HR (ι.set b l) ⟨H.t.put b k,nx'⟩ w':=by
 have hle:=Im.iW l hi;have hg:∀ c,iB (c)->Hp.get ⟨H.t.put b k,nx'⟩ c=if c=b then k else H.get c:=fun c hc=>by exact Mem.get_put H.t b c k
 refine⟨hn',fun c hc=>?_,fun c m hc h1 h2=>?_,fun c c' m m' hc hc' h1 h2 h3 h4 h5=>?_,fun c hc=>?_,fun c hc hc'=>?_⟩
 ·rw[hg c hc];by_cases e:c=b
  ·simp_all
  ·rw[kz e];exact((h.blk c hc).keep fun m h1 h2=>keep c m hc h1 h2).mono hle
 ·rw[hg c hc]at h1;by_cases e:c=b
  ·subst e;rw[pz rfl]at h1;rw[Im.bC]at h2;cases h2;exact hlow h1
  ·rw[kz e]at h1;rw[Im.dX _ _ e]at h2;exact lL (h.low c m hc h1 h2) size
 ·rw[hg c hc]at h1;rw[hg c' hc']at h2;by_cases e:c=b
  ·subst e;by_cases e':c'=c
   ·omega
   ·rw[kz e']at h2;rw[Im.bC]at h3;cases h3;rw[Im.dX _ _ e']at h4;exact absurd h5.symm (sep c' m' hc' h2 h4)
  ·rw[kz e]at h1;rw[Im.dX _ _ e]at h3;by_cases e':c'=b
   ·subst e';rw[Im.bC]at h4;cases h4;exact absurd h5 (sep c m hc (bO.bE h1) h3)
   ·rw[kz e']at h2;rw[Im.dX _ _ e']at h4;exact h.inj c c' m m' hc hc' h1 h2 h3 h4 h5
 ·have hcb:c≠b:=by simp only at hc;omega
  rw[Im.dX _ _ hcb];exact h.fresh c (tq hn hc)
 ·have hcb:c≠b:=by simp only at hc;omega
  rw[hg c hc',kz hcb];exact h.free c (tq hn hc) hc'
theorem HR.push{ι:Im}{H:Hp}{w w':World}(h:HR ι H w)(hx:iB (H.nx))(l:Loc)(k:bO)(os:w'.os=w.os)(tape:w'.tape=w.tape)(output:w'.output=w.output)(size:w.heap.size<w'.heap.size)(keep:∀ c,c<w.heap.size->w'.heap[c]? =w.heap[c]?)(hl:l.blk=w.heap.size)(hk:BR (ι.set H.nx l) w' H.nx k):HR (ι.set H.nx l) (aO H k) w'/\Fr ι (ι.set H.nx l) H (aO H k) w w':=by
 have hi:=h.fresh H.nx (lg _);have hd:=h.free H.nx (lg _) hx;refine⟨h.add hx hi hd (Nat.le_succ _) hx (ak _) l k (yw size) (fun c m hc h1 h2=>keep _ (h.low c m hc h1 h2)) (fun _=>by omega)
  (fun c m hc h1 h2=>by have:=h.low c m hc h1 h2;omega) hk,
  ⟨Im.iW l hi,Nat.le_succ _,fun c h1 h2=>?_,os,tape,output,yw size,fun c hc _=>keep c hc,fun c m hc h1 h2=>?_,fun c m hc h1 h2=>?_⟩⟩
 ·by_cases e:c=H.nx
  ·omega
  ·rw[Im.dX _ _ e]at h2;exact absurd h1 h2
 ·have hg:(aO H k).get c=if c=H.nx then k else H.get c:=by exact Mem.get_put H.t H.nx c k
  by_cases e:c=H.nx
  ·subst e;rw[Im.bC]at h2;cases h2;exact .inl (by omega)
  ·rw[hg,kz e]at h1;rw[Im.dX _ _ e]at h2;exact .inr ⟨c,m,hc,h1,h2,rfl⟩
 ·have hg:(aO H k).get c=if c=H.nx then k else H.get c:=by exact Mem.get_put H.t H.nx c k
  by_cases e:c=H.nx
  ·subst e;rw[Im.bC]at h2;cases h2;exact .inl (by omega)
  ·rw[hg,kz e]at h1;rw[Im.dX _ _ e]at h2;exact .inr ⟨c,m,hc,h1,h2,rfl⟩
/- stores -/
structure Wrote(w w':World)(blk off:Nat)(vs:List Value):Prop where
 os:w'.os=w.os
 tape:w'.tape=w.tape
 output:w'.output=w.output
 size:w'.heap.size=w.heap.size
 keep:∀ c,c≠blk->w'.heap[c]? =w.heap[c]?
 cell:∀ i,w'.cell? ⟨blk,i,none⟩=if off<=i/\i<off+vs.length then some (vs.getD (i-off) Go.undef)else w.cell? ⟨blk,i,none⟩
 frozen:∀ a,w'.frozen? a=w.frozen? a
theorem addr_add(b o i:Nat):Addr.add ⟨b,o,none⟩ i=⟨b,o+i,none⟩:=by
 unfold Addr.add;split
 ·subst_vars;rfl
 ·rfl
theorem qv2(P:Program)(w:World)(a:Addr)(v:Value){u:Value}(hc:w.cell? a=some u)(hf:w.frozen? a=false)(ho:v.oneCell=true):(Go.store a v).run P w=.ok () (w.setCell a v):=by unfold Go.store;cases v<;>first|(simp[Value.oneCell]at ho;done)|(simp only[Sem.run,hc,hf];rfl)
theorem qht(P:Program)(blk:Nat):∀(vs:List Value) (w:World) (o i:Nat), (∀j,j<vs.length->∃ u,w.cell? ⟨blk,o+i+j,none⟩=some u/\w.frozen? ⟨blk,o+i+j,none⟩=false)->(∀v∈vs,v.oneCell=true) -> ∃w',(storeCells ⟨blk,o,none⟩ vs i).run P w=.ok () w'/\Wrote w w' blk (o+i) vs:=by
 intro vs
 induction vs with
 |nil=>intro w o i _ _;exact⟨w,rfl,rfl,rfl,rfl,rfl,fun _ _=>rfl,fun j=>by rw[kz (by simp)],fun _=>rfl⟩
 |cons v vs ih=>
  intro w o i h1 h2;obtain⟨u,hu,hf⟩:=h1 0 (by simp);simp only[xy]at hu hf;obtain⟨w',hr,hw⟩:=ih (w.setCell ⟨blk,o+i,none⟩ v) o (i+1) (fun j hj=>by obtain⟨u',hu',hf'⟩:=h1 (j+1) (by simpa using hj);rw[show o+(i+1)+j=o+i+(j+1)by omega];refine⟨u',?_,by rw[World.frozen?_setCell];exact hf'⟩;rw[World.cell?_setCell_other];exact hu';intro e;simp at e) (fun x hx=>h2 x (by simp[hx]));refine⟨w',?_,hw.os,hw.tape,hw.output,by rw[hw.size];simp,fun c hc=>?_,fun j=>?_,fun a=>by rw[hw.frozen];simp⟩
  ·unfold storeCells;rw[addr_add,Sem.run_bind,qv2 P w _ v hu hf (h2 v (by simp))];exact hr
  ·rw[hw.keep c hc];exact Below.heap_setCell _ _ _ _ hc
  ·rw[hw.cell j];simp only[pg];by_cases e1:o+(i+1)<=j/\j<o+(i+1)+vs.length
   ·rw[pz e1,pz (by omega)];obtain⟨q,hq⟩:∃ q,j-(o+i)=q+1:=⟨j-(o+i)-1,by omega⟩;rw[hq,List.getD_cons_succ,show j-(o+(i+1))=q by omega]
   ·rw[kz e1];by_cases e2:j=o+i
    ·subst e2;rw[pz (by omega),World.cell?_setCell_same w _ v hu];simp
    ·rw[kz (by omega),World.cell?_setCell_other];intro e;simp at e;omega
theorem run_loadCellsFrom(P:Program)(w:World)(blk o:Nat):∀(vs:List Value) (i:Nat) (acc:Array Value), (∀j (v:Value),vs[j]? =some v->w.cell? ⟨blk,o+i+j,none⟩=some v) -> (loadCellsFrom ⟨blk,o,none⟩ i vs.length acc).run P w=.ok (acc++vs.toArray) w:=by
 intro vs
 induction vs with
 |nil=>intro i acc _;simp[loadCellsFrom]
 |cons v vs ih=>intro i acc h;have h0:=h 0 v rfl;simp only[xy]at h0;simp only[pg,loadCellsFrom,Sem.run_bind,addr_add,run_load,h0,Result.andThen_ok];rw[ih (i+1) _ fun j u hj=>by have:=h (j+1) u (by simpa using hj);rw[show o+(i+1)+j=o+i+(j+1)by omega];exact this];simp
theorem run_loadCells(P:Program)(w:World)(blk o:Nat)(vs:List Value)(h:∀ j (v:Value),vs[j]? =some v->w.cell? ⟨blk,o+j,none⟩=some v):(loadCells ⟨blk,o,none⟩ vs.length).run P w=.ok vs.toArray w:=by unfold loadCells;rw[run_loadCellsFrom P w blk o vs 0 #[] (by simpa using h)];simp
end Go.Ev
end
noncomputable section
namespace Go.Ev
open Go.RowKit
variable {P:Program} {w:World} {ι:Im}
theorem uL{a b:Nat}(h:Nat.blt a b=true):a<b:=zg h
theorem zcb{a b:Nat}(h:Nat.blt a b=false):¬ a<b:=fun k=>by have:Nat.blt a b=true:=xx k;simp_all
theorem oH{a b:Nat}(h:Nat.ble a b=true):a<=b:=zg h
theorem z8z{a b:Nat}(h:Nat.ble a b=false):¬ a<=b:=fun k=>by have:=xx k;simp_all
theorem vB{a b:Nat}(h:Nat.beq a b=true):a=b:=rf h
theorem qxd{a b:Nat}(h:Nat.beq a b=false):a≠b:=Nat.ne_of_beq_eq_false h
theorem bU{t:TypeId}{d:TypeDesc}(h:P.underlying t=some d):(underlying t).run P w=.ok d w:=by simp[underlying,h]
theorem zjw{t:TypeId}{i:TypeInfo}(h:P.info? t=some i):(typeInfo t).run P w=.ok i w:=by simp[typeInfo,h]
theorem nJ{t:TypeId}{n:Nat}(h:gX P t=some n):(sizeOf t).run P w=.ok n w:=by
 unfold gX at h;cases hi:P.info? t with
 |none=>simp[hi]at h
 |some i=>simp[hi]at h;simp[sizeOf,zjw hi,h]
theorem qv9{t:TypeId}{n:Nat}(h:qjw P t=some n):∃ i,(∀w,(typeInfo t).run P w=.ok i w)/\i.bytes=n:=by
 unfold qjw at h;cases hi:P.info? t with
 |none=>simp[hi]at h
 |some i=>simp[hi]at h;exact⟨i,fun _=>zjw hi,h⟩
theorem qgh{t:TypeId}{b:Bool}(h:p8 P t=some b):(isAgg t).run P w=.ok b w:=by
 unfold p8 at h;cases hi:P.underlying t with
 |none=>simp[hi]at h
 |some d=>simp only[hi,Option.map_some,qh]at h;unfold isAgg;rw[Sem.run_bind,bU hi];subst h;cases d<;>rfl
theorem qcz{t:TypeId}{z:Value}(h:(P.info? t).bind (·.zero)=some z):(zeroValue t).run P w=.ok z w:=by
 cases hi:P.info? t with
 |none=>simp[hi]at h
 |some i=>simp[hi]at h;simp[zeroValue,zjw hi,h]
theorem zke(v:Value)(h:aAS v=true):v.oneCell=true:=by cases v<;>simp_all [aAS,Value.oneCell]
theorem qkw(v:Value):aL ι (qo4 v) v:=by
 unfold qo4;split<;>simp only[aL]
 ·exact⟨_,rfl,rfl,rfl⟩
theorem qkv:∀ l:List Value,aI ι (l.map qo4) l
 | []=>by simp[aI]
 |v::l=>by simp only[zy,aI];exact⟨v,l,rfl,qkw v,qkv l⟩
theorem qgi(v:Value):aL ι (qwf v) v:=by
 unfold qwf;split
 ·rename_i cs;cases h:cs.toList.all aAS with
  |false=>simp[aL]
  |true=>exact⟨cs.toList,qkv _,by simp,fun v hv=>zke v (yc.1 h v hv)⟩
 ·rfl
 ·exact qkw _
theorem qqg{z:Value}{l:List AV}(h:qk4 z=some l):aI ι l z.cells.toList/\∀ v∈z.cells.toList,v.oneCell=true:=by
 unfold qk4 at h;split at h
 ·rename_i cs;cases hc:cs.toList.all aAS with
  |false=>simp[hc]at h
  |true=>simp[hc]at h;subst h;exact⟨by simpa [Value.cells] using qkv cs.toList,fun v hv=>zke v (yc.1 hc v (by simpa [Value.cells] using hv))⟩
 ·simp at h
 ·rename_i h1 h2;simp at h;subst h;have e:z.cells= #[z]:=by unfold Value.cells;split<;>first|rfl|simp_all
  rw[e];refine⟨aI.singleton (qkw z),fun v hv=>?_⟩;simp at hv;subst hv;cases v<;>simp_all [Value.oneCell]
theorem qcs{t:TypeId}{l:List AV}(h:qj1 P t=some l):∃ z,(P.info? t).bind (·.zero)=some z/\aI ι l z.cells.toList/\∀ v∈z.cells.toList,v.oneCell=true:=by
 unfold qj1 at h;cases hz:(P.info? t).bind (·.zero)with
 |none=>simp[hz]at h
 |some z=>rw[hz]at h;exact⟨z,rfl,qqg h⟩
theorem qmp{ι':Im}{w':World}{nm:Nat}{l:List AV}{vs:List Value}{loc:Loc}(hi:ι' nm=some loc)(hr:aI ι' l vs)(ho:∀ v∈vs,v.oneCell=true)(hc:∀(i:Nat) (v:Value),vs[i]? =some v->w'.cell? ⟨loc.blk,loc.base+i,none⟩=some v/\w'.frozen? ⟨loc.blk,loc.base+i,none⟩=false)(hx:∀ j,j<loc.ext*loc.z->∃ V,w'.cell? ⟨loc.blk,loc.base+(l.length+j),none⟩=some V/\w'.frozen? ⟨loc.blk,loc.base+(l.length+j),none⟩=false/\V.oneCell=true):BR ι' w' nm (aB loc.z l):=by
 have hle:l.length<=8 ^ iO l.length:=qb3 _;refine⟨loc,hi,⟨hle,rfl⟩,fun i hi'=>?_,fun _=>hx⟩;rw[qh8 _ _ _ _ (by omega) (by omega),pz (by omega)];have hg:l[i]? =some (l.getD i .undef):=by simp[hi']
 obtain⟨v,h1,h2⟩:=hr.get i _ hg;obtain⟨h3,h4⟩:=hc i v h1;exact⟨v,h3,by simpa using h2,ho v (uq h1),fun _=>h4⟩
structure New(w w':World)(l:Loc):Prop where
 os:w'.os=w.os
 tape:w'.tape=w.tape
 output:w'.output=w.output
 size:w'.heap.size=w.heap.size+1
 keep:∀ c,c<w.heap.size->w'.heap[c]? =w.heap[c]?
 blk:l.blk=w.heap.size
theorem New.alloc(w:World)(o:Obj)(e z:Nat):New w (w.alloc o) ⟨w.heap.size,0,e,z⟩:=
 ⟨rfl,rfl,rfl,by simp,fun c hc=>Below.heap_alloc w o c hc,rfl⟩
def iA(P:Program)(o:Oper)(ρ:Operand->Value)(ι:Im)(w:World)(nm:Nat):R0->Prop
 | .bad=>True
 | .val v=>∃ V,(execOp ρ o).run P w=.ok (.value V) w/\aL ι v V
 | .new v k=>∃ V w' l,(execOp ρ o).run P w=.ok (.value V) w'/\New w w' l/\∀ ι',ι.le ι'->ι' nm=some l->aL ι' v V/\BR ι' w' nm k
theorem qgl{l:List AV}{vs:List Value}(hr:aI ι l vs)(ho:∀ v∈vs,v.oneCell=true)(t:TypeId)(nm z:Nat):∀ι',ι.le ι'->ι' nm=some ⟨w.heap.size,0,0,z⟩->BR ι' (w.alloc (.cells vs.toArray t)) nm (aB z l):=by intro ι' hle hi;refine qmp (loc:=⟨w.heap.size,0,0,z⟩) hi (aI.mono hle _ _ hr) ho (fun i v hv=>?_) (fun j hj=>by simp at hj);simp[hv]
theorem dU{d n:Nat}{L:TT AV d}{a:Act}(h:LR ι d n L a.tmps)(x:Operand):aL ι ((aG d n x).f L) (a.eval x):=by
 cases x with
 |tmp t=>
  simp only[aG];cases ht:Nat.blt t n with
  |true=>have ht':=uL ht;have:=h.get t ht';trivial
  |false=>
   have ht':=zcb ht;simp only[zh,aL,Act.eval];have:a.tmps.size<=t:=by rw[h.size];omega
   simp[lAT this,Go.undef]
 |const v=>exact qgi v
 |global g=>simp[aG,aL,Act.eval]
 |func f=>simp only[aG,aL,Act.eval];exact⟨[],[],by simp[aI],by simp[aI],rfl⟩
theorem qct{d n:Nat}{L:TT AV d}{a:Act}(h:LR ι d n L a.tmps):∀ l:List Operand,aI ι ((tO d n l).f L) (l.map a.eval)
 | []=>by simp[tO,aI]
 |x::l=>by exact⟨_,_,rfl,dU h x,qct h l⟩
theorem zwq{o:Oper}{a:Act}{x:Operand}{nm:Nat}(ho:o.op=.move x\/o.op=.assign x){d n:Nat}{L:TT AV d}(h:LR ι d n L a.tmps):iA P o a.eval ι w nm (.val ((aG d n x).f L)):=by refine⟨a.eval x,?_,dU h x⟩;rcases ho with ho|ho<;>simp[execOp,ho]
theorem z5z{o:Oper}{a:Act}{c x y:Operand}{nm:Nat}(ho:o.op=.pick c x y){d n:Nat}{L:TT AV d}(h:LR ι d n L a.tmps):iA P o a.eval ι w nm (eD ((aG d n c).f L) ((aG d n x).f L) ((aG d n y).f L)):=by
 have hc:=dU h c;unfold eD;split
 ·rename_i e;rw[e]at hc;simp only[aL]at hc;exact⟨_,by simp[execOp,ho,asBool,hc],dU h x⟩
 ·rename_i e;rw[e]at hc;simp only[aL]at hc;exact⟨_,by simp[execOp,ho,asBool,hc],dU h y⟩
 ·trivial
theorem z1f{o:Oper}{ρ:Operand->Value}{t:TypeId}{nm:Nat}(ho:o.op=.alloc t){z:List AV}(hz:qj1 P t=some z):iA P o ρ ι w nm (.new (.ptr nm 0) (aB 0 z)):=by
 obtain⟨zv,h1,h2,h3⟩:=qcs (ι:=ι) hz;refine⟨.pointer (some ⟨w.heap.size,0,none⟩),_,⟨w.heap.size,0,0,0⟩,?_,New.alloc w (.cells zv.cells.toList.toArray t) 0 0,fun ι' hle hi=>⟨?_,qgl h2 h3 t nm 0 ι' hle hi⟩⟩
 ·simp only[execOp,ho,Instr.alloc,Sem.run_bind,qcz h1,Result.andThen_ok,newVar,newRow];simp
 ·simp only[aL];exact⟨_,hi,rfl⟩
def AV.plain:AV->Bool
 | .agg _| .aX _| .undef| .lit _=>false
 |_=>true
theorem aL.one{v:AV}{V:Value}(h:aL ι v V)(hv:v.plain=true):V.oneCell=true/\V.cells= #[V]:=by
 cases v<;>first|(simp[AV.plain]at hv;done)|skip
 all_goals simp only[aL]at h
 all_goals first
  |(subst h;exact⟨rfl,rfl⟩)
  |(obtain⟨_,rfl,_⟩:=h;exact⟨rfl,rfl⟩)
  |(obtain⟨_,_,rfl⟩:=h;exact⟨rfl,rfl⟩)
  |(obtain⟨_,_,_,rfl⟩:=h;exact⟨rfl,rfl⟩)
  |(obtain⟨_,_,_,_,rfl⟩:=h;exact⟨rfl,rfl⟩)
theorem z6f{o:Oper}{a:Act}{t:TypeId}{x:Operand}{nm:Nat}(ho:o.op=.box t x){d n:Nat}{L:TT AV d}(h:LR ι d n L a.tmps):iA P o a.eval ι w nm (jT nm ((aG d n x).f L)):=by
 have hx:=dU h x;unfold jT;split<;>first|trivial|skip
 rename_i hn1 hn2 yV hn4;have hp:((aG d n x).f L).plain=true:=by
  unfold AV.plain;split
  ·simp_all
  ·simp_all
  ·trivial
  ·simp_all
  ·rfl
 obtain⟨h1,hc⟩:=hx.one hp;refine⟨.pointer (some ⟨w.heap.size,0,none⟩),_,⟨w.heap.size,0,0,0⟩,?_,New.alloc w (.cells [a.eval x].toArray t) 0 0,fun ι' hle hi=>⟨?_,qgl (aI.singleton hx) (by simpa using h1) t nm 0 ι' hle hi⟩⟩
 ·simp[execOp,ho,Instr.box,newVar,newRow,hc]
 ·simp only[aL];exact⟨_,hi,rfl⟩
end Go.Ev
end
noncomputable section
namespace Go.Ev
open Go.RowKit
variable {P:Program} {w:World} {ι:Im} {o:Oper} {a:Act} {nm:Nat} {d n:Nat} {L:TT AV d} {H:Hp}
theorem z6e{t:TypeId}{x:Operand}(ho:o.op=.box t x)(k:Nat)(h:LR ι d n L a.tmps):iA P o a.eval ι w nm (pK k nm ((aG d n x).f L)):=by
 have hx:=dU h x;unfold pK;split
 ·rename_i l e;rw[e]at hx;simp only[aL]at hx;obtain⟨vs,h1,h2,h3⟩:=hx;cases Nat.beq l.length k with
  |false=>trivial
  |true=>
   refine⟨.pointer (some ⟨w.heap.size,0,none⟩),_,⟨w.heap.size,0,0,0⟩,?_,New.alloc w (.cells vs.toArray t) 0 0,fun ι' hle hi=>⟨?_,qgl h1 h3 t nm 0 ι' hle hi⟩⟩
   ·simp[execOp,ho,Instr.box,newVar,newRow,h2,Value.cells]
   ·simp only[aL];exact⟨_,hi,rfl⟩
 ·trivial
/- loads -/
theorem qyy{b:Nat}{k:bO}(hb:BR ι w b k){i:Nat}{v:AV}(h:dK k i=.val v):∃ l V,ι b=some l/\w.cell? ⟨l.blk,l.base+i,none⟩=some V/\aL ι v V/\V.oneCell=true:=by
 cases k with
 |cells d n c ro z=>
  obtain⟨l,h1,h2,h3,_⟩:=hb;simp only[dK]at h;cases hi:Nat.blt i n with
  |false=>rw[hi]at h;cases h
  |true=>rw[hi]at h;simp only[qy,R0.val.injEq]at h;subst h;obtain⟨V,h4,h5,h6,_⟩:=h3 i (uL hi);simp_all
 |_=>simp[dK]at h
theorem q4y(k:bO)(i:Nat):dK k i=.bad\/∃ v,dK k i=.val v:=by
 cases k with
 |cells d n c ro z=>
  cases hi:Nat.blt i n with
  |false=>left;simp[dK,hi]
  |true=>right;exact⟨_,by simp[dK,hi];rfl⟩
 |_=>left;rfl
theorem qe6{b:Nat}{k:bO}(hb:BR ι w b k){i m:Nat}{l:List AV}(h:eB k i m=some l):l.length=m/\(m=0\/∃ loc vs,ι b=some loc/\aI ι l vs/\vs.length=m/\(∀v∈vs,v.oneCell=true)/\∀(j:Nat) (v:Value),vs[j]? =some v->w.cell? ⟨loc.blk,loc.base+i+j,none⟩=some v):=by
 cases k with
 |cells d n c ro z=>
  obtain⟨loc,h1,h2,h3,_⟩:=hb;simp only[eB]at h;cases hi:Nat.ble (i+m) n with
  |false=>rw[hi]at h;cases h
  |true=>
   rw[hi]at h;simp only[qy,qh]at h;subst h;refine⟨qg9 _ _ _,.inr ?_⟩;have hle:=oH hi;have hex:∀ j,j<m->∃ V,w.cell? ⟨loc.blk,loc.base+(i+j),none⟩=some V/\aL ι ((dJ d (i+j)).f c) V/\V.oneCell=true:=fun j hj=>by obtain⟨V,h4,h5,h6,_⟩:=h3 (i+j) (by omega);exact⟨V,h4,h5,h6⟩
   obtain⟨f,hf⟩:∃ f:Nat->Value,∀j,j<m->w.cell? ⟨loc.blk,loc.base+(i+j),none⟩=some (f j)/\aL ι ((dJ d (i+j)).f c) (f j)/\(f j).oneCell=true:=by refine⟨fun j=>if hj:j<m then Classical.choose (hex j hj)else .nilFunc,fun j hj=>?_⟩;simp only[hj,dif_pos];exact ul (hex j hj)
   refine⟨loc,(List.range m).map f,h1,aI.aAd (by simp[qg9]) fun j x hx=>?_,by simp,fun v hv=>?_,fun j v hv=>?_⟩
   ·have hj:j<m:=by
     rcases yf j m with h'|h'
     ·exact h'
     ·rw[bf (by rw[qg9];exact h')]at hx;cases hx
    rw[zjs _ _ _ _ hj]at hx;cases hx;simp_all
   ·simp at hv;obtain⟨j,hj,rfl⟩:=hv;exact(hf j hj).2.2
   ·have hj:j<m:=by
     rcases yf j m with h'|h'
     ·exact h'
     ·simp_all
    simp[hj]at hv;subst hv;rw[uk];exact(hf j hj).1
 |_=>simp[eB]at h
theorem z08{t:TypeId}{x:Operand}(ho:o.op=.load t x)(ht:p8 P t=some false)(hH:HR ι H w)(h:LR ι d n L a.tmps):iA P o a.eval ι w nm (aT H ((aG d n x).f L)):=by
 have hx:=dU h x;unfold aT;split
 ·rename_i b i e;rw[e]at hx;simp only[aL]at hx;obtain⟨l,h1,h2⟩:=hx;rcases q4y (H.get b) i with hb|⟨v,hb⟩
  ·rw[hb];trivial
  ·rw[hb];obtain⟨l',V,h3,h4,h5,_⟩:=qyy (hH.blk b (hH.lt h1)) hb;rw[h1]at h3;cases h3;exact⟨V,by simp[execOp,ho,Instr.loadAt,h2,Instr.sureAddr,loadVar,qgh ht,h4],h5⟩
 ·trivial
theorem z07{t:TypeId}{x:Operand}(ho:o.op=.load t x)(ht:p8 P t=some true){k:Nat}(hk:gX P t=some k)(hH:HR ι H w)(h:LR ι d n L a.tmps):iA P o a.eval ι w nm (dD k H ((aG d n x).f L)):=by
 have hx:=dU h x;unfold dD;split
 ·rename_i b i e;rw[e]at hx;simp only[aL]at hx;obtain⟨l,h1,h2⟩:=hx;cases hb:eB (H.get b) i k with
  |none=>trivial
  |some cs=>
   obtain⟨hlen,hr⟩:=qe6 (hH.blk b (hH.lt h1)) hb;have run:∀ vs:List Value,vs.length=k->(∀(j:Nat) (v:Value),vs[j]? =some v->w.cell? ⟨l.blk,l.base+i+j,none⟩=some v)->(execOp a.eval o).run P w=.ok (.value (.agg vs.toArray)) w:=fun vs h3 h4=>by have:=run_loadCells P w l.blk (l.base+i) vs h4;rw[h3]at this;simp[execOp,ho,Instr.loadAt,h2,Instr.sureAddr,loadVar,qgh ht,nJ hk,this]
   rcases hr with rfl|⟨loc,vs,h3,h4,h5,h6,h7⟩
   ·have:cs=[]:=ry.1 hlen;subst this;exact⟨_,run [] rfl (by simp),by simp only[aL];exact⟨[],by simp[aI],rfl,by simp⟩⟩
   ·rw[h1]at h3;cases h3;exact⟨_,run vs h5 h7,by simp only[aL];exact⟨vs,h4,rfl,h6⟩⟩
 ·trivial
theorem za1{x:Operand}(ho:o.op=.nilCheck x)(h:LR ι d n L a.tmps):iA P o a.eval ι w nm (match(aG d n x).f L with| .ptr b o=>.val (.ptr b o)| .fn a b c=>.val (.fn a b c)| .yield l=>.val (.yield l)|_=>.bad):=by
 have hx:=dU h x;split
 ·rename_i e;rw[e]at hx;refine⟨a.eval x,?_,hx⟩;simp only[aL]at hx;obtain⟨l,_,h2⟩:=hx;simp[execOp,ho,h2]
 ·rename_i e;rw[e]at hx;refine⟨a.eval x,?_,hx⟩;simp only[aL]at hx;obtain⟨F,C,_,_,h2⟩:=hx;simp[execOp,ho,h2]
 ·rename_i e;rw[e]at hx;refine⟨a.eval x,?_,hx⟩;simp only[aL]at hx;obtain⟨l,_,h2⟩:=hx;simp[execOp,ho,h2]
 ·trivial
theorem q40{s:TypeId}{x:Operand}{f:Nat}(ho:o.op=.fieldAddr s x f){fs:Array Field}(hs:P.underlying s=some (.struct fs)){fl:Field}(hf:fs[f]? =some fl){z:Nat}(hz:gX P fl.type=some (z+1))(h:LR ι d n L a.tmps):iA P o a.eval ι w nm (aP fl.offset ((aG d n x).f L)):=by
 have hx:=dU h x;unfold aP;split
 ·rename_i b i e;rw[e]at hx;simp only[aL]at hx;obtain⟨l,h1,h2⟩:=hx;refine⟨.pointer (some ⟨l.blk,l.base+(i+fl.offset),none⟩),?_,by simp only[aL];exact⟨l,h1,rfl⟩⟩;simp[execOp,ho,Instr.fieldAt,bU hs,hf,h2,Instr.sureAddr,fieldPlace,nJ hz,addr_add,uk]
 ·trivial
theorem z6c{t e:TypeId}{x y:Operand}(ho:o.op=.indexAddr t x y)(ht:P.underlying t=some (.slice e)){z:Nat}(hz:gX P e=some z)(h:LR ι d n L a.tmps):iA P o a.eval ι w nm (aH z ((aG d n x).f L) ((aG d n y).f L)):=by
 have hx:=dU h x;have hy:=dU h y;unfold aH;split
 ·rename_i b i len cap ex k j e1 e2;rw[e1]at hx;rw[e2]at hy;simp only[aL]at hx hy;obtain⟨_,l,h1,h2⟩:=hx;cases hj:Nat.blt j len with
  |false=>trivial
  |true=>have hj':=uL hj;refine⟨.pointer (some ⟨l.blk,l.base+(i+j*z),none⟩),?_,by simp only[aL];exact⟨l,h1,rfl⟩⟩;simp[execOp,ho,Instr.indexAt,hy,h2,asIntOf,bU ht,nJ hz,hj',addr_add,uk]
 ·trivial
theorem z6d{t e:TypeId}{x y:Operand}(ho:o.op=.indexAddr t x y){len:Nat}(ht:P.underlying t=some (.array len e)){z:Nat}(hz:gX P e=some z)(h:LR ι d n L a.tmps):iA P o a.eval ι w nm (fQ len z ((aG d n x).f L) ((aG d n y).f L)):=by
 have hx:=dU h x;have hy:=dU h y;unfold fQ;split
 ·rename_i b i k j e1 e2;rw[e1]at hx;rw[e2]at hy;simp only[aL]at hx hy;obtain⟨l,h1,h2⟩:=hx;cases hj:Nat.blt j len with
  |false=>trivial
  |true=>have hj':=uL hj;refine⟨.pointer (some ⟨l.blk,l.base+(i+j*z),none⟩),?_,by simp only[aL];exact⟨l,h1,rfl⟩⟩;simp[execOp,ho,Instr.indexAt,hy,h2,asIntOf,bU ht,nJ hz,hj',addr_add,uk,Instr.sureAddr]
 ·trivial
theorem ztp{a b:IntKind}(h:vO a b=true):a=b:=by cases a<;>cases b<;>first|rfl|(simp[vO,zle]at h)
theorem qfc(a b:Int):rD a b=(a==b):=by rw[lAQ];cases a<;>cases b<;>simp[rD,Nat.beq_eq];omega
theorem uT(k:IntKind)(n:Int):aL ι (.int k n) (.int k n):=by simp only[aL]
theorem qv6(b:Bool):aL ι (.bool b) (.bool b):=by simp only[aL]
theorem qei(a b:Int):pO a b=decide (a<b):=by
 have hb:∀ m n:Nat,Nat.blt m n=decide (m<n):=fun m n=>by
  cases h:Nat.blt m n with
  |true=>simp[uL h]
  |false=>simp[zcb h]
 cases a with
 |ofNat m=>cases b with
  |ofNat n=>simp[pO,hb]
  |negSucc n=>simp[pO];omega
 |negSucc m=>cases b with
  |ofNat n=>simp[pO];omega
  |negSucc n=>simp only[pO,hb];congr 1;simp;omega
theorem zlp{k:IntKind}{n:Int}(h:qw1 k n=true):k.wrap n=n:=by
 cases n with
 |ofNat m=>
  cases k<;>simp only[qw1]at h<;>have h:=uL h
  ·exact IntWalk.i8_in _ (by simp only[rq];omega)
  ·exact IntWalk.i16_in _ (by simp only[rq];omega)
  ·exact IntWalk.i32_in _ (by simp only[rq];omega)
  ·exact IntWalk.i64_in _ (by simp only[rq];omega)
  ·exact IntWalk.u8_in _ (by simp only[rq];omega)
  ·exact IntWalk.u16_in _ (by simp only[rq];omega)
  ·exact IntWalk.u32_in _ (by simp only[rq];omega)
  ·exact IntWalk.u64_in _ (by simp only[rq];omega)
 |negSucc m=>
  cases k<;>simp only[qw1]at h<;>first|(cases h;done)|have h:=uL h
  ·exact IntWalk.i8_in _ (by omega)
  ·exact IntWalk.i16_in _ (by omega)
  ·exact IntWalk.i32_in _ (by omega)
  ·exact IntWalk.i64_in _ (by omega)
theorem qjy(k:IntKind)(n:Int):uS k n=k.wrap n:=by
 unfold uS;cases h:qw1 k n with
 |true=>simp[zlp h]
 |false=>rfl
theorem q4u{op:BinOp}{t ty:TypeId}{x y:Operand}(ho:o.op=.binOp op t x y ty){k:IntKind}{m p:Int}(hx:a.eval x=.int k m)(hy:a.eval y=.int k p):(execOp a.eval o).run P w=((binOp op t (.int k m) (.int k p)).run P w).andThen fun v w=>.ok (.value v) w:=by simp only[execOp,ho,hx,hy,eqGuard];simp
theorem zli{op:BinOp}{t ty:TypeId}{x y:Operand}(ho:o.op=.binOp op t x y ty)(hop:op≠ .shl/\op≠ .shr){k:IntKind}{m p:Int}(hx:a.eval x=.int k m)(hy:a.eval y=.int k p):iA P o a.eval ι w nm ((nH op).f k m p):=by
 have hr:=q4u (P:=P) (w:=w) ho hx hy;cases op<;>simp only[nH]
 case shl=>exact absurd rfl hop.1
 case shr=>exact absurd rfl hop.2
 case quo|rem=>
  cases hz:rD p 0 with
  |true=>trivial
  |false=>
   have hz':p≠0:=by rw[qfc]at hz;simpa using hz
   refine⟨_,?_,uT _ _⟩;rw[hr];simp[binOp,Op.intDiv,hz',qjy]
 all_goals
  refine⟨_,?_,by first|exact uT _ _|exact qv6 _⟩;rw[hr];simp[binOp,Op.intArith,Op.intBits,Op.intCmp,qjy,qfc,qei]
 all_goals first|rfl|(rw[<-decide_not];congr 1;simp)
theorem aJH{op:BinOp}{t ty:TypeId}{x y:Operand}(ho:o.op=.binOp op t x y ty)(hop:op≠ .shl/\op≠ .shr)(h:LR ι d n L a.tmps):iA P o a.eval ι w nm (gY (nH op).f ((aG d n x).f L) ((aG d n y).f L)):=by
 have hx:=dU h x;have hy:=dU h y;unfold gY;split
 ·rename_i k m k' p e1 e2;rw[e1]at hx;rw[e2]at hy;simp only[aL]at hx hy;cases hk:vO k k' with
  |false=>trivial
  |true=>have:=ztp hk;subst this;exact zli ho hop hx hy
 ·trivial
theorem zj1{op:BinOp}{t ty:TypeId}{x y:Operand}(ho:o.op=.binOp op t x y ty)(hop:op=.shl\/op=.shr)(h:LR ι d n L a.tmps):iA P o a.eval ι w nm (qyi (qje op).f ((aG d n x).f L) ((aG d n y).f L)):=by
 have hx:=dU h x;have hy:=dU h y;unfold qyi;split
 ·rename_i k m k' p e1 e2;rw[e1]at hx;rw[e2]at hy;simp only[aL]at hx hy;have hr:(execOp a.eval o).run P w=((binOp op t (.int k m) (.int k' p)).run P w).andThen fun v w=>.ok (.value v) w:=by
   simp only[execOp,ho,hx,hy,eqGuard];simp
  rcases hop with rfl|rfl<;>simp only[qje]
  all_goals
   cases hz:pO p 0 with
   |true=>trivial
   |false=>
    have hz':¬ p<0:=by rw[qei]at hz;simpa using hz
    refine⟨_,?_,uT _ _⟩;rw[hr];simp[binOp,Op.shift,hz',qjy]
 ·trivial
theorem aVi{op:UnOp}{t:TypeId}{x:Operand}(ho:o.op=.unOp op t x)(h:LR ι d n L a.tmps):iA P o a.eval ι w nm ((l8 op).f ((aG d n x).f L)):=by
 have hx:=dU h x;cases op<;>simp only[l8]<;>first|trivial|skip
 ·split
  ·rename_i e;rw[e]at hx;simp only[aL]at hx;exact⟨_,by simp[execOp,ho,hx,Op.unary,Op.intArith,qjy],uT _ _⟩
  ·trivial
 ·split
  ·rename_i e;rw[e]at hx;simp only[aL]at hx;exact⟨_,by simp[execOp,ho,hx,Op.unary],qv6 _⟩
  ·trivial
theorem z1d{s t:TypeId}{x:Operand}(ho:o.op=.convert s t x){ds:TypeDesc}(hs:P.underlying s=some ds){k:IntKind}(ht:P.underlying t=some (.int k))(h:LR ι d n L a.tmps):iA P o a.eval ι w nm (qw7 k ((aG d n x).f L)):=by
 have hx:=dU h x;unfold qw7;split
 ·rename_i e;rw[e]at hx;simp only[aL]at hx;exact⟨_,by simp[execOp,ho,hx,convert,bU hs,bU ht,Conv.intToInt,qjy],uT _ _⟩
 ·trivial
theorem z1c{s t:TypeId}{x:Operand}(ho:o.op=.convert s t x)(hs:P.underlying s=some .string)(ht:P.underlying t=some .string)(h:LR ι d n L a.tmps):iA P o a.eval ι w nm (match(aG d n x).f L with| .str n a=>.val (.str n a)|_=>.bad):=by
 have hx:=dU h x;split
 ·rename_i e;rw[e]at hx;refine⟨a.eval x,?_,hx⟩;obtain⟨z,h1,_⟩:=hx;simp[execOp,ho,h1,convert,bU hs,bU ht]
 ·trivial
theorem qor{t:TypeId}{x:Operand}(ho:o.op=.makeInterface t x){dt:TypeDesc}(ht:P.underlying t=some dt)(hn:∀ ms,dt≠ .interface ms)(h:LR ι d n L a.tmps):iA P o a.eval ι w nm (.val (.iface t ((aG d n x).f L))):=by refine⟨.iface t (a.eval x),?_,by simp only[aL];exact⟨_,dU h x,rfl⟩⟩;simp only[execOp,ho,Instr.makeInterface,Sem.run_bind,bU ht,Result.andThen_ok];rfl
theorem za2{f:FuncId}{first cap:Array Operand}(ho:o.op=.makeFunc (.func f) first cap)(h:LR ι d n L a.tmps):iA P o a.eval ι w nm (.val (.fn f ((tO d n first.toList).f L) ((tO d n cap.toList).f L))):=by refine⟨.func (.func f) (first.map a.eval) (cap.map a.eval),by simp[execOp,ho,Instr.makeFunc],?_⟩;exact⟨_,_,qct h _,qct h _,by rw[<-og,<-og]⟩
theorem zj2{t:TypeId}(ho:o.op=.makeMap t none):iA P o a.eval ι w nm (.new (.map nm) (.map [] 0)):=by
 refine⟨.map (some w.heap.size),w.alloc (.map #[] 0),⟨w.heap.size,0,0,0⟩,?_,New.alloc w _ 0 0,fun ι' hle hi=>⟨by simp only[aL];exact⟨_,hi,rfl⟩,⟨_,[],hi,?_,by simp[bY]⟩⟩⟩
 ·simp[execOp,ho,Instr.makeMap]
 ·show(w.heap.push _)[w.heap.size]? =_;simp
theorem zj3{x:Operand}{i:Nat}(ho:o.op=.extract x i)(h:LR ι d n L a.tmps):iA P o a.eval ι w nm (match(aG d n x).f L with
   | .aX l=>match l[i]? with|some v=>.val v|none=>.bad
   |_=>.bad):=by
 have hx:=dU h x;split
 ·rename_i l e;rw[e]at hx;simp only[aL]at hx;obtain⟨vs,h1,h2⟩:=hx;split
  ·rename_i v hv;obtain⟨V,h3,h4⟩:=h1.get i v hv;exact⟨V,by simp[execOp,ho,h2,Instr.extract,h3],h4⟩
  ·trivial
 ·trivial
theorem qg3(s:ByteArray):s.toList=s.data.toList:=ByteArray.toList_eq s
theorem qb1(b:UInt8)(l:List UInt8):jL (b::l)=jL l*256+b.toNat:=rfl
theorem qmn:jL []=0:=rfl
theorem qk7(b:UInt8):b.toNat<256:=b.toNat_lt
theorem pack_inj:∀{l m:List UInt8},l.length=m.length->jL l=jL m->l=m
 | [],[],_,_=>rfl
 | [],_::_,h,_=>by simp at h
 |_::_,[],h,_=>by simp at h
 |b::l,c::m,h,k=>by
  rw[qb1,qb1]at k;have h1:=qk7 b;have h2:=qk7 c;have e1:b.toNat=c.toNat:=by omega
  have e2:jL l=jL m:=by omega
  rw[UInt8.toNat_inj.1 e1,pack_inj (by simpa using h) e2]
theorem qo2:∀ l m:List UInt8,jL (l++m)=jL l+256 ^ l.length*jL m
 | [],m=>by simp[qmn]
 |b::l,m=>by rw[nz,qb1,qb1,qo2 l m,pg,Nat.pow_succ,xh,Nat.mul_assoc,Nat.mul_assoc,lA5 (jL m) 256];omega
theorem qo1:∀(l:List UInt8) (k:Nat),jL (l.drop k)=jL l / 256 ^ k
 |l,0=>by simp
 | [],k+1=>by simp[qmn]
 |b::l,k+1=>by have:=qk7 b;rw[List.drop_succ_cons,qo1 l k,qb1,Nat.pow_succ,lA5 (256 ^ k) 256,<-Nat.div_div_eq_div_mul];congr 1;omega
theorem qy5:∀(l:List UInt8) (k:Nat),jL (l.take k)=jL l%256 ^ k
 |l,0=>by simp[qmn,Nat.mod_one]
 | [],k+1=>by simp[qmn]
 |b::l,k+1=>by have:=qk7 b;rw[dm,qb1,qb1,qy5 l k,Nat.pow_succ,lA5 (256 ^ k) 256,Nat.mod_mul,show(jL l*256+b.toNat) / 256=jL l by omega,show(jL l*256+b.toNat)%256=b.toNat by omega];omega
theorem zj7(k:Nat):256 ^ k=2 ^ (8*k):=by rw[Nat.pow_mul]
theorem qwr(x:Nat):Nat.land x 255=x%256:=by have:=Nat.and_two_pow_sub_one_eq_mod x 8;omega
theorem aD0(x k:Nat):Nat.shiftRight x (Nat.mul 8 k)=x / 256 ^ k:=by have:=Nat.shiftRight_eq_div_pow x (8*k);rw[zj7];exact this
theorem aKj(x k:Nat):Nat.shiftLeft x (Nat.mul 8 k)=256 ^ k*x:=by have:=Nat.shiftLeft_eq x (8*k);rw[zj7,lA5];exact this
theorem aOc(x k:Nat):Nat.land x (Nat.sub (Nat.shiftLeft 1 (Nat.mul 8 k)) 1)=x%256 ^ k:=by rw[aKj,qj,zj7];simp
theorem qz7(l:List UInt8)(i:Nat)(h:i<l.length):vC (jL l) i=(l[i]).toNat:=by unfold vC;rw[qwr,aD0,<-qo1,ut h,qb1];simp
theorem yR.eq{n a m b:Nat}{s t:ByteArray}(h:yR n a s)(k:yR m b t):eqS n a m b=(s.data.toList==t.data.toList):=by obtain⟨rfl,rfl⟩:=h;obtain⟨rfl,rfl⟩:=k;unfold eqS;rw[lAQ];simp only[pq,Nat.beq_eq,beq_iff_eq];exact⟨fun⟨h1,h2⟩=>pack_inj h1 h2,fun h=>by rw[h];exact⟨rfl,rfl⟩⟩
theorem yR.append{n a m b:Nat}{s t:ByteArray}(h:yR n a s)(k:yR m b t):yR (n+m) (Nat.add a (Nat.shiftLeft b (Nat.mul 8 n))) (s++t):=by
 obtain⟨rfl,rfl⟩:=h;obtain⟨rfl,rfl⟩:=k;have e:(s++t).data.toList=s.data.toList++t.data.toList:=by simp
 exact⟨by rw[e,lq],by rw[e,qo2,aKj];rfl⟩
theorem q5c:∀(l m:List UInt8),qd1 l.length l.length (jL l) m.length (jL m)=Op.bytesLess l m
 | [],[]=>rfl
 | [],c::m=>by simp[qd1,Op.bytesLess];rfl
 |b::l,[]=>by simp[qd1,Op.bytesLess]
 |b::l,c::m=>by
  have ih:=q5c l m;have hb:=qk7 b;have hc:=qk7 c;have e1:Nat.land (jL (b::l)) 255=b.toNat:=by rw[qwr,qb1];omega
  have e2:Nat.land (jL (c::m)) 255=c.toNat:=by rw[qwr,qb1];omega
  have e3:Nat.shiftRight (jL (b::l)) 8=jL l:=by have:=aD0 (jL (b::l)) 1;rw[this,qb1];omega
  have e4:Nat.shiftRight (jL (c::m)) 8=jL m:=by have:=aD0 (jL (c::m)) 1;rw[this,qb1];omega
  show(bif Nat.beq (m.length+1) 0 then false else bif Nat.beq (l.length+1) 0 then true else
   bif Nat.beq (Nat.land (jL (b::l)) 255) (Nat.land (jL (c::m)) 255)then qd1 l.length (Nat.pred (l.length+1)) (Nat.shiftRight (jL (b::l)) 8) (Nat.pred (m.length+1)) (Nat.shiftRight (jL (c::m)) 8)
   else Nat.blt (Nat.land (jL (b::l)) 255) (Nat.land (jL (c::m)) 255))=_
  rw[e1,e2,e3,e4];simp only[Nat.pred_succ,Op.bytesLess,ih];have h0:∀ k,Nat.beq (k+1) 0=false:=fun _=>rfl;rw[h0,h0,zh,zh];cases hbc:Nat.beq b.toNat c.toNat with
  |true=>have e:=UInt8.toNat_inj.1 (vB hbc);subst e;simp
  |false=>
   have e:b≠c:=fun e=>qxd hbc (by rw[e]);cases hl:Nat.blt b.toNat c.toNat with
   |true=>have:=uL hl;simp[UInt8.lt_iff_toNat_lt,this]
   |false=>have:=zcb hl;simp[UInt8.lt_iff_toNat_lt,this,e]
theorem yR.less{n a m b:Nat}{s t:ByteArray}(h:yR n a s)(k:yR m b t):qd1 n n a m b=Op.bytesLess s.data.toList t.data.toList:=by obtain⟨rfl,rfl⟩:=h;obtain⟨rfl,rfl⟩:=k;exact q5c _ _
theorem qoq{n a:Nat}{s:ByteArray}(h:yR n a s):aL ι (.str n a) (.string s):=by simp only[aL];exact⟨s,rfl,h⟩
theorem zr6{op:BinOp}{t ty:TypeId}{x y:Operand}(ho:o.op=.binOp op t x y ty)(h:LR ι d n L a.tmps):iA P o a.eval ι w nm (fO (mJ op).f ((aG d n x).f L) ((aG d n y).f L)):=by
 have hx:=dU h x;have hy:=dU h y;unfold fO;split
 ·rename_i n1 a1 m1 b1 e1 e2;rw[e1]at hx;rw[e2]at hy;simp only[aL]at hx hy;obtain⟨s,hs,h1⟩:=hx;obtain⟨u,hu,h2⟩:=hy;have hr:(execOp a.eval o).run P w=((binOp op t (.string s) (.string u)).run P w).andThen fun v w=>.ok (.value v) w:=by
   simp only[execOp,ho,hs,hu,eqGuard];simp
  cases op<;>simp only[mJ]<;>first|trivial|skip
  case add=>
   cases hle:Nat.ble (n1+m1) 1099511627776 with
   |false=>trivial
   |true=>
    have hle:=oH hle;refine⟨_,?_,qoq (h1.append h2)⟩;rw[hr];have e1:s.size=n1:=h1.1;have e2:u.size=m1:=h2.1;have:¬(((s.size+u.size:Nat):Int)>IntKind.i64.max):=by
     have:IntKind.i64.max=9223372036854775807:=by decide
     omega
    simp only[binOp,Op.stringOp,kz this,Sem.run_pure,Result.andThen_ok]
  all_goals
   refine⟨_,?_,qv6 _⟩;rw[hr];simp[binOp,Op.stringOp,qg3,h1.eq h2,h1.less h2]
 ·trivial
theorem zsa{t:TypeId}{x y:Operand}(ho:o.op=.index t x y)(ht:P.underlying t=some .string)(h:LR ι d n L a.tmps):iA P o a.eval ι w nm (qek ((aG d n x).f L) ((aG d n y).f L)):=by
 have hx:=dU h x;have hy:=dU h y;unfold qek;split
 ·rename_i n1 a1 k j e1 e2;rw[e1]at hx;rw[e2]at hy;simp only[aL]at hx hy;obtain⟨s,hs,h1,h2⟩:=hx;cases hj:Nat.blt j n1 with
  |false=>trivial
  |true=>
   have hj':=uL hj;have hlt:j<s.data.toList.length:=by omega
   refine⟨_,?_,uT _ _⟩;have hsz:s.size=n1:=h1;have hg:s[j]? =some (s.data.toList[j]):=by
    have:j<s.size:=by omega
    rw[getElem?_pos s j this];simp;rfl
   rw[<-h2,qz7 _ _ hlt];simp[execOp,ho,Instr.index,hs,hy,asIntOf,bU ht,hg]
 ·trivial
def yZ(ι:Im):Option AV->Option Value->Prop
 |none,none=>True
 |some a,some v=>aL ι a v
 |_,_=>False
theorem qdf(h:LR ι d n L a.tmps)(x:Option Operand):yZ ι ((xS d n x).f L) (x.map a.eval):=by
 cases x with
 |none=>simp[xS,yZ]
 |some x=>simp only[xS,Option.map_some,yZ];exact dU h x
theorem q0b{x:AV}{X:Value}(hx:aL ι x X){df y k Y:Nat}(h:bnd (some x) df y=some k)(hY:y<=Y)(c:BoundsCode):(Instr.sliceBound X Y c).run P w=.ok k w/\k<=y:=by
 unfold bnd at h;split at h
 ·simp_all
 ·rename_i kk m e;cases e;cases hm:Nat.ble m y with
  |false=>rw[hm]at h;cases h
  |true=>
   rw[hm]at h;simp only[qy,qh]at h;subst h;have:=oH hm;have hle:(m:Int)<=Y:=by omega
   subst hx;exact⟨by simp[Instr.sliceBound,asIntOf,hle],this⟩
 ·cases h
theorem qjx{lo hi mx:Option AV}{LO HI MX:Option Value}(hl:yZ ι lo LO)(hh:yZ ι hi HI)(hm:yZ ι mx MX){len cap C:Nat}{bd:Bd}(h:bounds len cap lo hi mx=some bd)(hC:cap<=C)(hlc:len<=cap)(isS:Bool):(Instr.sliceBounds isS len C LO HI MX).run P w=.ok (bd.l,bd.h,if mx.isSome then bd.m else C) w/\bd.l<=bd.h/\bd.h<=bd.m/\bd.m<=cap/\(mx=none->bd.m=cap):=by
 cases mx with
 |none=>
  cases MX with
  |some _=>exact hm.elim
  |none=>
   unfold bounds at h;have e0:bnd none cap cap=some cap:=rfl;rw[e0]at h;simp only at h;cases h2:bnd hi len cap with
   |none=>rw[h2]at h;cases h
   |some hh'=>
    rw[h2]at h;simp only at h;cases h3:bnd lo 0 hh' with
    |none=>rw[h3]at h;cases h
    |some ll=>
     rw[h3]at h;simp only[qh]at h;subst h;have aVD:hh'<=cap/\(Instr.sliceBounds isS len C LO HI none).run P w=((match LO with|some v=>Instr.sliceBound v hh' .sliceB|none=>pure 0).run P w).andThen fun l w=>.ok (l,hh',C) w:=by
      cases hi with
      |none=>
       cases HI with
       |some _=>exact hh.elim
       |none=>simp only[bnd,qh]at h2;subst h2;refine⟨hlc,?_⟩;cases LO<;>simp[Instr.sliceBounds]
      |some hi=>
       cases HI with
       |none=>exact hh.elim
       |some HI=>obtain⟨r1,r2⟩:=q0b (P:=P) (w:=w) (ι:=ι) hh h2 hC (if isS then .sliceAcap else .sliceAlen);refine⟨r2,?_⟩;cases LO<;>simp[Instr.sliceBounds,r1]
     rw[aVD.2];cases lo with
     |none=>
      cases LO with
      |some _=>exact hl.elim
      |none=>simp only[bnd,qh]at h3;subst h3;simp;omega
     |some lo=>
      cases LO with
      |none=>exact hl.elim
      |some LO=>obtain⟨r1,r2⟩:=q0b (P:=P) (w:=w) (ι:=ι) hl h3 (lg _) .sliceB;simp_all
 |some mx=>
  cases MX with
  |none=>exact hm.elim
  |some MX=>
   cases hi with
   |none=>simp[bounds]at h
   |some hi=>
    cases HI with
    |none=>exact hh.elim
    |some HI=>
     unfold bounds at h;cases h1:bnd (some mx) cap cap with
     |none=>rw[h1]at h;cases h
     |some mm=>
      rw[h1]at h;simp only at h;cases h2:bnd (some hi) len mm with
      |none=>rw[h2]at h;cases h
      |some hh'=>
       rw[h2]at h;simp only at h;cases h3:bnd lo 0 hh' with
       |none=>rw[h3]at h;cases h
       |some ll=>
        rw[h3]at h;simp only[qh]at h;subst h;obtain⟨m1,m2⟩:=q0b (P:=P) (w:=w) (ι:=ι) hm h1 hC (if isS then .slice3Acap else .slice3Alen);obtain⟨r1,r2⟩:=q0b (P:=P) (w:=w) (ι:=ι) hh h2 (lg _) .slice3B;cases lo with
        |none=>
         cases LO with
         |some _=>exact hl.elim
         |none=>simp only[bnd,qh]at h3;subst h3;simp[Instr.sliceBounds,m1,r1];omega
        |some lo=>
         cases LO with
         |none=>exact hl.elim
         |some LO=>obtain⟨l1,l2⟩:=q0b (P:=P) (w:=w) (ι:=ι) hl h3 (lg _) .slice3C;simp[Instr.sliceBounds,m1,r1,l1];omega
theorem za0{t:TypeId}{x:Operand}{lo hi:Option Operand}(ho:o.op=.slice t x lo hi none)(ht:P.underlying t=some .string)(h:LR ι d n L a.tmps):iA P o a.eval ι w nm (qvx ((aG d n x).f L) ((xS d n lo).f L) ((xS d n hi).f L)):=by
 have hx:=dU h x;unfold qvx;split
 ·rename_i m bits e;rw[e]at hx;simp only[aL]at hx;obtain⟨s,h1,h2,h3⟩:=hx;split
  ·rename_i bd hb;obtain⟨r,r1,r2,r3,r4⟩:=qjx (P:=P) (w:=w) (ι:=ι) (qdf h lo) (qdf h hi) (show yZ ι none none from trivial) hb (lg _) (lg _) false;have hsz:s.size=m:=h2;refine⟨.string (s.extract bd.l bd.h),?_,qoq ⟨?_,?_⟩⟩
   ·simp only[execOp,ho,Instr.sliceAt,Sem.run_bind,bU ht,Result.andThen_ok,Instr.slice,h1,Option.map_none,hsz];simp[r]
   ·have:(s.extract bd.l bd.h).size=min bd.h s.size-bd.l:=by simp
    show(s.extract bd.l bd.h).size=_;omega
   ·have:(s.extract bd.l bd.h).data.toList=(s.data.toList.drop bd.l).take (bd.h-bd.l):=by simp
    rw[this,qy5,qo1,aOc,aD0,h3]
  ·trivial
 ·trivial
theorem zj0{t e:TypeId}{x:Operand}{lo hi mx:Option Operand}(ho:o.op=.slice t x lo hi mx)(ht:P.underlying t=some (.slice e)){z:Nat}(hz:gX P e=some z)(h:LR ι d n L a.tmps):iA P o a.eval ι w nm (kM z ((aG d n x).f L) ((xS d n lo).f L) ((xS d n hi).f L) ((xS d n mx).f L)):=by
 have hx:=dU h x;have hl:=qdf h lo;have hh:=qdf h hi;have hm:=qdf h mx;have run:∀(b:Option Addr) (len C l hh m:Nat),a.eval x=.slice b len C->(Instr.sliceBounds true len C (lo.map a.eval) (hi.map a.eval) (mx.map a.eval)).run P w=.ok (l,hh,m) w ->
   (execOp a.eval o).run P w=.ok (.value (.slice (if m=l then b else b.map (·.add (l*z))) (hh-l) (m-l))) w:=fun b len C l hh m h1 h2=>by
  simp[execOp,ho,Instr.sliceAt,bU ht,Instr.slice,h1,h2,nJ hz]
 unfold kM;split
 ·rename_i e1;rw[e1]at hx;simp only[aL]at hx;split
  ·rename_i bd hb;obtain⟨r,r1,r2,r3,r4⟩:=qjx (P:=P) (w:=w) (ι:=ι) hl hh hm hb (lg _) (lg _) true;refine⟨.slice none 0 0,?_,by simp only[aL]⟩;rw[run _ _ _ _ _ _ hx r];simp_all
  ·trivial
 ·rename_i b i len cap ex e1;rw[e1]at hx;simp only[aL]at hx;obtain⟨hlc,l,h1,h2⟩:=hx;split
  ·rename_i bd hb;have hC:cap<=(if ex=true then cap else cap+l.ext):=by split<;>omega
   obtain⟨r,r1,r2,r3,r4⟩:=qjx (P:=P) (w:=w) (ι:=ι) hl hh hm hb hC hlc true;have hr:=run _ _ _ _ _ _ h2 r;simp only[Option.map_some,addr_add]at hr;unfold iD;cases hmx:(xS d n mx).f L with
   |some mv=>
    simp only[hmx,Option.isSome_some,ik]at hr;cases hml:Nat.beq bd.m bd.l with
    |true=>have:=vB hml;refine⟨_,hr,?_⟩;simp only[aL];refine⟨lg _,l,h1,?_⟩;rw[pz this,show bd.h-bd.l=0 by omega,show bd.m-bd.l=0 by omega];simp
    |false=>have:=qxd hml;refine⟨_,hr,?_⟩;refine⟨lE1 r2 _,l,h1,?_⟩;rw[kz this];simp[uk]
   |none=>
    have hbm:=r4 hmx;simp only[hmx,Option.isSome_none,aj,lA4]at hr;cases ex with
    |true=>
     simp only[ik]at hr;cases hml:Nat.beq bd.m bd.l with
     |true=>have:=vB hml;refine⟨_,hr,?_⟩;simp only[aL];simp_all
     |false=>have:=qxd hml;refine⟨_,hr,?_⟩;refine⟨lE1 r2 _,l,h1,?_⟩;rw[kz (by omega)];simp[uk,hbm]
    |false=>
     simp only[aj,lA4]at hr;cases hml:Nat.beq bd.m bd.l with
     |true=>
      have:=vB hml;refine⟨_,hr,?_⟩;rw[show bd.h-bd.l=0 by omega];split
      ·exact⟨_,_,rfl⟩
      ·exact⟨_,_,rfl⟩
     |false=>
      have:=qxd hml;refine⟨_,hr,?_⟩;refine⟨lE1 r2 _,l,h1,?_⟩;rw[kz (by omega)];have e2:cap+l.ext-bd.l=bd.m-bd.l+l.ext:=by omega
      simp[uk,e2]
  ·trivial
 ·trivial
end Go.Ev
end
noncomputable section
namespace Go.Ev
open Go.RowKit
variable {P:Program} {ι:Im} {o:Oper} {a:Act} {nm:Nat} {d n:Nat} {L:TT AV d} {H:Hp}
theorem qku{t:TypeId}{xs:List AV}{XS:List Value}(hr:aI ι xs XS)(h1:∀ v∈XS,v.oneCell=true){off:Nat}{v:AV}(h:(qlq P t).f xs off=some v):∃V,(∀w,(part t XS.toArray off).run P w=.ok V w)/\aL ι v V:=by
 unfold qlq at h;split at h
 ·rename_i k e1 e2;simp only[qh]at h;subst h;refine⟨.agg (XS.toArray.extract off (off+k)),fun w=>?_,?_⟩
  ·simp[part,qgh e1,nJ e2]
  ·simp only[aL];refine⟨(XS.drop off).take k,(hr.drop off).take k,?_,fun v hv=>h1 v (List.mem_of_mem_drop (iy hv))⟩;simp
 ·rename_i e1;obtain⟨V,h2,h3⟩:=hr.get off v h;exact⟨V,fun w=>by simp[part,qgh e1,h2],h3⟩
 ·cases h
def aHv(P:Program)(ι:Im)(D:Nat)(t:TypeId)(e:E2):Prop:=
 ∀x y X Y b,e.f x y=some b->aL ι x X->aL ι y Y->∀ D',D<=D'->∀ w,(Op.equalIn D' t X Y).run P w=.ok b w
theorem y7{l:List AV}{X:Value}(h:aL ι (.agg l) X):∃ vs,aI ι l vs/\X=.agg vs.toArray/\∀ v∈vs,v.oneCell=true:=by simpa only[aL] using h
theorem zbq{D D':Nat}(hD:D<=D'){e:TypeId}{p:P1}{q:E2}(hp:p=qlq P e)(hq:aHv P ι D e q){xs ys:List AV}{XS YS:List Value}(hx:aI ι xs XS)(hy:aI ι ys YS)(h1:∀ v∈XS,v.oneCell=true)(h2:∀ v∈YS,v.oneCell=true)(z:Nat):∀(k i:Nat) (b:Bool),zJ p q z xs ys k i=some b->∀ w, ∃r:Option Bool×Unit,(forIn (List.range' i k) ((none,()):Option Bool×Unit) fun j _=>do
    let a<-part e XS.toArray (j*z)
    let c<-part e YS.toArray (j*z)
    let t<-Op.equalIn D' e a c
    if(!t)=true then pure (ForInStep.done (some false,()))else pure (ForInStep.yield (none,()))).run P w=.ok r w/\(b=true->r.fst=none)/\(b=false->r.fst=some false):=by
 intro k
 induction k with
 |zero=>intro i b h w;simp only[zJ,qh]at h;subst h;exact⟨(none,()),by simp,by simp,by simp⟩
 |succ k ih=>
  intro i b h w;simp only[zJ]at h;unfold andThen at h;have key:∀ t:Bool,qs6 p q xs ys (i*z)=some t->∃ A B,(∀w,(part e XS.toArray (i*z)).run P w=.ok A w)/\(∀w,(part e YS.toArray (i*z)).run P w=.ok B w)/\∀ w,(Op.equalIn D' e A B).run P w=.ok t w:=by
   intro t ht;unfold qs6 at ht;split at ht
   ·rename_i a c e1 e2;rw[hp]at e1 e2;obtain⟨A,a1,a2⟩:=qku hx h1 e1;obtain⟨B,b1,b2⟩:=qku hy h2 e2;exact⟨A,B,a1,b1,hq _ _ _ _ _ ht a2 b2 D' hD⟩
   ·cases ht
  split at h
  ·rename_i e1;obtain⟨A,B,r1,r2,r3⟩:=key _ e1;obtain⟨r,hr,hb⟩:=ih (i+1) b h w;refine⟨r,?_,hb⟩;rw[List.range'_succ,lE6];simp_all
  ·rename_i e1;simp only[qh]at h;subst h;obtain⟨A,B,r1,r2,r3⟩:=key _ e1;refine⟨(some false,()),?_,by simp,by simp⟩;rw[List.range'_succ,lE6];simp_all
  ·cases h
theorem q5m{D D':Nat}(hD:D<=D'){xs ys:List AV}{XS YS:List Value}(hx:aI ι xs XS)(hy:aI ι ys YS)(h1:∀ v∈XS,v.oneCell=true)(h2:∀ v∈YS,v.oneCell=true)(q:TypeId->E2):∀(fs:List Field),(∀f∈fs,aHv P ι D f.type (q f.type))->∀ b,
  eqFields ((fs.filter fun f=>f.name != "_").map fun f=>(qlq P f.type,q f.type,f.offset)) xs ys=some b->∀ w,
  (Op.eqFields D' XS.toArray YS.toArray fs).run P w=.ok b w:=by
 intro fs
 induction fs with
 |nil=>intro _ b h w;simp[eqFields]at h;subst h;simp[Op.eqFields]
 |cons f fs ih=>
  intro hq b h w;have ihf:=ih (fun g hg=>hq g (by simp[hg]));unfold Op.eqFields
  by_cases hn:f.name = "_"
  ·simp_all
  ·have hb:(f.name != "_")=true:=by simp[hn]
   rw[List.filter_cons_of_pos (by simpa using hb),zy]at h;rw[pz hn];unfold eqFields at h;rw[List.foldr_cons]at h;unfold andThen at h;have key:∀ t:Bool,qs6 (qlq P f.type) (q f.type) xs ys f.offset=some t->∃ A B,(∀w,(part f.type XS.toArray f.offset).run P w=.ok A w)/\(∀w,(part f.type YS.toArray f.offset).run P w=.ok B w)/\∀ w,(Op.equalIn D' f.type A B).run P w=.ok t w:=by
    intro t ht;unfold qs6 at ht;split at ht
    ·rename_i a c e1 e2;obtain⟨A,a1,a2⟩:=qku hx h1 e1;obtain⟨B,b1,b2⟩:=qku hy h2 e2;exact⟨A,B,a1,b1,hq f (by simp) _ _ _ _ _ ht a2 b2 D' hD⟩
    ·cases ht
   split at h
   ·rename_i e1;obtain⟨A,B,r1,r2,r3⟩:=key _ e1;simp only[Sem.run_bind,r1,r2,r3,Result.andThen_ok,Bool.not_true,aj,lA4];exact ihf b h w
   ·rename_i e1;obtain⟨A,B,r1,r2,r3⟩:=key _ e1;simp only[qh]at h;subst h;simp only[Sem.run_bind,r1,r2,r3,Result.andThen_ok,Bool.not_false,ik,Sem.run_pure]
   ·cases h
theorem zw0:∀(D:Nat) (t:TypeId),aHv P ι D t (wC P D t):=by
 intro D
 induction D with
 |zero=>intro t x y X Y b h;simp[wC]at h
 |succ D ih=>
  intro t x y X Y b h hx hy D' hD w;obtain⟨E,rfl⟩:∃ E,D'=E+1:=⟨D'-1,by omega⟩;rw[wC]at h;split at h
  ·rename_i ht;change qhw x y=some b at h;unfold qhw at h;split at h
   ·simp only[aL]at hx hy;subst hx hy;simp only[qh]at h;subst h;simp[Op.equalIn,bU ht]
   ·cases h
  ·rename_i ht;change qqf x y=some b at h;unfold qqf at h;split at h
   ·rename_i k m k' p;simp only[aL]at hx hy;subst hx hy;cases hk:vO k k' with
    |false=>rw[hk]at h;cases h
    |true=>rw[hk]at h;simp only[qy,qh]at h;subst h;have:=ztp hk;subst this;simp[Op.equalIn,bU ht,qfc]
   ·cases h
  ·rename_i ht;change bH x y=some b at h;unfold bH at h;split at h
   ·simp only[aL]at hx hy;obtain⟨s,rfl,h1⟩:=hx;obtain⟨u,rfl,h2⟩:=hy;simp only[qh]at h;subst h;rw[run_equalIn_string w E t s u ht,qg3,qg3,h1.eq h2]
   ·cases h
  ·rename_i fs ht;split at h
   ·cases h
   ·rename_i hs;have hs':P.stoodInHeld t=false:=by simpa using hs
    simp only at h;unfold dQ at h;split at h
    ·rename_i xs ys;obtain⟨XS,x1,rfl,x3⟩:=y7 hx;obtain⟨YS,y1,rfl,y3⟩:=y7 hy;have hf:P.fieldsOf t=fs:=by simp[Program.fieldsOf,ht]
     rw[run_equalIn_struct w E t _ _ (by rw[hf];exact ht) hs',hf];exact q5m (by omega) x1 y1 x3 y3 (wC P D) _ (fun f _=>ih f.type) b h w
    ·cases h
  ·rename_i len e ht;split at h
   ·rename_i z hz;simp only at h;unfold dQ at h;split at h
    ·rename_i xs ys;obtain⟨XS,x1,rfl,x3⟩:=y7 hx;obtain⟨YS,y1,rfl,y3⟩:=y7 hy;obtain⟨r,hr,hb1,hb2⟩:=zbq (P:=P) (show D<=E by omega) rfl (ih e) x1 y1 x3 y3 z len 0 b h w;simp only[Op.equalIn,Sem.run_bind,bU ht,Result.andThen_ok,nJ hz,Std.Legacy.Range.forIn_eq_forIn_range',Std.Legacy.Range.size];simp only[Nat.sub_zero,lA6,Nat.div_one];rw[hr];cases b with
     |true=>rw[Result.andThen_ok,hb1 rfl];rfl
     |false=>rw[Result.andThen_ok,hb2 rfl];rfl
    ·cases h
   ·cases h
  ·rename_i ht;change qpp x y=some b at h;unfold qpp at h;split at h<;>first|(cases h;done)|skip
   all_goals (simp only[qh]at h;subst h;simp only[aL]at hx hy)
   ·subst hx hy;simp[Op.equalIn,bU ht]
   ·obtain⟨l,_,rfl⟩:=hy;subst hx;simp[Op.equalIn,bU ht]
   ·obtain⟨l,_,rfl⟩:=hx;subst hy;simp[Op.equalIn,bU ht]
  ·rename_i ht;change aEA x y=some b at h;unfold aEA at h;split at h<;>first|(cases h;done)|skip
   all_goals (simp only[qh]at h;subst h;simp only[aL]at hx hy)
   ·subst hx hy;simp[Op.equalIn,bU ht]
   ·obtain⟨_,l,_,rfl⟩:=hy;subst hx;simp[Op.equalIn,bU ht]
   ·obtain⟨_,l,rfl⟩:=hy;subst hx;simp[Op.equalIn,bU ht]
   ·obtain⟨_,l,_,rfl⟩:=hx;subst hy;simp[Op.equalIn,bU ht]
   ·obtain⟨_,l,rfl⟩:=hx;subst hy;simp[Op.equalIn,bU ht]
  ·rename_i ht;change zto x y=some b at h;unfold zto at h;split at h<;>first|(cases h;done)|skip
   all_goals (simp only[qh]at h;subst h;simp only[aL]at hx hy)
   ·subst hx hy;simp[Op.equalIn,bU ht]
   ·obtain⟨l,_,rfl⟩:=hy;subst hx;simp[Op.equalIn,bU ht]
   ·obtain⟨l,_,rfl⟩:=hx;subst hy;simp[Op.equalIn,bU ht]
  ·rename_i ht;change eqFn x y=some b at h;unfold eqFn at h;split at h<;>first|(cases h;done)|skip
   all_goals (simp only[qh]at h;subst h;simp only[aL]at hx hy)
   ·subst hx hy;simp[Op.equalIn,bU ht]
   ·obtain⟨_,_,_,_,rfl⟩:=hy;subst hx;simp[Op.equalIn,bU ht]
   ·obtain⟨_,_,_,_,rfl⟩:=hx;subst hy;simp[Op.equalIn,bU ht]
  ·rename_i ht;change aDP x y=some b at h;unfold aDP at h;split at h<;>first|(cases h;done)|skip
   all_goals (simp only[qh]at h;subst h;simp only[aL]at hx hy)
   ·obtain⟨_,_,rfl⟩:=hy;subst hx;simp[Op.equalIn,bU ht]
   ·obtain⟨_,_,rfl⟩:=hx;subst hy;simp[Op.equalIn,bU ht]
  ·cases h
end Go.Ev
end
noncomputable section
namespace Go.Ev
open Go.RowKit
variable {P:Program} {w:World} {ι:Im} {o:Oper} {a:Act} {nm:Nat} {d n:Nat} {L:TT AV d} {H:Hp}
theorem qsi{t e:TypeId}{x:Operand}{lo hi mx:Option Operand}(ho:o.op=.slice t x lo hi mx){len:Nat}(ht:P.underlying t=some (.array len e)\/∃ arr,P.underlying t=some (.pointer arr)/\P.underlying arr=some (.array len e)){z:Nat}(hz:gX P e=some z)(h:LR ι d n L a.tmps):iA P o a.eval ι w nm (qmf len z ((aG d n x).f L) ((xS d n lo).f L) ((xS d n hi).f L) ((xS d n mx).f L)):=by
 have hx:=dU h x;have hl:=qdf h lo;have hh:=qdf h hi;have hm:=qdf h mx;unfold qmf;split
 ·rename_i b i e1;rw[e1]at hx;simp only[aL]at hx;obtain⟨l,h1,h2⟩:=hx;split
  ·rename_i bd hb;obtain⟨r,r1,r2,r3,r4⟩:=qjx (P:=P) (w:=w) (ι:=ι) hl hh hm hb (lg _) (lg _) false;have hmm:(if((xS d n mx).f L).isSome then bd.m else len)=bd.m:=by
    simp_all
   rw[hmm]at r;have run:(execOp a.eval o).run P w=.ok (.value (.slice (some (if bd.m=bd.l then⟨l.blk,l.base+i,none⟩else⟨l.blk,l.base+i+bd.l*z,none⟩)) (bd.h-bd.l) (bd.m-bd.l))) w:=by
    rcases ht with ht|⟨arr,ht,ha⟩
    ·simp[execOp,ho,Instr.sliceAt,bU ht,h2,Instr.sureAddr,r,nJ hz,addr_add]
    ·simp[execOp,ho,Instr.sliceAt,bU ht,bU ha,Instr.slice,h2,asAddr,r,nJ hz,addr_add]
   unfold iD;cases hml:Nat.beq bd.m bd.l with
   |true=>have:=vB hml;refine⟨_,run,?_⟩;simp only[aL];simp_all
   |false=>have:=qxd hml;refine⟨_,run,?_⟩;refine⟨lE1 r2 _,l,h1,?_⟩;rw[kz this];simp[uk]
  ·trivial
 ·trivial
/- copies of a zero value -/
theorem zjm(l:List AV):aV l 0=[]:=rfl
theorem zjn(l:List AV)(k:Nat):aV l (k+1)=l++aV l k:=rfl
def gT(l:List Value):Nat->List Value
 |0=>[]
 |k+1=>l++gT l k
theorem qjg{l:List AV}{vs:List Value}(h:aI ι l vs):∀ k,aI ι (aV l k) (gT vs k)
 |0=>by simp[zjm,gT,aI]
 |k+1=>by rw[zjn,gT];exact h.append (qjg h k)
theorem qcd(l:List Value):∀ k,(gT l k).length=k*l.length
 |0=>by simp[gT]
 |k+1=>by rw[gT,lq,qcd l k,xh];omega
theorem qg6{l:List Value}:∀{k:Nat} {v:Value},v∈gT l k->v∈l
 |0,v,h=>by simp[gT]at h
 |k+1,v,h=>by
  rw[gT,gz]at h;rcases h with h|h
  ·exact h
  ·exact qg6 h
theorem q8b(l:List Value):∀(k i:Nat),i<k*l.length->(gT l k)[i]? =l[i%l.length]?
 |0,i,h=>by simp at h
 |k+1,i,h=>by
  rw[xh,au]at h;rw[gT];by_cases hi:i<l.length
  ·rw[uf hi,Nat.mod_eq_of_lt hi]
  ·rw[uC (by omega),q8b l k (i-l.length) (by omega)];congr 1;rw[<-Nat.mod_eq_sub_mod (by omega)]
theorem range_zero(Z:Array Value)(k s:Nat)(hs:Z.size=s):(Array.range (k*s)).map (fun i=>Z[i%Z.size]!)=(gT Z.toList k).toArray:=by
 apply Array.ext';apply List.ext_getElem?;intro i;have ee:(gT Z.toList k).toArray.toList=gT Z.toList k:=by simp
 by_cases hi:i<k*s
 ·have hZ:Z.toList.length=s:=by simpa using hs
  rw[ee,q8b _ _ _ (by rw[hZ];exact hi),hZ];have hs0:0<s:=by
   rcases lAR s with h|h
   ·simp[h]at hi
   ·exact h
  have hlt:i%s<Z.size:=by rw[hs];exact xF _ hs0
  simp_all
 ·rw[bf (by simpa using hi),bf (by rw[ee,qcd];simp[hs];omega)]
theorem zjx(b:Nat):(askRoom b).run P w=.ok () w:=by simp
theorem zr7{t e:TypeId}{x y:Operand}(ho:o.op=.makeSlice t x y)(ht:P.underlying t=some (.slice e)){z:List AV}(hz:qj1 P e=some z){b s:Nat}(hb:qjw P e=some b)(hs:gX P e=some s)(hzs:z.length=s)(h:LR ι d n L a.tmps):iA P o a.eval ι w nm (qjs z b nm ((aG d n x).f L) ((aG d n y).f L)):=by
 have hx:=dU h x;have hy:=dU h y;unfold qjs;split
 ·rename_i k1 p k2 q e1 e2;rw[e1]at hx;rw[e2]at hy;simp only[aL]at hx hy;cases hc:(Nat.ble p q&&Nat.ble (Nat.mul q b) gH&&Nat.ble q gH)with
  |false=>trivial
  |true=>
   simp only[pq]at hc;obtain⟨⟨c1,c2⟩,c3⟩:=hc;have c1:=oH c1;have c2:q*b<=1099511627776:=oH c2;have c3:q<=1099511627776:=oH c3;obtain⟨zv,z1,z2,z3⟩:=qcs (ι:=ι) hz;obtain⟨ti,ti1,ti2⟩:=qv9 (P:=P) hb;have hzl:zv.cells.toList.length=s:=by rw[z2.length,hzs]
   have w1:IntKind.i64.wrap (p:Int)=p:=IntWalk.i64_in _ (by omega);have w2:IntKind.i64.wrap (q:Int)=q:=IntWalk.i64_in _ (by omega);have hmul:(ti.bytes:Int)*(q:Int)<=281474976710656:=by
    rw[ti2];have:((b*q:Nat):Int)<=281474976710656:=by rw[lA5];omega
    omega
   refine⟨.slice (some ⟨w.heap.size,0,none⟩) p q,w.alloc (.cells (gT zv.cells.toList q).toArray e),⟨w.heap.size,0,0,0⟩,?_,New.alloc w _ 0 0,fun ι' hle hi=>⟨?_,qgl (qjg z2 q) (fun v hv=>z3 v (qg6 hv)) e nm 0 ι' hle hi⟩⟩
   ·have hlt:¬((p:Int)<0):=by omega
    have hlt2:¬((q:Int)<0):=by omega
    have hle:¬((q:Int)<p):=by omega
    have hbig:¬((ti.bytes:Int)*(q:Int)>2 ^ 48):=by omega
    simp only[execOp,ho,Instr.makeSlice,Sem.run_bind,bU ht,Result.andThen_ok,hx,hy,asInt,asIntOf,Sem.run_pure,ti1,rq,w1,w2];simp only[hlt,hlt2,hle,hbig,decide_false,Bool.or_false,aj,lA4,gt_iff_lt,Sem.run_pure,Result.andThen_ok,Int.toNat_natCast,Sem.run_bind,zjx,nJ hs,Sem.run_ite];by_cases h0:q*s=0
    ·have hr:(gT zv.cells.toList q)=[]:=ry.1 (by rw[qcd,hzl,h0]);have e0:Array.map (fun _:Nat=>(default:Value)) (Array.range 0)= #[]:=by apply Array.ext';simp
     simp[h0,hr,newRow,e0]
    ·simp only[h0,lA4,qcz z1,Result.andThen_ok];rw[range_zero zv.cells q s (by simpa using hzl)];rfl
   ·simp only[aL];exact⟨c1,_,hi,by simp⟩
 ·trivial
/- aggregates: parts laid in -/
theorem zb2{v:AV}{V:Value}(h:aL ι v V){l:List AV}(hl:yS v=some l):aI ι l V.cells.toList/\∀ x∈V.cells.toList,x.oneCell=true:=by
 unfold yS at hl;split at hl
 ·simp only[qh]at hl;subst hl;obtain⟨vs,h1,rfl,h3⟩:=y7 h;trivial
 ·cases hl
 ·cases hl
 ·cases hl
 ·rename_i hn1 hn2 yV hn4;simp only[qh]at hl;subst hl;have hp:v.plain=true:=by
   unfold AV.plain;split
   ·simp_all
   ·simp_all
   ·trivial
   ·simp_all
   ·rfl
  obtain⟨h1,h2⟩:=h.one hp;rw[h2];exact⟨aI.singleton h,by simpa using h1⟩
theorem zti:∀(l:List Value) (C:Array Value) (off k:Nat),off+k+l.length<=C.size -> ((l.zipIdx k).foldl (fun cs (x:Value×Nat)=>cs.setIfInBounds (off+x.2) x.1) C).toList=C.toList.take (off+k)++l++C.toList.drop (off+k+l.length):=by
 intro l
 induction l with
 |nil=>intro C off k h;simp
 |cons v l ih=>
  intro C off k h;rw[pg]at h;rw[List.zipIdx_cons,lE7,ih _ _ _ (by simp;omega)];simp only[Array.toList_setIfInBounds,pg];have hlt:off+k<C.toList.length:=by simp;omega
  rw[List.drop_set_of_lt (by omega),show off+(k+1)=(off+k)+1 by omega,ku (by simpa using hlt)];rw[List.take_set_of_le (lg _)];simp only[List.getElem_set_self,qw,nz,ae];rw[show off+k+1+l.length=off+k+(l.length+1)by omega]
theorem zas{c:List AV}{C:Array Value}(hc:aI ι c C.toList)(h1:∀ v∈C.toList,v.oneCell=true){v:AV}{V:Value}(hv:aL ι v V){l c':List AV}(hl:yS v=some l){off size:Nat}(h:qok c off size l=some c'):V.cells.size=size/\off+V.cells.size<=C.size/\aI ι c' (V.cells.zipIdx.foldl (fun cs (x:Value×Nat)=>cs.setIfInBounds (off+x.2) x.1) C).toList /\ (∀x∈(V.cells.zipIdx.foldl (fun cs (x:Value×Nat)=>cs.setIfInBounds (off+x.2) x.1) C).toList,x.oneCell=true):=by
 obtain⟨v1,v2⟩:=zb2 hv hl;unfold qok at h;cases hb:(Nat.beq l.length size&&Nat.ble (off+size) c.length)with
 |false=>rw[hb]at h;cases h
 |true=>
  rw[hb]at h;simp only[qy,qh]at h;subst h;simp only[pq]at hb;have b1:=vB hb.1;have b2:=oH hb.2;have e1:V.cells.size=size:=by have:=v1.length;simpa [b1] using this
  have e2:C.size=c.length:=by simpa using hc.length
  have hf:(V.cells.zipIdx.foldl (fun cs (x:Value×Nat)=>cs.setIfInBounds (off+x.2) x.1) C).toList=C.toList.take off++V.cells.toList++C.toList.drop (off+size):=by rw[<-Array.foldl_toList,Array.toList_zipIdx,zti _ _ _ _ (by simp;omega)];simp[e1]
  rw[hf];refine⟨e1,by omega,(((hc.take off).append v1).append (hc.drop (off+size))),fun x hx=>?_⟩;simp only[gz]at hx;rcases hx with(hx|hx)|hx
  ·exact h1 x (iy hx)
  ·exact v2 x hx
  ·exact h1 x (List.mem_of_mem_drop hx)
def aBW(ι:Im)(place:Nat->Option (Nat×Nat)):List (Nat×Nat×AV)->List (Nat×Value)->Prop
 | [],ps=>ps=[]
 |(off,size,v)::l,ps=>∃ i V r,ps=(i,V)::r/\place i=some (off,size)/\aL ι v V/\aBW ι place l r
theorem qjl(h:LR ι d n L a.tmps)(place:Nat->Option (Nat×Nat)):∀(ps:List (Nat×Operand)) (r:RdP d),qqb d n place ps=some r->aBW ι place (r.f L) (ps.map fun(i,x)=>(i,a.eval x))
 | [],r,hr=>by simp only[qqb,qh]at hr;subst hr;simp[aBW]
 |(i,x)::ps,r,hr=>by
  simp only[qqb]at hr;split at hr
  ·rename_i off size g h' e1 e2 e3;simp only[qh]at hr;subst hr;refine⟨i,a.eval x,_,rfl,e1,?_,?_⟩
   ·have:=dU h x;rw[e2]at this;exact this
   ·exact qjl h place ps _ e3
  ·cases hr
theorem qfj{place:Nat->Option (Nat×Nat)}:∀{l:List (Nat×Nat×AV)} {ps:List (Nat×Value)} {c c':List AV} {C:Array Value},aBW ι place l ps->aI ι c C.toList->(∀v∈C.toList,v.oneCell=true)->bK c l=some c' -> ∃C',Instr.fill place C ps=some C'/\aI ι c' C'.toList/\∀ v∈C'.toList,v.oneCell=true
 | [],ps,c,c',C,hp,hc,h1,h=>by simp only[aBW]at hp;subst hp;simp only[bK,qh]at h;subst h;exact⟨C,rfl,hc,h1⟩
 |(off,size,v)::l,ps,c,c',C,hp,hc,h1,h=>by
  obtain⟨i,V,r,rfl,hpl,hv,hr⟩:=hp;simp only[bK]at h;split at h
  ·rename_i lv hlv;split at h
   ·rename_i c1 hc1;obtain⟨a1,a2,a3,a4⟩:=zas hc h1 hv hlv hc1;obtain⟨C',b1,b2,b3⟩:=qfj hr a3 a4 h;refine⟨C',?_,b2,b3⟩;simp only[Instr.fill,hpl];simp_all
   ·cases h
  ·cases h
theorem zsc{t e:TypeId}{ps:Array (Nat×Operand)}(ho:o.op=.build t ps){len:Nat}(ht:P.underlying t=some (.array len e)){z:List AV}(hz:qj1 P t=some z){s:Nat}(hs:gX P e=some s){r:RdP d}(hr:qqb d n (fun i=>some (i*s,s)) ps.toList=some r)(h:LR ι d n L a.tmps):iA P o a.eval ι w nm (bR (bK z (r.f L))):=by
 obtain⟨zv,z1,z2,z3⟩:=qcs (ι:=ι) hz;cases hp:bK z (r.f L)with
 |none=>trivial
 |some c=>obtain⟨C',b1,b2,b3⟩:=qfj (qjl h _ _ _ hr) z2 z3 hp;refine⟨.agg C',?_,by simp only[aL];exact⟨_,b2,by simp,b3⟩⟩;simp only[execOp,ho,Instr.build,Sem.run_bind,qcz z1,Result.andThen_ok,bU ht,nJ hs,og,b1];rfl
theorem qoo(fs:List Field)(h:∀ f∈fs,(gX P f.type).isSome=true):∀(acc:Array (Nat×Nat)), (List.foldlM (fun(bs:Array (Nat×Nat)) (f:Field)=>do let y<-(do pure (f.offset,<-sizeOf f.type):Sem (Nat×Nat));pure (bs.push y)) acc fs).run P w =
   .ok (acc++(fs.map fun f=>(f.offset,(gX P f.type).getD 0)).toArray) w:=by
 induction fs with
 |nil=>intro acc;simp
 |cons f fs ih=>intro acc;obtain⟨s,hs⟩:=lAJ.1 (h f (by simp));rw[List.foldlM_cons];simp only[Sem.run_bind,nJ hs,Result.andThen_ok,Sem.run_pure];simp_all
theorem zsb{t:TypeId}{ps:Array (Nat×Operand)}(ho:o.op=.build t ps){fs:Array Field}(ht:P.underlying t=some (.struct fs)){z:List AV}(hz:qj1 P t=some z)(hfs:fs.toList.all (fun f=>(gX P f.type).isSome)=true){r:RdP d}(hr:qqb d n (qfw P fs) ps.toList=some r)(h:LR ι d n L a.tmps):iA P o a.eval ι w nm (bR (bK z (r.f L))):=by
 obtain⟨zv,z1,z2,z3⟩:=qcs (ι:=ι) hz;cases hp:bK z (r.f L)with
 |none=>trivial
 |some c=>
  have hall:∀ f∈fs.toList,(gX P f.type).isSome=true:=fun f hf=>yc.1 hfs f hf;obtain⟨C',b1,b2,b3⟩:=qfj (qjl h _ _ _ hr) z2 z3 hp;refine⟨.agg C',?_,by simp only[aL];exact⟨_,b2,by simp,b3⟩⟩;have hpl:(fun i=>(fs.map fun f=>(f.offset,(gX P f.type).getD 0))[i]?)=qfw P fs:=by
   funext i;unfold qfw;rw[Array.getElem?_map];cases hf:fs[i]? with
   |none=>rfl
   |some f=>
    have hm:f∈fs.toList:=by simpa using Array.mem_of_getElem? hf
    obtain⟨s,hs⟩:=lAJ.1 (hall f hm);simp[hs]
  have hmap:(fs.mapM fun f=>(do pure (f.offset,<-sizeOf f.type):Sem (Nat×Nat))).run P w=.ok (fs.map fun f=>(f.offset,(gX P f.type).getD 0)) w:=by rw[Array.mapM_eq_foldlM,<-Array.foldlM_toList];have:=qoo (P:=P) (w:=w) fs.toList hall #[];simp only[bind_pure_comp]at this ⊢;rw[this];congr 1;apply Array.ext';simp
  simp only[execOp,ho,Instr.build,Sem.run_bind,qcz z1,Result.andThen_ok,bU ht,hmap,og];simp_all
end Go.Ev
end
