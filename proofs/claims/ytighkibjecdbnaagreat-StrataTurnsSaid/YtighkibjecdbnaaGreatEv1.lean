/-
 For StrataTurns: the evaluator and its soundness, part 1 of 4: what a run of the abstract evaluator answers, the model's run answers, in every world and on every schedule. No conditions beyond those that each theorem states.
-/
import GoSem.Step
import Derived.Below
import Derived.Calls
import Derived.Wp
import Derived.IntWalk
import Derived.Laws.Strings
import Derived.Laws.StructEq
namespace Go
theorem lL:type_of% @List.getElem?_eq_getElem:=List.getElem?_eq_getElem
theorem lg:type_of% @List.getElem_mem:=List.getElem_mem
theorem lh:type_of% @Nat.le_refl:=Nat.le_refl
theorem lq:type_of% @Nat.lt_of_lt_of_le:=Nat.lt_of_lt_of_le
theorem lu:type_of% @if_neg:=if_neg
theorem lw:type_of% @List.take_succ_eq_append_getElem:=List.take_succ_eq_append_getElem
theorem ku:type_of% @List.length_append:=List.length_append
theorem kw:type_of% @List.getD_eq_getElem?_getD:=List.getD_eq_getElem?_getD
theorem kz:type_of% @if_pos:=if_pos
theorem gq:type_of% @List.mem_singleton:=List.mem_singleton
theorem gy:type_of% @Nat.zero_le:=Nat.zero_le
theorem gz:type_of% @List.length_cons:=List.length_cons
theorem pg:type_of% @List.mem_append:=List.mem_append
theorem pq:type_of% @Nat.zero_add:=Nat.zero_add
theorem pz:type_of% @List.length_map:=List.length_map
theorem qc:type_of% @Bool.and_eq_true:=Bool.and_eq_true
theorem qg:type_of% @Nat.mul_one:=Nat.mul_one
theorem qh:type_of% @Option.some.injEq:=Option.some.injEq
theorem qi:type_of% @Int.ofNat_eq_natCast:=Int.ofNat_eq_natCast
theorem qj:type_of% @List.mem_map:=List.mem_map
theorem ql:type_of% @List.getElem?_eq_some_iff:=List.getElem?_eq_some_iff
theorem qm:type_of% @List.mem_cons:=List.mem_cons
theorem qp:type_of% @Nat.eq_of_beq_eq_true:=Nat.eq_of_beq_eq_true
theorem qw:type_of% @decide_eq_true:=decide_eq_true
theorem qx:type_of% @List.getElem?_append_left:=List.getElem?_append_left
theorem qy:type_of% @List.mem_cons_self:=List.mem_cons_self
theorem rf:type_of% @List.append_assoc:=List.append_assoc
theorem rq:type_of% @Nat.le_trans:=Nat.le_trans
theorem ry:type_of% @List.length_take:=List.length_take
theorem tq:type_of% @List.length_eq_zero_iff:=List.length_eq_zero_iff
theorem uA:type_of% @decide_eq_false:=decide_eq_false
theorem uB:type_of% @List.mem_of_getElem?:=List.mem_of_getElem?
theorem uC:type_of% @cond_true:=cond_true
theorem uf:type_of% @List.pairwise_iff_getElem:=List.pairwise_iff_getElem
theorem ug:type_of% @List.getElem?_append_right:=List.getElem?_append_right
theorem uh:type_of% @List.take_of_length_le:=List.take_of_length_le
theorem ui:type_of% @Nat.add_assoc:=Nat.add_assoc
theorem uj:type_of% @List.map_append:=List.map_append
theorem uk:type_of% @List.length_nil:=List.length_nil
theorem ul:type_of% @List.length_set:=List.length_set
theorem um:type_of% @Nat.mul_le_mul_right:=Nat.mul_le_mul_right
theorem uo:type_of% @List.drop_eq_getElem_cons:=List.drop_eq_getElem_cons
theorem uq:type_of% @Classical.choose_spec:=Classical.choose_spec
theorem ut:type_of% @List.append_nil:=List.append_nil
theorem uu:type_of% @List.mem_cons_of_mem:=List.mem_cons_of_mem
theorem uw:type_of% @List.length_replicate:=List.length_replicate
theorem uy:type_of% @List.drop_eq_nil_of_le:=List.drop_eq_nil_of_le
theorem uz:type_of% @List.take_length:=List.take_length
theorem vk:type_of% @List.flatMap_append:=List.flatMap_append
theorem vw:type_of% @List.flatMap_singleton:=List.flatMap_singleton
theorem vz:type_of% @List.mem_append_left:=List.mem_append_left
theorem xF:type_of% @List.flatMap_cons:=List.flatMap_cons
theorem xe:type_of% @Nat.lt_or_ge:=Nat.lt_or_ge
theorem xf:type_of% @List.mem_append_right:=List.mem_append_right
theorem xg:type_of% @List.mem_filter:=List.mem_filter
theorem xh:type_of% @Nat.min_le_right:=Nat.min_le_right
theorem xk:type_of% @Nat.add_mul:=Nat.add_mul
theorem xm:type_of% @List.drop_append_of_le_length:=List.drop_append_of_le_length
theorem xn:type_of% @List.getElem?_eq_none:=List.getElem?_eq_none
theorem xq:type_of% @Nat.lt_irrefl:=Nat.lt_irrefl
theorem xu:type_of% @List.mem_range:=List.mem_range
theorem xw:type_of% @List.getElem?_map:=List.getElem?_map
theorem xx:type_of% @List.length_drop:=List.length_drop
theorem xy:type_of% @Nat.mod_lt:=Nat.mod_lt
theorem yc:type_of% @decide_eq_true_eq:=decide_eq_true_eq
theorem yf:type_of% @List.pairwise_append:=List.pairwise_append
theorem yg:type_of% @Bool.not_eq_true':=Bool.not_eq_true'
theorem yh:type_of% @List.nodup_append:=List.nodup_append
theorem yj:type_of% @List.getElem_of_mem:=List.getElem_of_mem
theorem yl:type_of% @List.all_eq_true:=List.all_eq_true
theorem yt:type_of% @decide_eq_false_iff_not:=decide_eq_false_iff_not
theorem yu:type_of% @Nat.le_of_lt:=Nat.le_of_lt
theorem yw:type_of% @Nat.add_zero:=Nat.add_zero
theorem yx:type_of% @Nat.ble_eq_true_of_le:=Nat.ble_eq_true_of_le
theorem yz:type_of% @Nat.min_eq_left:=Nat.min_eq_left
theorem zf:type_of% @List.getElem_map:=List.getElem_map
theorem zg:type_of% @eq_true:=eq_true
theorem zh:type_of% @List.getElem?_cons_succ:=List.getElem?_cons_succ
theorem zk:type_of% @Nat.add_sub_cancel_left:=Nat.add_sub_cancel_left
theorem zn:type_of% @List.pairwise_singleton:=List.pairwise_singleton
theorem zo:type_of% @List.mem_map_of_mem:=List.mem_map_of_mem
theorem zq:type_of% @List.mem_of_find?_eq_some:=List.mem_of_find?_eq_some
theorem zt:type_of% @List.any_eq_true:=List.any_eq_true
theorem zu:type_of% @Nat.one_mul:=Nat.one_mul
theorem zx:type_of% @Array.getD_eq_getD_getElem?:=Array.getD_eq_getD_getElem?
theorem zy:type_of% @decide_eq_true_iff:=decide_eq_true_iff
theorem ae:type_of% @List.getElem?_drop:=List.getElem?_drop
theorem ag:type_of% @List.filter_append:=List.filter_append
theorem ah:type_of% @List.map_singleton:=List.map_singleton
theorem ai:type_of% @Nat.le_of_ble_eq_true:=Nat.le_of_ble_eq_true
theorem aj:type_of% @cond_false:=cond_false
theorem ak:type_of% @Nat.not_lt_zero:=Nat.not_lt_zero
theorem au:type_of% @List.map_cons:=List.map_cons
theorem ay:type_of% @Array.getElem?_eq_some_iff:=Array.getElem?_eq_some_iff
theorem bf:type_of% @List.filter_cons:=List.filter_cons
theorem bg:type_of% @Array.getElem?_eq_getElem:=Array.getElem?_eq_getElem
theorem bu:type_of% @List.length_filter_le:=List.length_filter_le
theorem bz:type_of% @List.flatten_cons:=List.flatten_cons
theorem cu:type_of% @Bool.false_eq_true:=Bool.false_eq_true
theorem dC:type_of% @Nat.lt_succ_self:=Nat.lt_succ_self
theorem dE:type_of% @List.mem_flatMap:=List.mem_flatMap
theorem dh:type_of% @List.mem_or_eq_of_mem_set:=List.mem_or_eq_of_mem_set
theorem dm:type_of% @Nat.lt_trichotomy:=Nat.lt_trichotomy
theorem eQ:type_of% @Nat.min_le_left:=Nat.min_le_left
theorem ig:type_of% @Bool.or_eq_true:=Bool.or_eq_true
theorem ik:type_of% @List.any_append:=List.any_append
theorem iq:type_of% @Nat.add_sub_cancel:=Nat.add_sub_cancel
theorem iw:type_of% @List.take_length_add_append:=List.take_length_add_append
theorem iy:type_of% @List.drop_length_add_append:=List.drop_length_add_append
theorem mf:type_of% @List.mem_of_mem_take:=List.mem_of_mem_take
theorem mg:type_of% @List.mem_iff_getElem:=List.mem_iff_getElem
theorem ny:type_of% @List.mem_flatten:=List.mem_flatten
theorem nz:type_of% @List.map_map:=List.map_map
theorem og:type_of% @List.nil_append:=List.nil_append
theorem oh:type_of% @if_true:=if_true
theorem oq:type_of% @List.take_append_drop:=List.take_append_drop
theorem ou:type_of% @List.pairwise_cons:=List.pairwise_cons
theorem oz:type_of% @List.range_succ:=List.range_succ
theorem lA0:type_of% @List.take_succ_cons:=List.take_succ_cons
theorem lA4:type_of% @List.flatten_append:=List.flatten_append
theorem lA5:type_of% @List.length_pos_iff:=List.length_pos_iff
theorem lA6:type_of% @List.any_cons:=List.any_cons
theorem lA7:type_of% @Array.toList_map:=Array.toList_map
theorem lA8:type_of% @List.map_congr_left:=List.map_congr_left
theorem lA9:type_of% @if_false:=if_false
theorem lAA:type_of% @List.drop_zero:=List.drop_zero
theorem lAB:type_of% @List.drop_drop:=List.drop_drop
theorem lAC:type_of% @List.getElem?_set_self:=List.getElem?_set_self
theorem lAD:type_of% @Nat.mul_comm:=Nat.mul_comm
theorem lAE:type_of% @List.getElem?_take:=List.getElem?_take
theorem lAF:type_of% @List.any_map:=List.any_map
theorem lAG:type_of% @List.find?_eq_none:=List.find?_eq_none
theorem lAH:type_of% @List.getElem_set_self:=List.getElem_set_self
theorem lAI:type_of% @List.mem_iff_getElem?:=List.mem_iff_getElem?
theorem lAJ:type_of% @Option.ne_none_iff_exists':=Option.ne_none_iff_exists'
theorem lAK:type_of% @List.getElem?_set:=List.getElem?_set
theorem lAL:type_of% @Bool.eq_false_iff:=Bool.eq_false_iff
theorem lAM:type_of% @List.pairwise_map:=List.pairwise_map
theorem lAN:type_of% @Bool.or_eq_false_iff:=Bool.or_eq_false_iff
theorem lAO:type_of% @List.getElem?_set_ne:=List.getElem?_set_ne
theorem lAP:type_of% @List.take_zero:=List.take_zero
theorem lAQ:type_of% @List.cons_append:=List.cons_append
theorem lAR:type_of% @Option.isSome_iff_exists:=Option.isSome_iff_exists
theorem lAS:type_of% @Nat.zero_mul:=Nat.zero_mul
theorem lAT:type_of% @List.flatMap_map:=List.flatMap_map
theorem lAU:type_of% @List.getElem?_cons_zero:=List.getElem?_cons_zero
theorem lAV:type_of% @List.getElem?_replicate:=List.getElem?_replicate
theorem lAW:type_of% @Nat.eq_zero_or_pos:=Nat.eq_zero_or_pos
theorem lAX:type_of% @List.set_cons_succ:=List.set_cons_succ
theorem lAY:type_of% @List.nodup_cons:=List.nodup_cons
theorem lAZ:type_of% @Nat.lt_of_le_of_lt:=Nat.lt_of_le_of_lt
theorem lE0:type_of% @List.find?_some:=List.find?_some
theorem lE1:type_of% @Nat.le_succ:=Nat.le_succ
theorem lE2:type_of% @Array.getElem?_eq_none:=Array.getElem?_eq_none
theorem lE3:type_of% @List.ext_getElem?:=List.ext_getElem?
theorem lE4:type_of% @List.length_range:=List.length_range
theorem lE5:type_of% @Nat.pow_succ:=Nat.pow_succ
theorem lE6:type_of% @Array.getElem?_modify:=Array.getElem?_modify
theorem lE7:type_of% @List.map_nil:=List.map_nil
theorem lE8:type_of% @Int.negSucc_eq:=Int.negSucc_eq
theorem lE9:type_of% @List.map_set:=List.map_set
theorem lEA:type_of% @Nat.sub_le_sub_right:=Nat.sub_le_sub_right
theorem lEB:type_of% @Nat.le_of_not_lt:=Nat.le_of_not_lt
theorem lEC:type_of% @List.getElem_set:=List.getElem_set
theorem lED:type_of% @List.take_append:=List.take_append
theorem lEE:type_of% @List.drop_length:=List.drop_length
theorem lEF:type_of% @Nat.pow_le_pow_right:=Nat.pow_le_pow_right
theorem lEG:type_of% @List.all_cons:=List.all_cons
theorem lEH:type_of% @Option.map_some:=Option.map_some
theorem lEI:type_of% @Bool.eq_iff_iff:=Bool.eq_iff_iff
theorem lEJ:type_of% @List.forIn_cons:=List.forIn_cons
theorem lEK:type_of% @Nat.lt_trans:=Nat.lt_trans
theorem lEL:type_of% @Nat.beq_refl:=Nat.beq_refl
theorem lEM:type_of% @Nat.sub_self:=Nat.sub_self
theorem lEN:type_of% @Int.not_lt:=Int.not_lt
end Go
noncomputable section
namespace Go.Ev
structure Q(α:Type) where
 (c0 c1 c2 c3 c4 c5 c6 c7:α)
def TT(α:Type):Nat->Type
 |0=>α
 |d+1=>Q (TT α d)
structure xO(α:Type)(d:Nat) where f:TT α d->α
structure wX(α:Type)(d:Nat) where f:TT α d->α->TT α d
structure kQ(α:Type) where f:Q α->α
structure kI(α:Type) where f:(α->α)->Q α->Q α
def aZj(α:Type):kQ α:=⟨fun t=>Q.rec (motive:=fun _=>α) (fun c0 _ _ _ _ _ _ _=>c0) t⟩
def bCe(α:Type):kQ α:=⟨fun t=>Q.rec (motive:=fun _=>α) (fun _ c1 _ _ _ _ _ _=>c1) t⟩
def bEU(α:Type):kQ α:=⟨fun t=>Q.rec (motive:=fun _=>α) (fun _ _ c2 _ _ _ _ _=>c2) t⟩
def bBs(α:Type):kQ α:=⟨fun t=>Q.rec (motive:=fun _=>α) (fun _ _ _ c3 _ _ _ _=>c3) t⟩
def bDx(α:Type):kQ α:=⟨fun t=>Q.rec (motive:=fun _=>α) (fun _ _ _ _ c4 _ _ _=>c4) t⟩
def aTd(α:Type):kQ α:=⟨fun t=>Q.rec (motive:=fun _=>α) (fun _ _ _ _ _ c5 _ _=>c5) t⟩
def aZB(α:Type):kQ α:=⟨fun t=>Q.rec (motive:=fun _=>α) (fun _ _ _ _ _ _ c6 _=>c6) t⟩
def aYG(α:Type):kQ α:=⟨fun t=>Q.rec (motive:=fun _=>α) (fun _ _ _ _ _ _ _ c7=>c7) t⟩
def bDy(α:Type):kI α:=⟨fun f t=>Q.rec (motive:=fun _=>Q α) (fun c0 c1 c2 c3 c4 c5 c6 c7=>⟨f c0,c1,c2,c3,c4,c5,c6,c7⟩) t⟩
def aVj(α:Type):kI α:=⟨fun f t=>Q.rec (motive:=fun _=>Q α) (fun c0 c1 c2 c3 c4 c5 c6 c7=>⟨c0,f c1,c2,c3,c4,c5,c6,c7⟩) t⟩
def aTq(α:Type):kI α:=⟨fun f t=>Q.rec (motive:=fun _=>Q α) (fun c0 c1 c2 c3 c4 c5 c6 c7=>⟨c0,c1,f c2,c3,c4,c5,c6,c7⟩) t⟩
def aTL(α:Type):kI α:=⟨fun f t=>Q.rec (motive:=fun _=>Q α) (fun c0 c1 c2 c3 c4 c5 c6 c7=>⟨c0,c1,c2,f c3,c4,c5,c6,c7⟩) t⟩
def aV1(α:Type):kI α:=⟨fun f t=>Q.rec (motive:=fun _=>Q α) (fun c0 c1 c2 c3 c4 c5 c6 c7=>⟨c0,c1,c2,c3,f c4,c5,c6,c7⟩) t⟩
def bA3(α:Type):kI α:=⟨fun f t=>Q.rec (motive:=fun _=>Q α) (fun c0 c1 c2 c3 c4 c5 c6 c7=>⟨c0,c1,c2,c3,c4,f c5,c6,c7⟩) t⟩
def bAo(α:Type):kI α:=⟨fun f t=>Q.rec (motive:=fun _=>Q α) (fun c0 c1 c2 c3 c4 c5 c6 c7=>⟨c0,c1,c2,c3,c4,c5,f c6,c7⟩) t⟩
def aTe(α:Type):kI α:=⟨fun f t=>Q.rec (motive:=fun _=>Q α) (fun c0 c1 c2 c3 c4 c5 c6 c7=>⟨c0,c1,c2,c3,c4,c5,c6,f c7⟩) t⟩
def sel(α:Type)(k:Nat):kQ α:=Nat.rec (motive:=fun _=>kQ α) (aZj α) (fun k _=>Nat.rec (motive:=fun _=>kQ α) (bCe α) (fun k _=>Nat.rec (motive:=fun _=>kQ α) (bEU α) (fun k _=>Nat.rec (motive:=fun _=>kQ α) (bBs α) (fun k _=>Nat.rec (motive:=fun _=>kQ α) (bDx α) (fun k _=>Nat.rec (motive:=fun _=>kQ α) (aTd α) (fun k _=>Nat.rec (motive:=fun _=>kQ α) (aZB α) (fun _ _=>aYG α) k) k) k) k) k) k) k
def aNm(α:Type)(k:Nat):kI α:=Nat.rec (motive:=fun _=>kI α) (bDy α) (fun k _=>Nat.rec (motive:=fun _=>kI α) (aVj α) (fun k _=>Nat.rec (motive:=fun _=>kI α) (aTq α) (fun k _=>Nat.rec (motive:=fun _=>kI α) (aTL α) (fun k _=>Nat.rec (motive:=fun _=>kI α) (aV1 α) (fun k _=>Nat.rec (motive:=fun _=>kI α) (bA3 α) (fun k _=>Nat.rec (motive:=fun _=>kI α) (bAo α) (fun _ _=>aTe α) k) k) k) k) k) k) k
def dJ{α:Type}(d:Nat):Nat->xO α d:=
 Nat.rec (motive:=fun d=>Nat->xO α d) (fun _=>⟨fun t=>t⟩)
  (fun d ih i=>xO.rec (motive:=fun _=>xO α (d+1)) (fun g=>kQ.rec (motive:=fun _=>xO α (d+1)) (fun s=>⟨fun t=>g (s t)⟩) (sel (TT α d) (Nat.land i 7))) (ih (Nat.shiftRight i 3))) d
def setter{α:Type}(d:Nat):Nat->wX α d:=
 Nat.rec (motive:=fun d=>Nat->wX α d) (fun _=>⟨fun _ v=>v⟩)
  (fun d ih i=>wX.rec (motive:=fun _=>wX α (d+1)) (fun g=>kI.rec (motive:=fun _=>wX α (d+1)) (fun s=>⟨fun t v=>s (fun c=>g c v) t⟩) (aNm (TT α d) (Nat.land i 7))) (ih (Nat.shiftRight i 3))) d
def same{α:Type}(a:α):(d:Nat)->TT α d
 |0=>a
 |d+1=>(⟨same a d,same a d,same a d,same a d,same a d,same a d,same a d,same a d⟩:Q (TT α d))
inductive AV where
 |undef
 |lit (v:Value)
 |bool (b:Bool)
 |int (k:IntKind) (n:Int)
 |str (len bits:Nat)
 |ptr (b o:Nat)
 |cK
 |sl (b o len cap:Nat) (ex:Bool)
 |aA
 |sle
 |map (m:Nat)
 |dR
 |fn (f:FuncId) (first cap:List AV)
 |yield (l:Nat)
 |iR
 |iface (t:TypeId) (v:AV)
 |nO
 |agg (l:List AV)
 |aX (l:List AV)
structure mD where
 (key val:AV)
 born:Nat
inductive bO where
 |dead
 |cells (d n:Nat) (c:TT AV d) (ro:Bool) (z:Nat)
 |map (es:List mD) (clock:Nat)
 |fQ (len bits pos:Nat)
 |loop (ready:Bool) (pending:Option Code) (d n:Nat) (L:TT AV d) (params:List Tmp) (assign body:Code)
def bO.wr:bO->Bool
 | .dead=>false
 | .cells _ _ _ ro _=> !ro
 |_=>true
def HD:Nat:=7
structure Mem where
 t:TT bO HD
 x:Nat->bO
def Mem.get(m:Mem)(i:Nat):bO:=bif Nat.blt i 2097152 then(dJ HD i).f m.t else m.x i
def Mem.put(m:Mem)(i:Nat)(b:bO):Mem:=bif Nat.blt i 2097152 then⟨(setter HD i).f m.t b,m.x⟩else⟨m.t,fun c=>bif Nat.beq c i then b else m.x c⟩
structure Hp where
 t:Mem
 nx:Nat
def Hp.get(H:Hp)(i:Nat):bO:=H.t.get i
def Hp.put(H:Hp)(i:Nat)(b:bO):Hp:=⟨H.t.put i b,H.nx⟩
def Hp.empty:Hp:=⟨⟨same .dead HD,fun _=>.dead⟩,0⟩
inductive Ex where
 |normal|exit (id:Nat)|goto (l:Nat)|ret
inductive R0 where
 |bad
 |val (v:AV)
 |new (v:AV) (b:bO)
inductive R1 where
 |bad
 |ok (v:AV) (H:Hp)
inductive Rc(d:Nat) where
 |bad
 |ok (e:Ex) (L:TT AV d) (H:Hp)
inductive Cl where
 |f (id:FuncId)
 |y (l:Nat)
 |d (id:FuncId)
abbrev Call:=Cl->List AV->Hp->R1
def iF(n:Nat):Nat:=
 bif Nat.ble n 8 then 1 else bif Nat.ble n 64 then 2 else bif Nat.ble n 512 then 3 else bif Nat.ble n 4096 then 4 else bif Nat.ble n 32768 then 5 else bif Nat.ble n 262144 then 6 else n
def rdN{d:Nat}(c:TT AV d)(k:Nat):Nat->List AV:=
 Nat.rec (motive:=fun _=>Nat->List AV) (fun _=>[]) (fun _ ih o=>(dJ d o).f c::ih (Nat.succ o)) k
def nR{d:Nat}(l:List AV):Nat->TT AV d->TT AV d:=
 List.rec (motive:=fun _=>Nat->TT AV d->TT AV d) (fun _ c=>c) (fun v _ ih o c=>ih (Nat.succ o) ((setter d o).f c v)) l
def aB(z:Nat)(l:List AV):bO:=.cells (iF l.length) l.length (nR l 0 (same .undef _)) false z
def kD(l:List UInt8):Nat:=l.foldr (fun b acc=>acc*256+b.toNat) 0
def qpi:Value->AV
 | .bool b=>.bool b
 | .int k n=>.int k n
 | .string s=>.str s.data.toList.length (kD s.data.toList)
 | .pointer none=>.cK
 | .slice none 0 0=>.aA
 | .map none=>.dR
 | .nilFunc=>.iR
 | .nilIface=>.nO
 |v=>.lit v
def aBk:Value->Bool
 | .agg _| .tuple _=>false
 |_=>true
def qxc:Value->AV
 | .agg cs=>bif cs.toList.all aBk then .agg (cs.toList.map qpi)else .lit (.agg cs)
 | .tuple ⟨[]⟩=>.undef
 |v=>qpi v
def AV.cells:AV->List AV
 | .agg l=>l
 |v=>[v]
def pR(P:Program)(t:TypeId):Option Bool:=(P.underlying t).map fun| .struct _| .array _ _=>true|_=>false
def gQ(P:Program)(t:TypeId):Option Nat:=(P.info? t).map (·.size)
def qjp(P:Program)(t:TypeId):Option Nat:=(P.info? t).map (·.bytes)
def qk9:Value->Option (List AV)
 | .agg cs=>bif cs.toList.all aBk then some (cs.toList.map qpi)else none
 | .tuple _=>none
 |v=>some [qpi v]
def qju(P:Program)(t:TypeId):Option (List AV):=((P.info? t).bind (·.zero)).bind qk9
/- numbers -/
def qxq(k:IntKind)(n:Int):Bool:=
 match n with
 | .ofNat m=>Nat.blt m (match k with| .i8=>128| .i16=>32768| .i32=>2147483648| .i64=>9223372036854775808| .u8=>256| .u16=>65536| .u32=>4294967296| .u64=>18446744073709551616)
 | .negSucc m=>match k with| .i8=>Nat.blt m 128| .i16=>Nat.blt m 32768| .i32=>Nat.blt m 2147483648| .i64=>Nat.blt m 9223372036854775808|_=>false
def uU(k:IntKind)(n:Int):Int:=bif qxq k n then n else k.wrap n
def oU(a b:Int):Bool:=
 match a,b with
 | .ofNat m,.ofNat n=>Nat.blt m n
 | .negSucc m,.negSucc n=>Nat.blt n m
 | .negSucc _,.ofNat _=>true
 | .ofNat _,.negSucc _=>false
def qY(a b:Int):Bool:=
 match a,b with
 | .ofNat m,.ofNat n=>Nat.beq m n
 | .negSucc m,.negSucc n=>Nat.beq m n
 |_,_=>false
def zmi:IntKind->Nat
 | .i8=>0| .i16=>1| .i32=>2| .i64=>3| .u8=>4| .u16=>5| .u32=>6| .u64=>7
def wK(a b:IntKind):Bool:=Nat.beq (zmi a) (zmi b)
structure B2 where f:IntKind->Int->Int->R0
def mM:BinOp->B2
 | .add=>⟨fun k a b=>.val (.int k (uU k (a+b)))⟩
 | .sub=>⟨fun k a b=>.val (.int k (uU k (a-b)))⟩
 | .mul=>⟨fun k a b=>.val (.int k (uU k (a*b)))⟩
 | .quo=>⟨fun k a b=>bif qY b 0 then .bad else .val (.int k (uU k (a.tdiv b)))⟩
 | .rem=>⟨fun k a b=>bif qY b 0 then .bad else .val (.int k (a.tmod b))⟩
 | .and=>⟨fun k a b=>.val (.int k (k.wrap (BitVec.ofInt k.bits a &&& BitVec.ofInt k.bits b).toNat))⟩
 | .or=>⟨fun k a b=>.val (.int k (k.wrap (BitVec.ofInt k.bits a ||| BitVec.ofInt k.bits b).toNat))⟩
 | .xor=>⟨fun k a b=>.val (.int k (k.wrap (BitVec.ofInt k.bits a ^^^ BitVec.ofInt k.bits b).toNat))⟩
 | .andNot=>⟨fun k a b=>.val (.int k (k.wrap (BitVec.ofInt k.bits a &&& ~~~ BitVec.ofInt k.bits b).toNat))⟩
 | .eql=>⟨fun _ a b=>.val (.bool (qY a b))⟩
 | .neq=>⟨fun _ a b=>.val (.bool (!qY a b))⟩
 | .lss=>⟨fun _ a b=>.val (.bool (oU a b))⟩
 | .leq=>⟨fun _ a b=>.val (.bool (!oU b a))⟩
 | .gtr=>⟨fun _ a b=>.val (.bool (oU b a))⟩
 | .geq=>⟨fun _ a b=>.val (.bool (!oU a b))⟩
 |_=>⟨fun _ _ _=>.bad⟩
def qi8:BinOp->B2
 | .shl=>⟨fun k a b=>bif oU b 0 then .bad else .val (.int k (uU k (a*2 ^ (min b.toNat k.bits))))⟩
 | .shr=>⟨fun k a b=>bif oU b 0 then .bad else .val (.int k (a.fdiv (2 ^ (min b.toNat k.bits))))⟩
 |_=>⟨fun _ _ _=>.bad⟩
/- strings: length, and the bytes packed from the first on -/
def qqe(bits i:Nat):Nat:=Nat.land (Nat.shiftRight bits (Nat.mul 8 i)) 255
def qeu(f:Nat):(n a m b:Nat)->Bool:=
 Nat.rec (motive:=fun _=>Nat->Nat->Nat->Nat->Bool) (fun n _ m _=>Nat.blt n m)
  (fun _ ih n a m b=>bif Nat.beq m 0 then false else bif Nat.beq n 0 then true else
   bif Nat.beq (Nat.land a 255) (Nat.land b 255)then ih (Nat.pred n) (Nat.shiftRight a 8) (Nat.pred m) (Nat.shiftRight b 8)
   else Nat.blt (Nat.land a 255) (Nat.land b 255)) f
def eqS(n a m b:Nat):Bool:=Nat.beq n m&&Nat.beq a b
structure S2 where f:Nat->Nat->Nat->Nat->R0
def nT:BinOp->S2
 | .add=>⟨fun n a m b=>bif Nat.ble (n+m) 1099511627776 then .val (.str (n+m) (Nat.add a (Nat.shiftLeft b (Nat.mul 8 n))))else .bad⟩
 | .eql=>⟨fun n a m b=>.val (.bool (eqS n a m b))⟩
 | .neq=>⟨fun n a m b=>.val (.bool (!eqS n a m b))⟩
 | .lss=>⟨fun n a m b=>.val (.bool (qeu n n a m b))⟩
 | .leq=>⟨fun n a m b=>.val (.bool (qeu n n a m b||eqS n a m b))⟩
 | .gtr=>⟨fun n a m b=>.val (.bool (!(qeu n n a m b||eqS n a m b)))⟩
 | .geq=>⟨fun n a m b=>.val (.bool (!qeu n n a m b))⟩
 |_=>⟨fun _ _ _ _=>.bad⟩
/- parts of aggregates -/
structure P1 where f:List AV->Nat->Option AV
def qlt(P:Program)(t:TypeId):P1:=
 match pR P t,gQ P t with
 |some true,some k=>⟨fun cs off=>some (.agg ((cs.drop off).take k))⟩
 |some false,_=>⟨fun cs off=>cs[off]?⟩
 |_,_=>⟨fun _ _=>none⟩
/- equality at a type -/
structure E2 where f:AV->AV->Option Bool
def andThen(a b:Option Bool):Option Bool:=
 match a with|some true=>b|some false=>some false|none=>none
def qtm(p:P1)(e:E2)(xs ys:List AV)(off:Nat):Option Bool:=
 match p.f xs off,p.f ys off with
 |some a,some b=>e.f a b
 |_,_=>none
def qem:AV->AV->Option Bool
 | .bool a,.bool b=>some (a==b)
 |_,_=>none
def qqu:AV->AV->Option Bool
 | .int k a,.int k' b=>bif wK k k' then some (qY a b)else none
 |_,_=>none
def iE:AV->AV->Option Bool
 | .str n a,.str m b=>some (eqS n a m b)
 |_,_=>none
def qp4:AV->AV->Option Bool
 | .cK,.cK=>some true
 | .cK,.ptr _ _=>some false
 | .ptr _ _,.cK=>some false
 |_,_=>none
def aER:AV->AV->Option Bool
 | .aA,.aA=>some true
 | .aA,.sl .. =>some false
 | .aA,.sle=>some false
 | .sl ..,.aA=>some false
 | .sle,.aA=>some false
 |_,_=>none
def zua:AV->AV->Option Bool
 | .dR,.dR=>some true
 | .dR,.map _=>some false
 | .map _,.dR=>some false
 |_,_=>none
def eqFn:AV->AV->Option Bool
 | .iR,.iR=>some true
 | .iR,.fn .. =>some false
 | .fn ..,.iR=>some false
 |_,_=>none
def aEc:AV->AV->Option Bool
 | .nO,.iface .. =>some false
 | .iface ..,.nO=>some false
 |_,_=>none
def l8(f:List AV->List AV->Option Bool):AV->AV->Option Bool
 | .agg xs,.agg ys=>f xs ys
 |_,_=>none
def eqFields(fs:List (P1×E2×Nat))(xs ys:List AV):Option Bool:=
 fs.foldr (fun f r=>andThen (qtm f.1 f.2.1 xs ys f.2.2) r) (some true)
def zX(p:P1)(e:E2)(z:Nat)(xs ys:List AV):Nat->Nat->Option Bool
 |0,_=>some true
 |k+1,i=>andThen (qtm p e xs ys (i*z)) (zX p e z xs ys k (i+1))
def eqT(P:Program):Nat->TypeId->E2
 |0,_=>⟨fun _ _=>none⟩
 |d+1,t=>
  match P.underlying t with
  |some .bool=>⟨qem⟩
  |some (.int _)=>⟨qqu⟩
  |some .string=>⟨iE⟩
  |some (.struct fs)=>
   if P.stoodInHeld t then⟨fun _ _=>none⟩else
   let l:=(fs.toList.filter fun f=>f.name != "_").map fun f=>(qlt P f.type,eqT P d f.type,f.offset)
   ⟨l8 (eqFields l)⟩
  |some (.array len e)=>
   match gQ P e with
   |some z=>let p:=qlt P e;let q:=eqT P d e;⟨l8 fun xs ys=>zX p q z xs ys len 0⟩
   |none=>⟨fun _ _=>none⟩
  |some (.pointer _)=>⟨qp4⟩
  |some (.slice _)=>⟨aER⟩
  |some (.map ..)=>⟨zua⟩
  |some (.func ..)=>⟨eqFn⟩
  |some (.interface _)=>⟨aEc⟩
  |_=>⟨fun _ _=>none⟩
def qdf:Nat:=20
/- operations on values -/
def dK(c a b:AV):R0:=
 match c with
 | .bool true=>.val a
 | .bool false=>.val b
 |_=>.bad
def gU(g:IntKind->Int->Int->R0)(x y:AV):R0:=
 match x,y with
 | .int k a,.int k' b=>bif wK k k' then g k a b else .bad
 |_,_=>.bad
def qzh(g:IntKind->Int->Int->R0)(x y:AV):R0:=
 match x,y with
 | .int k a,.int _ b=>g k a b
 |_,_=>.bad
def gX(g:Nat->Nat->Nat->Nat->R0)(x y:AV):R0:=
 match x,y with
 | .str n a,.str m b=>g n a m b
 |_,_=>.bad
def pX(neg:Bool)(r:Option Bool):R0:=
 match r with
 |some b=>.val (.bool (bif neg then !b else b))
 |none=>.bad
structure V2 where f:AV->AV->R0
def wD(P:Program)(op:BinOp)(t:TypeId):V2:=
 match P.underlying t with
 |some (.int _)=>
  match op with
  | .shl| .shr=>match qi8 op with|⟨g⟩=>⟨qzh g⟩
  |_=>match mM op with|⟨g⟩=>⟨gU g⟩
 |some .string=>match nT op with|⟨g⟩=>⟨gX g⟩
 |some .bool|some (.pointer _)|some (.slice _)|some (.map ..)|some (.func ..)|some (.interface _)=>
  match op,eqT P qdf t with
  | .eql,⟨e⟩=>⟨fun x y=>pX false (e x y)⟩
  | .neq,⟨e⟩=>⟨fun x y=>pX true (e x y)⟩
  |_,_=>⟨fun _ _=>.bad⟩
 |some (.struct _)|some (.array ..)=>
  if P.eqGuardType P.depth t then⟨fun _ _=>.bad⟩else
  match op,eqT P qdf t with
  | .eql,⟨e⟩=>⟨fun x y=>pX false (e x y)⟩
  | .neq,⟨e⟩=>⟨fun x y=>pX true (e x y)⟩
  |_,_=>⟨fun _ _=>.bad⟩
 |_=>⟨fun _ _=>.bad⟩
structure V1 where f:AV->R0
def kX:UnOp->V1
 | .not=>⟨fun x=>match x with| .bool b=>.val (.bool !b)|_=>.bad⟩
 | .neg=>⟨fun x=>match x with| .int k n=>.val (.int k (uU k (0-n)))|_=>.bad⟩
 |_=>⟨fun _=>.bad⟩
/- memory -/
def bK(b:bO)(o:Nat):R0:=
 match b with
 | .cells d n c _ _=>bif Nat.blt o n then .val ((dJ d o).f c)else .bad
 |_=>.bad
def aO(H:Hp)(a:AV):R0:=
 match a with
 | .ptr b o=>bK (H.get b) o
 |_=>.bad
def jG(b:bO)(o k:Nat):Option (List AV):=
 match b with
 | .cells _ n c _ _=>bif Nat.ble (o+k) n then some (rdN c k o)else none
 |_=>none
def aC1(r:Option (List AV)):R0:=match r with|some l=>.val (.agg l)|none=>.bad
def dQ(k:Nat)(H:Hp)(a:AV):R0:=
 match a with
 | .ptr b o=>aC1 (jG (H.get b) o k)
 |_=>.bad
def uK(b:bO)(o:Nat)(l:List AV):Option bO:=
 match b with
 | .cells d n c false z=>bif Nat.ble (o+l.length) n then some (.cells d n (nR l o c) false z)else none
 |_=>none
def storeAt(H:Hp)(b o:Nat)(l:List AV)(v:AV):R1:=
 match uK (H.get b) o l with
 |some blk=>.ok v (H.put b blk)
 |none=>.bad
def jX(H:Hp)(a x:AV):R1:=
 match a,x with
 | .ptr _ _,.agg _=>.bad
 | .ptr _ _,.aX _=>.bad
 | .ptr _ _,.undef=>.bad
 | .ptr _ _,.lit _=>.bad
 | .ptr b o,v=>storeAt H b o [v] .undef
 |_,_=>.bad
def zJ(k:Nat)(H:Hp)(a x:AV):R1:=
 match a,x with
 | .ptr b o,.agg l=>bif Nat.beq l.length k then storeAt H b o l .undef else .bad
 |_,_=>.bad
def l9(nm:Nat)(x:AV):R0:=
 match x with
 | .agg _| .aX _| .undef| .lit _=>.bad
 |v=>.new (.ptr nm 0) (aB 0 [v])
def yE(k:Nat)(nm:Nat)(x:AV):R0:=
 match x with
 | .agg l=>bif Nat.beq l.length k then .new (.ptr nm 0) (aB 0 l)else .bad
 |_=>.bad
def aQ(off:Nat)(x:AV):R0:=match x with| .ptr b o=>.val (.ptr b (Nat.add o off))|_=>.bad
def za8(p:P1)(off:Nat)(x:AV):R0:=
 match x with
 | .agg l=>match p.f l off with|some v=>.val v|none=>.bad
 |_=>.bad
def aG(z:Nat)(x i:AV):R0:=
 match x,i with
 | .sl b o len _ _,.int _ (.ofNat i)=>bif Nat.blt i len then .val (.ptr b (Nat.add o (Nat.mul i z)))else .bad
 |_,_=>.bad
def gP(len z:Nat)(x i:AV):R0:=
 match x,i with
 | .ptr b o,.int _ (.ofNat i)=>bif Nat.blt i len then .val (.ptr b (Nat.add o (Nat.mul i z)))else .bad
 |_,_=>.bad
def zas(x i:AV):R0:=
 match x,i with
 | .str n a,.int _ (.ofNat i)=>bif Nat.blt i n then .val (.int .u8 (.ofNat (qqe a i)))else .bad
 |_,_=>.bad
def aG5(p:P1)(len z:Nat)(x i:AV):R0:=
 match x,i with
 | .agg l,.int _ (.ofNat i)=>bif Nat.blt i len then(match p.f l (Nat.mul i z)with|some v=>.val v|none=>.bad)else .bad
 |_,_=>.bad
/- slices -/
def bnd(x:Option AV)(dflt y:Nat):Option Nat:=
 match x with
 |none=>some dflt
 |some (.int _ (.ofNat n))=>bif Nat.ble n y then some n else none
 |some _=>none
structure Bd where
 (l h m:Nat)
def bounds(len cap:Nat)(lo hi mx:Option AV):Option Bd:=
 match mx,hi with
 |some _,none=>none
 |_,_=>
  match bnd mx cap cap with
  |none=>none
  |some m=>match bnd hi len m with
   |none=>none
   |some h=>match bnd lo 0 h with
    |none=>none
    |some l=>some ⟨l,h,m⟩
def qwv(x:AV)(lo hi:Option AV):R0:=
 match x with
 | .str n a=>match bounds n n lo hi none with
  |some b=>.val (.str (b.h-b.l) (Nat.land (Nat.shiftRight a (Nat.mul 8 b.l)) (Nat.sub (Nat.shiftLeft 1 (Nat.mul 8 (b.h-b.l))) 1)))
  |none=>.bad
 |_=>.bad
def iI(b o z:Nat)(bd:Bd)(ex:Bool):R0:=
 bif Nat.beq bd.m bd.l then(bif ex then .val (.sl b o 0 0 true)else .val .sle)
 else .val (.sl b (Nat.add o (Nat.mul bd.l z)) (Nat.sub bd.h bd.l) (Nat.sub bd.m bd.l) ex)
def kL(z:Nat)(x:AV)(lo hi mx:Option AV):R0:=
 match x with
 | .aA=>match bounds 0 0 lo hi mx with|some _=>.val .aA|none=>.bad
 | .sl b o len cap ex=>match bounds len cap lo hi mx with
  |some bd=>iI b o z bd (match mx with|some _=>true|none=>ex)
  |none=>.bad
 |_=>.bad
def qmu(len z:Nat)(x:AV)(lo hi mx:Option AV):R0:=
 match x with
 | .ptr b o=>match bounds len len lo hi mx with|some bd=>iI b o z bd true|none=>.bad
 |_=>.bad
def bB(l:List AV)(n:Nat):List AV:=Nat.rec (motive:=fun _=>List AV) [] (fun _ r=>l++r) n
def fO:Nat:=1099511627776
def qgb(z:List AV)(bytes:Nat)(nm:Nat)(l c:AV):R0:=
 match l,c with
 | .int _ (.ofNat n),.int _ (.ofNat m)=>bif Nat.ble n m&&Nat.ble (Nat.mul m bytes) fO&&Nat.ble m fO then .new (.sl nm 0 n m true) (aB 0 (bB z m))else .bad
 |_,_=>.bad
/- building aggregates: parts in the order of their offsets -/
def qox(c:List AV)(off size:Nat)(v:List AV):Option (List AV):=
 bif Nat.beq v.length size&&Nat.ble (off+size) c.length then some (c.take off++v++c.drop (off+size))else none
def zT:AV->Option (List AV)
 | .agg l=>some l
 | .aX _| .undef| .lit _=>none
 |v=>some [v]
def dF(c:List AV):List (Nat×Nat×AV)->Option (List AV)
 | []=>some c
 |(off,size,v)::r=>match zT v with
  |some l=>match qox c off size l with|some c'=>dF c' r|none=>none
  |none=>none
/- maps -/
structure Hit where
 i:Nat
 x:mD
def qjm(e:AV->AV->Option Bool)(k:AV)(es:List mD):Nat->Option (Option Hit):=
 List.rec (motive:=fun _=>Nat->Option (Option Hit)) (fun _=>some none)
  (fun x _ ih i=>match e k x.key with|some true=>some (some ⟨i,x⟩)|some false=>ih (Nat.succ i)|none=>none) es
def zss:AV->AV->Bool
 | .int k a,.int k' b=>wK k k'&&qY a b
 | .str n a,.str m b=>eqS n a m b
 | .bool a,.bool b=>a==b
 |_,_=>false
def zcf:List AV->List AV->Bool
 | [],[]=>true
 |a::l,b::m=>zss a b&&zcf l m
 |_,_=>false
def sameKey:AV->AV->Bool
 | .agg l,.agg m=>zcf l m
 |a,b=>zss a b
def qie(s:Option Nat)(k:AV):Bool:=
 match s,k with
 |none,.agg _=>false
 |none,_=>true
 |some n,.agg l=>Nat.beq l.length n
 |some _,_=>false
def qxl(P:Program):Nat->TypeId->Bool
 |0,_=>false
 |d+1,t=>
  match P.underlying t,gQ P t with
  |some (.int _),some _|some .string,some _|some .bool,some _=>true
  |some (.struct fs),some n=>fs.toList.all fun f=>match gQ P f.type with
   |some m=>Nat.ble (f.offset+m) n&&qxl P d f.type&&Nat.blt 0 m
   |none=>false
  |some (.array len e),some n=>match gQ P e with
   |some m=>Nat.ble (len*m) n&&qxl P d e&&Nat.blt 0 m
   |none=>false
  |_,_=>false
structure Ky where
 e:AV->AV->Option Bool
 s:Option Nat
def rU(P:Program)(kt:TypeId):Option Ky:=
 match qxl P qdf kt,eqT P qdf kt,pR P kt,gQ P kt with
 |true,⟨e⟩,some true,some n=>some ⟨e,some n⟩
 |true,⟨e⟩,some false,some _=>some ⟨e,none⟩
 |_,_,_,_=>none
def qxs(ky:Ky)(k:AV)(es:List mD):Option (Option Hit):=
 bif qie ky.s k then qjm ky.e k es 0 else none
def zxw(H:Hp):AV->Option (List mD)
 | .dR=>some []
 | .map m=>match H.get m with| .map es _=>some es|_=>none
 |_=>none
def z2i(ok:Bool)(z:AV)(r:Option (Option Hit)):R0:=
 match r with
 |some (some h)=>.val (bif ok then .aX [h.x.val,.bool true]else h.x.val)
 |some none=>.val (bif ok then .aX [z,.bool false]else z)
 |none=>.bad
def sK(ky:Ky)(z:AV)(ok:Bool)(H:Hp)(m k:AV):R0:=
 match zxw H m with
 |some es=>z2i ok z (qxs ky k es)
 |none=>.bad
def qW(ky:Ky)(H:Hp)(m k v:AV):R1:=
 match m with
 | .map b=>match H.get b with
  | .map es clock=>match qxs ky k es with
   |some (some h)=>bif sameKey h.x.key k then .ok .undef (H.put b (.map (es.set h.i ⟨k,v,h.x.born⟩) clock))else .bad
   |some none=>.ok .undef (H.put b (.map (es++[⟨k,v,clock⟩]) (Nat.succ clock)))
   |none=>.bad
  |_=>.bad
 |_=>.bad
def zm8(ky:Ky)(z:AV)(H:Hp)(m k:AV):R1:=
 match m with
 | .map b=>match H.get b with
  | .map es clock=>match qxs ky k es with
   |some (some h)=>bif sameKey h.x.key k then .ok (.aX [h.x.val,.int .i64 (.ofNat h.x.born)]) (H.put b (.map (es.set h.i ⟨k,h.x.val,h.x.born⟩) clock))else .bad
   |some none=>.ok (.aX [z,.int .i64 (.ofNat clock)]) (H.put b (.map (es++[⟨k,z,clock⟩]) (Nat.succ clock)))
   |none=>.bad
  |_=>.bad
 |_=>.bad
def zkj(n:Nat)(es:List mD):Nat->Option Hit:=
 List.rec (motive:=fun _=>Nat->Option Hit) (fun _=>none) (fun x _ ih i=>bif Nat.beq x.born n then some ⟨i,x⟩else ih (Nat.succ i)) es
def qxu(H:Hp)(m s v:AV):R1:=
 match m,s with
 | .map b,.int _ (.ofNat n)=>match H.get b with
  | .map es clock=>match zkj n es 0 with
   |some h=>.ok .undef (H.put b (.map (es.set h.i ⟨h.x.key,v,h.x.born⟩) clock))
   |none=>.bad
  |_=>.bad
 |_,_=>.bad
/- builtins -/
def i64(n:Nat):AV:=.int .i64 (.ofNat n)
def aEU(x:AV):R0:=match x with| .str n _=>.val (i64 n)|_=>.bad
def aF(x:AV):R0:=
 match x with
 | .sl _ _ n _ _=>.val (i64 n)
 | .aA=>.val (i64 0)
 | .sle=>.val (i64 0)
 |_=>.bad
def aAy(H:Hp)(x:AV):R0:=
 match x with
 | .dR=>.val (i64 0)
 | .map m=>match H.get m with| .map es _=>.val (i64 es.length)|_=>.bad
 |_=>.bad
def jM(x:AV):R0:=
 match x with
 | .sl _ _ _ c true=>.val (i64 c)
 | .aA=>.val (i64 0)
 |_=>.bad
def nN(x y:AV):R0:=
 match x,y with
 | .int k a,.int _ b=>.val (.int k (bif oU b a then b else a))
 |_,_=>.bad
def oO(x y:AV):R0:=
 match x,y with
 | .int k a,.int _ b=>.val (.int k (bif oU a b then b else a))
 |_,_=>.bad
def pK(g:AV->AV->R0)(x:AV)(l:List AV):R0:=
 List.rec (motive:=fun _=>AV->R0) (fun x=>.val x) (fun y _ ih x=>match g x y with| .val z=>ih z|_=>.bad) l x
def q1b(bits n:Nat):List AV:=Nat.rec (motive:=fun _=>Nat->List AV) (fun _=>[]) (fun _ ih i=>.int .u8 (.ofNat (qqe bits i))::ih (Nat.succ i)) n 0
structure Src where
 n:Nat
 l:List AV
def zsl(z:Nat)(H:Hp)(x:AV):Option Src:=
 match x with
 | .aA| .sle=>some ⟨0,[]⟩
 | .sl b o n _ _=>match jG (H.get b) o (Nat.mul n z)with|some l=>some ⟨n,l⟩|none=>none
 | .str n a=>some ⟨n,q1b a n⟩
 |_=>none
def qA(z:Nat)(H:Hp)(x:AV):Option Src:=
 match x with
 | .str _ _=>bif Nat.beq z 1 then zsl z H x else none
 |_=>zsl z H x
def qt2(w:Nat)(zl:List AV)(x:AV):Option Src:=
 match x with
 | .int _ (.ofNat n)=>bif Nat.ble n fO&&Nat.ble (Nat.mul n w) fO then some ⟨n,bB zl n⟩else none
 |_=>none
def aN(H:Hp)(b:bO):Hp:=⟨H.t.put H.nx b,Nat.succ H.nx⟩
def grow(z:Nat)(H:Hp)(old:List AV)(s:Src)(n:Nat):R1:=.ok (.sl H.nx 0 n n false) (aN H (aB z (old++s.l)))
def qhm(b:bO)(e z:Nat):Bool:=match b with| .cells _ n _ false z'=>Nat.beq n e&&Nat.beq z' z|_=>false
def lI(z bytes:Nat)(H:Hp)(s:AV)(src:Option Src):R1:=
 match src with
 |none=>.bad
 |some x=>
  match s with
  | .aA=>bif Nat.beq x.n 0 then .ok .aA H else bif Nat.ble (Nat.mul x.n bytes) fO&&Nat.ble x.n fO then grow z H [] x x.n else .bad
  | .sl b o len cap ex=>
   bif Nat.ble (len+x.n) cap then storeAt H b (o+len*z) x.l (.sl b o (len+x.n) cap ex)
   else bif Nat.ble (Nat.mul (len+x.n) bytes) fO&&Nat.ble (len+x.n) fO then
    match jG (H.get b) o (Nat.mul len z)with
    |none=>.bad
    |some old=>bif ex then grow z H old x (len+x.n)else
     bif qhm (H.get b) (o+cap*z) z then grow z (H.put b .dead) old x (len+x.n)else .bad
   else .bad
  |_=>.bad
def copyV(z:Nat)(H:Hp)(d:AV)(src:Option Src):R1:=
 match src,d with
 |some x,.sl b o n _ _=>storeAt H b o (x.l.take (Nat.mul (min x.n n) z)) (i64 (min x.n n))
 |some _,.aA=>.ok (i64 0) H
 |some _,.sle=>.ok (i64 0) H
 |_,_=>.bad
def aGp(ky:Ky)(H:Hp)(m k:AV):R1:=
 match m with
 | .map b=>match H.get b with
  | .map es clock=>match qxs ky k es with
   |some (some h)=>.ok .undef (H.put b (.map (es.eraseIdx h.i) clock))
   |some none=>.ok .undef (H.put b (.map es clock))
   |none=>.bad
  |_=>.bad
 |_=>.bad
def qif(zl:List AV)(H:Hp)(x:AV):R1:=
 match x with
 | .aA=>.ok .undef H
 | .sl b o n _ _=>bif Nat.beq n 0 then .ok .undef H else storeAt H b o (bB zl n) .undef
 |_=>.bad
def zn0(H:Hp)(x:AV):R1:=
 match x with
 | .dR=>.ok .undef H
 | .map b=>match H.get b with| .map _ clock=>.ok .undef (H.put b (.map [] clock))|_=>.bad
 |_=>.bad
def z15(x:AV)(r:Option Src):Option Src:=
 match x,r with
 | .int .u8 (.ofNat _),some s=>some ⟨s.n+1,x::s.l⟩
 |_,_=>none
def z14(l:List AV):Option Src:=
 List.rec (motive:=fun _=>Option Src) (some ⟨0,[]⟩) (fun x _ ih=>z15 x ih) l
def zll(l:List AV):Nat:=
 List.rec (motive:=fun _=>Nat) 0 (fun x _ ih=>match x with
  | .int _ (.ofNat b)=>Nat.add (Nat.land b 255) (Nat.mul 256 ih)
  |_=>0) l
def z09(H:Hp)(x:AV):R0:=
 match x with
 | .aA| .sle=>.val (.str 0 0)
 | .sl b o n _ _=>match jG (H.get b) o n with
  |some l=>match z14 l with|some _=>.val (.str n (zll l))|none=>.bad
  |none=>.bad
 |_=>.bad
def q56(nm:Nat)(x:AV):R0:=
 match x with
 | .str n a=>.new (.sl nm 0 n n false) (aB 1 (q1b a n))
 |_=>.bad
def qqv(k:IntKind)(x:AV):R0:=match x with| .int _ n=>.val (.int k (uU k n))|_=>.bad
/- an operation, made ready once: quiet (it looks at the heap, or not), or with effects -/
inductive jF(d:Nat) where
 |q (looks:Bool) (f:Nat->TT AV d->Hp->R0)
 |e (f:Call->TT AV d->Hp->R1)
structure Rd(d:Nat) where f:TT AV d->AV
def aH(d n:Nat):Operand->Rd d
 | .tmp t=>bif Nat.blt t n then(match dJ (α:=AV) d t with|⟨g⟩=>⟨g⟩)else⟨fun _=>.undef⟩
 | .const v=>⟨fun _=>qxc v⟩
 | .global g=>⟨fun _=>.lit (.pointer (some ⟨g,0,none⟩))⟩
 | .func f=>⟨fun _=>.fn f [] []⟩
structure RdL(d:Nat) where f:TT AV d->List AV
def tQ(d n:Nat):List Operand->RdL d
 | []=>⟨fun _=>[]⟩
 |x::r=>match aH d n x,tQ d n r with|⟨g⟩,⟨h⟩=>⟨fun L=>g L::h L⟩
structure RdO(d:Nat) where f:TT AV d->Option AV
def yV(d n:Nat):Option Operand->RdO d
 |none=>⟨fun _=>none⟩
 |some x=>match aH d n x with|⟨g⟩=>⟨fun L=>some (g L)⟩
structure RdP(d:Nat) where f:TT AV d->List (Nat×Nat×AV)
def qqq(d n:Nat)(place:Nat->Option (Nat×Nat)):List (Nat×Operand)->Option (RdP d)
 | []=>some ⟨fun _=>[]⟩
 |(i,x)::r=>
  match place i,aH d n x,qqq d n place r with
  |some (off,size),⟨g⟩,some ⟨h⟩=>some ⟨fun L=>(off,size,g L)::h L⟩
  |_,_,_=>none
def dX(d:Nat):jF d:=.e fun _ _ _=>.bad
def dO(r:Option (List AV)):R0:=match r with|some l=>.val (.agg l)|none=>.bad
def tK(len:Nat)(nm:Nat)(r:Option (List AV)):R0:=match r with|some l=>.new (.sl nm 0 len len true) (aB 0 l)|none=>.bad
def qfq(P:Program)(fs:Array Field)(i:Nat):Option (Nat×Nat):=
 match fs[i]? with
 |some f=>(gQ P f.type).map fun s=>(f.offset,s)
 |none=>none
def vP(O:Call)(f:AV)(args:List AV)(H:Hp):R1:=
 match f with
 | .fn g first cap=>O (.f g) (first++args++cap) H
 | .yield l=>O (.y l) args H
 |_=>.bad
def qjo(O:Call)(f:AV)(args:List AV)(H:Hp):R1:=
 match f with
 | .fn g first cap=>O (.f g) (first++args++cap) H
 |_=>.bad
def u6(P:Program)(d n:Nat)(args:List Operand)(types:List TypeId):jF d:=
 match args,types with
 | [x],[t]=>
  match P.underlying t with
  |some (.array n _)=>.q false fun _ _ _=>.val (i64 n)
  |some (.pointer arr)=>match P.underlying arr with|some (.array n _)=>.q false fun _ _ _=>.val (i64 n)|_=>dX d
  |some .string=>match aH d n x with|⟨g⟩=>.q false fun _ L _=>aEU (g L)
  |some (.slice _)=>match aH d n x with|⟨g⟩=>.q false fun _ L _=>aF (g L)
  |some (.map ..)=>match aH d n x with|⟨g⟩=>.q true fun _ L H=>aAy H (g L)
  |_=>dX d
 |_,_=>dX d
def zZ(P:Program)(d n:Nat)(args:List Operand)(types:List TypeId):jF d:=
 match args,types with
 | [x],[t]=>
  match P.underlying t with
  |some (.array n _)=>.q false fun _ _ _=>.val (i64 n)
  |some (.slice _)=>match aH d n x with|⟨g⟩=>.q false fun _ L _=>jM (g L)
  |_=>dX d
 |_,_=>dX d
def aAg(d n:Nat)(args:List Operand):jF d:=
 match args with
 |x::r=>match aH d n x,tQ d n r with|⟨g⟩,⟨h⟩=>.q false fun _ L _=>pK nN (g L) (h L)
 |_=>dX d
def zF(d n:Nat)(args:List Operand):jF d:=
 match args with
 |x::r=>match aH d n x,tQ d n r with|⟨g⟩,⟨h⟩=>.q false fun _ L _=>pK oO (g L) (h L)
 |_=>dX d
structure Ap where
 (z w:Nat)
 zl:List AV
def apS(P:Program)(e:TypeId):Option Ap:=
 match gQ P e,qjp P e,qju P e with
 |some z,some w,some zl=>bif Nat.beq zl.length z then some ⟨z,w,zl⟩else none
 |_,_,_=>none
def aAi(P:Program)(d n:Nat)(args:List Operand)(types:List TypeId):jF d:=
 match args,types with
 | [x,y],[t,u]=>
  match P.underlying t with
  |some (.slice e)=>
   match apS P e,P.underlying u with
   |some ap,some (.int _)=>match aH d n x,aH d n y with|⟨g⟩,⟨h⟩=>.e fun _ L H=>lI ap.z ap.w H (g L) (qt2 ap.w ap.zl (h L))
   |some ap,some (.slice _)=>match aH d n x,aH d n y with|⟨g⟩,⟨h⟩=>.e fun _ L H=>lI ap.z ap.w H (g L) (qA ap.z H (h L))
   |some ap,some .string=>match aH d n x,aH d n y with|⟨g⟩,⟨h⟩=>.e fun _ L H=>lI ap.z ap.w H (g L) (qA ap.z H (h L))
   |_,_=>dX d
  |_=>dX d
 |_,_=>dX d
def q7d(P:Program)(d n:Nat)(args:List Operand)(types:List TypeId):jF d:=
 match args,types with
 | [x,y],[t,_]=>
  match P.underlying t with
  |some (.slice e)=>match gQ P e with
   |some z=>match aH d n x,aH d n y with|⟨g⟩,⟨h⟩=>.e fun _ L H=>copyV z H (g L) (qA z H (h L))
   |none=>dX d
  |_=>dX d
 |_,_=>dX d
def aAk(P:Program)(d n:Nat)(args:List Operand)(types:List TypeId):jF d:=
 match args,types with
 | [x,y],t::_=>
  match P.underlying t with
  |some (.map kt _)=>match rU P kt with
   |some ky=>match aH d n x,aH d n y with|⟨g⟩,⟨h⟩=>.e fun _ L H=>aGp ky H (g L) (h L)
   |none=>dX d
  |_=>dX d
 |_,_=>dX d
def zK(P:Program)(d n:Nat)(args:List Operand)(types:List TypeId):jF d:=
 match args,types with
 | [x],[t]=>
  match P.underlying t with
  |some (.slice e)=>match apS P e with
   |some ap=>match aH d n x with|⟨g⟩=>.e fun _ L H=>qif ap.zl H (g L)
   |none=>dX d
  |some (.map ..)=>match aH d n x with|⟨g⟩=>.e fun _ L H=>zn0 H (g L)
  |_=>dX d
 |_,_=>dX d
def qeo(P:Program)(d n:Nat)(b:Builtin)(args:List Operand)(types:List TypeId):jF d:=
 match b with
 | .len=>u6 P d n args types
 | .cap=>zZ P d n args types
 | .min=>aAg d n args
 | .max=>zF d n args
 | .append=>aAi P d n args types
 | .copy=>q7d P d n args types
 | .delete=>aAk P d n args types
 | .clear=>zK P d n args types
 |_=>dX d
def z5z(d n:Nat)(x:Operand):jF d:=
 match aH d n x with|⟨g⟩=>.q false fun _ L _=>.val (g L)
def z1j(d n:Nat)(c a b:Operand):jF d:=
 match aH d n c,aH d n a,aH d n b with|⟨gc⟩,⟨ga⟩,⟨gb⟩=>.q false fun _ L _=>dK (gc L) (ga L) (gb L)
def q9v(P:Program)(d:Nat)(t:TypeId):jF d:=
 match qju P t with
 |some z=>.q false fun nm _ _=>.new (.ptr nm 0) (aB 0 z)
 |none=>dX d
def aCr(P:Program)(d n:Nat)(t:TypeId)(x:Operand):jF d:=
 match pR P t,gQ P t,aH d n x with
 |some true,some k,⟨g⟩=>.q false fun nm L _=>yE k nm (g L)
 |some false,some _,⟨g⟩=>.q false fun nm L _=>l9 nm (g L)
 |_,_,_=>dX d
def q9u(P:Program)(d n:Nat)(t:TypeId)(ps:Array (Nat×Operand)):jF d:=
 match P.underlying t,qju P t with
 |some (.struct fs),some z=>if fs.toList.all fun f=>(gQ P f.type).isSome then match qqq d n (qfq P fs) ps.toList with
  |some ⟨h⟩=>.q false fun _ L _=>dO (dF z (h L))
  |none=>dX d
  else dX d
 |some (.array _ e),some z=>match gQ P e with
  |some s=>match qqq d n (fun i=>some (i*s,s)) ps.toList with
   |some ⟨h⟩=>.q false fun _ L _=>dO (dF z (h L))
   |none=>dX d
  |none=>dX d
 |_,_=>dX d
def qff(P:Program)(d n:Nat)(t:TypeId)(len:Nat)(ps:Array (Nat×Operand)):jF d:=
 match P.underlying t with
 |some (.slice e)=>match gQ P e,qju P e with
  |some s,some z=>bif Nat.ble (len*s) 65536&&Nat.beq z.length s then match qqq d n (fun i=>some (i*s,s)) ps.toList with
   |some ⟨h⟩=>.q false fun nm L _=>tK len nm (dF (bB z len) (h L))
   |none=>dX d
   else dX d
  |_,_=>dX d
 |_=>dX d
def zkt(P:Program)(d n:Nat)(t:TypeId)(a:Operand):jF d:=
 match pR P t,gQ P t,aH d n a with
 |some true,some k,⟨g⟩=>.q true fun _ L H=>dQ k H (g L)
 |some false,some _,⟨g⟩=>.q true fun _ L H=>aO H (g L)
 |_,_,_=>dX d
def qzl(P:Program)(d n:Nat)(t:TypeId)(a x:Operand):jF d:=
 match pR P t,gQ P t,aH d n a,aH d n x with
 |some true,some k,⟨g⟩,⟨h⟩=>.e fun _ L H=>zJ k H (g L) (h L)
 |some false,some 1,⟨g⟩,⟨h⟩=>.e fun _ L H=>jX H (g L) (h L)
 |_,_,_,_=>dX d
def qoz(d n:Nat)(x:Operand):jF d:=
 match aH d n x with
 |⟨g⟩=>.q false fun _ L _=>match g L with| .ptr b o=>.val (.ptr b o)| .fn a b c=>.val (.fn a b c)| .yield l=>.val (.yield l)|_=>.bad
def zkv(P:Program)(d n:Nat)(op:BinOp)(t:TypeId)(x y:Operand):jF d:=
 match wD P op t,aH d n x,aH d n y with
 |⟨e⟩,⟨g⟩,⟨h⟩=>.q false fun _ L _=>e (g L) (h L)
def z5x(d n:Nat)(op:UnOp)(x:Operand):jF d:=
 match kX op,aH d n x with|⟨e⟩,⟨g⟩=>.q false fun _ L _=>e (g L)
def qmv(P:Program)(d n:Nat)(s t:TypeId)(x:Operand):jF d:=
 match P.underlying s,P.underlying t,aH d n x with
 |some (.int _),some (.int k),⟨g⟩=>.q false fun _ L _=>qqv k (g L)
 |some .string,some .string,⟨g⟩=>.q false fun _ L _=>match g L with| .str n a=>.val (.str n a)|_=>.bad
 |some .string,some (.slice e),⟨g⟩=>match P.underlying e with
  |some (.int .u8)=>.q false fun nm L _=>q56 nm (g L)
  |_=>dX d
 |some (.slice e),some .string,⟨g⟩=>match P.underlying e with
  |some (.int .u8)=>match gQ P e with|some 1=>.q true fun _ L H=>z09 H (g L)|_=>dX d
  |_=>dX d
 |_,_,_=>dX d
def qdh(P:Program)(d n:Nat)(t:TypeId)(x:Operand):jF d:=
 match P.underlying t,aH d n x with
 |some (.interface _),_=>dX d
 |some _,⟨g⟩=>.q false fun _ L _=>.val (.iface t (g L))
 |none,_=>dX d
def qzm(d n:Nat)(f:FuncId)(first cap:Array Operand):jF d:=
 match tQ d n first.toList,tQ d n cap.toList with
 |⟨g⟩,⟨h⟩=>.q false fun _ L _=>.val (.fn f (g L) (h L))
def q9s(d:Nat)  :jF d:=
 .q false fun nm _ _=>.new (.map nm) (.map [] 0)
def qgr(P:Program)(d n:Nat)(t:TypeId)(l c:Operand):jF d:=
 match P.underlying t,aH d n l,aH d n c with
 |some (.slice e),⟨g⟩,⟨h⟩=>match qju P e,qjp P e,gQ P e with
  |some z,some w,some s=>bif Nat.beq z.length s then .q false fun nm L _=>qgb z w nm (g L) (h L)else dX d
  |_,_,_=>dX d
 |_,_,_=>dX d
def q9p(P:Program)(d n:Nat)(t:TypeId)(x:Operand)(lo hi mx:Option Operand):jF d:=
 match P.underlying t,aH d n x,yV d n lo,yV d n hi,yV d n mx with
 |some .string,⟨g⟩,⟨l⟩,⟨h⟩,_=>match mx with
  |none=>.q false fun _ L _=>qwv (g L) (l L) (h L)
  |some _=>dX d
 |some (.slice e),⟨g⟩,⟨l⟩,⟨h⟩,⟨m⟩=>match gQ P e with
  |some z=>.q false fun _ L _=>kL z (g L) (l L) (h L) (m L)
  |none=>dX d
 |some (.array n e),⟨g⟩,⟨l⟩,⟨h⟩,⟨m⟩=>match gQ P e with
  |some z=>.q false fun _ L _=>qmu n z (g L) (l L) (h L) (m L)
  |none=>dX d
 |some (.pointer arr),⟨g⟩,⟨l⟩,⟨h⟩,⟨m⟩=>match P.underlying arr with
  |some (.array n e)=>match gQ P e with
   |some z=>.q false fun _ L _=>qmu n z (g L) (l L) (h L) (m L)
   |none=>dX d
  |_=>dX d
 |_,_,_,_,_=>dX d
def qe2(P:Program)(d n:Nat)(s:TypeId)(x:Operand)(f:Nat):jF d:=
 match P.underlying s,aH d n x with
 |some (.struct fs),⟨g⟩=>match fs[f]? with
  |some fl=>match gQ P fl.type with
   |some (_+1)=>.q false fun _ L _=>aQ fl.offset (g L)
   |_=>dX d
  |none=>dX d
 |_,_=>dX d
def qzo(P:Program)(d n:Nat)(t:TypeId)(x:Operand)(f:Nat):jF d:=
 match P.underlying t,aH d n x with
 |some (.struct fs),⟨g⟩=>match fs[f]? with
  |some fl=>match qlt P fl.type with|p=>.q false fun _ L _=>za8 p fl.offset (g L)
  |none=>dX d
 |_,_=>dX d
def qe1(P:Program)(d n:Nat)(t:TypeId)(x i:Operand):jF d:=
 match P.underlying t,aH d n x,aH d n i with
 |some (.slice e),⟨g⟩,⟨h⟩=>match gQ P e with
  |some z=>.q false fun _ L _=>aG z (g L) (h L)
  |none=>dX d
 |some (.array n e),⟨g⟩,⟨h⟩=>match gQ P e with
  |some z=>.q false fun _ L _=>gP n z (g L) (h L)
  |none=>dX d
 |_,_,_=>dX d
def qzn(P:Program)(d n:Nat)(t:TypeId)(x i:Operand):jF d:=
 match P.underlying t,aH d n x,aH d n i with
 |some .string,⟨g⟩,⟨h⟩=>.q false fun _ L _=>zas (g L) (h L)
 |some (.array n e),⟨g⟩,⟨h⟩=>match gQ P e,qlt P e with
  |some z,p=>.q false fun _ L _=>aG5 p n z (g L) (h L)
  |none,_=>dX d
 |_,_,_=>dX d
def qwz(P:Program)(d n:Nat)(t:TypeId)(m k:Operand)(ok:Bool):jF d:=
 match P.underlying t,aH d n m,aH d n k with
 |some (.map kt et),⟨g⟩,⟨h⟩=>match rU P kt,(P.info? et).bind (·.zero)with
  |some ky,some z=>.q true fun _ L H=>sK ky (qxc z) ok H (g L) (h L)
  |_,_=>dX d
 |_,_,_=>dX d
def qd3(P:Program)(d n:Nat)(t:TypeId)(m k x:Operand):jF d:=
 match P.underlying t,aH d n m,aH d n k,aH d n x with
 |some (.map kt _),⟨g⟩,⟨h⟩,⟨i⟩=>match rU P kt with
  |some ky=>.e fun _ L H=>qW ky H (g L) (h L) (i L)
  |none=>dX d
 |_,_,_,_=>dX d
def qi9(P:Program)(d n:Nat)(t:TypeId)(m k:Operand):jF d:=
 match P.underlying t,aH d n m,aH d n k with
 |some (.map kt et),⟨g⟩,⟨h⟩=>match rU P kt,(P.info? et).bind (·.zero)with
  |some ky,some z=>.e fun _ L H=>zm8 ky (qxc z) H (g L) (h L)
  |_,_=>dX d
 |_,_,_=>dX d
def qo0(d n:Nat)(m s x:Operand):jF d:=
 match aH d n m,aH d n s,aH d n x with
 |⟨g⟩,⟨h⟩,⟨i⟩=>.e fun _ L H=>qxu H (g L) (h L) (i L)
/- ranges over maps of at most one entry: an iterator is a block; its map's name and one more (0: no map), the map's clock, and what was seen -/
def zk7(H:Hp)(x:AV):R1:=
 match x with
 | .dR=>.ok (.ptr H.nx 0) (aN H (.fQ 0 0 0))
 | .map b=>match H.get b with
  | .map _ clock=>.ok (.ptr H.nx 0) (aN H (.fQ (Nat.succ b) clock 0))
  |_=>.bad
 |_=>.bad
def z7a(H:Hp)(b m since pos:Nat)(es:List mD):R1:=
 match es with
 | []=>.ok (.aX [.bool false]) H
 | [e]=>bif Nat.blt e.born since then
   (bif Nat.beq pos 0 then .ok (.aX [.bool true,e.key,e.val]) (H.put b (.fQ m since (Nat.succ e.born)))
    else bif Nat.beq pos (Nat.succ e.born)then .ok (.aX [.bool false]) H else .bad)else .bad
 |_=>.bad
def z2e(H:Hp)(x:AV):R1:=
 match x with
 | .ptr b o=>bif Nat.beq o 0 then(match H.get b with
  | .fQ m since pos=>match m with
   |0=>.ok (.aX [.bool false]) H
   |m'+1=>match H.get m' with
    | .map es clock=>bif Nat.beq clock since then z7a H b (Nat.succ m') since pos es else .bad
    |_=>.bad
  |_=>.bad)else .bad
 |_=>.bad
def aGr(H:Hp)(x:AV):R0:=
 match x with
 | .ptr b o=>bif Nat.beq o 0 then(match H.get b with
  | .fQ m since pos=>match m,pos with
   |m'+1,p+1=>match H.get m' with
    | .map es clock=>bif Nat.beq clock since then(match es with
     | [e]=>bif Nat.beq e.born p then .val (.aX [e.key,e.val])else .bad
     |_=>.bad)else .bad
    |_=>.bad
   |_,_=>.bad
  |_=>.bad)else .bad
 |_=>.bad
def zxf(d n:Nat)(x:Operand):jF d:=
 match aH d n x with
 |⟨g⟩=>.q true fun _ L H=>aGr H (g L)
def q9q(P:Program)(d n:Nat)(t:TypeId)(x:Operand):jF d:=
 match P.underlying t,aH d n x with
 |some (.map _ _),⟨g⟩=>.e fun _ L H=>zk7 H (g L)
 |_,_=>dX d
def zst(d n:Nat)(x:Operand)(s:Bool):jF d:=
 match s,aH d n x with
 |false,⟨g⟩=>.e fun _ L H=>z2e H (g L)
 |true,_=>dX d
def qw0(d n:Nat)(x:Operand)(i:Nat):jF d:=
 match aH d n x with
 |⟨g⟩=>.q false fun _ L _=>match g L with
  | .aX l=>match l[i]? with|some v=>.val v|none=>.bad
  |_=>.bad
/- the one function without a body that is known: the comparison of two strings -/
def qqb:String := "internal".push (Char.ofNat 47) ++ "bytealg.abigen_runtime_cmpstring"
def ztx(P:Program)(f:FuncId):Bool:=
 match P.funcs[f]? with
 |some fn=>fn.body.isNone&&fn.name==qqb&&fn.origin == ""
 |none=>false
def aHz(l:List AV):R0:=
 match l with
 | [.str n a,.str m b]=>.val (.int .i64 (bif qeu n n a m b then .negSucc 0 else bif eqS n a m b then .ofNat 0 else .ofNat 1))
 |_=>.bad
def q9t(P:Program)(d n:Nat)(f:FuncId)(args:List Operand):jF d:=
 match tQ d n args,ztx P f with
 |⟨g⟩,true=>.q false fun _ L _=>aHz (g L)
 |⟨g⟩,false=>.e fun O L H=>O (.f f) (g L) H
def gW(P:Program)(d n:Nat)(o:Oper):jF d:=
 match o.op with
 | .move x| .assign x=>z5z d n x
 | .pick c a b=>z1j d n c a b
 | .alloc t=>q9v P d t
 | .box t x=>aCr P d n t x
 | .build t ps=>q9u P d n t ps
 | .buildSlice t len ps=>qff P d n t len ps
 | .load t a=>zkt P d n t a
 | .store t a x=>qzl P d n t a x
 | .nilCheck x=>qoz d n x
 | .binOp op t x y _=>zkv P d n op t x y
 | .unOp op _ x=>z5x d n op x
 | .convert s t x=>qmv P d n s t x
 | .makeInterface t x=>qdh P d n t x
 | .makeFunc (.func f) first cap=>qzm d n f first cap
 | .makeMap _ none=>q9s d
 | .makeSlice t l c=>qgr P d n t l c
 | .slice t x lo hi mx=>q9p P d n t x lo hi mx
 | .fieldAddr s x f=>qe2 P d n s x f
 | .field t x f=>qzo P d n t x f
 | .indexAddr t x i=>qe1 P d n t x i
 | .index t x i=>qzn P d n t x i
 | .lookup t m k ok=>qwz P d n t m k ok
 | .mapUpdate t m k x| .insert t m k x=>qd3 P d n t m k x
 | .mapEntry t m k=>qi9 P d n t m k
 | .entryStore _ m s x=>qo0 d n m s x
 | .extract x i=>qw0 d n x i
 | .range t x=>q9q P d n t x
 | .next x s=>zst d n x s
 | .entry x=>zxf d n x
 | .call {callee:=.builtin b,args,argTypes}=>qeo P d n b args.toList argTypes.toList
 | .call {callee:=.value (.func f),args,..}=>q9t P d n f args.toList
 | .call {callee:=.value x,args,..}=>match aH d n x,tQ d n args.toList with
  |⟨h⟩,⟨g⟩=>.e fun O L H=>vP O (h L) (g L) H
 |_=>dX d
/- running operations one behind the other -/
inductive Rs(d:Nat) where
 |bad
 |ok (L:TT AV d) (H:Hp)
structure Wd(d:Nat) where f:TT AV d->Option Bool
def sV(d n:Nat)(ops:Array Oper)(o:Oper):Wd d:=
 match o.guard with
 |none=>⟨fun _=>some true⟩
 |some (j,want)=>match(ops[j]?).bind (·.dst)with
  |some t=>bif Nat.blt t n then(match dJ (α:=AV) d t with
   |⟨g⟩=>⟨fun L=>match g L with| .bool b=>some (b==want)| .undef=>some false|_=>none⟩)else⟨fun _=>none⟩
  |none=>⟨fun _=>none⟩
structure Pt(d:Nat) where f:TT AV d->AV->TT AV d
def dS(d n:Nat):Option Tmp->Pt d
 |some t=>bif Nat.blt t n then(match setter (α:=AV) d t with|⟨s⟩=>⟨s⟩)else⟨fun L _=>L⟩
 |none=>⟨fun L _=>L⟩
structure St(d:Nat) where f:Call->TT AV d->Hp->Rs d
def doQ{d:Nat}(put:TT AV d->AV->TT AV d)(L:TT AV d)(H:Hp)(r:R0):Rs d:=
 match r with
 | .bad=>.bad
 | .val v=>.ok (put L v) H
 | .new v b=>.ok (put L v) (aN H b)
def doE{d:Nat}(put:TT AV d->AV->TT AV d)(L:TT AV d)(r:R1):Rs d:=
 match r with
 | .bad=>.bad
 | .ok v H=>.ok (put L v) H
def ifW{d:Nat}(w:Option Bool)(a b:Rs d):Rs d:=
 match w with
 |some true=>a
 |some false=>b
 |none=>.bad
def yT(P:Program)(d n:Nat)(ops:Array Oper)(o:Oper):St d:=
 match gW P d n o,o.guard,sV d n ops o,dS d n o.dst with
 | .q _ f,none,_,⟨put⟩=>⟨fun _ L H=>doQ put L H (f H.nx L H)⟩
 | .e f,none,_,⟨put⟩=>⟨fun O L H=>doE put L (f O L H)⟩
 | .q _ f,some _,⟨w⟩,⟨put⟩=>⟨fun _ L H=>ifW (w L) (doQ put L H (f H.nx L H)) (.ok (put L .undef) H)⟩
 | .e f,some _,⟨w⟩,⟨put⟩=>⟨fun O L H=>ifW (w L) (doE put L (f O L H)) (.ok (put L .undef) H)⟩
def zdv{d:Nat}(r:Rs d)(k:TT AV d->Hp->Rs d):Rs d:=match r with| .bad=>.bad| .ok L H=>k L H
/- deferred calls wait in the slot behind the temporaries -/
def qF(o:Oper):Bool:=match o.op with| .defer _=>true|_=>false
structure DfC where
 x:Operand
 args:List Operand
def zC(o:Oper):Option DfC:=
 match o.op,o.guard with
 | .defer {callee:=.value x,args,..},none=>some ⟨x,args.toList⟩
 |_,_=>none
def dl:AV->List AV
 | .aX l=>l
 |_=>[]
def doD{d:Nat}(n:Nat)(put:TT AV d->AV->TT AV d)(L:TT AV d)(H:Hp)(x:AV)(as:List AV):Rs d:=
 match x with
 | .fn f first cap=>.ok (put ((setter d n).f L (.aX (.fn f (first++as++cap) []::dl ((dJ d n).f L)))) .undef) H
 |_=>.bad
def oK(P:Program)(d n:Nat)(ops:Array Oper)(o:Oper):St d:=
 match zC o with
 |none=>yT P d n ops o
 |some c=>match aH d n c.x,tQ d n c.args,dS d n o.dst with
  |⟨g⟩,⟨h⟩,⟨put⟩=>⟨fun _ L H=>doD n put L H (g L) (h L)⟩
def pM(P:Program)(d n:Nat)(ops:Array Oper):List Oper->St d
 | []=>⟨fun _ L H=>.ok L H⟩
 |o::r=>⟨fun O L H=>zdv ((oK P d n ops o).f O L H) ((pM P d n ops r).f O)⟩
/- regions that draw their order -/
def hasB(m i:Nat):Bool:=Nat.beq (Nat.land (Nat.shiftRight m i) 1) 1
def sO(m i:Nat):Nat:=Nat.lor m (Nat.shiftLeft 1 i)
def aBD(m k:Nat):Bool:=Nat.beq (Nat.lor m k) k
def vO(o:Oper):List Nat:=(o.after.toList.filter (Region.binds .any)).map (·.on)
def qtc(ms:List Nat)(o:Oper):Nat:=(vO o).foldl (fun s j=>Nat.lor (sO s j) (ms.getD j 0)) 0
def qbt(ms:List Nat):List Oper->List Nat
 | []=>ms
 |o::r=>qbt (ms++[qtc ms o]) r
def z5k:Operand->Option Tmp
 | .tmp t=>some t
 |_=>none
def kR(ops:Array Oper)(o:Oper):List Tmp:=
 o.op.operands.toList.filterMap z5k++(match o.guard with|some (j,_)=>((ops[j]?).bind (·.dst)).toList|none=>[])
def qhn:Op->Bool
 | .alloc _| .box .. | .buildSlice .. | .convert .. | .makeMap .. | .makeSlice .. =>true
 |_=>false
structure Pj(d:Nat) where f:TT AV d->TT AV d
def mQ(d n:Nat):List Tmp->Pj d
 | []=>⟨fun _=>same .undef d⟩
 |t::r=>bif Nat.blt t n then(match dJ (α:=AV) d t,setter (α:=AV) d t,mQ d n r with|⟨g⟩,⟨s⟩,⟨p⟩=>⟨fun L=>s (p L) (g L)⟩)else mQ d n r
mutual
def oQ:Nat->AV->AV->Bool
 |0,_,_=>false
 |k+1,x,y=>match x,y with
  | .undef,.undef| .cK,.cK| .aA,.aA| .sle,.sle| .dR,.dR| .iR,.iR| .nO,.nO=>true
  | .bool a,.bool b=>a==b
  | .int i a,.int j b=>decide (i=j)&&decide (a=b)
  | .str a b,.str c e=>Nat.beq a c&&Nat.beq b e
  | .ptr a b,.ptr c e=>Nat.beq a c&&Nat.beq b e
  | .sl a b c e f,.sl a' b' c' e' f'=>Nat.beq a a'&&Nat.beq b b'&&Nat.beq c c'&&Nat.beq e e'&&f==f'
  | .map a,.map b=>Nat.beq a b
  | .yield a,.yield b=>Nat.beq a b
  | .fn f a b,.fn g c e=>Nat.beq f g&&qH k a c&&qH k b e
  | .iface t a,.iface u b=>Nat.beq t u&&oQ k a b
  | .agg a,.agg b=>qH k a b
  | .aX a,.aX b=>qH k a b
  |_,_=>false
def qH:Nat->List AV->List AV->Bool
 |0,_,_=>false
 |_,[],[]=>true
 |k+1,x::l,y::m=>oQ k x y&&qH k l m
 |_,_,_=>false
end
structure Pd where
 (i nm:Nat)
 b:bO
structure Wt where
 (i A:Nat)
 f:Hp->R0
 v:AV
inductive Rx(d:Nat) where
 |bad
 |ok (L:TT AV d) (H:Hp) (pend:List Pd) (iW:List Wt)
structure Sx(d:Nat) where f:Call->Nat->TT AV d->Hp->List Pd->List Wt->Rx d
def eU(A:Nat)(pend:List Pd)(H:Hp):Hp:=
 List.rec (motive:=fun _=>Hp) H (fun p _ ih=>bif hasB A p.i then ih.put p.nm p.b else ih) pend
def mU(pend:List Pd)(H:Hp):Hp:=
 List.rec (motive:=fun _=>Hp) H (fun p _ ih=>ih.put p.nm p.b) pend
def p8(A:Nat)(pend:List Pd):List Pd:=
 List.rec (motive:=fun _=>List Pd) [] (fun p _ ih=>bif hasB A p.i then ih else p::ih) pend
def qB(A:Nat)(iW:List Wt):List Wt:=
 List.rec (motive:=fun _=>List Wt) [] (fun p _ ih=>bif hasB A p.i then ih else p::ih) iW
def zks(r:R0)(v:AV):Bool:=match r with| .val u=>oQ 64 u v|_=>false
def qi2(pend:List Pd)(H:Hp)(iW:List Wt):Bool:=
 List.rec (motive:=fun _=>Bool) true (fun x _ ih=>zks (x.f (eU x.A pend H)) x.v&&ih) iW
def qX{d:Nat}(put:TT AV d->AV->TT AV d)(lk al:Bool)(i A nm:Nat)(L:TT AV d)(H:Hp)(pend:List Pd)(iW:List Wt)(f:Hp->R0)(w:Option Bool):Rx d:=
 match w with
 |none=>.bad
 |some false=>.ok (put L .undef) H pend iW
 |some true=>match f (eU A pend H)with
  | .bad=>.bad
  | .val v=>.ok (put L v) H pend (bif lk then⟨i,A,f,v⟩::iW else iW)
  | .new v b=>bif al&&b.wr then .ok (put L v) H (⟨i,nm,b⟩::pend) iW else .bad
def eX{d:Nat}(put:TT AV d->AV->TT AV d)(A:Nat)(L:TT AV d)(H:Hp)(pend:List Pd)(iW:List Wt)(r:R1)(w:Option Bool):Rx d:=
 match w with
 |none=>.bad
 |some false=>.ok (put L .undef) H pend iW
 |some true=>match r with
  | .bad=>.bad
  | .ok v H'=>bif qi2 (p8 A pend) H' (qB A iW)then .ok (put L v) H' (p8 A pend) (qB A iW)else .bad
def qy9(P:Program)(d n:Nat)(ops:Array Oper)(i A:Nat)(o:Oper):Sx d:=
 match gW P d n o,mQ d n (kR ops o),sV d n ops o,dS d n o.dst with
 | .q lk f,⟨pj⟩,⟨w⟩,⟨put⟩=>⟨fun _ base L H pend iW=>qX put lk (qhn o.op&& !lk) i A (base+i) L H pend iW (f (base+i) (pj L)) (w (pj L))⟩
 | .e f,⟨pj⟩,⟨w⟩,⟨put⟩=>⟨fun O _ L H pend iW=>eX put A L H pend iW (f O (pj L) (eU A pend H)) (w (pj L))⟩
def z4b{d:Nat}(r:Rx d)(k:TT AV d->Hp->List Pd->List Wt->Rx d):Rx d:=match r with| .bad=>.bad| .ok L H p w=>k L H p w
def sG(P:Program)(d n:Nat)(ops:Array Oper)(ms:List Nat):List Nat->Sx d
 | []=>⟨fun _ _ L H p w=>.ok L H p w⟩
 |i::r=>match ops[i]? with
  |some o=>⟨fun O base L H p w=>z4b ((qy9 P d n ops i (ms.getD i 0) o).f O base L H p w) ((sG P d n ops ms r).f O base)⟩
  |none=>⟨fun _ _ _ _ _ _=>.bad⟩
def isE{d:Nat}:jF d->Bool
 | .e _=>true
 | .q .. =>false
def aEt{d:Nat}:jF d->Bool
 | .q lk _=>lk
 | .e _=>false
structure Kd where
 (i A:Nat)
 (lX lk:Bool)
def qtd(P:Program)(d n:Nat)(ms:List Nat):Nat->List Oper->List Kd
 |_,[]=>[]
 |i,o::r=>⟨i,ms.getD i 0,isE (gW P d n o),aEt (gW P d n o)⟩::qtd P d n ms (i+1) r
def zng(ks:List Kd):Nat:=ks.foldl (fun s k=>bif k.lX then sO s k.i else s) 0
def zlj(EM:Nat):Nat->Nat->List Kd->List Nat
 |0,_,ks=>ks.map (·.i)
 |k+1,E,ks=>
  match ks.filter (fun x=> !x.lX&&aBD (Nat.land x.A EM) E),ks.filter (fun x=>x.lX|| !aBD (Nat.land x.A EM) E)with
  |now,rest=>now.map (·.i) ++
   match rest.filter (fun x=>x.lX&&aBD (Nat.land x.A EM) E)with
   |e::_=>e.i::zlj EM k (sO E e.i) (rest.filter fun x=> !(Nat.beq x.i e.i))
   | []=>rest.map (·.i)
def qz5(ops:Array Oper)(ks:List Kd):Nat->Nat->List Nat->Bool
 |_,_,[]=>true
 |D,E,i::r=>match ops[i]?,ks[i]? with
  |some o,some k=>(vO o).all (hasB D)&& !hasB D i&&(!(k.lX||k.lk)||aBD E k.A)&&qz5 ops ks (sO D i) (bif k.lX then sO E i else E) r
  |_,_=>false
def qtt:Nat->List Oper->Bool
 |_,[]=>true
 |i,o::r=>(vO o).all (fun j=>Nat.blt j i)&&qtt (i+1) r
def q9c(ops:Array Oper)(ms:List Nat):Bool:=
 (List.range ops.size).all fun k=>match ops[k]? with
  |none=>false
  |some o=>(List.range ops.size).all fun i=>match ops[i]? with
   |none=>false
   |some o'=>match o'.dst with
    |none=>true
    |some t=>Nat.beq i k||hasB (ms.getD k 0) i||hasB (ms.getD i 0) k|| !((kR ops o).contains t||o.dst==some t)
structure Pln where
 ms:List Nat
 ord:List Nat
 up:Nat
def q6s(P:Program)(d n:Nat)(ops:Array Oper):Option Pln:=
 match qbt [] ops.toList with
 |ms=>match qtd P d n ms 0 ops.toList with
  |ks=>match zlj (zng ks) ks.length 0 ks with
   |ord=>bif qtt 0 ops.toList&&q9c ops ms&&Nat.beq ord.length ops.size&&qz5 ops ks 0 0 ord then
     some ⟨ms,ord,bif ops.toList.any (fun o=>qhn o.op)then ops.size else 0⟩else none
def qlw(P:Program)(d n:Nat)(ops:Array Oper):St d:=
 match q6s P d n ops with
 |none=>⟨fun _ _ _=>.bad⟩
 |some pl=>match sG P d n ops pl.ms pl.ord with
  |⟨g⟩=>⟨fun O L H=>match g O H.nx L ⟨H.t,H.nx+pl.up⟩ [] []with| .bad=>.bad| .ok L' H' pend _=>.ok L' (mU pend H')⟩
/- code -/
structure Dn(d:Nat) where f:Call->TT AV d->Hp->Rc d
def mI{d:Nat}:Rs d->Rc d
 | .bad=>.bad
 | .ok L H=>.ok .normal L H
def qR{d:Nat}(r:Rc d)(k:TT AV d->Hp->Rc d):Rc d:=
 match r with
 | .ok .normal L H=>k L H
 |r=>r
def qts{d:Nat}(id:Nat)(r:Rc d):Rc d:=
 match r with
 | .ok (.exit id') L H=>bif Nat.beq id' id then .ok .normal L H else .ok (.exit id') L H
 |r=>r
def condC{d:Nat}(c:AV)(a b:Rc d):Rc d:=
 match c with
 | .bool true=>a
 | .bool false=>b
 |_=>.bad
def qqt{d:Nat}(b:TT AV d->Hp->Rc d)(n:Nat):TT AV d->Hp->Rc d:=
 Nat.rec (motive:=fun _=>TT AV d->Hp->Rc d) (fun _ _=>.bad) (fun _ ih L H=>qR (b L H) ih) n
def bL:Nat:=1000000
def endLoop{d:Nat}(l:Nat)(r:R1)(L:TT AV d):Rc d:=
 match r with
 | .bad=>.bad
 | .ok _ H=>match H.get l with
  | .loop true none .. =>.ok .normal L (H.put l .dead)
  | .loop false (some .ret) .. =>.ok .ret L (H.put l .dead)
  | .loop false (some (.exit id)) .. =>.ok (.exit id) L (H.put l .dead)
  |_=>.bad
def kG:Code->Bool
 | .region _ ops _=> !(ops.toList.any qF)
 | .seq a b=>kG a&&kG b
 | .cond _ a b=>kG a&&kG b
 | .block _ b=>kG b
 | .loop b=>kG b
 | .scope _=>false
 | .rangeFunc .. =>false
 |_=>true
def den(P:Program)(d n:Nat):Code->Dn d
 | .skip| .label _=>⟨fun _ L H=>.ok .normal L H⟩
 | .region _ ops false=>⟨fun O L H=>mI ((pM P d n ops ops.toList).f O L H)⟩
 | .region _ ops true=>match qlw P d n ops with|⟨g⟩=>⟨fun O L H=>mI (g O L H)⟩
 | .seq a b=>⟨fun O L H=>qR ((den P d n a).f O L H) ((den P d n b).f O)⟩
 | .cond x a b=>match aH d n x with|⟨g⟩=>⟨fun O L H=>condC (g L) ((den P d n a).f O L H) ((den P d n b).f O L H)⟩
 | .block id b=>⟨fun O L H=>qts id ((den P d n b).f O L H)⟩
 | .loop b=>⟨fun O L H=>qqt ((den P d n b).f O) bL L H⟩
 | .scope b=>den P d n b
 | .exit id=>⟨fun _ L H=>.ok (.exit id) L H⟩
 | .goto _=>⟨fun _ _ _=>.bad⟩
 | .ret=>⟨fun _ L H=>.ok .ret L H⟩
 | .rangeFunc f ps assign body=>match aH d n f,kG assign&&kG body with
  |_,false=>⟨fun _ _ _=>.bad⟩
  |⟨g⟩,true=>⟨fun O L H=>endLoop H.nx (qjo O (g L) [.yield H.nx] (aN H (.loop true none d n L ps.toList assign body))) L⟩
 | .refuse _=>⟨fun _ _ _=>.bad⟩
/- functions -/
structure Rv(d:Nat) where f:TT AV d->Hp->Option AV
def aBh(P:Program)(d n:Nat):ResultVar->Rv d
 | .tmp t=>match aH d n (.tmp t)with|⟨g⟩=>⟨fun L _=>some (g L)⟩
 | .cell a t=>match aH d n (.tmp a),pR P t,gQ P t with
  |⟨g⟩,some true,some k=>⟨fun L H=>match dQ k H (g L)with| .val v=>some v|_=>none⟩
  |⟨g⟩,some false,some _=>⟨fun L H=>match aO H (g L)with| .val v=>some v|_=>none⟩
  |_,_,_=>⟨fun _ _=>none⟩
structure RvL(d:Nat) where f:TT AV d->Hp->Option (List AV)
def zci(P:Program)(d n:Nat):List ResultVar->RvL d
 | []=>⟨fun _ _=>some []⟩
 |x::r=>match aBh P d n x,zci P d n r with
  |⟨g⟩,⟨h⟩=>⟨fun L H=>match g L H,h L H with|some v,some l=>some (v::l)|_,_=>none⟩
def qcj(P:Program)(d n:Nat)(rs:List ResultVar):Rv d:=
 match rs with
 | [x]=>aBh P d n x
 |l=>match zci P d n l with|⟨h⟩=>⟨fun L H=>match h L H with|some l=>some (.aX l)|none=>none⟩
def aA8(O:Call)(l:List AV):Hp->Option Hp:=
 List.rec (motive:=fun _=>Hp->Option Hp) (fun H=>some H) (fun x _ ih H=>match x with
  | .fn g all []=>match O (.d g) all H with| .ok _ H'=>ih H'| .bad=>none
  |_=>none) l
def fM(v:Option AV)(H:Hp):R1:=match v with|some v=>.ok v H|none=>.bad
def iD{d:Nat}(n:Nat)(O:Call)(res:TT AV d->Hp->Option AV)(L:TT AV d)(H:Hp):R1:=
 match aA8 O (dl ((dJ d n).f L)) H with
 |some H'=>fM (res L H') H'
 |none=>.bad
def aC6{d:Nat}(n:Nat)(O:Call)(res:TT AV d->Hp->Option AV)(r:Rc d):R1:=
 match r with
 | .ok .normal L H=>iD n O res L H
 | .ok .ret L H=>iD n O res L H
 |_=>.bad
structure Fd where f:Call->List AV->Hp->R1
def aP(P:Program)(f:FuncId):Fd:=
 match P.funcs[f]? with
 |none=>⟨fun _ _ _=>.bad⟩
 |some fn=>if fn.name == "runtime.NumGoroutine" then⟨fun _ _ _=> .bad⟩else match fn.body with
  |none=>⟨fun _ _ _=>.bad⟩
  |some c=>
   match qcj P (iF (fn.ntmps+1)) fn.ntmps fn.results.toList with
   |⟨res⟩=>⟨fun O args H=>bif Nat.ble args.length fn.ntmps&&Nat.ble (fn.ntmps+1) 262144 then aC6 fn.ntmps O res ((den P (iF (fn.ntmps+1)) fn.ntmps c).f O (nR args 0 (same .undef _)) H)else .bad⟩
def qpa(P:Program)(f:FuncId):Bool:=
 match P.funcs[f]? with
 |some fn=>(match fn.body with|some c=>kG c|none=>false)
 |none=>false
def qfv{d:Nat}(L:TT AV d)(ps:List Tmp)(args:List AV):TT AV d:=
 match ps,args with
 |p::ps,a::as=>qfv ((setter d p).f L a) ps as
 |_,_=>L
def zxp:Ex->Option (Option Code)
 | .normal=>some none
 | .ret=>some (some .ret)
 | .exit id=>some (some (.exit id))
 | .goto _=>none
def endRound{d:Nat}(l:Nat)(r:Rc d):R1:=
 match r with
 | .bad=>.bad
 | .ok e _ H=>match zxp e with
  |none=>.bad
  |some j=>match H.get l with
   | .loop false none d n L ps assign body=>.ok (.bool j.isNone) (H.put l (.loop j.isNone j d n L ps assign body))
   |_=>.bad
def qhi(P:Program)(O:Call)(l:Nat)(args:List AV)(H:Hp):R1:=
 match H.get l with
 | .loop true none d n L ps assign body=>
  bif Nat.beq ps.length args.length&&ps.all (fun p=>Nat.blt p n)then
   match(den P d n assign).f O (qfv ((setter d n).f L .undef) ps args) H with
   | .ok .normal L1 H1=>match H1.get l with
    | .loop true none d' n' L' ps' nH body'=>endRound l ((den P d n body).f O L1 (H1.put l (.loop false none d' n' L' ps' nH body')))
    |_=>.bad
   |_=>.bad
  else .bad
 |_=>.bad
def qte:R1->Bool
 | .ok (.bool b) _=>b
 |_=>false
end Go.Ev
end
noncomputable section
namespace Go.Ev
variable {α:Type}
def qpb(k:Nat)(t:Q α):α:=
 match k with
 |0=>t.c0|1=>t.c1|2=>t.c2|3=>t.c3|4=>t.c4|5=>t.c5|6=>t.c6|_=>t.c7
def aGv(k:Nat)(t:Q α)(v:α):Q α:=
 match k with
 |0=>{t with c0:=v}|1=>{t with c1:=v}|2=>{t with c2:=v}|3=>{t with c3:=v}
 |4=>{t with c4:=v}|5=>{t with c5:=v}|6=>{t with c6:=v}|_=>{t with c7:=v}
theorem z7v(i:Nat):Nat.land i 7=i%8:=by have:=Nat.and_two_pow_sub_one_eq_mod i 3;omega
theorem aKQ(i:Nat):Nat.shiftRight i 3=i / 8:=by have:=Nat.shiftRight_eq_div_pow i 3;omega
theorem lt8{k:Nat}(h:k<8):k=0\/k=1\/k=2\/k=3\/k=4\/k=5\/k=6\/k=7:=by omega
theorem qd9(d i:Nat)(t:TT α (d+1)):(dJ (d+1) i).f t=(dJ d (i / 8)).f (qpb (i%8) t):=by have e:dJ (α:=α) (d+1) i=xO.rec (motive:=fun _=>xO α (d+1)) (fun g=>kQ.rec (motive:=fun _=>xO α (d+1)) (fun s=>⟨fun t=>g (s t)⟩) (sel (TT α d) (Nat.land i 7))) (dJ d (Nat.shiftRight i 3)):=rfl;rw[e,z7v,aKQ];generalize dJ (α:=α) d (i / 8)=g;cases g;cases t;rcases lt8 (xy i (by decide:8>0))with h|h|h|h|h|h|h|h<;>rw[h]<;>rfl
theorem q6f(d i:Nat)(t:TT α (d+1))(v:α):(setter (d+1) i).f t v=aGv (i%8) t ((setter d (i / 8)).f (qpb (i%8) t) v):=by have e:setter (α:=α) (d+1) i=wX.rec (motive:=fun _=>wX α (d+1)) (fun g=>kI.rec (motive:=fun _=>wX α (d+1)) (fun s=>⟨fun t v=>s (fun c=>g c v) t⟩) (aNm (TT α d) (Nat.land i 7))) (setter d (Nat.shiftRight i 3)):=rfl;rw[e,z7v,aKQ];generalize setter (α:=α) d (i / 8)=g;cases g;cases t;rcases lt8 (xy i (by decide:8>0))with h|h|h|h|h|h|h|h<;>rw[h]<;>rfl
theorem zte(k j:Nat)(a:k<8)(b:j<8)(t:Q α)(v:α):qpb k (aGv j t v)=if k=j then v else qpb k t:=by
 rcases lt8 a with rfl|rfl|rfl|rfl|rfl|rfl|rfl|rfl <;>
  rcases lt8 b with rfl|rfl|rfl|rfl|rfl|rfl|rfl|rfl<;>simp[qpb,aGv]
theorem qey(d:Nat):∀(i j:Nat) (t:TT α d) (v:α),i<8 ^ d->j<8 ^ d -> (dJ d i).f ((setter d j).f t v)=if i=j then v else(dJ d i).f t:=by
 induction d with
 |zero=>
  intro i j t v b c;have:i=j:=by simp at b c;omega
  subst this;rw[kz rfl];rfl
 |succ d ih=>
  intro i j t v b c;have e:(dJ (d+1) i).f ((setter (d+1) j).f t v)=(dJ d (i / 8)).f (if i%8=j%8 then(setter d (j / 8)).f (qpb (j%8) (t:Q (TT α d))) v else qpb (i%8) (t:Q (TT α d))):=by rw[qd9,q6f];exact congrArg _ (zte _ _ (xy _ (by decide)) (xy _ (by decide)) _ _)
  rw[e,qd9];by_cases a:i%8=j%8
  ·rw[kz a,ih _ _ _ _ (by omega) (by omega)];by_cases f:i / 8=j / 8
   ·rw[kz f,kz (by omega)]
   ·rw[lu f,lu (by omega),a]
  ·rw[lu a,lu (by omega)]
theorem qg0(a:α)(d:Nat):∀ i,(dJ d i).f (same a d)=a:=by
 induction d with
 |zero=>intro i;rfl
 |succ d ih=>
  intro i;rw[qd9];have:qpb (i%8) (same a (d+1):Q (TT α d))=same a d:=by rcases lt8 (xy i (by decide:8>0))with h|h|h|h|h|h|h|h<;>rw[h]<;>rfl
  rw[this,ih]
theorem qb3(n:Nat):n<=8 ^ iF n:=by
 unfold iF;simp only[cond_eq_ite,Nat.ble_eq];split
 ·omega
 split
 ·omega
 split
 ·omega
 split
 ·omega
 split
 ·omega
 split
 ·omega
 ·exact yu (Nat.lt_pow_self (by decide))
theorem zbe(n:Nat)(_:n<=262144):n<=8 ^ iF n:=qb3 n
theorem zs1{d:Nat}(c:TT AV d)(o:Nat):rdN c 0 o=[]:=rfl
theorem qw6{d:Nat}(c:TT AV d)(k o:Nat):rdN c (k+1) o=(dJ d o).f c::rdN c k (o+1):=rfl
theorem qgv{d:Nat}(c:TT AV d)(k:Nat):∀ o,(rdN c k o).length=k:=by
 induction k with
 |zero=>intro o;rfl
 |succ k ih=>intro o;rw[qw6,gz,ih]
theorem zk4{d:Nat}(c:TT AV d)(k:Nat):∀ o i,i<k->(rdN c k o)[i]? =some ((dJ d (o+i)).f c):=by
 induction k with
 |zero=>intro o i h;omega
 |succ k ih=>
  intro o i h;rw[qw6];cases i with
  |zero=>rfl
  |succ i=>rw[zh,ih _ _ (by omega),show o+1+i=o+(i+1)by omega]
theorem z0y{d:Nat}(o:Nat)(c:TT AV d):nR [] o c=c:=rfl
theorem zr8{d:Nat}(v:AV)(l:List AV)(o:Nat)(c:TT AV d):nR (v::l) o c=nR l (o+1) ((setter d o).f c v):=rfl
theorem qh2{d:Nat}(l:List AV):∀(o:Nat) (c:TT AV d) (i:Nat),o+l.length<=8 ^ d->i<8 ^ d -> (dJ d i).f (nR l o c)=if o<=i/\i<o+l.length then l.getD (i-o) .undef else(dJ d i).f c:=by
 induction l with
 |nil=>intro o c i _ _;rw[z0y,lu (by simp)]
 |cons v l ih=>
  intro o c i h a;rw[gz]at h;rw[zr8,ih _ _ _ (by omega) a,qey _ _ _ _ _ a (by omega)];simp only[gz];by_cases b:o+1<=i/\i<o+1+l.length
  ·rw[kz b,kz (by omega)];obtain⟨j,e⟩:∃ j,i-o=j+1:=⟨i-o-1,by omega⟩;rw[e,List.getD_cons_succ];congr 1;omega
  ·rw[lu b];by_cases f:i=o
   ·simp_all
   ·rw[lu f,lu (by omega)]
end Go.Ev
end
noncomputable section
namespace Go.Ev
open Go.RowKit
structure Loc where
 (blk base ext z:Nat)
abbrev Im:=Nat->Option Loc
def y8(n a:Nat)(s:ByteArray):Prop:=s.data.toList.length=n/\kD s.data.toList=a
mutual
def aL(ι:Im):AV->Value->Prop
 | .undef,V=>V=.tuple #[]
 | .lit v,V=>V=v
 | .bool b,V=>V=.bool b
 | .int k n,V=>V=.int k n
 | .str n a,V=>∃ s,V=.string s/\y8 n a s
 | .ptr b o,V=>∃ l,ι b=some l/\V=.pointer (some ⟨l.blk,l.base+o,none⟩)
 | .cK,V=>V=.pointer none
 | .sl b o len cap ex,V=>len<=cap/\∃ l,ι b=some l/\V=.slice (some ⟨l.blk,l.base+o,none⟩) len (if ex then cap else cap+l.ext)
 | .aA,V=>V=.slice none 0 0
 | .sle,V=>∃ a c,V=.slice (some a) 0 c
 | .map b,V=>∃ l,ι b=some l/\V=.map (some l.blk)
 | .dR,V=>V=.map none
 | .fn f first cap,V=>∃ F C,aK ι first F/\aK ι cap C/\V=.func (.func f) F.toArray C.toArray
 | .yield b,V=>∃ l,ι b=some l/\V=.func (.yield l.blk) #[] #[]
 | .iR,V=>V=.nilFunc
 | .iface t v,V=>∃ X,aL ι v X/\V=.iface t X
 | .nO,V=>V=.nilIface
 | .agg l,V=>∃ vs,aK ι l vs/\V=.agg vs.toArray/\∀ v∈vs,v.oneCell=true
 | .aX l,V=>∃ vs,aK ι l vs/\V=.tuple vs.toArray
def aK(ι:Im):List AV->List Value->Prop
 | [],vs=>vs=[]
 |a::l,vs=>∃ v r,vs=v::r/\aL ι a v/\aK ι l r
end
def Im.le(ι ι':Im):Prop:=∀ b l,ι b=some l->ι' b=some l
theorem Im.le_refl(ι:Im):ι.le ι:=fun _ _ h=>h
theorem Im.le_trans{a b c:Im}(h:a.le b)(k:b.le c):a.le c:=fun x l e=>k x l (h x l e)
mutual
theorem aL.mono{ι d:Im}(h:ι.le d):(v:AV)->(V:Value)->aL ι v V->aL d v V
 | .undef,V,hr| .lit _,V,hr| .bool _,V,hr| .int _ _,V,hr| .str _ _,V,hr| .cK,V,hr| .aA,V,hr| .sle,V,hr
 | .dR,V,hr| .iR,V,hr| .nO,V,hr=>by simpa only[aL] using hr
 | .ptr b o,V,hr=>by simp only[aL]at *;obtain⟨l,a,c⟩:=hr;exact⟨l,h _ _ a,c⟩
 | .sl b o len cap ex,V,hr=>by simp only[aL]at *;obtain⟨e,l,a,c⟩:=hr;exact⟨e,l,h _ _ a,c⟩
 | .map b,V,hr=>by simp only[aL]at *;obtain⟨l,a,c⟩:=hr;exact⟨l,h _ _ a,c⟩
 | .yield b,V,hr=>by simp only[aL]at *;obtain⟨l,a,c⟩:=hr;exact⟨l,h _ _ a,c⟩
 | .fn f first cap,V,hr=>by simp only[aL]at *;obtain⟨F,C,a,c,g⟩:=hr;exact⟨F,C,aK.mono h first F a,aK.mono h cap C c,g⟩
 | .iface t v,V,hr=>by simp only[aL]at *;obtain⟨X,a,c⟩:=hr;exact⟨X,aL.mono h v X a,c⟩
 | .agg l,V,hr=>by simp only[aL]at *;obtain⟨vs,a,c⟩:=hr;exact⟨vs,aK.mono h l vs a,c⟩
 | .aX l,V,hr=>by simp only[aL]at *;obtain⟨vs,a,c⟩:=hr;exact⟨vs,aK.mono h l vs a,c⟩
theorem aK.mono{ι b:Im}(h:ι.le b):(l:List AV)->(vs:List Value)->aK ι l vs->aK b l vs
 | [],vs,hr=>by simpa only[aK] using hr
 |a::l,vs,hr=>by simp only[aK]at *;obtain⟨v,r,c,d,e⟩:=hr;exact⟨v,r,c,aL.mono h a v d,aK.mono h l r e⟩
end
theorem aK.length{ι:Im}:∀{l:List AV} {vs:List Value},aK ι l vs->vs.length=l.length
 | [],vs,h=>by simp only[aK]at h;simp[h]
 |a::l,vs,h=>by simp only[aK]at h;obtain⟨v,r,rfl,_,b⟩:=h;simp[aK.length b]
theorem aK.get{ι:Im}:∀{l:List AV} {vs:List Value},aK ι l vs->∀(i:Nat) (a:AV),l[i]? =some a->∃ v,vs[i]? =some v/\aL ι a v
 | [],vs,h,i,a,hi=>by simp at hi
 |x::l,vs,h,i,a,hi=>by
  simp only[aK]at h;obtain⟨v,r,rfl,b,c⟩:=h;cases i with
  |zero=>simp at hi;subst hi;exact⟨v,rfl,b⟩
  |succ i=>simp at hi;obtain⟨d,e,f⟩:=aK.get c i a hi;exact⟨d,by simpa using e,f⟩
theorem aK.append{ι:Im}:∀{l m:List AV} {vs a:List Value},aK ι l vs->aK ι m a->aK ι (l++m) (vs++a)
 | [],m,vs,a,h,k=>by simp only[aK]at h;subst h;simpa using k
 |x::l,m,vs,a,h,k=>by simp only[aK]at h;obtain⟨v,r,rfl,b,c⟩:=h;simp only[lAQ,aK];exact⟨v,r++a,rfl,b,aK.append c k⟩
theorem aK.drop{ι:Im}:∀{l:List AV} {vs:List Value} (n:Nat),aK ι l vs->aK ι (l.drop n) (vs.drop n)
 |l,vs,0,h=>by simpa using h
 | [],vs,n+1,h=>by simp only[aK]at h;subst h;simp[aK]
 |x::l,vs,n+1,h=>by simp only[aK]at h;obtain⟨v,r,rfl,b,a⟩:=h;simpa using aK.drop n a
theorem aK.take{ι:Im}:∀{l:List AV} {vs:List Value} (n:Nat),aK ι l vs->aK ι (l.take n) (vs.take n)
 |l,vs,0,h=>by simp[aK]
 | [],vs,n+1,h=>by simp only[aK]at h;subst h;simp[aK]
 |x::l,vs,n+1,h=>by simp only[aK]at h;obtain⟨v,r,rfl,a,b⟩:=h;simp only[lA0,aK];exact⟨v,r.take n,rfl,a,aK.take n b⟩
theorem aK.aAx{ι:Im}:∀{l:List AV} {vs:List Value},vs.length=l.length->(∀(i:Nat) (a:AV),l[i]? =some a->∃ v,vs[i]? =some v/\aL ι a v)->aK ι l vs
 | [],vs,h,_=>by simp only[aK];exact tq.1 (by simpa using h)
 |x::l,[],h,_=>by simp at h
 |x::l,v::r,h,k=>by
  simp only[aK];refine⟨v,r,rfl,?_,aK.aAx (by simpa using h) fun i a e=>?_⟩
  ·obtain⟨d,b,c⟩:=k 0 x rfl;simp at b;subst b;exact c
  ·obtain⟨d,b,c⟩:=k (i+1) a (by simpa using e);exact⟨d,by simpa using b,c⟩
theorem aK.singleton{ι:Im}{a:AV}{v:Value}(h:aL ι a v):aK ι [a] [v]:=by simp only[aK];exact⟨v,[],rfl,h,rfl⟩
def bV(ι:Im):List mD->List MapEntry->Prop
 | [],es=>es=[]
 |x::l,es=>∃ e r,es=e::r/\aL ι x.key e.key/\aL ι x.val e.val/\e.born=x.born/\bV ι l r
theorem bV.mono{ι b:Im}(h:ι.le b):∀(l:List mD) (a:List MapEntry),bV ι l a->bV b l a
 | [],a,k=>k
 |x::l,a,k=>by simp only[bV]at *;obtain⟨e,r,c,d,f,g,i⟩:=k;exact⟨e,r,c,aL.mono h _ _ d,aL.mono h _ _ f,g,bV.mono h _ _ i⟩
structure LR(ι:Im)(d n:Nat)(L:TT AV d)(tmps:Array Value):Prop where
 size:tmps.size=n
 fits:n<8 ^ d
 get:∀ i,i<n->aL ι ((dJ d i).f L) (tmps.getD i Go.undef)
theorem LR.fit{ι:Im}{d n:Nat}{L:TT AV d}{tmps:Array Value}(k:LR ι d n L tmps):n<=8 ^ d:=yu k.fits
theorem LR.mono{ι a:Im}{d n:Nat}{L:TT AV d}{tmps:Array Value}(h:ι.le a)(k:LR ι d n L tmps):LR a d n L tmps:=
 ⟨k.size,k.fits,fun i b=>aL.mono h _ _ (k.get i b)⟩
theorem LR.set{ι:Im}{d n:Nat}{L:TT AV d}{tmps:Array Value}(k:LR ι d n L tmps){t:Nat}(b:t<n){v:AV}{V:Value}(c:aL ι v V):LR ι d n ((setter d t).f L v) (tmps.setIfInBounds t V):=by
 have a:=k.size;have f:=k.fits;refine⟨by simp[a],f,fun i e=>?_⟩;rw[qey _ _ _ _ _ (by omega) (by omega)];by_cases h:i=t
 ·subst h;rw[kz rfl];simp[a,b];exact c
 ·rw[lu h];have:=k.get i e;simpa [Array.getElem?_setIfInBounds_ne (Ne.symm h)] using this
def BR(ι:Im)(w:World)(b:Nat):bO->Prop
 | .dead=>True
 | .cells d n c ro z=>∃ l,ι b=some l/\(n<=8 ^ d/\l.z=z) /\
   (∀i,i<n->∃ V,w.cell? ⟨l.blk,l.base+i,none⟩=some V/\aL ι ((dJ d i).f c) V/\V.oneCell=true/\(ro=false->w.frozen? ⟨l.blk,l.base+i,none⟩=false)) /\
   (ro=false->∀ j,j<l.ext*l.z->∃ V,w.cell? ⟨l.blk,l.base+(n+j),none⟩=some V/\w.frozen? ⟨l.blk,l.base+(n+j),none⟩=false/\V.oneCell=true)
 | .map es clock=>∃ l ES,ι b=some l/\w.heap[l.blk]? =some (.map ES.toArray clock)/\bV ι es ES
 | .fQ m since pos=>∃ l r,ι b=some l/\l.base=0/\w.heap[l.blk]? =some (.mapIter r since (match pos with|0=> #[]|p+1=> #[p]) since) /\
   (match m with|0=>r=none|m'+1=>∃ lm,ι m'=some lm/\r=some lm.blk)
 | .loop ready pending d n L params assign body=>∃ l lp,ι b=some l/\w.heap[l.blk]? =some (.loop lp) /\
   lp.state=(if ready then .ready else if pending.isSome then .done else .busy)/\lp.pending=pending/\lp.params.toList=params/\lp.assign=assign/\lp.body=body/\LR ι d n L lp.tmps/\kG assign=true/\kG body=true
def bO.dH:bO->Bool
 | .dead=>true
 |_=>false
theorem bO.bC{b:bO}(h:b.wr=true):b.dH=false:=by cases b<;>simp_all [bO.wr,bO.dH]
def gZ(_:Nat):Prop:=True
theorem oI{b:Nat}:gZ b:=trivial
structure HR(ι:Im)(H:Hp)(w:World):Prop where
 top:gZ (H.nx)
 blk:∀ b,gZ (b)->BR ι w b (H.get b)
 low:∀ b l,gZ (b)->(H.get b).dH=false->ι b=some l->l.blk<w.heap.size
 inj:∀ b c l m,gZ (b)->gZ (c)->(H.get b).wr=true->(H.get c).dH=false->ι b=some l->ι c=some m->l.blk=m.blk->b=c
 fresh:∀ b,H.nx<=b->ι b=none
 free:∀ b,H.nx<=b->gZ (b)->H.get b=.dead
theorem HR.lt{ι:Im}{H:Hp}{w:World}(_:HR ι H w){b:Nat}{l:Loc}(_:ι b=some l):gZ (b):=by exact oI
structure Fr(ι ι':Im)(H H':Hp)(w w':World):Prop where
 le:ι.le ι'
 nx:H.nx<=H'.nx
 dom:∀ b,ι b=none->ι' b≠none->H.nx<=b
 os:w'.os=w.os
 tape:w'.tape=w.tape
 output:w'.output=w.output
 size:w.heap.size<=w'.heap.size
 keep:∀ c,c<w.heap.size->(∀b l,gZ (b)->(H.get b).wr=true->ι b=some l->l.blk≠c)->w'.heap[c]? =w.heap[c]?
 new:∀ b l,gZ (b)->(H'.get b).wr=true->ι' b=some l->w.heap.size<=l.blk\/∃ b0 l0,gZ (b0)/\(H.get b0).wr=true/\ι b0=some l0/\l0.blk=l.blk
 live:∀ b l,gZ (b)->(H'.get b).dH=false->ι' b=some l->w.heap.size<=l.blk\/∃ b0 l0,gZ (b0)/\(H.get b0).dH=false/\ι b0=some l0/\l0.blk=l.blk
theorem Fr.refl(ι:Im)(H:Hp)(w:World):Fr ι ι H H w w:=
 ⟨Im.le_refl _,lh _,fun _ h k=>absurd h k,rfl,rfl,rfl,lh _,fun _ _ _=>rfl,fun b l a c d=>.inr ⟨b,l,a,c,d,rfl⟩,fun b l a c d=>.inr ⟨b,l,a,c,d,rfl⟩⟩
theorem Fr.trans{ι v e:Im}{H B i:Hp}{w w' j:World}(f:Fr ι v H B w w')(g:Fr v e B i w' j):Fr ι e H i w j:=by
 refine⟨Im.le_trans f.le g.le,rq f.nx g.nx,fun b h k=>?_,g.os.trans f.os,g.tape.trans f.tape,g.output.trans f.output,rq f.size g.size,fun c C D=>?_,fun b l m n o=>?_,fun b l m n o=>?_⟩
 ·cases E:v b with
  |none=>exact rq f.nx (g.dom b E k)
  |some l=>exact f.dom b h (by simp[E])
 ·rw[g.keep c (lq C f.size) ?_,f.keep c C D];intro b l m n o F;rcases f.new b l m n o with a|⟨p,q,a,r,s,t⟩
  ·omega
  ·exact D p q a r s (t.trans F)
 ·rcases g.new b l m n o with a|⟨p,q,a,r,s,t⟩
  ·exact .inl (rq f.size a)
  ·rcases f.new p q a r s with u|⟨x,y,u,z,A,d⟩
   ·exact .inl (by omega)
   ·exact .inr ⟨x,y,u,z,A,d.trans t⟩
 ·rcases g.live b l m n o with a|⟨p,q,a,r,s,t⟩
  ·exact .inl (rq f.size a)
  ·rcases f.live p q a r s with u|⟨x,y,u,z,A,d⟩
   ·exact .inl (by omega)
   ·exact .inr ⟨x,y,u,z,A,d.trans t⟩
theorem Fr.below{ι a:Im}{H c:Hp}{w w':World}(f:Fr ι a H c w w')(B:Nat)(i:B<=w.heap.size)(h:∀ b l,gZ (b)->(H.get b).wr=true->ι b=some l->B<=l.blk):Below B w w':=
 ⟨f.os,f.tape,f.output,f.size,fun k j=>f.keep k (by omega) fun b l d e g m=>by have:=h b l d e g;omega⟩
end Go.Ev
end
noncomputable section
namespace Go.Ev
open Go.RowKit
theorem qtq{w w':World}{a:Addr}(h:w'.heap[a.block]? =w.heap[a.block]?):w'.cell? a=w.cell? a:=by unfold World.cell?;rw[h]
theorem qlq{w w':World}{a:Addr}(h:w'.heap[a.block]? =w.heap[a.block]?):w'.frozen? a=w.frozen? a:=by unfold World.frozen?;rw[h]
theorem BR.keep{ι:Im}{w w':World}{b:Nat}{k:bO}(h:BR ι w b k)(o:∀ l,k.dH=false->ι b=some l->w'.heap[l.blk]? =w.heap[l.blk]?):BR ι w' b k:=by
 cases k with
 |dead=>trivial
 |cells d n c ro z=>
  obtain⟨l,f,g,m,t⟩:=h;have e:=o l rfl f;refine⟨l,f,g,fun i q=>?_,fun p j s=>?_⟩
  ·obtain⟨V,a,b,c,d⟩:=m i q;exact⟨V,by rw[qtq (w:=w) e];exact a,b,c,fun p=>by rw[qlq (w:=w) e];exact d p⟩
  ·obtain⟨V,a,b⟩:=t p j s;exact⟨V,by rw[qtq (w:=w) e];exact a,by rw[qlq (w:=w) e];exact b⟩
 |map es clock=>obtain⟨l,u,f,g,m⟩:=h;exact⟨l,u,f,by rw[o l rfl f];exact g,m⟩
 |fQ=>obtain⟨l,r,f,v,g,m⟩:=h;exact⟨l,r,f,v,by rw[o l rfl f];exact g,m⟩
 |loop=>obtain⟨l,x,f,g,m⟩:=h;exact⟨l,x,f,by rw[o l rfl f];exact g,m⟩
theorem BR.mono{ι p:Im}{w:World}{b:Nat}{k:bO}(e:ι.le p)(h:BR ι w b k):BR p w b k:=by
 cases k with
 |dead=>trivial
 |cells d n c ro z=>obtain⟨l,g,j,f,o⟩:=h;refine⟨l,e _ _ g,j,fun i s=>?_,o⟩;obtain⟨V,a,b,c,d⟩:=f i s;exact⟨V,a,aL.mono e _ _ b,c,d⟩
 |map es clock=>obtain⟨l,t,g,j,f⟩:=h;exact⟨l,t,e _ _ g,j,bV.mono e _ _ f⟩
 |fQ m=>
  obtain⟨l,r,g,u,j,f⟩:=h;refine⟨l,r,e _ _ g,u,j,?_⟩;cases m with
  |zero=>exact f
  |succ m=>obtain⟨v,x,k2⟩:=f;exact⟨v,e _ _ x,k2⟩
 |loop=>obtain⟨l,y,g,j,f,o,A,B,C,q⟩:=h;exact⟨l,y,e _ _ g,j,f,o,A,B,C,q.1.mono e,q.2⟩
theorem BR.some{ι:Im}{w:World}{b:Nat}{k:bO}(h:BR ι w b k)(hd:k.dH=false):∃ l,ι b=some l:=by
 cases k with
 |dead=>simp[bO.dH]at hd
 |cells d n c ro z=>obtain⟨l,a,_⟩:=h;exact⟨l,a⟩
 |map es clock=>obtain⟨l,_,a,_⟩:=h;exact⟨l,a⟩
 |fQ=>obtain⟨l,_,a,_⟩:=h;exact⟨l,a⟩
 |loop=>obtain⟨l,_,a,_⟩:=h;exact⟨l,a⟩
theorem z96:8 ^ HD=2097152:=by decide
theorem Mem.get_put(m:Mem)(b c:Nat)(k:bO):(m.put b k).get c=if c=b then k else m.get c:=by
 unfold Mem.put Mem.get;cases g:Nat.blt b 2097152 with
 |true=>
  have d:b<8 ^ HD:=by rw[z96];simp[Nat.blt]at g;omega
  cases a:Nat.blt c 2097152 with
  |true=>
   have f:c<8 ^ HD:=by rw[z96];simp[Nat.blt]at a;omega
   exact qey _ _ _ _ _ f d
  |false=>
   have:c≠b:=fun e=>by subst e;rw[g]at a;cases a
   simp_all
 |false=>
  cases a:Nat.blt c 2097152 with
  |true=>
   have:c≠b:=fun e=>by subst e;rw[g]at a;cases a
   simp_all
  |false=>
   show(bif Nat.beq c b then k else m.x c)=if c=b then k else m.x c
   by_cases e:c=b
   ·simp
   ·rw[lu e];have:Nat.beq c b=false:=by
     cases h:Nat.beq c b with
     |false=>rfl
     |true=>exact absurd (qp h) e
    rw[this];rfl
theorem Hp.get_put(H:Hp)(b c:Nat)(k:bO)(_:gZ (b))(_:gZ (c)):(H.put b k).get c=if c=b then k else H.get c:=by exact Mem.get_put H.t b c k
theorem HR.put{ι:Im}{H:Hp}{w w':World}(h:HR ι H w){b:Nat}(n:gZ (b))(g:(H.get b).wr=true){l:Loc}(u:ι b=some l)(k:bO)(A:w'.os=w.os)(r:w'.tape=w.tape)(o:w'.output=w.output)(s:w'.heap.size=w.heap.size)(p:∀ c,c≠l.blk->w'.heap[c]? =w.heap[c]?)(C:BR ι w' b k):HR ι (H.put b k) w'/\Fr ι ι H (H.put b k) w w':=by
 have j:=bO.bC g;refine⟨⟨h.top,fun c a=>?_,fun c m a d f=>?_,fun c t m v a i d f x y z=>?_,h.fresh,fun c a i=>?_⟩,
  ⟨Im.le_refl _,lh _,fun c d f=>absurd d f,A,r,o,by omega,fun c a d=>p c fun e=>d b l n g u e.symm,fun c m a d f=>?_,fun c m a d f=>?_⟩⟩
 ·rw[Hp.get_put _ _ _ _ n a];by_cases e:c=b
  ·simp_all
  ·rw[lu e];exact(h.blk c a).keep fun m hd B=>p _ fun q=>e (h.inj b c l m n a g hd u B q.symm).symm
 ·rw[Hp.get_put _ _ _ _ n a]at d;rw[s];by_cases e:c=b
  ·subst e;rw[u]at f;cases f;exact h.low c l a j u
  ·rw[lu e]at d;exact h.low c m a d f
 ·rw[Hp.get_put _ _ _ _ n a]at d;rw[Hp.get_put _ _ _ _ n i]at f;by_cases e:c=b
  ·subst e;by_cases q:t=c
   ·omega
   ·rw[lu q]at f;exact h.inj c t m v a i g f x y z
  ·rw[lu e]at d;by_cases q:t=b
   ·subst q;exact h.inj c t m v a i d j x y z
   ·rw[lu q]at f;exact h.inj c t m v a i d f x y z
 ·have f:=h.free c a i;rw[Hp.get_put _ _ _ _ n i];have:c≠b:=fun e=>by subst e;rw[f]at g;simp[bO.wr]at g
  simp_all
 ·rw[Hp.get_put _ _ _ _ n a]at d;by_cases e:c=b
  ·subst e;exact .inr ⟨c,m,a,g,f,rfl⟩
  ·rw[lu e]at d;exact .inr ⟨c,m,a,d,f,rfl⟩
 ·rw[Hp.get_put _ _ _ _ n a]at d;by_cases e:c=b
  ·subst e;exact .inr ⟨c,m,a,j,f,rfl⟩
  ·rw[lu e]at d;exact .inr ⟨c,m,a,d,f,rfl⟩
theorem HR.kill{ι:Im}{H:Hp}{w:World}(h:HR ι H w){b:Nat}(c:gZ (b))(a:(H.get b).wr=true):HR ι (H.put b .dead) w/\Fr ι ι H (H.put b .dead) w w:=by obtain⟨l,d⟩:=(h.blk b c).some (bO.bC a);exact h.put c a d .dead rfl rfl rfl rfl (fun _ _=>rfl) trivial
def Im.set(ι:Im)(b:Nat)(l:Loc):Im:=fun c=>if c=b then some l else ι c
theorem Im.aZ(ι:Im)(b:Nat)(l:Loc):(ι.set b l) b=some l:=by simp[Im.set]
theorem Im.dU(ι:Im){b c:Nat}(l:Loc)(h:c≠b):(ι.set b l) c=ι c:=by simp[Im.set,h]
theorem Im.iT{ι:Im}{b:Nat}(l:Loc)(h:ι b=none):ι.le (ι.set b l):=fun c m a=>by rw[Im.dU];exact a;intro e;subst e;rw[h]at a;cases a
theorem HR.add{ι:Im}{H:Hp}{w w':World}(h:HR ι H w){b nx':Nat}(D:gZ (b))(B:ι b=none)(hd:H.get b=.dead)(z:H.nx<=nx')(v:gZ (nx'))(C:b<nx')(l:Loc)(k:bO)(o:w.heap.size<=w'.heap.size)(p:∀ c m,gZ (c)->(H.get c).dH=false->ι c=some m->w'.heap[m.blk]? =w.heap[m.blk]?)(q:k.dH=false->l.blk<w'.heap.size)(r:∀ c m,gZ (c)->(H.get c).dH=false->ι c=some m->m.blk≠l.blk)(E:BR (ι.set b l) w' b k):HR (ι.set b l) ⟨H.t.put b k,nx'⟩ w':=by
 have y:=Im.iT l B;have u:∀ c,gZ (c)->Hp.get ⟨H.t.put b k,nx'⟩ c=if c=b then k else H.get c:=fun c a=>by exact Mem.get_put H.t b c k
 refine⟨v,fun c a=>?_,fun c m a f g=>?_,fun c s m A a d f g t j x=>?_,fun c a=>?_,fun c a d=>?_⟩
 ·rw[u c a];by_cases e:c=b
  ·simp_all
  ·rw[lu e];exact((h.blk c a).keep fun m f g=>p c m a f g).mono y
 ·rw[u c a]at f;by_cases e:c=b
  ·subst e;rw[kz rfl]at f;rw[Im.aZ]at g;cases g;exact q f
  ·rw[lu e]at f;rw[Im.dU _ _ e]at g;exact lq (h.low c m a f g) o
 ·rw[u c a]at f;rw[u s d]at g;by_cases e:c=b
  ·subst e;by_cases n:s=c
   ·omega
   ·rw[lu n]at g;rw[Im.aZ]at t;cases t;rw[Im.dU _ _ n]at j;exact absurd x.symm (r s A d g j)
  ·rw[lu e]at f;rw[Im.dU _ _ e]at t;by_cases n:s=b
   ·subst n;rw[Im.aZ]at j;cases j;exact absurd x (r c m a (bO.bC f) t)
   ·rw[lu n]at g;rw[Im.dU _ _ n]at j;exact h.inj c s m A a d f g t j x
 ·have i:c≠b:=by simp only at a;omega
  rw[Im.dU _ _ i];exact h.fresh c (rq z a)
 ·have i:c≠b:=by simp only at a;omega
  rw[u c d,lu i];exact h.free c (rq z a) d
theorem HR.push{ι:Im}{H:Hp}{w w':World}(h:HR ι H w)(n:gZ (H.nx))(l:Loc)(k:bO)(q:w'.os=w.os)(j:w'.tape=w.tape)(d:w'.output=w.output)(g:w.heap.size<w'.heap.size)(i:∀ c,c<w.heap.size->w'.heap[c]? =w.heap[c]?)(s:l.blk=w.heap.size)(r:BR (ι.set H.nx l) w' H.nx k):HR (ι.set H.nx l) (aN H k) w'/\Fr ι (ι.set H.nx l) H (aN H k) w w':=by
 have p:=h.fresh H.nx (lh _);have hd:=h.free H.nx (lh _) n;refine⟨h.add n p hd (lE1 _) n (dC _) l k (yu g) (fun c m f b a=>i _ (h.low c m f b a)) (fun _=>by omega)
  (fun c m f b a=>by have:=h.low c m f b a;omega) r,
  ⟨Im.iT l p,lE1 _,fun c b a=>?_,q,j,d,yu g,fun c f _=>i c f,fun c m f b a=>?_,fun c m f b a=>?_⟩⟩
 ·by_cases e:c=H.nx
  ·omega
  ·rw[Im.dU _ _ e]at a;exact absurd b a
 ·have o:(aN H k).get c=if c=H.nx then k else H.get c:=by exact Mem.get_put H.t H.nx c k
  by_cases e:c=H.nx
  ·subst e;rw[Im.aZ]at a;cases a;exact .inl (by omega)
  ·rw[o,lu e]at b;rw[Im.dU _ _ e]at a;exact .inr ⟨c,m,f,b,a,rfl⟩
 ·have o:(aN H k).get c=if c=H.nx then k else H.get c:=by exact Mem.get_put H.t H.nx c k
  by_cases e:c=H.nx
  ·subst e;rw[Im.aZ]at a;cases a;exact .inl (by omega)
  ·rw[o,lu e]at b;rw[Im.dU _ _ e]at a;exact .inr ⟨c,m,f,b,a,rfl⟩
/- stores -/
structure Wrote(w w':World)(blk off:Nat)(vs:List Value):Prop where
 os:w'.os=w.os
 tape:w'.tape=w.tape
 output:w'.output=w.output
 size:w'.heap.size=w.heap.size
 keep:∀ c,c≠blk->w'.heap[c]? =w.heap[c]?
 cell:∀ i,w'.cell? ⟨blk,i,none⟩=if off<=i/\i<off+vs.length then some (vs.getD (i-off) Go.undef)else w.cell? ⟨blk,i,none⟩
 frozen:∀ a,w'.frozen? a=w.frozen? a
theorem addr_add(b o i:Nat):Addr.add ⟨b,o,none⟩ i=⟨b,o+i,none⟩:=by
 unfold Addr.add;split
 ·subst_vars;rfl
 ·rfl
theorem qw1(P:Program)(w:World)(a:Addr)(v:Value){u:Value}(b:w.cell? a=some u)(c:w.frozen? a=false)(d:v.oneCell=true):(Go.store a v).run P w=.ok () (w.setCell a v):=by unfold Go.store;cases v<;>first|(simp[Value.oneCell]at d;done)|(simp only[Sem.run,b,c];rfl)
theorem qhj(P:Program)(b:Nat):∀(vs:List Value) (w:World) (o i:Nat), (∀j,j<vs.length->∃ u,w.cell? ⟨b,o+i+j,none⟩=some u/\w.frozen? ⟨b,o+i+j,none⟩=false)->(∀v∈vs,v.oneCell=true) -> ∃w',(storeCells ⟨b,o,none⟩ vs i).run P w=.ok () w'/\Wrote w w' b (o+i) vs:=by
 intro vs
 induction vs with
 |nil=>intro w o i _ _;exact⟨w,rfl,rfl,rfl,rfl,rfl,fun _ _=>rfl,fun j=>by rw[lu (by simp)],fun _=>rfl⟩
 |cons v vs ih=>
  intro w o i l m;obtain⟨u,f,n⟩:=l 0 (by simp);simp only[yw]at f n;obtain⟨w',t,d⟩:=ih (w.setCell ⟨b,o+i,none⟩ v) o (i+1) (fun j r=>by obtain⟨y,g,h⟩:=l (j+1) (by simpa using r);rw[show o+(i+1)+j=o+i+(j+1)by omega];refine⟨y,?_,by rw[World.frozen?_setCell];exact h⟩;rw[World.cell?_setCell_other];exact g;intro e;simp at e) (fun x s=>m x (by simp[s]));refine⟨w',?_,d.os,d.tape,d.output,by rw[d.size];simp,fun c k=>?_,fun j=>?_,fun a=>by rw[d.frozen];simp⟩
  ·unfold storeCells;rw[addr_add,Sem.run_bind,qw1 P w _ v f n (m v (by simp))];exact t
  ·rw[d.keep c k];exact Below.heap_setCell _ _ _ _ k
  ·rw[d.cell j];simp only[gz];by_cases p:o+(i+1)<=j/\j<o+(i+1)+vs.length
   ·rw[kz p,kz (by omega)];obtain⟨q,z⟩:∃ q,j-(o+i)=q+1:=⟨j-(o+i)-1,by omega⟩;rw[z,List.getD_cons_succ,show j-(o+(i+1))=q by omega]
   ·rw[lu p];by_cases A:j=o+i
    ·subst A;rw[kz (by omega),World.cell?_setCell_same w _ v f];simp
    ·rw[lu (by omega),World.cell?_setCell_other];intro e;simp at e;omega
theorem run_loadCellsFrom(P:Program)(w:World)(b o:Nat):∀(vs:List Value) (i:Nat) (a:Array Value), (∀j (v:Value),vs[j]? =some v->w.cell? ⟨b,o+i+j,none⟩=some v) -> (loadCellsFrom ⟨b,o,none⟩ i vs.length a).run P w=.ok (a++vs.toArray) w:=by
 intro vs
 induction vs with
 |nil=>intro i a _;simp[loadCellsFrom]
 |cons v vs ih=>intro i a h;have c:=h 0 v rfl;simp only[yw]at c;simp only[gz,loadCellsFrom,Sem.run_bind,addr_add,run_load,c,Result.andThen_ok];rw[ih (i+1) _ fun j u d=>by have:=h (j+1) u (by simpa using d);rw[show o+(i+1)+j=o+i+(j+1)by omega];exact this];simp
theorem run_loadCells(P:Program)(w:World)(a o:Nat)(vs:List Value)(h:∀ j (v:Value),vs[j]? =some v->w.cell? ⟨a,o+j,none⟩=some v):(loadCells ⟨a,o,none⟩ vs.length).run P w=.ok vs.toArray w:=by unfold loadCells;rw[run_loadCellsFrom P w a o vs 0 #[] (by simpa using h)];simp
end Go.Ev
end
noncomputable section
namespace Go.Ev
open Go.RowKit
variable {P:Program} {w:World} {ι:Im}
theorem uE{a b:Nat}(h:Nat.blt a b=true):a<b:=ai h
theorem zdt{a b:Nat}(h:Nat.blt a b=false):¬ a<b:=fun k=>by have:Nat.blt a b=true:=yx k;simp_all
theorem nP{a b:Nat}(h:Nat.ble a b=true):a<=b:=ai h
theorem z9m{a b:Nat}(h:Nat.ble a b=false):¬ a<=b:=fun k=>by have:=yx k;simp_all
theorem uD{a b:Nat}(h:Nat.beq a b=true):a=b:=qp h
theorem qx5{a b:Nat}(h:Nat.beq a b=false):a≠b:=Nat.ne_of_beq_eq_false h
theorem bP{t:TypeId}{d:TypeDesc}(h:P.underlying t=some d):(underlying t).run P w=.ok d w:=by simp[underlying,h]
theorem zk8{t:TypeId}{i:TypeInfo}(h:P.info? t=some i):(typeInfo t).run P w=.ok i w:=by simp[typeInfo,h]
theorem mH{t:TypeId}{n:Nat}(h:gQ P t=some n):(sizeOf t).run P w=.ok n w:=by
 unfold gQ at h;cases a:P.info? t with
 |none=>simp[a]at h
 |some i=>simp[a]at h;simp[sizeOf,zk8 a,h]
theorem qw7{t:TypeId}{n:Nat}(h:qjp P t=some n):∃ i,(∀w,(typeInfo t).run P w=.ok i w)/\i.bytes=n:=by
 unfold qjp at h;cases a:P.info? t with
 |none=>simp[a]at h
 |some i=>simp[a]at h;exact⟨i,fun _=>zk8 a,h⟩
theorem qf4{t:TypeId}{b:Bool}(h:pR P t=some b):(isAgg t).run P w=.ok b w:=by
 unfold pR at h;cases a:P.underlying t with
 |none=>simp[a]at h
 |some d=>simp only[a,lEH,qh]at h;unfold isAgg;rw[Sem.run_bind,bP a];subst h;cases d<;>rfl
theorem qde{t:TypeId}{z:Value}(h:(P.info? t).bind (·.zero)=some z):(zeroValue t).run P w=.ok z w:=by
 cases a:P.info? t with
 |none=>simp[a]at h
 |some i=>simp[a]at h;simp[zeroValue,zk8 a,h]
theorem zlp(v:Value)(h:aBk v=true):v.oneCell=true:=by cases v<;>simp_all [aBk,Value.oneCell]
theorem qky(v:Value):aL ι (qpi v) v:=by
 unfold qpi;split<;>simp only[aL]
 ·exact⟨_,rfl,rfl,rfl⟩
theorem qkx:∀ l:List Value,aK ι (l.map qpi) l
 | []=>by simp[aK]
 |v::l=>by simp only[au,aK];exact⟨v,l,rfl,qky v,qkx l⟩
theorem qf6(v:Value):aL ι (qxc v) v:=by
 unfold qxc;split
 ·rename_i cs;cases h:cs.toList.all aBk with
  |false=>simp[aL]
  |true=>exact⟨cs.toList,qkx _,by simp,fun v a=>zlp v (yl.1 h v a)⟩
 ·rfl
 ·exact qky _
theorem qqw{z:Value}{l:List AV}(h:qk9 z=some l):aK ι l z.cells.toList/\∀ v∈z.cells.toList,v.oneCell=true:=by
 unfold qk9 at h;split at h
 ·rename_i cs;cases b:cs.toList.all aBk with
  |false=>simp[b]at h
  |true=>simp[b]at h;subst h;exact⟨by simpa [Value.cells] using qkx cs.toList,fun v a=>zlp v (yl.1 b v (by simpa [Value.cells] using a))⟩
 ·simp at h
 ·rename_i c d;simp at h;subst h;have e:z.cells= #[z]:=by unfold Value.cells;split<;>first|rfl|simp_all
  rw[e];refine⟨aK.singleton (qky z),fun v a=>?_⟩;simp at a;subst a;cases v<;>simp_all [Value.oneCell]
theorem qcv{t:TypeId}{l:List AV}(h:qju P t=some l):∃ z,(P.info? t).bind (·.zero)=some z/\aK ι l z.cells.toList/\∀ v∈z.cells.toList,v.oneCell=true:=by
 unfold qju at h;cases a:(P.info? t).bind (·.zero)with
 |none=>simp[a]at h
 |some z=>rw[a]at h;exact⟨z,rfl,qqw h⟩
theorem qm4{a:Im}{w':World}{nm:Nat}{l:List AV}{vs:List Value}{loc:Loc}(e:a nm=some loc)(f:aK a l vs)(g:∀ v∈vs,v.oneCell=true)(h:∀(i:Nat) (v:Value),vs[i]? =some v->w'.cell? ⟨loc.blk,loc.base+i,none⟩=some v/\w'.frozen? ⟨loc.blk,loc.base+i,none⟩=false)(k:∀ j,j<loc.ext*loc.z->∃ V,w'.cell? ⟨loc.blk,loc.base+(l.length+j),none⟩=some V/\w'.frozen? ⟨loc.blk,loc.base+(l.length+j),none⟩=false/\V.oneCell=true):BR a w' nm (aB loc.z l):=by
 have c:l.length<=8 ^ iF l.length:=qb3 _;refine⟨loc,e,⟨c,rfl⟩,fun i b=>?_,fun _=>k⟩;rw[qh2 _ _ _ _ (by omega) (by omega),kz (by omega)];have m:l[i]? =some (l.getD i .undef):=by simp[b]
 obtain⟨v,d,n⟩:=f.get i _ m;obtain⟨o,p⟩:=h i v d;exact⟨v,o,by simpa using n,g v (uB d),fun _=>p⟩
structure New(w w':World)(l:Loc):Prop where
 os:w'.os=w.os
 tape:w'.tape=w.tape
 output:w'.output=w.output
 size:w'.heap.size=w.heap.size+1
 keep:∀ c,c<w.heap.size->w'.heap[c]? =w.heap[c]?
 blk:l.blk=w.heap.size
theorem New.alloc(w:World)(o:Obj)(e z:Nat):New w (w.alloc o) ⟨w.heap.size,0,e,z⟩:=
 ⟨rfl,rfl,rfl,by simp,fun c a=>Below.heap_alloc w o c a,rfl⟩
def gY(P:Program)(o:Oper)(ρ:Operand->Value)(ι:Im)(w:World)(nm:Nat):R0->Prop
 | .bad=>True
 | .val v=>∃ V,(execOp ρ o).run P w=.ok (.value V) w/\aL ι v V
 | .new v k=>∃ V w' l,(execOp ρ o).run P w=.ok (.value V) w'/\New w w' l/\∀ ι',ι.le ι'->ι' nm=some l->aL ι' v V/\BR ι' w' nm k
theorem qf9{l:List AV}{vs:List Value}(c:aK ι l vs)(d:∀ v∈vs,v.oneCell=true)(t:TypeId)(nm z:Nat):∀a,ι.le a->a nm=some ⟨w.heap.size,0,0,z⟩->BR a (w.alloc (.cells vs.toArray t)) nm (aB z l):=by intro a b g;refine qm4 (loc:=⟨w.heap.size,0,0,z⟩) g (aK.mono b _ _ c) d (fun i v e=>?_) (fun j f=>by simp at f);simp[e]
theorem dP{d n:Nat}{L:TT AV d}{a:Act}(h:LR ι d n L a.tmps)(x:Operand):aL ι ((aH d n x).f L) (a.eval x):=by
 cases x with
 |tmp t=>
  simp only[aH];cases c:Nat.blt t n with
  |true=>have b:=uE c;have:=h.get t b;trivial
  |false=>
   have b:=zdt c;simp only[aj,aL,Act.eval];have:a.tmps.size<=t:=by rw[h.size];omega
   simp[lE2 this,Go.undef]
 |const v=>exact qf6 v
 |global g=>simp[aH,aL,Act.eval]
 |func f=>simp only[aH,aL,Act.eval];exact⟨[],[],by simp[aK],by simp[aK],rfl⟩
theorem qcz{d n:Nat}{L:TT AV d}{a:Act}(h:LR ι d n L a.tmps):∀ l:List Operand,aK ι ((tQ d n l).f L) (l.map a.eval)
 | []=>by simp[tQ,aK]
 |x::l=>by exact⟨_,_,rfl,dP h x,qcz h l⟩
theorem zxh{o:Oper}{a:Act}{x:Operand}{nm:Nat}(b:o.op=.move x\/o.op=.assign x){d n:Nat}{L:TT AV d}(h:LR ι d n L a.tmps):gY P o a.eval ι w nm (.val ((aH d n x).f L)):=by refine⟨a.eval x,?_,dP h x⟩;rcases b with b|b<;>simp[execOp,b]
theorem z6p{o:Oper}{a:Act}{c x y:Operand}{nm:Nat}(f:o.op=.pick c x y){d n:Nat}{L:TT AV d}(h:LR ι d n L a.tmps):gY P o a.eval ι w nm (dK ((aH d n c).f L) ((aH d n x).f L) ((aH d n y).f L)):=by
 have b:=dP h c;unfold dK;split
 ·rename_i e;rw[e]at b;simp only[aL]at b;exact⟨_,by simp[execOp,f,asBool,b],dP h x⟩
 ·rename_i e;rw[e]at b;simp only[aL]at b;exact⟨_,by simp[execOp,f,asBool,b],dP h y⟩
 ·trivial
theorem z1z{o:Oper}{ρ:Operand->Value}{t:TypeId}{nm:Nat}(c:o.op=.alloc t){z:List AV}(d:qju P t=some z):gY P o ρ ι w nm (.new (.ptr nm 0) (aB 0 z)):=by
 obtain⟨f,g,h,i⟩:=qcv (ι:=ι) d;refine⟨.pointer (some ⟨w.heap.size,0,none⟩),_,⟨w.heap.size,0,0,0⟩,?_,New.alloc w (.cells f.cells.toList.toArray t) 0 0,fun e a b=>⟨?_,qf9 h i t nm 0 e a b⟩⟩
 ·simp only[execOp,c,Instr.alloc,Sem.run_bind,qde g,Result.andThen_ok,newVar,newRow];simp
 ·simp only[aL];exact⟨_,b,rfl⟩
def AV.plain:AV->Bool
 | .agg _| .aX _| .undef| .lit _=>false
 |_=>true
theorem aL.one{v:AV}{V:Value}(h:aL ι v V)(a:v.plain=true):V.oneCell=true/\V.cells= #[V]:=by
 cases v<;>first|(simp[AV.plain]at a;done)|skip
 all_goals simp only[aL]at h
 all_goals first
  |(subst h;exact⟨rfl,rfl⟩)
  |(obtain⟨_,rfl,_⟩:=h;exact⟨rfl,rfl⟩)
  |(obtain⟨_,_,rfl⟩:=h;exact⟨rfl,rfl⟩)
  |(obtain⟨_,_,_,rfl⟩:=h;exact⟨rfl,rfl⟩)
  |(obtain⟨_,_,_,_,rfl⟩:=h;exact⟨rfl,rfl⟩)
theorem z6v{o:Oper}{a:Act}{t:TypeId}{x:Operand}{nm:Nat}(f:o.op=.box t x){d n:Nat}{L:TT AV d}(h:LR ι d n L a.tmps):gY P o a.eval ι w nm (l9 nm ((aH d n x).f L)):=by
 have e:=dP h x;unfold l9;split<;>first|trivial|skip
 rename_i j k q l;have i:((aH d n x).f L).plain=true:=by
  unfold AV.plain;split
  ·simp_all
  ·simp_all
  ·trivial
  ·simp_all
  ·rfl
 obtain⟨m,p⟩:=e.one i;refine⟨.pointer (some ⟨w.heap.size,0,none⟩),_,⟨w.heap.size,0,0,0⟩,?_,New.alloc w (.cells [a.eval x].toArray t) 0 0,fun g b c=>⟨?_,qf9 (aK.singleton e) (by simpa using m) t nm 0 g b c⟩⟩
 ·simp[execOp,f,Instr.box,newVar,newRow,p]
 ·simp only[aL];exact⟨_,c,rfl⟩
end Go.Ev
end
noncomputable section
namespace Go.Ev
open Go.RowKit
variable {P:Program} {w:World} {ι:Im} {o:Oper} {a:Act} {nm:Nat} {d n:Nat} {L:TT AV d} {H:Hp}
theorem z6u{t:TypeId}{x:Operand}(g:o.op=.box t x)(k:Nat)(h:LR ι d n L a.tmps):gY P o a.eval ι w nm (yE k nm ((aH d n x).f L)):=by
 have c:=dP h x;unfold yE;split
 ·rename_i l e;rw[e]at c;simp only[aL]at c;obtain⟨vs,j,m,p⟩:=c;cases Nat.beq l.length k with
  |false=>trivial
  |true=>
   refine⟨.pointer (some ⟨w.heap.size,0,none⟩),_,⟨w.heap.size,0,0,0⟩,?_,New.alloc w (.cells vs.toArray t) 0 0,fun i b f=>⟨?_,qf9 j p t nm 0 i b f⟩⟩
   ·simp[execOp,g,Instr.box,newVar,newRow,m,Value.cells]
   ·simp only[aL];exact⟨_,f,rfl⟩
 ·trivial
/- loads -/
theorem qzy{b:Nat}{k:bO}(e:BR ι w b k){i:Nat}{v:AV}(h:bK k i=.val v):∃ l V,ι b=some l/\w.cell? ⟨l.blk,l.base+i,none⟩=some V/\aL ι v V/\V.oneCell=true:=by
 cases k with
 |cells d n c ro z=>
  obtain⟨l,g,j,f,_⟩:=e;simp only[bK]at h;cases a:Nat.blt i n with
  |false=>rw[a]at h;cases h
  |true=>rw[a]at h;simp only[uC,R0.val.injEq]at h;subst h;obtain⟨V,m,o,p,_⟩:=f i (uE a);simp_all
 |_=>simp[bK]at h
theorem q6m(k:bO)(i:Nat):bK k i=.bad\/∃ v,bK k i=.val v:=by
 cases k with
 |cells d n c ro z=>
  cases a:Nat.blt i n with
  |false=>left;simp[bK,a]
  |true=>right;exact⟨_,by simp[bK,a];rfl⟩
 |_=>left;rfl
theorem qe4{b:Nat}{k:bO}(s:BR ι w b k){i m:Nat}{l:List AV}(h:jG k i m=some l):l.length=m/\(m=0\/∃ loc vs,ι b=some loc/\aK ι l vs/\vs.length=m/\(∀v∈vs,v.oneCell=true)/\∀(j:Nat) (v:Value),vs[j]? =some v->w.cell? ⟨loc.blk,loc.base+i+j,none⟩=some v):=by
 cases k with
 |cells d n c ro z=>
  obtain⟨loc,u,D,y,_⟩:=s;simp only[jG]at h;cases q:Nat.ble (i+m) n with
  |false=>rw[q]at h;cases h
  |true=>
   rw[q]at h;simp only[uC,qh]at h;subst h;refine⟨qgv _ _ _,.inr ?_⟩;have t:=nP q;have o:∀ j,j<m->∃ V,w.cell? ⟨loc.blk,loc.base+(i+j),none⟩=some V/\aL ι ((dJ d (i+j)).f c) V/\V.oneCell=true:=fun j a=>by obtain⟨V,A,B,C,_⟩:=y (i+j) (by omega);exact⟨V,A,B,C⟩
   obtain⟨f,r⟩:∃ f:Nat->Value,∀j,j<m->w.cell? ⟨loc.blk,loc.base+(i+j),none⟩=some (f j)/\aL ι ((dJ d (i+j)).f c) (f j)/\(f j).oneCell=true:=by refine⟨fun j=>if a:j<m then Classical.choose (o j a)else .nilFunc,fun j a=>?_⟩;simp only[a,dif_pos];exact uq (o j a)
   refine⟨loc,(List.range m).map f,u,aK.aAx (by simp[qgv]) fun j x p=>?_,by simp,fun v g=>?_,fun j v g=>?_⟩
   ·have a:j<m:=by
     rcases xe j m with e|e
     ·exact e
     ·rw[xn (by rw[qgv];exact e)]at p;cases p
    rw[zk4 _ _ _ _ a]at p;cases p;simp_all
   ·simp at g;obtain⟨j,a,rfl⟩:=g;exact(r j a).2.2
   ·have a:j<m:=by
     rcases xe j m with e|e
     ·exact e
     ·simp_all
    simp[a]at g;subst g;rw[ui];exact(r j a).1
 |_=>simp[jG]at h
theorem z1s{t:TypeId}{x:Operand}(m:o.op=.load t x)(p:pR P t=some false)(g:HR ι H w)(h:LR ι d n L a.tmps):gY P o a.eval ι w nm (aO H ((aH d n x).f L)):=by
 have f:=dP h x;unfold aO;split
 ·rename_i b i e;rw[e]at f;simp only[aL]at f;obtain⟨l,j,q⟩:=f;rcases q6m (H.get b) i with c|⟨v,c⟩
  ·rw[c];trivial
  ·rw[c];obtain⟨u,V,k,r,s,_⟩:=qzy (g.blk b (g.lt j)) c;rw[j]at k;cases k;exact⟨V,by simp[execOp,m,Instr.loadAt,q,Instr.sureAddr,loadVar,qf4 p,r],s⟩
 ·trivial
theorem z1r{t:TypeId}{x:Operand}(s:o.op=.load t x)(u:pR P t=some true){k:Nat}(y:gQ P t=some k)(q:HR ι H w)(h:LR ι d n L a.tmps):gY P o a.eval ι w nm (dQ k H ((aH d n x).f L)):=by
 have p:=dP h x;unfold dQ;split
 ·rename_i b i e;rw[e]at p;simp only[aL]at p;obtain⟨l,r,z⟩:=p;cases E:jG (H.get b) i k with
  |none=>trivial
  |some cs=>
   obtain⟨f,A⟩:=qe4 (q.blk b (q.lt r)) E;have c:∀ vs:List Value,vs.length=k->(∀(j:Nat) (v:Value),vs[j]? =some v->w.cell? ⟨l.blk,l.base+i+j,none⟩=some v)->(execOp a.eval o).run P w=.ok (.value (.agg vs.toArray)) w:=fun vs g m=>by have:=run_loadCells P w l.blk (l.base+i) vs m;rw[g]at this;simp[execOp,s,Instr.loadAt,z,Instr.sureAddr,loadVar,qf4 u,mH y,this]
   rcases A with rfl|⟨loc,vs,g,m,B,C,D⟩
   ·have:cs=[]:=tq.1 f;subst this;exact⟨_,c [] rfl (by simp),by simp only[aL];exact⟨[],by simp[aK],rfl,by simp⟩⟩
   ·rw[r]at g;cases g;exact⟨_,c vs B D,by simp only[aL];exact⟨vs,m,rfl,C⟩⟩
 ·trivial
theorem zck{x:Operand}(i:o.op=.nilCheck x)(h:LR ι d n L a.tmps):gY P o a.eval ι w nm (match(aH d n x).f L with| .ptr b o=>.val (.ptr b o)| .fn a b c=>.val (.fn a b c)| .yield l=>.val (.yield l)|_=>.bad):=by
 have f:=dP h x;split
 ·rename_i e;rw[e]at f;refine⟨a.eval x,?_,f⟩;simp only[aL]at f;obtain⟨l,_,g⟩:=f;simp[execOp,i,g]
 ·rename_i e;rw[e]at f;refine⟨a.eval x,?_,f⟩;simp only[aL]at f;obtain⟨F,C,_,_,g⟩:=f;simp[execOp,i,g]
 ·rename_i e;rw[e]at f;refine⟨a.eval x,?_,f⟩;simp only[aL]at f;obtain⟨l,_,g⟩:=f;simp[execOp,i,g]
 ·trivial
theorem q6n{s:TypeId}{x:Operand}{f:Nat}(k:o.op=.fieldAddr s x f){j:Array Field}(m:P.underlying s=some (.struct j)){c:Field}(p:j[f]? =some c){z:Nat}(q:gQ P c.type=some (z+1))(h:LR ι d n L a.tmps):gY P o a.eval ι w nm (aQ c.offset ((aH d n x).f L)):=by
 have g:=dP h x;unfold aQ;split
 ·rename_i b i e;rw[e]at g;simp only[aL]at g;obtain⟨l,r,t⟩:=g;refine⟨.pointer (some ⟨l.blk,l.base+(i+c.offset),none⟩),?_,by simp only[aL];exact⟨l,r,rfl⟩⟩;simp[execOp,k,Instr.fieldAt,bP m,p,t,Instr.sureAddr,fieldPlace,mH q,addr_add,ui]
 ·trivial
theorem z6s{t e:TypeId}{x y:Operand}(p:o.op=.indexAddr t x y)(q:P.underlying t=some (.slice e)){z:Nat}(r:gQ P e=some z)(h:LR ι d n L a.tmps):gY P o a.eval ι w nm (aG z ((aH d n x).f L) ((aH d n y).f L)):=by
 have c:=dP h x;have f:=dP h y;unfold aG;split
 ·rename_i b i m s D k j u v;rw[u]at c;rw[v]at f;simp only[aL]at c f;obtain⟨_,l,A,B⟩:=c;cases C:Nat.blt j m with
  |false=>trivial
  |true=>have g:=uE C;refine⟨.pointer (some ⟨l.blk,l.base+(i+j*z),none⟩),?_,by simp only[aL];exact⟨l,A,rfl⟩⟩;simp[execOp,p,Instr.indexAt,f,B,asIntOf,bP q,mH r,g,addr_add,ui]
 ·trivial
theorem z6t{t e:TypeId}{x y:Operand}(p:o.op=.indexAddr t x y){c:Nat}(q:P.underlying t=some (.array c e)){z:Nat}(r:gQ P e=some z)(h:LR ι d n L a.tmps):gY P o a.eval ι w nm (gP c z ((aH d n x).f L) ((aH d n y).f L)):=by
 have f:=dP h x;have g:=dP h y;unfold gP;split
 ·rename_i b i k j s u;rw[s]at f;rw[u]at g;simp only[aL]at f g;obtain⟨l,v,A⟩:=f;cases B:Nat.blt j c with
  |false=>trivial
  |true=>have m:=uE B;refine⟨.pointer (some ⟨l.blk,l.base+(i+j*z),none⟩),?_,by simp only[aL];exact⟨l,v,rfl⟩⟩;simp[execOp,p,Instr.indexAt,g,A,asIntOf,bP q,mH r,m,addr_add,ui,Instr.sureAddr]
 ·trivial
theorem zue{a b:IntKind}(h:wK a b=true):a=b:=by cases a<;>cases b<;>first|rfl|(simp[wK,zmi]at h)
theorem qfa(a b:Int):qY a b=(a==b):=by rw[lEI];cases a<;>cases b<;>simp[qY,Nat.beq_eq];omega
theorem u7(k:IntKind)(n:Int):aL ι (.int k n) (.int k n):=by simp only[aL]
theorem qw4(b:Bool):aL ι (.bool b) (.bool b):=by simp only[aL]
theorem qek(a b:Int):oU a b=decide (a<b):=by
 have c:∀ m n:Nat,Nat.blt m n=decide (m<n):=fun m n=>by
  cases h:Nat.blt m n with
  |true=>simp[uE h]
  |false=>simp[zdt h]
 cases a with
 |ofNat m=>cases b with
  |ofNat n=>simp[oU,c]
  |negSucc n=>simp[oU];omega
 |negSucc m=>cases b with
  |ofNat n=>simp[oU];omega
  |negSucc n=>simp only[oU,c];congr 1;simp;omega
theorem zmu{k:IntKind}{n:Int}(h:qxq k n=true):k.wrap n=n:=by
 cases n with
 |ofNat m=>
  cases k<;>simp only[qxq]at h<;>have h:=uE h
  ·exact IntWalk.i8_in _ (by simp only[qi];omega)
  ·exact IntWalk.i16_in _ (by simp only[qi];omega)
  ·exact IntWalk.i32_in _ (by simp only[qi];omega)
  ·exact IntWalk.i64_in _ (by simp only[qi];omega)
  ·exact IntWalk.u8_in _ (by simp only[qi];omega)
  ·exact IntWalk.u16_in _ (by simp only[qi];omega)
  ·exact IntWalk.u32_in _ (by simp only[qi];omega)
  ·exact IntWalk.u64_in _ (by simp only[qi];omega)
 |negSucc m=>
  cases k<;>simp only[qxq]at h<;>first|(cases h;done)|have h:=uE h
  ·exact IntWalk.i8_in _ (by omega)
  ·exact IntWalk.i16_in _ (by omega)
  ·exact IntWalk.i32_in _ (by omega)
  ·exact IntWalk.i64_in _ (by omega)
theorem qjr(k:IntKind)(n:Int):uU k n=k.wrap n:=by
 unfold uU;cases h:qxq k n with
 |true=>simp[zmu h]
 |false=>rfl
theorem q6h{b:BinOp}{t ty:TypeId}{x y:Operand}(c:o.op=.binOp b t x y ty){k:IntKind}{m p:Int}(d:a.eval x=.int k m)(e:a.eval y=.int k p):(execOp a.eval o).run P w=((binOp b t (.int k m) (.int k p)).run P w).andThen fun v w=>.ok (.value v) w:=by simp only[execOp,c,d,e,eqGuard];simp
theorem zmm{b:BinOp}{t ty:TypeId}{x y:Operand}(g:o.op=.binOp b t x y ty)(c:b≠ .shl/\b≠ .shr){k:IntKind}{m p:Int}(h:a.eval x=.int k m)(i:a.eval y=.int k p):gY P o a.eval ι w nm ((mM b).f k m p):=by
 have e:=q6h (P:=P) (w:=w) g h i;cases b<;>simp only[mM]
 case shl=>exact absurd rfl c.1
 case shr=>exact absurd rfl c.2
 case quo|rem=>
  cases f:qY p 0 with
  |true=>trivial
  |false=>
   have d:p≠0:=by rw[qfa]at f;simpa using f
   refine⟨_,?_,u7 _ _⟩;rw[e];simp[binOp,Op.intDiv,d,qjr]
 all_goals
  refine⟨_,?_,by first|exact u7 _ _|exact qw4 _⟩;rw[e];simp[binOp,Op.intArith,Op.intBits,Op.intCmp,qjr,qfa,qek]
 all_goals first|rfl|(rw[<-decide_not];congr 1;simp)
theorem aKS{b:BinOp}{t ty:TypeId}{x y:Operand}(g:o.op=.binOp b t x y ty)(c:b≠ .shl/\b≠ .shr)(h:LR ι d n L a.tmps):gY P o a.eval ι w nm (gU (mM b).f ((aH d n x).f L) ((aH d n y).f L)):=by
 have e:=dP h x;have f:=dP h y;unfold gU;split
 ·rename_i k m i p j l;rw[j]at e;rw[l]at f;simp only[aL]at e f;cases q:wK k i with
  |false=>trivial
  |true=>have:=zue q;subst this;exact zmm g c e f
 ·trivial
theorem zld{b:BinOp}{t ty:TypeId}{x y:Operand}(j:o.op=.binOp b t x y ty)(c:b=.shl\/b=.shr)(h:LR ι d n L a.tmps):gY P o a.eval ι w nm (qzh (qi8 b).f ((aH d n x).f L) ((aH d n y).f L)):=by
 have e:=dP h x;have f:=dP h y;unfold qzh;split
 ·rename_i k m q p r s;rw[r]at e;rw[s]at f;simp only[aL]at e f;have l:(execOp a.eval o).run P w=((binOp b t (.int k m) (.int q p)).run P w).andThen fun v w=>.ok (.value v) w:=by
   simp only[execOp,j,e,f,eqGuard];simp
  rcases c with rfl|rfl<;>simp only[qi8]
  all_goals
   cases i:oU p 0 with
   |true=>trivial
   |false=>
    have g:¬ p<0:=by rw[qek]at i;simpa using i
    refine⟨_,?_,u7 _ _⟩;rw[l];simp[binOp,Op.shift,g,qjr]
 ·trivial
theorem aVs{c:UnOp}{t:TypeId}{x:Operand}(f:o.op=.unOp c t x)(h:LR ι d n L a.tmps):gY P o a.eval ι w nm ((kX c).f ((aH d n x).f L)):=by
 have b:=dP h x;cases c<;>simp only[kX]<;>first|trivial|skip
 ·split
  ·rename_i e;rw[e]at b;simp only[aL]at b;exact⟨_,by simp[execOp,f,b,Op.unary,Op.intArith,qjr],u7 _ _⟩
  ·trivial
 ·split
  ·rename_i e;rw[e]at b;simp only[aL]at b;exact⟨_,by simp[execOp,f,b,Op.unary],qw4 _⟩
  ·trivial
theorem z1x{s t:TypeId}{x:Operand}(c:o.op=.convert s t x){ds:TypeDesc}(f:P.underlying s=some ds){k:IntKind}(g:P.underlying t=some (.int k))(h:LR ι d n L a.tmps):gY P o a.eval ι w nm (qqv k ((aH d n x).f L)):=by
 have b:=dP h x;unfold qqv;split
 ·rename_i e;rw[e]at b;simp only[aL]at b;exact⟨_,by simp[execOp,c,b,convert,bP f,bP g,Conv.intToInt,qjr],u7 _ _⟩
 ·trivial
theorem z1w{s t:TypeId}{x:Operand}(c:o.op=.convert s t x)(f:P.underlying s=some .string)(g:P.underlying t=some .string)(h:LR ι d n L a.tmps):gY P o a.eval ι w nm (match(aH d n x).f L with| .str n a=>.val (.str n a)|_=>.bad):=by
 have b:=dP h x;split
 ·rename_i e;rw[e]at b;refine⟨a.eval x,?_,b⟩;obtain⟨z,i,_⟩:=b;simp[execOp,c,i,convert,bP f,bP g]
 ·trivial
theorem qo5{t:TypeId}{x:Operand}(c:o.op=.makeInterface t x){b:TypeDesc}(e:P.underlying t=some b)(f:∀ ms,b≠ .interface ms)(h:LR ι d n L a.tmps):gY P o a.eval ι w nm (.val (.iface t ((aH d n x).f L))):=by refine⟨.iface t (a.eval x),?_,by simp only[aL];exact⟨_,dP h x,rfl⟩⟩;simp only[execOp,c,Instr.makeInterface,Sem.run_bind,bP e,Result.andThen_ok];rfl
theorem zcl{f:FuncId}{first b:Array Operand}(c:o.op=.makeFunc (.func f) first b)(h:LR ι d n L a.tmps):gY P o a.eval ι w nm (.val (.fn f ((tQ d n first.toList).f L) ((tQ d n b.toList).f L))):=by refine⟨.func (.func f) (first.map a.eval) (b.map a.eval),by simp[execOp,c,Instr.makeFunc],?_⟩;exact⟨_,_,qcz h _,qcz h _,by rw[<-lA7,<-lA7]⟩
theorem zle{t:TypeId}(c:o.op=.makeMap t none):gY P o a.eval ι w nm (.new (.map nm) (.map [] 0)):=by
 refine⟨.map (some w.heap.size),w.alloc (.map #[] 0),⟨w.heap.size,0,0,0⟩,?_,New.alloc w _ 0 0,fun e d b=>⟨by simp only[aL];exact⟨_,b,rfl⟩,⟨_,[],b,?_,by simp[bV]⟩⟩⟩
 ·simp[execOp,c,Instr.makeMap]
 ·show(w.heap.push _)[w.heap.size]? =_;simp
theorem zlf{x:Operand}{i:Nat}(c:o.op=.extract x i)(h:LR ι d n L a.tmps):gY P o a.eval ι w nm (match(aH d n x).f L with
   | .aX l=>match l[i]? with|some v=>.val v|none=>.bad
   |_=>.bad):=by
 have b:=dP h x;split
 ·rename_i l e;rw[e]at b;simp only[aL]at b;obtain⟨vs,f,g⟩:=b;split
  ·rename_i v j;obtain⟨V,k,m⟩:=f.get i v j;exact⟨V,by simp[execOp,c,g,Instr.extract,k],m⟩
  ·trivial
 ·trivial
theorem qgp(s:ByteArray):s.toList=s.data.toList:=ByteArray.toList_eq s
theorem qb1(b:UInt8)(l:List UInt8):kD (b::l)=kD l*256+b.toNat:=rfl
theorem qm0:kD []=0:=rfl
theorem qlc(b:UInt8):b.toNat<256:=b.toNat_lt
theorem pack_inj:∀{l m:List UInt8},l.length=m.length->kD l=kD m->l=m
 | [],[],_,_=>rfl
 | [],_::_,h,_=>by simp at h
 |_::_,[],h,_=>by simp at h
 |b::l,c::m,h,k=>by
  rw[qb1,qb1]at k;have e:=qlc b;have f:=qlc c;have a:b.toNat=c.toNat:=by omega
  have d:kD l=kD m:=by omega
  rw[UInt8.toNat_inj.1 a,pack_inj (by simpa using h) d]
theorem qpf:∀ l m:List UInt8,kD (l++m)=kD l+256 ^ l.length*kD m
 | [],m=>by simp[qm0]
 |b::l,m=>by rw[lAQ,qb1,qb1,qpf l m,gz,lE5,xk,Nat.mul_assoc,Nat.mul_assoc,lAD (kD m) 256];omega
theorem qpe:∀(l:List UInt8) (k:Nat),kD (l.drop k)=kD l / 256 ^ k
 |l,0=>by simp
 | [],k+1=>by simp[qm0]
 |b::l,k+1=>by have:=qlc b;rw[List.drop_succ_cons,qpe l k,qb1,lE5,lAD (256 ^ k) 256,<-Nat.div_div_eq_div_mul];congr 1;omega
theorem qz6:∀(l:List UInt8) (k:Nat),kD (l.take k)=kD l%256 ^ k
 |l,0=>by simp[qm0,Nat.mod_one]
 | [],k+1=>by simp[qm0]
 |b::l,k+1=>by have:=qlc b;rw[lA0,qb1,qb1,qz6 l k,lE5,lAD (256 ^ k) 256,Nat.mod_mul,show(kD l*256+b.toNat) / 256=kD l by omega,show(kD l*256+b.toNat)%256=b.toNat by omega];omega
theorem zli(k:Nat):256 ^ k=2 ^ (8*k):=by rw[Nat.pow_mul]
theorem qxk(x:Nat):Nat.land x 255=x%256:=by have:=Nat.and_two_pow_sub_one_eq_mod x 8;omega
theorem aEh(x k:Nat):Nat.shiftRight x (Nat.mul 8 k)=x / 256 ^ k:=by have:=Nat.shiftRight_eq_div_pow x (8*k);rw[zli];exact this
theorem aKt(x k:Nat):Nat.shiftLeft x (Nat.mul 8 k)=256 ^ k*x:=by have:=Nat.shiftLeft_eq x (8*k);rw[zli,lAD];exact this
theorem aNZ(x k:Nat):Nat.land x (Nat.sub (Nat.shiftLeft 1 (Nat.mul 8 k)) 1)=x%256 ^ k:=by rw[aKt,qg,zli];simp
theorem q1c(l:List UInt8)(i:Nat)(h:i<l.length):qqe (kD l) i=(l[i]).toNat:=by unfold qqe;rw[qxk,aEh,<-qpe,uo h,qb1];simp
theorem y8.eq{n a m b:Nat}{s t:ByteArray}(h:y8 n a s)(k:y8 m b t):eqS n a m b=(s.data.toList==t.data.toList):=by obtain⟨rfl,rfl⟩:=h;obtain⟨rfl,rfl⟩:=k;unfold eqS;rw[lEI];simp only[qc,Nat.beq_eq,beq_iff_eq];exact⟨fun⟨c,d⟩=>pack_inj c d,fun h=>by rw[h];exact⟨rfl,rfl⟩⟩
theorem y8.append{n a m b:Nat}{s t:ByteArray}(h:y8 n a s)(k:y8 m b t):y8 (n+m) (Nat.add a (Nat.shiftLeft b (Nat.mul 8 n))) (s++t):=by
 obtain⟨rfl,rfl⟩:=h;obtain⟨rfl,rfl⟩:=k;have e:(s++t).data.toList=s.data.toList++t.data.toList:=by simp
 exact⟨by rw[e,ku],by rw[e,qpf,aKt];rfl⟩
theorem zmc:∀(l m:List UInt8),qeu l.length l.length (kD l) m.length (kD m)=Op.bytesLess l m
 | [],[]=>rfl
 | [],c::m=>by simp[qeu,Op.bytesLess];rfl
 |b::l,[]=>by simp[qeu,Op.bytesLess]
 |b::l,c::m=>by
  have ih:=zmc l m;have n:=qlc b;have o:=qlc c;have g:Nat.land (kD (b::l)) 255=b.toNat:=by rw[qxk,qb1];omega
  have h:Nat.land (kD (c::m)) 255=c.toNat:=by rw[qxk,qb1];omega
  have i:Nat.shiftRight (kD (b::l)) 8=kD l:=by have:=aEh (kD (b::l)) 1;rw[this,qb1];omega
  have j:Nat.shiftRight (kD (c::m)) 8=kD m:=by have:=aEh (kD (c::m)) 1;rw[this,qb1];omega
  show(bif Nat.beq (m.length+1) 0 then false else bif Nat.beq (l.length+1) 0 then true else
   bif Nat.beq (Nat.land (kD (b::l)) 255) (Nat.land (kD (c::m)) 255)then qeu l.length (Nat.pred (l.length+1)) (Nat.shiftRight (kD (b::l)) 8) (Nat.pred (m.length+1)) (Nat.shiftRight (kD (c::m)) 8)
   else Nat.blt (Nat.land (kD (b::l)) 255) (Nat.land (kD (c::m)) 255))=_
  rw[g,h,i,j];simp only[Nat.pred_succ,Op.bytesLess,ih];have d:∀ k,Nat.beq (k+1) 0=false:=fun _=>rfl;rw[d,d,aj,aj];cases a:Nat.beq b.toNat c.toNat with
  |true=>have e:=UInt8.toNat_inj.1 (uD a);subst e;simp
  |false=>
   have e:b≠c:=fun e=>qx5 a (by rw[e]);cases f:Nat.blt b.toNat c.toNat with
   |true=>have:=uE f;simp[UInt8.lt_iff_toNat_lt,this]
   |false=>have:=zdt f;simp[UInt8.lt_iff_toNat_lt,this,e]
theorem y8.less{n a m b:Nat}{s t:ByteArray}(h:y8 n a s)(k:y8 m b t):qeu n n a m b=Op.bytesLess s.data.toList t.data.toList:=by obtain⟨rfl,rfl⟩:=h;obtain⟨rfl,rfl⟩:=k;exact zmc _ _
theorem qo2{n a:Nat}{s:ByteArray}(h:y8 n a s):aL ι (.str n a) (.string s):=by simp only[aL];exact⟨s,rfl,h⟩
theorem zs2{c:BinOp}{t ty:TypeId}{x y:Operand}(q:o.op=.binOp c t x y ty)(h:LR ι d n L a.tmps):gY P o a.eval ι w nm (gX (nT c).f ((aH d n x).f L) ((aH d n y).f L)):=by
 have g:=dP h x;have i:=dP h y;unfold gX;split
 ·rename_i m A p B k l;rw[k]at g;rw[l]at i;simp only[aL]at g i;obtain⟨s,r,e⟩:=g;obtain⟨u,z,f⟩:=i;have j:(execOp a.eval o).run P w=((binOp c t (.string s) (.string u)).run P w).andThen fun v w=>.ok (.value v) w:=by
   simp only[execOp,q,r,z,eqGuard];simp
  cases c<;>simp only[nT]<;>first|trivial|skip
  case add=>
   cases b:Nat.ble (m+p) 1099511627776 with
   |false=>trivial
   |true=>
    have b:=nP b;refine⟨_,?_,qo2 (e.append f)⟩;rw[j];have k:s.size=m:=e.1;have l:u.size=p:=f.1;have:¬(((s.size+u.size:Nat):Int)>IntKind.i64.max):=by
     have:IntKind.i64.max=9223372036854775807:=by decide
     omega
    simp only[binOp,Op.stringOp,lu this,Sem.run_pure,Result.andThen_ok]
  all_goals
   refine⟨_,?_,qw4 _⟩;rw[j];simp[binOp,Op.stringOp,qgp,e.eq f,e.less f]
 ·trivial
theorem zs6{t:TypeId}{x y:Operand}(g:o.op=.index t x y)(i:P.underlying t=some .string)(h:LR ι d n L a.tmps):gY P o a.eval ι w nm (zas ((aH d n x).f L) ((aH d n y).f L)):=by
 have b:=dP h x;have c:=dP h y;unfold zas;split
 ·rename_i f B k j q r;rw[q]at b;rw[r]at c;simp only[aL]at b c;obtain⟨s,u,v,z⟩:=b;cases A:Nat.blt j f with
  |false=>trivial
  |true=>
   have l:=uE A;have e:j<s.data.toList.length:=by omega
   refine⟨_,?_,u7 _ _⟩;have m:s.size=f:=v;have p:s[j]? =some (s.data.toList[j]):=by
    have:j<s.size:=by omega
    rw[getElem?_pos s j this];simp;rfl
   rw[<-z,q1c _ _ e];simp[execOp,g,Instr.index,u,c,asIntOf,bP i,p]
 ·trivial
def zU(ι:Im):Option AV->Option Value->Prop
 |none,none=>True
 |some a,some v=>aL ι a v
 |_,_=>False
theorem qds(h:LR ι d n L a.tmps)(x:Option Operand):zU ι ((yV d n x).f L) (x.map a.eval):=by
 cases x with
 |none=>simp[yV,zU]
 |some x=>simp only[yV,lEH,zU];exact dP h x
theorem q1g{x:AV}{X:Value}(d:aL ι x X){f y k Y:Nat}(h:bnd (some x) f y=some k)(g:y<=Y)(c:BoundsCode):(Instr.sliceBound X Y c).run P w=.ok k w/\k<=y:=by
 unfold bnd at h;split at h
 ·simp_all
 ·rename_i i m e;cases e;cases b:Nat.ble m y with
  |false=>rw[b]at h;cases h
  |true=>
   rw[b]at h;simp only[uC,qh]at h;subst h;have:=nP b;have a:(m:Int)<=Y:=by omega
   subst d;exact⟨by simp[Instr.sliceBound,asIntOf,a],this⟩
 ·cases h
theorem qjq{lo i k:Option AV}{c j n:Option Value}(m:zU ι lo c)(o:zU ι i j)(q:zU ι k n){b a C:Nat}{e:Bd}(h:bounds b a lo i k=some e)(x:a<=C)(r:b<=a)(f:Bool):(Instr.sliceBounds f b C c j n).run P w=.ok (e.l,e.h,if k.isSome then e.m else C) w/\e.l<=e.h/\e.h<=e.m/\e.m<=a/\(k=none->e.m=a):=by
 cases k with
 |none=>
  cases n with
  |some _=>exact q.elim
  |none=>
   unfold bounds at h;have z:bnd none a a=some a:=rfl;rw[z]at h;simp only at h;cases g:bnd i b a with
   |none=>rw[g]at h;cases h
   |some hh'=>
    rw[g]at h;simp only at h;cases d:bnd lo 0 hh' with
    |none=>rw[d]at h;cases h
    |some ll=>
     rw[d]at h;simp only[qh]at h;subst h;have s:hh'<=a/\(Instr.sliceBounds f b C c j none).run P w=((match c with|some v=>Instr.sliceBound v hh' .sliceB|none=>pure 0).run P w).andThen fun l w=>.ok (l,hh',C) w:=by
      cases i with
      |none=>
       cases j with
       |some _=>exact o.elim
       |none=>simp only[bnd,qh]at g;subst g;refine⟨r,?_⟩;cases c<;>simp[Instr.sliceBounds]
      |some i=>
       cases j with
       |none=>exact o.elim
       |some j=>obtain⟨p,t⟩:=q1g (P:=P) (w:=w) (ι:=ι) o g x (if f then .sliceAcap else .sliceAlen);refine⟨t,?_⟩;cases c<;>simp[Instr.sliceBounds,p]
     rw[s.2];cases lo with
     |none=>
      cases c with
      |some _=>exact m.elim
      |none=>simp only[bnd,qh]at d;subst d;simp;omega
     |some lo=>
      cases c with
      |none=>exact m.elim
      |some c=>obtain⟨p,t⟩:=q1g (P:=P) (w:=w) (ι:=ι) m d (lh _) .sliceB;simp_all
 |some k=>
  cases n with
  |none=>exact q.elim
  |some n=>
   cases i with
   |none=>simp[bounds]at h
   |some i=>
    cases j with
    |none=>exact o.elim
    |some j=>
     unfold bounds at h;cases u:bnd (some k) a a with
     |none=>rw[u]at h;cases h
     |some mm=>
      rw[u]at h;simp only at h;cases g:bnd (some i) b mm with
      |none=>rw[g]at h;cases h
      |some hh'=>
       rw[g]at h;simp only at h;cases d:bnd lo 0 hh' with
       |none=>rw[d]at h;cases h
       |some ll=>
        rw[d]at h;simp only[qh]at h;subst h;obtain⟨y,B⟩:=q1g (P:=P) (w:=w) (ι:=ι) q u x (if f then .slice3Acap else .slice3Alen);obtain⟨p,t⟩:=q1g (P:=P) (w:=w) (ι:=ι) o g (lh _) .slice3B;cases lo with
        |none=>
         cases c with
         |some _=>exact m.elim
         |none=>simp only[bnd,qh]at d;subst d;simp[Instr.sliceBounds,y,p];omega
        |some lo=>
         cases c with
         |none=>exact m.elim
         |some c=>obtain⟨A,D⟩:=q1g (P:=P) (w:=w) (ι:=ι) m d (lh _) .slice3C;simp[Instr.sliceBounds,y,p,A];omega
theorem zcj{t:TypeId}{x:Operand}{lo c:Option Operand}(j:o.op=.slice t x lo c none)(k:P.underlying t=some .string)(h:LR ι d n L a.tmps):gY P o a.eval ι w nm (qwv ((aH d n x).f L) ((yV d n lo).f L) ((yV d n c).f L)):=by
 have f:=dP h x;unfold qwv;split
 ·rename_i m i e;rw[e]at f;simp only[aL]at f;obtain⟨s,l,p,q⟩:=f;split
  ·rename_i b u;obtain⟨r,v,y,z,A⟩:=qjq (P:=P) (w:=w) (ι:=ι) (qds h lo) (qds h c) (show zU ι none none from trivial) u (lh _) (lh _) false;have g:s.size=m:=p;refine⟨.string (s.extract b.l b.h),?_,qo2 ⟨?_,?_⟩⟩
   ·simp only[execOp,j,Instr.sliceAt,Sem.run_bind,bP k,Result.andThen_ok,Instr.slice,l,Option.map_none,g];simp[r]
   ·have:(s.extract b.l b.h).size=min b.h s.size-b.l:=by simp
    show(s.extract b.l b.h).size=_;omega
   ·have:(s.extract b.l b.h).data.toList=(s.data.toList.drop b.l).take (b.h-b.l):=by simp
    rw[this,qz6,qpe,aNZ,aEh,q]
  ·trivial
 ·trivial
theorem zlc{t e:TypeId}{x:Operand}{lo A v:Option Operand}(N:o.op=.slice t x lo A v)(O:P.underlying t=some (.slice e)){z:Nat}(Q:gQ P e=some z)(h:LR ι d n L a.tmps):gY P o a.eval ι w nm (kL z ((aH d n x).f L) ((yV d n lo).f L) ((yV d n A).f L) ((yV d n v).f L)):=by
 have u:=dP h x;have I:=qds h lo;have q:=qds h A;have J:=qds h v;have y:∀(b:Option Addr) (j C l q m:Nat),a.eval x=.slice b j C->(Instr.sliceBounds true j C (lo.map a.eval) (A.map a.eval) (v.map a.eval)).run P w=.ok (l,q,m) w ->
   (execOp a.eval o).run P w=.ok (.value (.slice (if m=l then b else b.map (·.add (l*z))) (q-l) (m-l))) w:=fun b j C l q m s D=>by
  simp[execOp,N,Instr.sliceAt,bP O,Instr.slice,s,D,mH Q]
 unfold kL;split
 ·rename_i F;rw[F]at u;simp only[aL]at u;split
  ·rename_i f G;obtain⟨r,T,B,U,K⟩:=qjq (P:=P) (w:=w) (ι:=ι) I q J G (lh _) (lh _) true;refine⟨.slice none 0 0,?_,by simp only[aL]⟩;rw[y _ _ _ _ _ _ u r];simp_all
  ·trivial
 ·rename_i b i j k M F;rw[F]at u;simp only[aL]at u;obtain⟨H,l,s,D⟩:=u;split
  ·rename_i f G;have R:k<=(if M=true then k else k+l.ext):=by split<;>omega
   obtain⟨r,T,B,U,K⟩:=qjq (P:=P) (w:=w) (ι:=ι) I q J G R H true;have g:=y _ _ _ _ _ _ D r;simp only[lEH,addr_add]at g;unfold iI;cases p:(yV d n v).f L with
   |some mv=>
    simp only[p,Option.isSome_some,oh]at g;cases c:Nat.beq f.m f.l with
    |true=>have:=uD c;refine⟨_,g,?_⟩;simp only[aL];refine⟨lh _,l,s,?_⟩;rw[kz this,show f.h-f.l=0 by omega,show f.m-f.l=0 by omega];simp
    |false=>have:=qx5 c;refine⟨_,g,?_⟩;refine⟨lEA B _,l,s,?_⟩;rw[lu this];simp[ui]
   |none=>
    have E:=K p;simp only[p,Option.isSome_none,cu,lA9]at g;cases M with
    |true=>
     simp only[oh]at g;cases c:Nat.beq f.m f.l with
     |true=>have:=uD c;refine⟨_,g,?_⟩;simp only[aL];simp_all
     |false=>have:=qx5 c;refine⟨_,g,?_⟩;refine⟨lEA B _,l,s,?_⟩;rw[lu (by omega)];simp[ui,E]
    |false=>
     simp only[cu,lA9]at g;cases c:Nat.beq f.m f.l with
     |true=>
      have:=uD c;refine⟨_,g,?_⟩;rw[show f.h-f.l=0 by omega];split
      ·exact⟨_,_,rfl⟩
      ·exact⟨_,_,rfl⟩
     |false=>
      have:=qx5 c;refine⟨_,g,?_⟩;refine⟨lEA B _,l,s,?_⟩;rw[lu (by omega)];have S:k+l.ext-f.l=f.m-f.l+l.ext:=by omega
      simp[ui,S]
  ·trivial
 ·trivial
end Go.Ev
end
noncomputable section
namespace Go.Ev
open Go.RowKit
variable {P:Program} {ι:Im} {o:Oper} {a:Act} {nm:Nat} {d n:Nat} {L:TT AV d} {H:Hp}
theorem qkw{t:TypeId}{xs:List AV}{b:List Value}(d:aK ι xs b)(e:∀ v∈b,v.oneCell=true){a:Nat}{v:AV}(h:(qlt P t).f xs a=some v):∃V,(∀w,(part t b.toArray a).run P w=.ok V w)/\aL ι v V:=by
 unfold qlt at h;split at h
 ·rename_i k c g;simp only[qh]at h;subst h;refine⟨.agg (b.toArray.extract a (a+k)),fun w=>?_,?_⟩
  ·simp[part,qf4 c,mH g]
  ·simp only[aL];refine⟨(b.drop a).take k,(d.drop a).take k,?_,fun v f=>e v (List.mem_of_mem_drop (mf f))⟩;simp
 ·rename_i c;obtain⟨V,i,j⟩:=d.get a v h;exact⟨V,fun w=>by simp[part,qf4 c,i],j⟩
 ·cases h
def aHQ(P:Program)(ι:Im)(D:Nat)(t:TypeId)(e:E2):Prop:=
 ∀x y X Y b,e.f x y=some b->aL ι x X->aL ι y Y->∀ D',D<=D'->∀ w,(Op.equalIn D' t X Y).run P w=.ok b w
theorem qee{l:List AV}{X:Value}(h:aL ι (.agg l) X):∃ vs,aK ι l vs/\X=.agg vs.toArray/\∀ v∈vs,v.oneCell=true:=by simpa only[aL] using h
theorem zc8{D g:Nat}(u:D<=g){e:TypeId}{p:P1}{q:E2}(x:p=qlt P e)(y:aHQ P ι D e q){xs o:List AV}{l m:List Value}(C:aK ι xs l)(E:aK ι o m)(F:∀ v∈l,v.oneCell=true)(G:∀ v∈m,v.oneCell=true)(z:Nat):∀(k i:Nat) (b:Bool),zX p q z xs o k i=some b->∀ w, ∃r:Option Bool×Unit,(forIn (List.range' i k) ((none,()):Option Bool×Unit) fun j _=>do
    let a<-part e l.toArray (j*z)
    let c<-part e m.toArray (j*z)
    let t<-Op.equalIn g e a c
    if(!t)=true then pure (ForInStep.done (some false,()))else pure (ForInStep.yield (none,()))).run P w=.ok r w/\(b=true->r.fst=none)/\(b=false->r.fst=some false):=by
 intro k
 induction k with
 |zero=>intro i b h w;simp only[zX,qh]at h;subst h;exact⟨(none,()),by simp,by simp,by simp⟩
 |succ k ih=>
  intro i b h w;simp only[zX]at h;unfold andThen at h;have f:∀ t:Bool,qtm p q xs o (i*z)=some t->∃ A B,(∀w,(part e l.toArray (i*z)).run P w=.ok A w)/\(∀w,(part e m.toArray (i*z)).run P w=.ok B w)/\∀ w,(Op.equalIn g e A B).run P w=.ok t w:=by
   intro t n;unfold qtm at n;split at n
   ·rename_i a c d s;rw[x]at d s;obtain⟨A,H,I⟩:=qkw C F d;obtain⟨B,J,K⟩:=qkw E G s;exact⟨A,B,H,J,y _ _ _ _ _ n I K g u⟩
   ·cases n
  split at h
  ·rename_i d;obtain⟨A,B,L,M,N⟩:=f _ d;obtain⟨r,Q,O⟩:=ih (i+1) b h w;refine⟨r,?_,O⟩;rw[List.range'_succ,lEJ];simp_all
  ·rename_i d;simp only[qh]at h;subst h;obtain⟨A,B,L,M,N⟩:=f _ d;refine⟨(some false,()),?_,by simp,by simp⟩;rw[List.range'_succ,lEJ];simp_all
  ·cases h
theorem q68{D D':Nat}(hD:D<=D'){xs ys:List AV}{XS YS:List Value}(hx:aK ι xs XS)(hy:aK ι ys YS)(h1:∀ v∈XS,v.oneCell=true)(h2:∀ v∈YS,v.oneCell=true)(q:TypeId->E2):∀(fs:List Field),(∀f∈fs,aHQ P ι D f.type (q f.type))->∀ b,
  eqFields ((fs.filter fun f=>f.name != "_").map fun f=>(qlt P f.type,q f.type,f.offset)) xs ys=some b->∀ w,
  (Op.eqFields D' XS.toArray YS.toArray fs).run P w=.ok b w:=by
 intro fs
 induction fs with
 |nil=>intro _ b h w;simp[eqFields]at h;subst h;simp[Op.eqFields]
 |cons f fs ih=>
  intro hq b h w;have ihf:=ih (fun g hg=>hq g (by simp[hg]));unfold Op.eqFields
  by_cases hn:f.name = "_"
  ·simp_all
  ·have hb:(f.name != "_")=true:=by simp[hn]
   rw[List.filter_cons_of_pos (by simpa using hb),au]at h;rw[kz hn];unfold eqFields at h;rw[List.foldr_cons]at h;unfold andThen at h;have key:∀ t:Bool,qtm (qlt P f.type) (q f.type) xs ys f.offset=some t->∃ A B,(∀w,(part f.type XS.toArray f.offset).run P w=.ok A w)/\(∀w,(part f.type YS.toArray f.offset).run P w=.ok B w)/\∀ w,(Op.equalIn D' f.type A B).run P w=.ok t w:=by
    intro t ht;unfold qtm at ht;split at ht
    ·rename_i a c e1 e2;obtain⟨A,a1,a2⟩:=qkw hx h1 e1;obtain⟨B,b1,b2⟩:=qkw hy h2 e2;exact⟨A,B,a1,b1,hq f (by simp) _ _ _ _ _ ht a2 b2 D' hD⟩
    ·cases ht
   split at h
   ·rename_i e1;obtain⟨A,B,r1,r2,r3⟩:=key _ e1;simp only[Sem.run_bind,r1,r2,r3,Result.andThen_ok,Bool.not_true,cu,lA9];exact ihf b h w
   ·rename_i e1;obtain⟨A,B,r1,r2,r3⟩:=key _ e1;simp only[qh]at h;subst h;simp only[Sem.run_bind,r1,r2,r3,Result.andThen_ok,Bool.not_false,oh,Sem.run_pure]
   ·cases h
theorem zxv:∀(D:Nat) (t:TypeId),aHQ P ι D t (eqT P D t):=by
 intro D
 induction D with
 |zero=>intro t x y X Y b h;simp[eqT]at h
 |succ D ih=>
  intro t x y X Y b h c d F R w;obtain⟨E,rfl⟩:∃ E,F=E+1:=⟨F-1,by omega⟩;rw[eqT]at h;split at h
  ·rename_i a;change qem x y=some b at h;unfold qem at h;split at h
   ·simp only[aL]at c d;subst c d;simp only[qh]at h;subst h;simp[Op.equalIn,bP a]
   ·cases h
  ·rename_i a;change qqu x y=some b at h;unfold qqu at h;split at h
   ·rename_i k m G p;simp only[aL]at c d;subst c d;cases B:wK k G with
    |false=>rw[B]at h;cases h
    |true=>rw[B]at h;simp only[uC,qh]at h;subst h;have:=zue B;subst this;simp[Op.equalIn,bP a,qfa]
   ·cases h
  ·rename_i a;change iE x y=some b at h;unfold iE at h;split at h
   ·simp only[aL]at c d;obtain⟨s,rfl,H⟩:=c;obtain⟨u,rfl,I⟩:=d;simp only[qh]at h;subst h;rw[run_equalIn_string w E t s u a,qgp,qgp,H.eq I]
   ·cases h
  ·rename_i J a;split at h
   ·cases h
   ·rename_i K;have g:P.stoodInHeld t=false:=by simpa using K
    simp only at h;unfold l8 at h;split at h
    ·rename_i xs L;obtain⟨M,i,rfl,j⟩:=qee c;obtain⟨N,n,rfl,o⟩:=qee d;have C:P.fieldsOf t=J:=by simp[Program.fieldsOf,a]
     rw[run_equalIn_struct w E t _ _ (by rw[C];exact a) g,C];exact q68 (by omega) i n j o (eqT P D) _ (fun f _=>ih f.type) b h w
    ·cases h
  ·rename_i q e a;split at h
   ·rename_i z O;simp only at h;unfold l8 at h;split at h
    ·rename_i xs L;obtain⟨M,i,rfl,j⟩:=qee c;obtain⟨N,n,rfl,o⟩:=qee d;obtain⟨r,Q,v,A⟩:=zc8 (P:=P) (show D<=E by omega) rfl (ih e) i n j o z q 0 b h w;simp only[Op.equalIn,Sem.run_bind,bP a,Result.andThen_ok,mH O,Std.Legacy.Range.forIn_eq_forIn_range',Std.Legacy.Range.size];simp only[Nat.sub_zero,iq,Nat.div_one];rw[Q];cases b with
     |true=>rw[Result.andThen_ok,v rfl];rfl
     |false=>rw[Result.andThen_ok,A rfl];rfl
    ·cases h
   ·cases h
  ·rename_i a;change qp4 x y=some b at h;unfold qp4 at h;split at h<;>first|(cases h;done)|skip
   all_goals (simp only[qh]at h;subst h;simp only[aL]at c d)
   ·subst c d;simp[Op.equalIn,bP a]
   ·obtain⟨l,_,rfl⟩:=d;subst c;simp[Op.equalIn,bP a]
   ·obtain⟨l,_,rfl⟩:=c;subst d;simp[Op.equalIn,bP a]
  ·rename_i a;change aER x y=some b at h;unfold aER at h;split at h<;>first|(cases h;done)|skip
   all_goals (simp only[qh]at h;subst h;simp only[aL]at c d)
   ·subst c d;simp[Op.equalIn,bP a]
   ·obtain⟨_,l,_,rfl⟩:=d;subst c;simp[Op.equalIn,bP a]
   ·obtain⟨_,l,rfl⟩:=d;subst c;simp[Op.equalIn,bP a]
   ·obtain⟨_,l,_,rfl⟩:=c;subst d;simp[Op.equalIn,bP a]
   ·obtain⟨_,l,rfl⟩:=c;subst d;simp[Op.equalIn,bP a]
  ·rename_i a;change zua x y=some b at h;unfold zua at h;split at h<;>first|(cases h;done)|skip
   all_goals (simp only[qh]at h;subst h;simp only[aL]at c d)
   ·subst c d;simp[Op.equalIn,bP a]
   ·obtain⟨l,_,rfl⟩:=d;subst c;simp[Op.equalIn,bP a]
   ·obtain⟨l,_,rfl⟩:=c;subst d;simp[Op.equalIn,bP a]
  ·rename_i a;change eqFn x y=some b at h;unfold eqFn at h;split at h<;>first|(cases h;done)|skip
   all_goals (simp only[qh]at h;subst h;simp only[aL]at c d)
   ·subst c d;simp[Op.equalIn,bP a]
   ·obtain⟨_,_,_,_,rfl⟩:=d;subst c;simp[Op.equalIn,bP a]
   ·obtain⟨_,_,_,_,rfl⟩:=c;subst d;simp[Op.equalIn,bP a]
  ·rename_i a;change aEc x y=some b at h;unfold aEc at h;split at h<;>first|(cases h;done)|skip
   all_goals (simp only[qh]at h;subst h;simp only[aL]at c d)
   ·obtain⟨_,_,rfl⟩:=d;subst c;simp[Op.equalIn,bP a]
   ·obtain⟨_,_,rfl⟩:=c;subst d;simp[Op.equalIn,bP a]
  ·cases h
end Go.Ev
end
noncomputable section
namespace Go.Ev
open Go.RowKit
variable {P:Program} {w:World} {ι:Im} {o:Oper} {a:Act} {nm:Nat} {d n:Nat} {L:TT AV d} {H:Hp}
theorem qsz{t e:TypeId}{x:Operand}{lo q p:Option Operand}(v:o.op=.slice t x lo q p){f:Nat}(j:P.underlying t=some (.array f e)\/∃ g,P.underlying t=some (.pointer g)/\P.underlying g=some (.array f e)){z:Nat}(y:gQ P e=some z)(h:LR ι d n L a.tmps):gY P o a.eval ι w nm (qmu f z ((aH d n x).f L) ((yV d n lo).f L) ((yV d n q).f L) ((yV d n p).f L)):=by
 have s:=dP h x;have B:=qds h lo;have C:=qds h q;have D:=qds h p;unfold qmu;split
 ·rename_i b i E;rw[E]at s;simp only[aL]at s;obtain⟨l,F,A⟩:=s;split
  ·rename_i c G;obtain⟨r,J,H,K,M⟩:=qjq (P:=P) (w:=w) (ι:=ι) B C D G (lh _) (lh _) false;have u:(if((yV d n p).f L).isSome then c.m else f)=c.m:=by
    simp_all
   rw[u]at r;have k:(execOp a.eval o).run P w=.ok (.value (.slice (some (if c.m=c.l then⟨l.blk,l.base+i,none⟩else⟨l.blk,l.base+i+c.l*z,none⟩)) (c.h-c.l) (c.m-c.l))) w:=by
    rcases j with j|⟨g,j,I⟩
    ·simp[execOp,v,Instr.sliceAt,bP j,A,Instr.sureAddr,r,mH y,addr_add]
    ·simp[execOp,v,Instr.sliceAt,bP j,bP I,Instr.slice,A,asAddr,r,mH y,addr_add]
   unfold iI;cases m:Nat.beq c.m c.l with
   |true=>have:=uD m;refine⟨_,k,?_⟩;simp only[aL];simp_all
   |false=>have:=qx5 m;refine⟨_,k,?_⟩;refine⟨lEA H _,l,F,?_⟩;rw[lu this];simp[ui]
  ·trivial
 ·trivial
/- copies of a zero value -/
theorem zkz(l:List AV):bB l 0=[]:=rfl
theorem zk0(l:List AV)(k:Nat):bB l (k+1)=l++bB l k:=rfl
def gN(l:List Value):Nat->List Value
 |0=>[]
 |k+1=>l++gN l k
theorem qja{l:List AV}{vs:List Value}(h:aK ι l vs):∀ k,aK ι (bB l k) (gN vs k)
 |0=>by simp[zkz,gN,aK]
 |k+1=>by rw[zk0,gN];exact h.append (qja h k)
theorem qcf(l:List Value):∀ k,(gN l k).length=k*l.length
 |0=>by simp[gN]
 |k+1=>by rw[gN,ku,qcf l k,xk];omega
theorem qgs{l:List Value}:∀{k:Nat} {v:Value},v∈gN l k->v∈l
 |0,v,h=>by simp[gN]at h
 |k+1,v,h=>by
  rw[gN,pg]at h;rcases h with h|h
  ·exact h
  ·exact qgs h
theorem q90(l:List Value):∀(k i:Nat),i<k*l.length->(gN l k)[i]? =l[i%l.length]?
 |0,i,h=>by simp at h
 |k+1,i,h=>by
  rw[xk,zu]at h;rw[gN];by_cases a:i<l.length
  ·rw[qx a,Nat.mod_eq_of_lt a]
  ·rw[ug (by omega),q90 l k (i-l.length) (by omega)];congr 1;rw[<-Nat.mod_eq_sub_mod (by omega)]
theorem range_zero(Z:Array Value)(k s:Nat)(a:Z.size=s):(Array.range (k*s)).map (fun i=>Z[i%Z.size]!)=(gN Z.toList k).toArray:=by
 apply Array.ext';apply lE3;intro i;have d:(gN Z.toList k).toArray.toList=gN Z.toList k:=by simp
 by_cases c:i<k*s
 ·have e:Z.toList.length=s:=by simpa using a
  rw[d,q90 _ _ _ (by rw[e];exact c),e];have b:0<s:=by
   rcases lAW s with h|h
   ·simp[h]at c
   ·exact h
  have f:i%s<Z.size:=by rw[a];exact xy _ b
  simp_all
 ·rw[xn (by simpa using c),xn (by rw[d,qcf];simp[a];omega)]
theorem zk9(b:Nat):(askRoom b).run P w=.ok () w:=by simp
theorem zs3{t e:TypeId}{x y:Operand}(J:o.op=.makeSlice t x y)(K:P.underlying t=some (.slice e)){z:List AV}(M:qju P e=some z){b s:Nat}(N:qjp P e=some b)(O:gQ P e=some s)(k:z.length=s)(h:LR ι d n L a.tmps):gY P o a.eval ι w nm (qgb z b nm ((aH d n x).f L) ((aH d n y).f L)):=by
 have l:=dP h x;have m:=dP h y;unfold qgb;split
 ·rename_i Z p k2 q V W;rw[V]at l;rw[W]at m;simp only[aL]at l m;cases I:(Nat.ble p q&&Nat.ble (Nat.mul q b) fO&&Nat.ble q fO)with
  |false=>trivial
  |true=>
   simp only[qc]at I;obtain⟨⟨r,E⟩,F⟩:=I;have r:=nP r;have E:q*b<=1099511627776:=nP E;have F:q<=1099511627776:=nP F;obtain⟨j,X,H,Y⟩:=qcv (ι:=ι) M;obtain⟨ti,A,B⟩:=qw7 (P:=P) N;have f:j.cells.toList.length=s:=by rw[H.length,k]
   have w1:IntKind.i64.wrap (p:Int)=p:=IntWalk.i64_in _ (by omega);have S:IntKind.i64.wrap (q:Int)=q:=IntWalk.i64_in _ (by omega);have G:(ti.bytes:Int)*(q:Int)<=281474976710656:=by
    rw[B];have:((b*q:Nat):Int)<=281474976710656:=by rw[lAD];omega
    omega
   refine⟨.slice (some ⟨w.heap.size,0,none⟩) p q,w.alloc (.cells (gN j.cells.toList q).toArray e),⟨w.heap.size,0,0,0⟩,?_,New.alloc w _ 0 0,fun Q c D=>⟨?_,qf9 (qja H q) (fun v R=>Y v (qgs R)) e nm 0 Q c D⟩⟩
   ·have u:¬((p:Int)<0):=by omega
    have g:¬((q:Int)<0):=by omega
    have c:¬((q:Int)<p):=by omega
    have i:¬((ti.bytes:Int)*(q:Int)>2 ^ 48):=by omega
    simp only[execOp,J,Instr.makeSlice,Sem.run_bind,bP K,Result.andThen_ok,l,m,asInt,asIntOf,Sem.run_pure,A,qi,w1,S];simp only[u,g,c,i,decide_false,Bool.or_false,cu,lA9,gt_iff_lt,Sem.run_pure,Result.andThen_ok,Int.toNat_natCast,Sem.run_bind,zk9,mH O,Sem.run_ite];by_cases C:q*s=0
    ·have T:(gN j.cells.toList q)=[]:=tq.1 (by rw[qcf,f,C]);have U:Array.map (fun _:Nat=>(default:Value)) (Array.range 0)= #[]:=by apply Array.ext';simp
     simp[C,T,newRow,U]
    ·simp only[C,lA9,qde X,Result.andThen_ok];rw[range_zero j.cells q s (by simpa using f)];rfl
   ·simp only[aL];exact⟨r,_,D,by simp⟩
 ·trivial
/- aggregates: parts laid in -/
theorem zdk{v:AV}{V:Value}(h:aL ι v V){l:List AV}(a:zT v=some l):aK ι l V.cells.toList/\∀ x∈V.cells.toList,x.oneCell=true:=by
 unfold zT at a;split at a
 ·simp only[qh]at a;subst a;obtain⟨vs,b,rfl,i⟩:=qee h;trivial
 ·cases a
 ·cases a
 ·cases a
 ·rename_i d e j f;simp only[qh]at a;subst a;have c:v.plain=true:=by
   unfold AV.plain;split
   ·simp_all
   ·simp_all
   ·trivial
   ·simp_all
   ·rfl
  obtain⟨b,g⟩:=h.one c;rw[g];exact⟨aK.singleton h,by simpa using b⟩
theorem zt5:∀(l:List Value) (C:Array Value) (a k:Nat),a+k+l.length<=C.size -> ((l.zipIdx k).foldl (fun cs (x:Value×Nat)=>cs.setIfInBounds (a+x.2) x.1) C).toList=C.toList.take (a+k)++l++C.toList.drop (a+k+l.length):=by
 intro l
 induction l with
 |nil=>intro C a k h;simp
 |cons v l ih=>
  intro C a k h;rw[gz]at h;rw[List.zipIdx_cons,List.foldl_cons,ih _ _ _ (by simp;omega)];simp only[Array.toList_setIfInBounds,gz];have b:a+k<C.toList.length:=by simp;omega
  rw[List.drop_set_of_lt (by omega),show a+(k+1)=(a+k)+1 by omega,lw (by simpa using b)];rw[List.take_set_of_le (lh _)];simp only[lAH,rf,lAQ,og];rw[show a+k+1+l.length=a+k+(l.length+1)by omega]
theorem zcc{c:List AV}{C:Array Value}(f:aK ι c C.toList)(g:∀ v∈C.toList,v.oneCell=true){v:AV}{V:Value}(m:aL ι v V){l i:List AV}(n:zT v=some l){b a:Nat}(h:qox c b a l=some i):V.cells.size=a/\b+V.cells.size<=C.size/\aK ι i (V.cells.zipIdx.foldl (fun cs (x:Value×Nat)=>cs.setIfInBounds (b+x.2) x.1) C).toList /\ (∀x∈(V.cells.zipIdx.foldl (fun cs (x:Value×Nat)=>cs.setIfInBounds (b+x.2) x.1) C).toList,x.oneCell=true):=by
 obtain⟨k,q⟩:=zdk m n;unfold qox at h;cases e:(Nat.beq l.length a&&Nat.ble (b+a) c.length)with
 |false=>rw[e]at h;cases h
 |true=>
  rw[e]at h;simp only[uC,qh]at h;subst h;simp only[qc]at e;have o:=uD e.1;have r:=nP e.2;have j:V.cells.size=a:=by have:=k.length;simpa [o] using this
  have s:C.size=c.length:=by simpa using f.length
  have p:(V.cells.zipIdx.foldl (fun cs (x:Value×Nat)=>cs.setIfInBounds (b+x.2) x.1) C).toList=C.toList.take b++V.cells.toList++C.toList.drop (b+a):=by rw[<-Array.foldl_toList,Array.toList_zipIdx,zt5 _ _ _ _ (by simp;omega)];simp[j]
  rw[p];refine⟨j,by omega,(((f.take b).append k).append (f.drop (b+a))),fun x d=>?_⟩;simp only[pg]at d;rcases d with(d|d)|d
  ·exact g x (mf d)
  ·exact q x d
  ·exact g x (List.mem_of_mem_drop d)
def aCk(ι:Im)(place:Nat->Option (Nat×Nat)):List (Nat×Nat×AV)->List (Nat×Value)->Prop
 | [],ps=>ps=[]
 |(off,size,v)::l,ps=>∃ i V r,ps=(i,V)::r/\place i=some (off,size)/\aL ι v V/\aCk ι place l r
theorem qje(h:LR ι d n L a.tmps)(b:Nat->Option (Nat×Nat)):∀(c:List (Nat×Operand)) (r:RdP d),qqq d n b c=some r->aCk ι b (r.f L) (c.map fun(i,x)=>(i,a.eval x))
 | [],r,hr=>by simp only[qqq,qh]at hr;subst hr;simp[aCk]
 |(i,x)::c,r,hr=>by
  simp only[qqq]at hr;split at hr
  ·rename_i f e g m j k l;simp only[qh]at hr;subst hr;refine⟨i,a.eval x,_,rfl,j,?_,?_⟩
   ·have:=dP h x;rw[k]at this;exact this
   ·exact qje h b c _ l
  ·cases hr
theorem qfe{a:Nat->Option (Nat×Nat)}:∀{l:List (Nat×Nat×AV)} {d:List (Nat×Value)} {c e:List AV} {C:Array Value},aCk ι a l d->aK ι c C.toList->(∀v∈C.toList,v.oneCell=true)->dF c l=some e -> ∃b,Instr.fill a C d=some b/\aK ι e b.toList/\∀ v∈b.toList,v.oneCell=true
 | [],d,c,e,C,hp,hc,h1,h=>by simp only[aCk]at hp;subst hp;simp only[dF,qh]at h;subst h;exact⟨C,rfl,hc,h1⟩
 |(off,size,v)::l,d,c,e,C,hp,hc,h1,h=>by
  obtain⟨i,V,r,rfl,f,k,m⟩:=hp;simp only[dF]at h;split at h
  ·rename_i lv g;split at h
   ·rename_i s j;obtain⟨t,u,n,o⟩:=zcc hc h1 k g j;obtain⟨b,w,p,q⟩:=qfe m n o h;refine⟨b,?_,p,q⟩;simp only[Instr.fill,f];simp_all
   ·cases h
  ·cases h
theorem zs8{t e:TypeId}{f:Array (Nat×Operand)}(g:o.op=.build t f){b:Nat}(j:P.underlying t=some (.array b e)){z:List AV}(k:qju P t=some z){s:Nat}(l:gQ P e=some s){r:RdP d}(m:qqq d n (fun i=>some (i*s,s)) f.toList=some r)(h:LR ι d n L a.tmps):gY P o a.eval ι w nm (dO (dF z (r.f L))):=by
 obtain⟨C,p,q,u⟩:=qcv (ι:=ι) k;cases B:dF z (r.f L)with
 |none=>trivial
 |some c=>obtain⟨v,x,y,A⟩:=qfe (qje h _ _ _ m) q u B;refine⟨.agg v,?_,by simp only[aL];exact⟨_,y,by simp,A⟩⟩;simp only[execOp,g,Instr.build,Sem.run_bind,qde p,Result.andThen_ok,bP j,mH l,lA7,x];rfl
theorem qo1(b:List Field)(h:∀ f∈b,(gQ P f.type).isSome=true):∀(a:Array (Nat×Nat)), (List.foldlM (fun(c:Array (Nat×Nat)) (f:Field)=>do let y<-(do pure (f.offset,<-sizeOf f.type):Sem (Nat×Nat));pure (c.push y)) a b).run P w =
   .ok (a++(b.map fun f=>(f.offset,(gQ P f.type).getD 0)).toArray) w:=by
 induction b with
 |nil=>intro a;simp
 |cons f b ih=>intro a;obtain⟨s,d⟩:=lAR.1 (h f (by simp));rw[List.foldlM_cons];simp only[Sem.run_bind,mH d,Result.andThen_ok,Sem.run_pure];simp_all
theorem zs7{t:TypeId}{l:Array (Nat×Operand)}(m:o.op=.build t l){b:Array Field}(p:P.underlying t=some (.struct b)){z:List AV}(q:qju P t=some z)(j:b.toList.all (fun f=>(gQ P f.type).isSome)=true){r:RdP d}(u:qqq d n (qfq P b) l.toList=some r)(h:LR ι d n L a.tmps):gY P o a.eval ι w nm (dO (dF z (r.f L))):=by
 obtain⟨H,y,A,B⟩:=qcv (ι:=ι) q;cases G:dF z (r.f L)with
 |none=>trivial
 |some c=>
  have e:∀ f∈b.toList,(gQ P f.type).isSome=true:=fun f k=>yl.1 j f k;obtain⟨C,I,D,E⟩:=qfe (qje h _ _ _ u) A B G;refine⟨.agg C,?_,by simp only[aL];exact⟨_,D,by simp,E⟩⟩;have v:(fun i=>(b.map fun f=>(f.offset,(gQ P f.type).getD 0))[i]?)=qfq P b:=by
   funext i;unfold qfq;rw[Array.getElem?_map];cases k:b[i]? with
   |none=>rfl
   |some f=>
    have x:f∈b.toList:=by simpa using Array.mem_of_getElem? k
    obtain⟨s,F⟩:=lAR.1 (e f x);simp[F]
  have g:(b.mapM fun f=>(do pure (f.offset,<-sizeOf f.type):Sem (Nat×Nat))).run P w=.ok (b.map fun f=>(f.offset,(gQ P f.type).getD 0)) w:=by rw[Array.mapM_eq_foldlM,<-Array.foldlM_toList];have:=qo1 (P:=P) (w:=w) b.toList e #[];simp only[bind_pure_comp]at this ⊢;rw[this];congr 1;apply Array.ext';simp
  simp only[execOp,m,Instr.build,Sem.run_bind,qde y,Result.andThen_ok,bP p,g,lA7];simp_all
end Go.Ev
end
