/-
 For ReachesGoals: the evaluator and its soundness, part 1 of 4: what a run of the abstract evaluator answers, the model's run answers, in every world and on every schedule. No conditions beyond those that each theorem states.
-/
import GoSem.Step
import Derived.Below
import Derived.Calls
import Derived.Wp
import Derived.IntWalk
import Derived.Laws.Strings
import Derived.Laws.StructEq
namespace Go
theorem lL:type_of% @List.length_append:=List.length_append
theorem lg:type_of% @List.getElem_mem:=List.getElem_mem
theorem lh:type_of% @List.take_succ_eq_append_getElem:=List.take_succ_eq_append_getElem
theorem lq:type_of% @List.getElem?_eq_getElem:=List.getElem?_eq_getElem
theorem lu:type_of% @Nat.le_refl:=Nat.le_refl
theorem ku:type_of% @Nat.lt_of_lt_of_le:=Nat.lt_of_lt_of_le
theorem gp:type_of% @Nat.zero_le:=Nat.zero_le
theorem gy:type_of% @List.getD_eq_getElem?_getD:=List.getD_eq_getElem?_getD
theorem pg:type_of% @if_neg:=if_neg
theorem pq:type_of% @List.length_cons:=List.length_cons
theorem pz:type_of% @List.length_map:=List.length_map
theorem qc:type_of% @decide_eq_true:=decide_eq_true
theorem qf:type_of% @List.mem_singleton:=List.mem_singleton
theorem qg:type_of% @Nat.zero_add:=Nat.zero_add
theorem qh:type_of% @Bool.and_eq_true:=Bool.and_eq_true
theorem qi:type_of% @List.mem_append:=List.mem_append
theorem qj:type_of% @if_pos:=if_pos
theorem ql:type_of% @decide_eq_false:=decide_eq_false
theorem qm:type_of% @Nat.mul_one:=Nat.mul_one
theorem qo:type_of% @Option.some.injEq:=Option.some.injEq
theorem qp:type_of% @List.getElem?_eq_some_iff:=List.getElem?_eq_some_iff
theorem qw:type_of% @List.append_assoc:=List.append_assoc
theorem qx:type_of% @List.length_take:=List.length_take
theorem qy:type_of% @List.flatMap_append:=List.flatMap_append
theorem rf:type_of% @Nat.eq_of_beq_eq_true:=Nat.eq_of_beq_eq_true
theorem rq:type_of% @Nat.le_trans:=Nat.le_trans
theorem ry:type_of% @List.flatMap_singleton:=List.flatMap_singleton
theorem su:type_of% @List.mem_cons:=List.mem_cons
theorem tq:type_of% @List.take_of_length_le:=List.take_of_length_le
theorem tu:type_of% @List.length_eq_zero_iff:=List.length_eq_zero_iff
theorem uA:type_of% @List.flatMap_cons:=List.flatMap_cons
theorem uB:type_of% @cond_true:=cond_true
theorem uC:type_of% @List.mem_map:=List.mem_map
theorem uf:type_of% @List.append_nil:=List.append_nil
theorem ug:type_of% @List.mem_cons_self:=List.mem_cons_self
theorem uh:type_of% @List.getElem?_append_right:=List.getElem?_append_right
theorem ui:type_of% @List.map_append:=List.map_append
theorem uj:type_of% @List.getElem?_append_left:=List.getElem?_append_left
theorem uk:type_of% @List.mem_cons_of_mem:=List.mem_cons_of_mem
theorem um:type_of% @List.take_length:=List.take_length
theorem uo:type_of% @List.length_nil:=List.length_nil
theorem uq:type_of% @List.drop_eq_getElem_cons:=List.drop_eq_getElem_cons
theorem ut:type_of% @Int.ofNat_eq_natCast:=Int.ofNat_eq_natCast
theorem uu:type_of% @Nat.add_assoc:=Nat.add_assoc
theorem uw:type_of% @Classical.choose_spec:=Classical.choose_spec
theorem uy:type_of% @Nat.min_le_right:=Nat.min_le_right
theorem uz:type_of% @List.mem_of_getElem?:=List.mem_of_getElem?
theorem vk:type_of% @List.all_eq_true:=List.all_eq_true
theorem vw:type_of% @List.length_set:=List.length_set
theorem vz:type_of% @List.length_drop:=List.length_drop
theorem xF:type_of% @List.mem_filter:=List.mem_filter
theorem xe:type_of% @List.drop_eq_nil_of_le:=List.drop_eq_nil_of_le
theorem xf:type_of% @List.mem_of_find?_eq_some:=List.mem_of_find?_eq_some
theorem xg:type_of% @List.mem_range:=List.mem_range
theorem xh:type_of% @Nat.mul_le_mul_right:=Nat.mul_le_mul_right
theorem xm:type_of% @List.mem_flatMap:=List.mem_flatMap
theorem xn:type_of% @List.drop_append_of_le_length:=List.drop_append_of_le_length
theorem xq:type_of% @Nat.mod_lt:=Nat.mod_lt
theorem xu:type_of% @List.mem_map_of_mem:=List.mem_map_of_mem
theorem xx:type_of% @Nat.lt_irrefl:=Nat.lt_irrefl
theorem xy:type_of% @List.getElem?_map:=List.getElem?_map
theorem yc:type_of% @decide_eq_true_eq:=decide_eq_true_eq
theorem yf:type_of% @List.pairwise_iff_getElem:=List.pairwise_iff_getElem
theorem yg:type_of% @Nat.le_of_ble_eq_true:=Nat.le_of_ble_eq_true
theorem yh:type_of% @Bool.not_eq_true':=Bool.not_eq_true'
theorem yj:type_of% @List.nil_append:=List.nil_append
theorem yl:type_of% @decide_eq_true_iff:=decide_eq_true_iff
theorem yt:type_of% @eq_true:=eq_true
theorem yu:type_of% @Nat.min_eq_left:=Nat.min_eq_left
theorem yw:type_of% @List.nodup_append:=List.nodup_append
theorem yx:type_of% @Nat.add_sub_cancel_left:=Nat.add_sub_cancel_left
theorem zf:type_of% @decide_eq_false_iff_not:=decide_eq_false_iff_not
theorem zg:type_of% @List.getElem?_drop:=List.getElem?_drop
theorem zh:type_of% @Nat.ble_eq_true_of_le:=Nat.ble_eq_true_of_le
theorem zk:type_of% @Nat.add_mul:=Nat.add_mul
theorem zn:type_of% @List.length_filter_le:=List.length_filter_le
theorem zo:type_of% @Nat.le_of_lt:=Nat.le_of_lt
theorem zq:type_of% @List.pairwise_append:=List.pairwise_append
theorem zt:type_of% @Nat.add_zero:=Nat.add_zero
theorem zu:type_of% @Array.getD_eq_getD_getElem?:=Array.getD_eq_getD_getElem?
theorem zx:type_of% @List.take_length_add_append:=List.take_length_add_append
theorem zy:type_of% @List.drop_length_add_append:=List.drop_length_add_append
theorem ae:type_of% @List.map_singleton:=List.map_singleton
theorem af:type_of% @cond_false:=cond_false
theorem ah:type_of% @Bool.or_eq_true:=Bool.or_eq_true
theorem ai:type_of% @List.getElem_of_mem:=List.getElem_of_mem
theorem aj:type_of% @List.length_pos_iff:=List.length_pos_iff
theorem au:type_of% @Array.getElem?_eq_some_iff:=Array.getElem?_eq_some_iff
theorem bf:type_of% @List.pairwise_singleton:=List.pairwise_singleton
theorem bu:type_of% @Array.getElem?_eq_getElem:=Array.getElem?_eq_getElem
theorem bz:type_of% @List.mem_append_left:=List.mem_append_left
theorem cu:type_of% @Nat.lt_or_ge:=Nat.lt_or_ge
theorem dC:type_of% @List.any_eq_true:=List.any_eq_true
theorem dE:type_of% @List.flatten_cons:=List.flatten_cons
theorem dh:type_of% @List.take_append_drop:=List.take_append_drop
theorem dm:type_of% @Bool.false_eq_true:=Bool.false_eq_true
theorem eQ:type_of% @List.filter_append:=List.filter_append
theorem ig:type_of% @Nat.lt_succ_self:=Nat.lt_succ_self
theorem ik:type_of% @List.filter_cons:=List.filter_cons
theorem iq:type_of% @List.take_succ_cons:=List.take_succ_cons
theorem iy:type_of% @Nat.min_le_left:=Nat.min_le_left
theorem mf:type_of% @List.getElem?_eq_none:=List.getElem?_eq_none
theorem mg:type_of% @if_true:=if_true
theorem ny:type_of% @List.mem_append_right:=List.mem_append_right
theorem og:type_of% @Nat.sub_self:=Nat.sub_self
theorem oh:type_of% @List.map_map:=List.map_map
theorem oq:type_of% @List.mem_flatten:=List.mem_flatten
theorem ou:type_of% @List.map_cons:=List.map_cons
theorem oz:type_of% @List.mem_of_mem_take:=List.mem_of_mem_take
theorem lA0:type_of% @List.take_zero:=List.take_zero
theorem lA4:type_of% @List.drop_zero:=List.drop_zero
theorem lA5:type_of% @Nat.one_mul:=Nat.one_mul
theorem lA6:type_of% @List.all_cons:=List.all_cons
theorem lA7:type_of% @List.cons_append:=List.cons_append
theorem lA8:type_of% @List.drop_length:=List.drop_length
theorem lA9:type_of% @List.getElem?_take:=List.getElem?_take
theorem lAA:type_of% @List.length_replicate:=List.length_replicate
theorem lAB:type_of% @List.mem_or_eq_of_mem_set:=List.mem_or_eq_of_mem_set
theorem lAC:type_of% @List.nodup_cons:=List.nodup_cons
theorem lAD:type_of% @Nat.not_lt_zero:=Nat.not_lt_zero
theorem lAE:type_of% @Bool.eq_false_iff:=Bool.eq_false_iff
theorem lAF:type_of% @List.take_append_of_le_length:=List.take_append_of_le_length
theorem lAG:type_of% @List.flatten_append:=List.flatten_append
theorem lAH:type_of% @Array.toList_map:=Array.toList_map
theorem lAI:type_of% @Nat.le_of_not_lt:=Nat.le_of_not_lt
theorem lAJ:type_of% @List.getElem_map:=List.getElem_map
theorem lAK:type_of% @List.flatMap_map:=List.flatMap_map
theorem lAL:type_of% @Nat.add_sub_cancel:=Nat.add_sub_cancel
theorem lAM:type_of% @List.range_succ:=List.range_succ
theorem lAN:type_of% @List.length_singleton:=List.length_singleton
theorem lAO:type_of% @List.mem_iff_getElem?:=List.mem_iff_getElem?
theorem lAP:type_of% @List.any_append:=List.any_append
theorem lAQ:type_of% @Option.ne_none_iff_exists':=Option.ne_none_iff_exists'
theorem lAR:type_of% @List.length_range:=List.length_range
theorem lAS:type_of% @Bool.or_eq_false_iff:=Bool.or_eq_false_iff
theorem lAT:type_of% @List.drop_drop:=List.drop_drop
theorem lAU:type_of% @Option.isSome_iff_exists:=Option.isSome_iff_exists
theorem lAV:type_of% @Nat.zero_mul:=Nat.zero_mul
theorem lAW:type_of% @List.getElem_append_left:=List.getElem_append_left
theorem lAX:type_of% @List.map_congr_left:=List.map_congr_left
theorem lAY:type_of% @List.getElem?_cons_succ:=List.getElem?_cons_succ
theorem lAZ:type_of% @Bool.eq_iff_iff:=Bool.eq_iff_iff
theorem lE0:type_of% @List.set_cons_succ:=List.set_cons_succ
theorem lE1:type_of% @Nat.lt_of_le_of_lt:=Nat.lt_of_le_of_lt
theorem lE2:type_of% @List.pairwise_cons:=List.pairwise_cons
theorem lE3:type_of% @Array.getElem?_eq_none:=Array.getElem?_eq_none
theorem lE4:type_of% @List.getElem?_set:=List.getElem?_set
theorem lE5:type_of% @Nat.lt_trans:=Nat.lt_trans
theorem lE6:type_of% @List.length_mergeSort:=List.length_mergeSort
theorem lE7:type_of% @Nat.beq_refl:=Nat.beq_refl
theorem lE8:type_of% @Int.negSucc_eq:=Int.negSucc_eq
theorem lE9:type_of% @List.any_map:=List.any_map
theorem lEA:type_of% @List.map_set:=List.map_set
theorem lEB:type_of% @if_false:=if_false
theorem lEC:type_of% @List.mem_iff_getElem:=List.mem_iff_getElem
theorem lED:type_of% @List.getElem_set:=List.getElem_set
theorem lEE:type_of% @List.not_mem_nil:=List.not_mem_nil
theorem lEF:type_of% @List.findIdx_getElem:=List.findIdx_getElem
theorem lEG:type_of% @List.take_append:=List.take_append
theorem lEH:type_of% @Option.map_some:=Option.map_some
theorem lEI:type_of% @List.foldl_cons:=List.foldl_cons
theorem lEJ:type_of% @List.find?_some:=List.find?_some
theorem lEK:type_of% @Nat.mul_comm:=Nat.mul_comm
theorem lEL:type_of% @Nat.ne_of_lt:=Nat.ne_of_lt
theorem lEM:type_of% @Nat.succ_mul:=Nat.succ_mul
end Go
noncomputable section
namespace Go.Ev
structure Q(α:Type) where
 (c0 c1 c2 c3 c4 c5 c6 c7:α)
def TT(α:Type):Nat->Type
 |0=>α
 |d+1=>Q (TT α d)
structure zX(α:Type)(d:Nat) where f:TT α d->α
structure zC(α:Type)(d:Nat) where f:TT α d->α->TT α d
structure lU(α:Type) where f:Q α->α
structure lN(α:Type) where f:(α->α)->Q α->Q α
def aZN(α:Type):lU α:=⟨fun t=>Q.rec (motive:=fun _=>α) (fun c0 _ _ _ _ _ _ _=>c0) t⟩
def bCw(α:Type):lU α:=⟨fun t=>Q.rec (motive:=fun _=>α) (fun _ c1 _ _ _ _ _ _=>c1) t⟩
def bE4(α:Type):lU α:=⟨fun t=>Q.rec (motive:=fun _=>α) (fun _ _ c2 _ _ _ _ _=>c2) t⟩
def bBQ(α:Type):lU α:=⟨fun t=>Q.rec (motive:=fun _=>α) (fun _ _ _ c3 _ _ _ _=>c3) t⟩
def bDH(α:Type):lU α:=⟨fun t=>Q.rec (motive:=fun _=>α) (fun _ _ _ _ c4 _ _ _=>c4) t⟩
def aUF(α:Type):lU α:=⟨fun t=>Q.rec (motive:=fun _=>α) (fun _ _ _ _ _ c5 _ _=>c5) t⟩
def aZ7(α:Type):lU α:=⟨fun t=>Q.rec (motive:=fun _=>α) (fun _ _ _ _ _ _ c6 _=>c6) t⟩
def aZo(α:Type):lU α:=⟨fun t=>Q.rec (motive:=fun _=>α) (fun _ _ _ _ _ _ _ c7=>c7) t⟩
def bDJ(α:Type):lN α:=⟨fun f t=>Q.rec (motive:=fun _=>Q α) (fun c0 c1 c2 c3 c4 c5 c6 c7=>⟨f c0,c1,c2,c3,c4,c5,c6,c7⟩) t⟩
def aWr(α:Type):lN α:=⟨fun f t=>Q.rec (motive:=fun _=>Q α) (fun c0 c1 c2 c3 c4 c5 c6 c7=>⟨c0,f c1,c2,c3,c4,c5,c6,c7⟩) t⟩
def aUQ(α:Type):lN α:=⟨fun f t=>Q.rec (motive:=fun _=>Q α) (fun c0 c1 c2 c3 c4 c5 c6 c7=>⟨c0,c1,f c2,c3,c4,c5,c6,c7⟩) t⟩
def aU5(α:Type):lN α:=⟨fun f t=>Q.rec (motive:=fun _=>Q α) (fun c0 c1 c2 c3 c4 c5 c6 c7=>⟨c0,c1,c2,f c3,c4,c5,c6,c7⟩) t⟩
def aW3(α:Type):lN α:=⟨fun f t=>Q.rec (motive:=fun _=>Q α) (fun c0 c1 c2 c3 c4 c5 c6 c7=>⟨c0,c1,c2,c3,f c4,c5,c6,c7⟩) t⟩
def bBp(α:Type):lN α:=⟨fun f t=>Q.rec (motive:=fun _=>Q α) (fun c0 c1 c2 c3 c4 c5 c6 c7=>⟨c0,c1,c2,c3,c4,f c5,c6,c7⟩) t⟩
def bAO(α:Type):lN α:=⟨fun f t=>Q.rec (motive:=fun _=>Q α) (fun c0 c1 c2 c3 c4 c5 c6 c7=>⟨c0,c1,c2,c3,c4,c5,f c6,c7⟩) t⟩
def aUI(α:Type):lN α:=⟨fun f t=>Q.rec (motive:=fun _=>Q α) (fun c0 c1 c2 c3 c4 c5 c6 c7=>⟨c0,c1,c2,c3,c4,c5,c6,f c7⟩) t⟩
def sel(α:Type)(k:Nat):lU α:=Nat.rec (motive:=fun _=>lU α) (aZN α) (fun k _=>Nat.rec (motive:=fun _=>lU α) (bCw α) (fun k _=>Nat.rec (motive:=fun _=>lU α) (bE4 α) (fun k _=>Nat.rec (motive:=fun _=>lU α) (bBQ α) (fun k _=>Nat.rec (motive:=fun _=>lU α) (bDH α) (fun k _=>Nat.rec (motive:=fun _=>lU α) (aUF α) (fun k _=>Nat.rec (motive:=fun _=>lU α) (aZ7 α) (fun _ _=>aZo α) k) k) k) k) k) k) k
def aOj(α:Type)(k:Nat):lN α:=Nat.rec (motive:=fun _=>lN α) (bDJ α) (fun k _=>Nat.rec (motive:=fun _=>lN α) (aWr α) (fun k _=>Nat.rec (motive:=fun _=>lN α) (aUQ α) (fun k _=>Nat.rec (motive:=fun _=>lN α) (aU5 α) (fun k _=>Nat.rec (motive:=fun _=>lN α) (aW3 α) (fun k _=>Nat.rec (motive:=fun _=>lN α) (bBp α) (fun k _=>Nat.rec (motive:=fun _=>lN α) (bAO α) (fun _ _=>aUI α) k) k) k) k) k) k) k
def dR{α:Type}(d:Nat):Nat->zX α d:=
 Nat.rec (motive:=fun d=>Nat->zX α d) (fun _=>⟨fun t=>t⟩)
  (fun d ih i=>zX.rec (motive:=fun _=>zX α (d+1)) (fun g=>lU.rec (motive:=fun _=>zX α (d+1)) (fun s=>⟨fun t=>g (s t)⟩) (sel (TT α d) (Nat.land i 7))) (ih (Nat.shiftRight i 3))) d
def setter{α:Type}(d:Nat):Nat->zC α d:=
 Nat.rec (motive:=fun d=>Nat->zC α d) (fun _=>⟨fun _ v=>v⟩)
  (fun d ih i=>zC.rec (motive:=fun _=>zC α (d+1)) (fun g=>lN.rec (motive:=fun _=>zC α (d+1)) (fun s=>⟨fun t v=>s (fun c=>g c v) t⟩) (aOj (TT α d) (Nat.land i 7))) (ih (Nat.shiftRight i 3))) d
def same{α:Type}(a:α):(d:Nat)->TT α d
 |0=>a
 |d+1=>(⟨same a d,same a d,same a d,same a d,same a d,same a d,same a d,same a d⟩:Q (TT α d))
inductive AV where
 |undef
 |lit (v:Value)
 |bool (b:Bool)
 |int (k:IntKind) (n:Int)
 |str (len bits:Nat)
 |ptr (b o:Nat)
 |bJ
 |sl (b o len cap:Nat) (ex:Bool)
 |aA
 |sle
 |map (m:Nat)
 |bQ
 |fn (f:FuncId) (first cap:List AV)
 |yield (l:Nat)
 |jH
 |iface (t:TypeId) (v:AV)
 |pI
 |agg (l:List AV)
 |bA (l:List AV)
structure gD where
 (key val:AV)
 born:Nat
inductive bW where
 |dead
 |cells (d n:Nat) (c:TT AV d) (ro:Bool) (z:Nat)
 |map (es:List gD) (clock:Nat)
 |sH (len bits pos:Nat)
 |loop (ready:Bool) (pending:Option Code) (d n:Nat) (L:TT AV d) (params:List Tmp) (assign body:Code)
def bW.wr:bW->Bool
 | .dead=>false
 | .cells _ _ _ ro _=> !ro
 |_=>true
def HD:Nat:=7
structure Mem where
 t:TT bW HD
 x:Nat->bW
def Mem.get(m:Mem)(i:Nat):bW:=bif Nat.blt i 2097152 then(dR HD i).f m.t else m.x i
def Mem.put(m:Mem)(i:Nat)(b:bW):Mem:=bif Nat.blt i 2097152 then⟨(setter HD i).f m.t b,m.x⟩else⟨m.t,fun c=>bif Nat.beq c i then b else m.x c⟩
structure Hp where
 t:Mem
 nx:Nat
def Hp.get(H:Hp)(i:Nat):bW:=H.t.get i
def Hp.put(H:Hp)(i:Nat)(b:bW):Hp:=⟨H.t.put i b,H.nx⟩
def Hp.empty:Hp:=⟨⟨same .dead HD,fun _=>.dead⟩,0⟩
inductive Ex where
 |normal|exit (id:Nat)|goto (l:Nat)|ret
inductive R0 where
 |bad
 |val (v:AV)
 |new (v:AV) (b:bW)
inductive R1 where
 |bad
 |ok (v:AV) (H:Hp)
inductive Rc(d:Nat) where
 |bad
 |ok (e:Ex) (L:TT AV d) (H:Hp)
inductive Cl where
 |f (id:FuncId)
 |y (l:Nat)
 |d (id:FuncId)
abbrev Call:=Cl->List AV->Hp->R1
def iF(n:Nat):Nat:=
 bif Nat.ble n 8 then 1 else bif Nat.ble n 64 then 2 else bif Nat.ble n 512 then 3 else bif Nat.ble n 4096 then 4 else bif Nat.ble n 32768 then 5 else bif Nat.ble n 262144 then 6 else n
def w9{d:Nat}(c:TT AV d)(k:Nat):Nat->List AV:=
 Nat.rec (motive:=fun _=>Nat->List AV) (fun _=>[]) (fun _ ih o=>(dR d o).f c::ih (Nat.succ o)) k
def pX{d:Nat}(l:List AV):Nat->TT AV d->TT AV d:=
 List.rec (motive:=fun _=>Nat->TT AV d->TT AV d) (fun _ c=>c) (fun v _ ih o c=>ih (Nat.succ o) ((setter d o).f c v)) l
def aB(z:Nat)(l:List AV):bW:=.cells (iF l.length) l.length (pX l 0 (same .undef _)) false z
def kD(l:List UInt8):Nat:=l.foldr (fun b acc=>acc*256+b.toNat) 0
def qpl:Value->AV
 | .bool b=>.bool b
 | .int k n=>.int k n
 | .string s=>.str s.data.toList.length (kD s.data.toList)
 | .pointer none=>.bJ
 | .slice none 0 0=>.aA
 | .map none=>.bQ
 | .nilFunc=>.jH
 | .nilIface=>.pI
 |v=>.lit v
def aCu:Value->Bool
 | .agg _| .tuple _=>false
 |_=>true
def qvd:Value->AV
 | .agg cs=>bif cs.toList.all aCu then .agg (cs.toList.map qpl)else .lit (.agg cs)
 | .tuple ⟨[]⟩=>.undef
 |v=>qpl v
def uP(P:Program)(t:TypeId):Option Bool:=(P.underlying t).map fun| .struct _| .array _ _=>true|_=>false
def jA(P:Program)(t:TypeId):Option Nat:=(P.info? t).map (·.size)
def qj4(P:Program)(t:TypeId):Option Nat:=(P.info? t).map (·.bytes)
def qlf:Value->Option (List AV)
 | .agg cs=>bif cs.toList.all aCu then some (cs.toList.map qpl)else none
 | .tuple _=>none
 |v=>some [qpl v]
def qj8(P:Program)(t:TypeId):Option (List AV):=((P.info? t).bind (·.zero)).bind qlf
/- numbers -/
def zlg(k:IntKind)(n:Int):Bool:=
 match n with
 | .ofNat m=>Nat.blt m (match k with| .i8=>128| .i16=>32768| .i32=>2147483648| .i64=>9223372036854775808| .u8=>256| .u16=>65536| .u32=>4294967296| .u64=>18446744073709551616)
 | .negSucc m=>match k with| .i8=>Nat.blt m 128| .i16=>Nat.blt m 32768| .i32=>Nat.blt m 2147483648| .i64=>Nat.blt m 9223372036854775808|_=>false
def yG(k:IntKind)(n:Int):Int:=bif zlg k n then n else k.wrap n
def qZ(a b:Int):Bool:=
 match a,b with
 | .ofNat m,.ofNat n=>Nat.blt m n
 | .negSucc m,.negSucc n=>Nat.blt n m
 | .negSucc _,.ofNat _=>true
 | .ofNat _,.negSucc _=>false
def uS(a b:Int):Bool:=
 match a,b with
 | .ofNat m,.ofNat n=>Nat.beq m n
 | .negSucc m,.negSucc n=>Nat.beq m n
 |_,_=>false
def zk3:IntKind->Nat
 | .i8=>0| .i16=>1| .i32=>2| .i64=>3| .u8=>4| .u16=>5| .u32=>6| .u64=>7
def eqK(a b:IntKind):Bool:=Nat.beq (zk3 a) (zk3 b)
structure B2 where f:IntKind->Int->Int->R0
def oI:BinOp->B2
 | .add=>⟨fun k a b=>.val (.int k (yG k (a+b)))⟩
 | .sub=>⟨fun k a b=>.val (.int k (yG k (a-b)))⟩
 | .mul=>⟨fun k a b=>.val (.int k (yG k (a*b)))⟩
 | .quo=>⟨fun k a b=>bif uS b 0 then .bad else .val (.int k (yG k (a.tdiv b)))⟩
 | .rem=>⟨fun k a b=>bif uS b 0 then .bad else .val (.int k (a.tmod b))⟩
 | .and=>⟨fun k a b=>.val (.int k (k.wrap (BitVec.ofInt k.bits a &&& BitVec.ofInt k.bits b).toNat))⟩
 | .or=>⟨fun k a b=>.val (.int k (k.wrap (BitVec.ofInt k.bits a ||| BitVec.ofInt k.bits b).toNat))⟩
 | .xor=>⟨fun k a b=>.val (.int k (k.wrap (BitVec.ofInt k.bits a ^^^ BitVec.ofInt k.bits b).toNat))⟩
 | .andNot=>⟨fun k a b=>.val (.int k (k.wrap (BitVec.ofInt k.bits a &&& ~~~ BitVec.ofInt k.bits b).toNat))⟩
 | .eql=>⟨fun _ a b=>.val (.bool (uS a b))⟩
 | .neq=>⟨fun _ a b=>.val (.bool (!uS a b))⟩
 | .lss=>⟨fun _ a b=>.val (.bool (qZ a b))⟩
 | .leq=>⟨fun _ a b=>.val (.bool (!qZ b a))⟩
 | .gtr=>⟨fun _ a b=>.val (.bool (qZ b a))⟩
 | .geq=>⟨fun _ a b=>.val (.bool (!qZ a b))⟩
 |_=>⟨fun _ _ _=>.bad⟩
def qjl:BinOp->B2
 | .shl=>⟨fun k a b=>bif qZ b 0 then .bad else .val (.int k (yG k (a*2 ^ (min b.toNat k.bits))))⟩
 | .shr=>⟨fun k a b=>bif qZ b 0 then .bad else .val (.int k (a.fdiv (2 ^ (min b.toNat k.bits))))⟩
 |_=>⟨fun _ _ _=>.bad⟩
/- strings: length, and the bytes packed from the first on -/
def qeq(bits i:Nat):Nat:=Nat.land (Nat.shiftRight bits (Nat.mul 8 i)) 255
def qd6(f:Nat):(n a m b:Nat)->Bool:=
 Nat.rec (motive:=fun _=>Nat->Nat->Nat->Nat->Bool) (fun n _ m _=>Nat.blt n m)
  (fun _ ih n a m b=>bif Nat.beq m 0 then false else bif Nat.beq n 0 then true else
   bif Nat.beq (Nat.land a 255) (Nat.land b 255)then ih (Nat.pred n) (Nat.shiftRight a 8) (Nat.pred m) (Nat.shiftRight b 8)
   else Nat.blt (Nat.land a 255) (Nat.land b 255)) f
def eqS(n a m b:Nat):Bool:=Nat.beq n m&&Nat.beq a b
structure S2 where f:Nat->Nat->Nat->Nat->R0
def lC:BinOp->S2
 | .add=>⟨fun n a m b=>bif Nat.ble (n+m) 1099511627776 then .val (.str (n+m) (Nat.add a (Nat.shiftLeft b (Nat.mul 8 n))))else .bad⟩
 | .eql=>⟨fun n a m b=>.val (.bool (eqS n a m b))⟩
 | .neq=>⟨fun n a m b=>.val (.bool (!eqS n a m b))⟩
 | .lss=>⟨fun n a m b=>.val (.bool (qd6 n n a m b))⟩
 | .leq=>⟨fun n a m b=>.val (.bool (qd6 n n a m b||eqS n a m b))⟩
 | .gtr=>⟨fun n a m b=>.val (.bool (!(qd6 n n a m b||eqS n a m b)))⟩
 | .geq=>⟨fun n a m b=>.val (.bool (!qd6 n n a m b))⟩
 |_=>⟨fun _ _ _ _=>.bad⟩
/- parts of aggregates -/
structure P1 where f:List AV->Nat->Option AV
def qpg(P:Program)(t:TypeId):P1:=
 match uP P t,jA P t with
 |some true,some k=>⟨fun cs off=>some (.agg ((cs.drop off).take k))⟩
 |some false,_=>⟨fun cs off=>cs[off]?⟩
 |_,_=>⟨fun _ _=>none⟩
/- equality at a type -/
structure E2 where f:AV->AV->Option Bool
def andThen(a b:Option Bool):Option Bool:=
 match a with|some true=>b|some false=>some false|none=>none
def qsq(p:P1)(e:E2)(xs ys:List AV)(off:Nat):Option Bool:=
 match p.f xs off,p.f ys off with
 |some a,some b=>e.f a b
 |_,_=>none
def qh5:AV->AV->Option Bool
 | .bool a,.bool b=>some (a==b)
 |_,_=>none
def qq1:AV->AV->Option Bool
 | .int k a,.int k' b=>bif eqK k k' then some (uS a b)else none
 |_,_=>none
def bL:AV->AV->Option Bool
 | .str n a,.str m b=>some (eqS n a m b)
 |_,_=>none
def ql1:AV->AV->Option Bool
 | .bJ,.bJ=>some true
 | .bJ,.ptr _ _=>some false
 | .ptr _ _,.bJ=>some false
 |_,_=>none
def qH:AV->AV->Option Bool
 | .aA,.aA=>some true
 | .aA,.sl .. =>some false
 | .aA,.sle=>some false
 | .sl ..,.aA=>some false
 | .sle,.aA=>some false
 |_,_=>none
def ztp:AV->AV->Option Bool
 | .bQ,.bQ=>some true
 | .bQ,.map _=>some false
 | .map _,.bQ=>some false
 |_,_=>none
def eqFn:AV->AV->Option Bool
 | .jH,.jH=>some true
 | .jH,.fn .. =>some false
 | .fn ..,.jH=>some false
 |_,_=>none
def aFz:AV->AV->Option Bool
 | .pI,.iface .. =>some false
 | .iface ..,.pI=>some false
 |_,_=>none
def dQ(f:List AV->List AV->Option Bool):AV->AV->Option Bool
 | .agg xs,.agg ys=>f xs ys
 |_,_=>none
def eqFields(fs:List (P1×E2×Nat))(xs ys:List AV):Option Bool:=
 fs.foldr (fun f r=>andThen (qsq f.1 f.2.1 xs ys f.2.2) r) (some true)
def qcx(p:P1)(e:E2)(z:Nat)(xs ys:List AV):Nat->Nat->Option Bool
 |0,_=>some true
 |k+1,i=>andThen (qsq p e xs ys (i*z)) (qcx p e z xs ys k (i+1))
def eqT(P:Program):Nat->TypeId->E2
 |0,_=>⟨fun _ _=>none⟩
 |d+1,t=>
  match P.underlying t with
  |some .bool=>⟨qh5⟩
  |some (.int _)=>⟨qq1⟩
  |some .string=>⟨bL⟩
  |some (.struct fs)=>
   if P.stoodInHeld t then⟨fun _ _=>none⟩else
   let l:=(fs.toList.filter fun f=>f.name != "_").map fun f=>(qpg P f.type,eqT P d f.type,f.offset)
   ⟨dQ (eqFields l)⟩
  |some (.array len e)=>
   match jA P e with
   |some z=>let p:=qpg P e;let q:=eqT P d e;⟨dQ fun xs ys=>qcx p q z xs ys len 0⟩
   |none=>⟨fun _ _=>none⟩
  |some (.pointer _)=>⟨ql1⟩
  |some (.slice _)=>⟨qH⟩
  |some (.map ..)=>⟨ztp⟩
  |some (.func ..)=>⟨eqFn⟩
  |some (.interface _)=>⟨aFz⟩
  |_=>⟨fun _ _=>none⟩
def qdg:Nat:=20
/- operations on values -/
def dV(c a b:AV):R0:=
 match c with
 | .bool true=>.val a
 | .bool false=>.val b
 |_=>.bad
def iC(g:IntKind->Int->Int->R0)(x y:AV):R0:=
 match x,y with
 | .int k a,.int k' b=>bif eqK k k' then g k a b else .bad
 |_,_=>.bad
def qxt(g:IntKind->Int->Int->R0)(x y:AV):R0:=
 match x,y with
 | .int k a,.int _ b=>g k a b
 |_,_=>.bad
def eD(g:Nat->Nat->Nat->Nat->R0)(x y:AV):R0:=
 match x,y with
 | .str n a,.str m b=>g n a m b
 |_,_=>.bad
def jT(neg:Bool)(r:Option Bool):R0:=
 match r with
 |some b=>.val (.bool (bif neg then !b else b))
 |none=>.bad
structure V2 where f:AV->AV->R0
def aH3(P:Program)(op:BinOp)(t:TypeId):V2:=
 match P.underlying t with
 |some (.int _)=>
  match op with
  | .shl| .shr=>match qjl op with|⟨g⟩=>⟨qxt g⟩
  |_=>match oI op with|⟨g⟩=>⟨iC g⟩
 |some .string=>match lC op with|⟨g⟩=>⟨eD g⟩
 |some .bool|some (.pointer _)|some (.slice _)|some (.map ..)|some (.func ..)|some (.interface _)=>
  match op,eqT P qdg t with
  | .eql,⟨e⟩=>⟨fun x y=>jT false (e x y)⟩
  | .neq,⟨e⟩=>⟨fun x y=>jT true (e x y)⟩
  |_,_=>⟨fun _ _=>.bad⟩
 |some (.struct _)|some (.array ..)=>
  if P.eqGuardType P.depth t then⟨fun _ _=>.bad⟩else
  match op,eqT P qdg t with
  | .eql,⟨e⟩=>⟨fun x y=>jT false (e x y)⟩
  | .neq,⟨e⟩=>⟨fun x y=>jT true (e x y)⟩
  |_,_=>⟨fun _ _=>.bad⟩
 |_=>⟨fun _ _=>.bad⟩
structure V1 where f:AV->R0
def lH:UnOp->V1
 | .not=>⟨fun x=>match x with| .bool b=>.val (.bool !b)|_=>.bad⟩
 | .neg=>⟨fun x=>match x with| .int k n=>.val (.int k (yG k (0-n)))|_=>.bad⟩
 |_=>⟨fun _=>.bad⟩
/- memory -/
def bX(b:bW)(o:Nat):R0:=
 match b with
 | .cells d n c _ _=>bif Nat.blt o n then .val ((dR d o).f c)else .bad
 |_=>.bad
def aR(H:Hp)(a:AV):R0:=
 match a with
 | .ptr b o=>bX (H.get b) o
 |_=>.bad
def fD(b:bW)(o k:Nat):Option (List AV):=
 match b with
 | .cells _ n c _ _=>bif Nat.ble (o+k) n then some (w9 c k o)else none
 |_=>none
def aJw(r:Option (List AV)):R0:=match r with|some l=>.val (.agg l)|none=>.bad
def cO(k:Nat)(H:Hp)(a:AV):R0:=
 match a with
 | .ptr b o=>aJw (fD (H.get b) o k)
 |_=>.bad
def qig(b:bW)(o:Nat)(l:List AV):Option bW:=
 match b with
 | .cells d n c false z=>bif Nat.ble (o+l.length) n then some (.cells d n (pX l o c) false z)else none
 |_=>none
def storeAt(H:Hp)(b o:Nat)(l:List AV)(v:AV):R1:=
 match qig (H.get b) o l with
 |some blk=>.ok v (H.put b blk)
 |none=>.bad
def j5(H:Hp)(a x:AV):R1:=
 match a,x with
 | .ptr _ _,.agg _=>.bad
 | .ptr _ _,.bA _=>.bad
 | .ptr _ _,.undef=>.bad
 | .ptr _ _,.lit _=>.bad
 | .ptr b o,v=>storeAt H b o [v] .undef
 |_,_=>.bad
def xA(k:Nat)(H:Hp)(a x:AV):R1:=
 match a,x with
 | .ptr b o,.agg l=>bif Nat.beq l.length k then storeAt H b o l .undef else .bad
 |_,_=>.bad
def nV(nm:Nat)(x:AV):R0:=
 match x with
 | .agg _| .bA _| .undef| .lit _=>.bad
 |v=>.new (.ptr nm 0) (aB 0 [v])
def qI(k:Nat)(nm:Nat)(x:AV):R0:=
 match x with
 | .agg l=>bif Nat.beq l.length k then .new (.ptr nm 0) (aB 0 l)else .bad
 |_=>.bad
def aN(off:Nat)(x:AV):R0:=match x with| .ptr b o=>.val (.ptr b (Nat.add o off))|_=>.bad
def zlo(p:P1)(off:Nat)(x:AV):R0:=
 match x with
 | .agg l=>match p.f l off with|some v=>.val v|none=>.bad
 |_=>.bad
def aH(z:Nat)(x i:AV):R0:=
 match x,i with
 | .sl b o len _ _,.int _ (.ofNat i)=>bif Nat.blt i len then .val (.ptr b (Nat.add o (Nat.mul i z)))else .bad
 |_,_=>.bad
def gQ(len z:Nat)(x i:AV):R0:=
 match x,i with
 | .ptr b o,.int _ (.ofNat i)=>bif Nat.blt i len then .val (.ptr b (Nat.add o (Nat.mul i z)))else .bad
 |_,_=>.bad
def qdp(x i:AV):R0:=
 match x,i with
 | .str n a,.int _ (.ofNat i)=>bif Nat.blt i n then .val (.int .u8 (.ofNat (qeq a i)))else .bad
 |_,_=>.bad
def aIR(p:P1)(len z:Nat)(x i:AV):R0:=
 match x,i with
 | .agg l,.int _ (.ofNat i)=>bif Nat.blt i len then(match p.f l (Nat.mul i z)with|some v=>.val v|none=>.bad)else .bad
 |_,_=>.bad
/- slices -/
def bnd(x:Option AV)(dflt y:Nat):Option Nat:=
 match x with
 |none=>some dflt
 |some (.int _ (.ofNat n))=>bif Nat.ble n y then some n else none
 |some _=>none
structure Bd where
 (l h m:Nat)
def bounds(len cap:Nat)(lo hi mx:Option AV):Option Bd:=
 match mx,hi with
 |some _,none=>none
 |_,_=>
  match bnd mx cap cap with
  |none=>none
  |some m=>match bnd hi len m with
   |none=>none
   |some h=>match bnd lo 0 h with
    |none=>none
    |some l=>some ⟨l,h,m⟩
def qut(x:AV)(lo hi:Option AV):R0:=
 match x with
 | .str n a=>match bounds n n lo hi none with
  |some b=>.val (.str (b.h-b.l) (Nat.land (Nat.shiftRight a (Nat.mul 8 b.l)) (Nat.sub (Nat.shiftLeft 1 (Nat.mul 8 (b.h-b.l))) 1)))
  |none=>.bad
 |_=>.bad
def iV(b o z:Nat)(bd:Bd)(ex:Bool):R0:=
 bif Nat.beq bd.m bd.l then(bif ex then .val (.sl b o 0 0 true)else .val .sle)
 else .val (.sl b (Nat.add o (Nat.mul bd.l z)) (Nat.sub bd.h bd.l) (Nat.sub bd.m bd.l) ex)
def kU(z:Nat)(x:AV)(lo hi mx:Option AV):R0:=
 match x with
 | .aA=>match bounds 0 0 lo hi mx with|some _=>.val .aA|none=>.bad
 | .sl b o len cap ex=>match bounds len cap lo hi mx with
  |some bd=>iV b o z bd (match mx with|some _=>true|none=>ex)
  |none=>.bad
 |_=>.bad
def aS(l:List AV)(n:Nat):List AV:=Nat.rec (motive:=fun _=>List AV) [] (fun _ r=>l++r) n
def gV:Nat:=1099511627776
def qe9(z:List AV)(bytes:Nat)(nm:Nat)(l c:AV):R0:=
 match l,c with
 | .int _ (.ofNat n),.int _ (.ofNat m)=>bif Nat.ble n m&&Nat.ble (Nat.mul m bytes) gV&&Nat.ble m gV then .new (.sl nm 0 n m true) (aB 0 (aS z m))else .bad
 |_,_=>.bad
/- building aggregates: parts in the order of their offsets -/
def qo0(c:List AV)(off size:Nat)(v:List AV):Option (List AV):=
 bif Nat.beq v.length size&&Nat.ble (off+size) c.length then some (c.take off++v++c.drop (off+size))else none
def uQ:AV->Option (List AV)
 | .agg l=>some l
 | .bA _| .undef| .lit _=>none
 |v=>some [v]
def bH(c:List AV):List (Nat×Nat×AV)->Option (List AV)
 | []=>some c
 |(off,size,v)::r=>match uQ v with
  |some l=>match qo0 c off size l with|some c'=>bH c' r|none=>none
  |none=>none
/- maps -/
structure Hit where
 i:Nat
 x:gD
def yK(e:AV->AV->Option Bool)(k:AV)(es:List gD):Nat->Option (Option Hit):=
 List.rec (motive:=fun _=>Nat->Option (Option Hit)) (fun _=>some none)
  (fun x _ ih i=>match e k x.key with|some true=>some (some ⟨i,x⟩)|some false=>ih (Nat.succ i)|none=>none) es
def zjd:AV->AV->Bool
 | .int k a,.int k' b=>eqK k k'&&uS a b
 | .str n a,.str m b=>eqS n a m b
 | .bool a,.bool b=>a==b
 |_,_=>false
def qxx:List AV->List AV->Bool
 | [],[]=>true
 |a::l,b::m=>zjd a b&&qxx l m
 |_,_=>false
def sameKey:AV->AV->Bool
 | .agg l,.agg m=>qxx l m
 |a,b=>zjd a b
def qir(s:Option Nat)(k:AV):Bool:=
 match s,k with
 |none,.agg _=>false
 |none,_=>true
 |some n,.agg l=>Nat.beq l.length n
 |some _,_=>false
def qvr(P:Program):Nat->TypeId->Bool
 |0,_=>false
 |d+1,t=>
  match P.underlying t,jA P t with
  |some (.int _),some _|some .string,some _|some .bool,some _=>true
  |some (.struct fs),some n=>fs.toList.all fun f=>match jA P f.type with
   |some m=>Nat.ble (f.offset+m) n&&qvr P d f.type&&Nat.blt 0 m
   |none=>false
  |some (.array len e),some n=>match jA P e with
   |some m=>Nat.ble (len*m) n&&qvr P d e&&Nat.blt 0 m
   |none=>false
  |_,_=>false
structure Ky where
 e:AV->AV->Option Bool
 s:Option Nat
def yV(P:Program)(kt:TypeId):Option Ky:=
 match qvr P qdg kt,eqT P qdg kt,uP P kt,jA P kt with
 |true,⟨e⟩,some true,some n=>some ⟨e,some n⟩
 |true,⟨e⟩,some false,some _=>some ⟨e,none⟩
 |_,_,_,_=>none
def qp2(ky:Ky)(k:AV)(es:List gD):Option (Option Hit):=
 bif qir ky.s k then yK ky.e k es 0 else none
def zx2(H:Hp):AV->Option (List gD)
 | .bQ=>some []
 | .map m=>match H.get m with| .map es _=>some es|_=>none
 |_=>none
def q33(ok:Bool)(z:AV)(r:Option (Option Hit)):R0:=
 match r with
 |some (some h)=>.val (bif ok then .bA [h.x.val,.bool true]else h.x.val)
 |some none=>.val (bif ok then .bA [z,.bool false]else z)
 |none=>.bad
def nR(ky:Ky)(z:AV)(ok:Bool)(H:Hp)(m k:AV):R0:=
 match zx2 H m with
 |some es=>q33 ok z (qp2 ky k es)
 |none=>.bad
def kL(ky:Ky)(H:Hp)(m k v:AV):R1:=
 match m with
 | .map b=>match H.get b with
  | .map es clock=>match qp2 ky k es with
   |some (some h)=>bif sameKey h.x.key k then .ok .undef (H.put b (.map (es.set h.i ⟨k,v,h.x.born⟩) clock))else .bad
   |some none=>.ok .undef (H.put b (.map (es++[⟨k,v,clock⟩]) (Nat.succ clock)))
   |none=>.bad
  |_=>.bad
 |_=>.bad
def qj1(ky:Ky)(z:AV)(H:Hp)(m k:AV):R1:=
 match m with
 | .map b=>match H.get b with
  | .map es clock=>match qp2 ky k es with
   |some (some h)=>bif sameKey h.x.key k then .ok (.bA [h.x.val,.int .i64 (.ofNat h.x.born)]) (H.put b (.map (es.set h.i ⟨k,h.x.val,h.x.born⟩) clock))else .bad
   |some none=>.ok (.bA [z,.int .i64 (.ofNat clock)]) (H.put b (.map (es++[⟨k,z,clock⟩]) (Nat.succ clock)))
   |none=>.bad
  |_=>.bad
 |_=>.bad
def qxj(n:Nat)(es:List gD):Nat->Option Hit:=
 List.rec (motive:=fun _=>Nat->Option Hit) (fun _=>none) (fun x _ ih i=>bif Nat.beq x.born n then some ⟨i,x⟩else ih (Nat.succ i)) es
def qhu(H:Hp)(m s v:AV):R1:=
 match m,s with
 | .map b,.int _ (.ofNat n)=>match H.get b with
  | .map es clock=>match qxj n es 0 with
   |some h=>.ok .undef (H.put b (.map (es.set h.i ⟨h.x.key,v,h.x.born⟩) clock))
   |none=>.bad
  |_=>.bad
 |_,_=>.bad
/- builtins -/
def i64(n:Nat):AV:=.int .i64 (.ofNat n)
def lG(x:AV):R0:=match x with| .str n _=>.val (i64 n)|_=>.bad
def aD(x:AV):R0:=
 match x with
 | .sl _ _ n _ _=>.val (i64 n)
 | .aA=>.val (i64 0)
 | .sle=>.val (i64 0)
 |_=>.bad
def aBG(H:Hp)(x:AV):R0:=
 match x with
 | .bQ=>.val (i64 0)
 | .map m=>match H.get m with| .map es _=>.val (i64 es.length)|_=>.bad
 |_=>.bad
def dU(x:AV):R0:=
 match x with
 | .sl _ _ _ c true=>.val (i64 c)
 | .aA=>.val (i64 0)
 |_=>.bad
def o7(x y:AV):R0:=
 match x,y with
 | .int k a,.int _ b=>.val (.int k (bif qZ b a then b else a))
 |_,_=>.bad
def pF(x y:AV):R0:=
 match x,y with
 | .int k a,.int _ b=>.val (.int k (bif qZ a b then b else a))
 |_,_=>.bad
def qL(g:AV->AV->R0)(x:AV)(l:List AV):R0:=
 List.rec (motive:=fun _=>AV->R0) (fun x=>.val x) (fun y _ ih x=>match g x y with| .val z=>ih z|_=>.bad) l x
def zmt(bits n:Nat):List AV:=Nat.rec (motive:=fun _=>Nat->List AV) (fun _=>[]) (fun _ ih i=>.int .u8 (.ofNat (qeq bits i))::ih (Nat.succ i)) n 0
structure Src where
 n:Nat
 l:List AV
def zrz(z:Nat)(H:Hp)(x:AV):Option Src:=
 match x with
 | .aA| .sle=>some ⟨0,[]⟩
 | .sl b o n _ _=>match fD (H.get b) o (Nat.mul n z)with|some l=>some ⟨n,l⟩|none=>none
 | .str n a=>some ⟨n,zmt a n⟩
 |_=>none
def lY(z:Nat)(H:Hp)(x:AV):Option Src:=
 match x with
 | .str _ _=>bif Nat.beq z 1 then zrz z H x else none
 |_=>zrz z H x
def qs1(w:Nat)(zl:List AV)(x:AV):Option Src:=
 match x with
 | .int _ (.ofNat n)=>bif Nat.ble n gV&&Nat.ble (Nat.mul n w) gV then some ⟨n,aS zl n⟩else none
 |_=>none
def aI(H:Hp)(b:bW):Hp:=⟨H.t.put H.nx b,Nat.succ H.nx⟩
def grow(z:Nat)(H:Hp)(old:List AV)(s:Src)(n:Nat):R1:=.ok (.sl H.nx 0 n n false) (aI H (aB z (old++s.l)))
def qh6(b:bW)(e z:Nat):Bool:=match b with| .cells _ n _ false z'=>Nat.beq n e&&Nat.beq z' z|_=>false
def iM(z bytes:Nat)(H:Hp)(s:AV)(src:Option Src):R1:=
 match src with
 |none=>.bad
 |some x=>
  match s with
  | .aA=>bif Nat.beq x.n 0 then .ok .aA H else bif Nat.ble (Nat.mul x.n bytes) gV&&Nat.ble x.n gV then grow z H [] x x.n else .bad
  | .sl b o len cap ex=>
   bif Nat.ble (len+x.n) cap then storeAt H b (o+len*z) x.l (.sl b o (len+x.n) cap ex)
   else bif Nat.ble (Nat.mul (len+x.n) bytes) gV&&Nat.ble (len+x.n) gV then
    match fD (H.get b) o (Nat.mul len z)with
    |none=>.bad
    |some old=>bif ex then grow z H old x (len+x.n)else
     bif qh6 (H.get b) (o+cap*z) z then grow z (H.put b .dead) old x (len+x.n)else .bad
   else .bad
  |_=>.bad
def qgz(zl:List AV)(H:Hp)(x:AV):R1:=
 match x with
 | .aA=>.ok .undef H
 | .sl b o n _ _=>bif Nat.beq n 0 then .ok .undef H else storeAt H b o (aS zl n) .undef
 |_=>.bad
def qq3(k:IntKind)(x:AV):R0:=match x with| .int _ n=>.val (.int k (yG k n))|_=>.bad
/- an operation, made ready once: quiet (it looks at the heap, or not), or with effects -/
inductive lM(d:Nat) where
 |q (looks:Bool) (f:Nat->TT AV d->Hp->R0)
 |e (f:Call->TT AV d->Hp->R1)
structure Rd(d:Nat) where f:TT AV d->AV
def aM(d n:Nat):Operand->Rd d
 | .tmp t=>bif Nat.blt t n then(match dR (α:=AV) d t with|⟨g⟩=>⟨g⟩)else⟨fun _=>.undef⟩
 | .const v=>⟨fun _=>qvd v⟩
 | .global g=>⟨fun _=>.lit (.pointer (some ⟨g,0,none⟩))⟩
 | .func f=>⟨fun _=>.fn f [] []⟩
structure RdL(d:Nat) where f:TT AV d->List AV
def vV(d n:Nat):List Operand->RdL d
 | []=>⟨fun _=>[]⟩
 |x::r=>match aM d n x,vV d n r with|⟨g⟩,⟨h⟩=>⟨fun L=>g L::h L⟩
structure RdO(d:Nat) where f:TT AV d->Option AV
def qlz(d n:Nat):Option Operand->RdO d
 |none=>⟨fun _=>none⟩
 |some x=>match aM d n x with|⟨g⟩=>⟨fun L=>some (g L)⟩
structure RdP(d:Nat) where f:TT AV d->List (Nat×Nat×AV)
def qqx(d n:Nat)(place:Nat->Option (Nat×Nat)):List (Nat×Operand)->Option (RdP d)
 | []=>some ⟨fun _=>[]⟩
 |(i,x)::r=>
  match place i,aM d n x,qqx d n place r with
  |some (off,size),⟨g⟩,some ⟨h⟩=>some ⟨fun L=>(off,size,g L)::h L⟩
  |_,_,_=>none
def iH(d:Nat):lM d:=.e fun _ _ _=>.bad
def bP(r:Option (List AV)):R0:=match r with|some l=>.val (.agg l)|none=>.bad
def rJ(len:Nat)(nm:Nat)(r:Option (List AV)):R0:=match r with|some l=>.new (.sl nm 0 len len true) (aB 0 l)|none=>.bad
def qfz(P:Program)(fs:Array Field)(i:Nat):Option (Nat×Nat):=
 match fs[i]? with
 |some f=>(jA P f.type).map fun s=>(f.offset,s)
 |none=>none
def wY(O:Call)(f:AV)(args:List AV)(H:Hp):R1:=
 match f with
 | .fn g first cap=>O (.f g) (first++args++cap) H
 | .yield l=>O (.y l) args H
 |_=>.bad
def qj3(O:Call)(f:AV)(args:List AV)(H:Hp):R1:=
 match f with
 | .fn g first cap=>O (.f g) (first++args++cap) H
 |_=>.bad
def aBv(P:Program)(d n:Nat)(args:List Operand)(types:List TypeId):lM d:=
 match args,types with
 | [x],[t]=>
  match P.underlying t with
  |some (.array n _)=>.q false fun _ _ _=>.val (i64 n)
  |some (.pointer arr)=>match P.underlying arr with|some (.array n _)=>.q false fun _ _ _=>.val (i64 n)|_=>iH d
  |some .string=>match aM d n x with|⟨g⟩=>.q false fun _ L _=>lG (g L)
  |some (.slice _)=>match aM d n x with|⟨g⟩=>.q false fun _ L _=>aD (g L)
  |some (.map ..)=>match aM d n x with|⟨g⟩=>.q true fun _ L H=>aBG H (g L)
  |_=>iH d
 |_,_=>iH d
def aBa(P:Program)(d n:Nat)(args:List Operand)(types:List TypeId):lM d:=
 match args,types with
 | [x],[t]=>
  match P.underlying t with
  |some (.array n _)=>.q false fun _ _ _=>.val (i64 n)
  |some (.slice _)=>match aM d n x with|⟨g⟩=>.q false fun _ L _=>dU (g L)
  |_=>iH d
 |_,_=>iH d
def aBk(d n:Nat)(args:List Operand):lM d:=
 match args with
 |x::r=>match aM d n x,vV d n r with|⟨g⟩,⟨h⟩=>.q false fun _ L _=>qL o7 (g L) (h L)
 |_=>iH d
def aAN(d n:Nat)(args:List Operand):lM d:=
 match args with
 |x::r=>match aM d n x,vV d n r with|⟨g⟩,⟨h⟩=>.q false fun _ L _=>qL pF (g L) (h L)
 |_=>iH d
structure Ap where
 (z w:Nat)
 zl:List AV
def apS(P:Program)(e:TypeId):Option Ap:=
 match jA P e,qj4 P e,qj8 P e with
 |some z,some w,some zl=>bif Nat.beq zl.length z then some ⟨z,w,zl⟩else none
 |_,_,_=>none
def aBn(P:Program)(d n:Nat)(args:List Operand)(types:List TypeId):lM d:=
 match args,types with
 | [x,y],[t,u]=>
  match P.underlying t with
  |some (.slice e)=>
   match apS P e,P.underlying u with
   |some ap,some (.int _)=>match aM d n x,aM d n y with|⟨g⟩,⟨h⟩=>.e fun _ L H=>iM ap.z ap.w H (g L) (qs1 ap.w ap.zl (h L))
   |some ap,some (.slice _)=>match aM d n x,aM d n y with|⟨g⟩,⟨h⟩=>.e fun _ L H=>iM ap.z ap.w H (g L) (lY ap.z H (h L))
   |some ap,some .string=>match aM d n x,aM d n y with|⟨g⟩,⟨h⟩=>.e fun _ L H=>iM ap.z ap.w H (g L) (lY ap.z H (h L))
   |_,_=>iH d
  |_=>iH d
 |_,_=>iH d
def aAV(P:Program)(d n:Nat)(args:List Operand)(types:List TypeId):lM d:=
 match args,types with
 | [x],[t]=>
  match P.underlying t with
  |some (.slice e)=>match apS P e with
   |some ap=>match aM d n x with|⟨g⟩=>.e fun _ L H=>qgz ap.zl H (g L)
   |none=>iH d
  |_=>iH d
 |_,_=>iH d
def qhw(P:Program)(d n:Nat)(b:Builtin)(args:List Operand)(types:List TypeId):lM d:=
 match b with
 | .len=>aBv P d n args types
 | .cap=>aBa P d n args types
 | .min=>aBk d n args
 | .max=>aAN d n args
 | .append=>aBn P d n args types
 | .clear=>aAV P d n args types
 |_=>iH d
def z6v(d n:Nat)(x:Operand):lM d:=
 match aM d n x with|⟨g⟩=>.q false fun _ L _=>.val (g L)
def z6u(d n:Nat)(c a b:Operand):lM d:=
 match aM d n c,aM d n a,aM d n b with|⟨gc⟩,⟨ga⟩,⟨gb⟩=>.q false fun _ L _=>dV (gc L) (ga L) (gb L)
def q7p(P:Program)(d:Nat)(t:TypeId):lM d:=
 match qj8 P t with
 |some z=>.q false fun nm _ _=>.new (.ptr nm 0) (aB 0 z)
 |none=>iH d
def aFt(P:Program)(d n:Nat)(t:TypeId)(x:Operand):lM d:=
 match uP P t,jA P t,aM d n x with
 |some true,some k,⟨g⟩=>.q false fun nm L _=>qI k nm (g L)
 |some false,some _,⟨g⟩=>.q false fun nm L _=>nV nm (g L)
 |_,_,_=>iH d
def q7o(P:Program)(d n:Nat)(t:TypeId)(ps:Array (Nat×Operand)):lM d:=
 match P.underlying t,qj8 P t with
 |some (.struct fs),some z=>if fs.toList.all fun f=>(jA P f.type).isSome then match qqx d n (qfz P fs) ps.toList with
  |some ⟨h⟩=>.q false fun _ L _=>bP (bH z (h L))
  |none=>iH d
  else iH d
 |some (.array _ e),some z=>match jA P e with
  |some s=>match qqx d n (fun i=>some (i*s,s)) ps.toList with
   |some ⟨h⟩=>.q false fun _ L _=>bP (bH z (h L))
   |none=>iH d
  |none=>iH d
 |_,_=>iH d
def qfo(P:Program)(d n:Nat)(t:TypeId)(len:Nat)(ps:Array (Nat×Operand)):lM d:=
 match P.underlying t with
 |some (.slice e)=>match jA P e,qj8 P e with
  |some s,some z=>bif Nat.ble (len*s) 65536&&Nat.beq z.length s then match qqx d n (fun i=>some (i*s,s)) ps.toList with
   |some ⟨h⟩=>.q false fun nm L _=>rJ len nm (bH (aS z len) (h L))
   |none=>iH d
   else iH d
  |_,_=>iH d
 |_=>iH d
def zr7(P:Program)(d n:Nat)(t:TypeId)(a:Operand):lM d:=
 match uP P t,jA P t,aM d n a with
 |some true,some k,⟨g⟩=>.q true fun _ L H=>cO k H (g L)
 |some false,some _,⟨g⟩=>.q true fun _ L H=>aR H (g L)
 |_,_,_=>iH d
def q7h(P:Program)(d n:Nat)(t:TypeId)(a x:Operand):lM d:=
 match uP P t,jA P t,aM d n a,aM d n x with
 |some true,some k,⟨g⟩,⟨h⟩=>.e fun _ L H=>xA k H (g L) (h L)
 |some false,some 1,⟨g⟩,⟨h⟩=>.e fun _ L H=>j5 H (g L) (h L)
 |_,_,_,_=>iH d
def qxy(d n:Nat)(x:Operand):lM d:=
 match aM d n x with
 |⟨g⟩=>.q false fun _ L _=>match g L with| .ptr b o=>.val (.ptr b o)| .fn a b c=>.val (.fn a b c)| .yield l=>.val (.yield l)|_=>.bad
def zxn(P:Program)(d n:Nat)(op:BinOp)(t:TypeId)(x y:Operand):lM d:=
 match aH3 P op t,aM d n x,aM d n y with
 |⟨e⟩,⟨g⟩,⟨h⟩=>.q false fun _ L _=>e (g L) (h L)
def z6s(d n:Nat)(op:UnOp)(x:Operand):lM d:=
 match lH op,aM d n x with|⟨e⟩,⟨g⟩=>.q false fun _ L _=>e (g L)
def qnd(P:Program)(d n:Nat)(s t:TypeId)(x:Operand):lM d:=
 match P.underlying s,P.underlying t,aM d n x with
 |some (.int _),some (.int k),⟨g⟩=>.q false fun _ L _=>qq3 k (g L)
 |some .string,some .string,⟨g⟩=>.q false fun _ L _=>match g L with| .str n a=>.val (.str n a)|_=>.bad
 |_,_,_=>iH d
def qdi(P:Program)(d n:Nat)(t:TypeId)(x:Operand):lM d:=
 match P.underlying t,aM d n x with
 |some (.interface _),_=>iH d
 |some _,⟨g⟩=>.q false fun _ L _=>.val (.iface t (g L))
 |none,_=>iH d
def qxz(d n:Nat)(f:FuncId)(first cap:Array Operand):lM d:=
 match vV d n first.toList,vV d n cap.toList with
 |⟨g⟩,⟨h⟩=>.q false fun _ L _=>.val (.fn f (g L) (h L))
def q7j(d:Nat)  :lM d:=
 .q false fun nm _ _=>.new (.map nm) (.map [] 0)
def qhh(P:Program)(d n:Nat)(t:TypeId)(l c:Operand):lM d:=
 match P.underlying t,aM d n l,aM d n c with
 |some (.slice e),⟨g⟩,⟨h⟩=>match qj8 P e,qj4 P e,jA P e with
  |some z,some w,some s=>bif Nat.beq z.length s then .q false fun nm L _=>qe9 z w nm (g L) (h L)else iH d
  |_,_,_=>iH d
 |_,_,_=>iH d
def q7i(P:Program)(d n:Nat)(t:TypeId)(x:Operand)(lo hi mx:Option Operand):lM d:=
 match P.underlying t,aM d n x,qlz d n lo,qlz d n hi,qlz d n mx with
 |some .string,⟨g⟩,⟨l⟩,⟨h⟩,_=>match mx with
  |none=>.q false fun _ L _=>qut (g L) (l L) (h L)
  |some _=>iH d
 |some (.slice e),⟨g⟩,⟨l⟩,⟨h⟩,⟨m⟩=>match jA P e with
  |some z=>.q false fun _ L _=>kU z (g L) (l L) (h L) (m L)
  |none=>iH d
 |_,_,_,_,_=>iH d
def qhj(P:Program)(d n:Nat)(s:TypeId)(x:Operand)(f:Nat):lM d:=
 match P.underlying s,aM d n x with
 |some (.struct fs),⟨g⟩=>match fs[f]? with
  |some fl=>match jA P fl.type with
   |some (_+1)=>.q false fun _ L _=>aN fl.offset (g L)
   |_=>iH d
  |none=>iH d
 |_,_=>iH d
def q7l(P:Program)(d n:Nat)(t:TypeId)(x:Operand)(f:Nat):lM d:=
 match P.underlying t,aM d n x with
 |some (.struct fs),⟨g⟩=>match fs[f]? with
  |some fl=>match qpg P fl.type with|p=>.q false fun _ L _=>zlo p fl.offset (g L)
  |none=>iH d
 |_,_=>iH d
def qhi(P:Program)(d n:Nat)(t:TypeId)(x i:Operand):lM d:=
 match P.underlying t,aM d n x,aM d n i with
 |some (.slice e),⟨g⟩,⟨h⟩=>match jA P e with
  |some z=>.q false fun _ L _=>aH z (g L) (h L)
  |none=>iH d
 |some (.array n e),⟨g⟩,⟨h⟩=>match jA P e with
  |some z=>.q false fun _ L _=>gQ n z (g L) (h L)
  |none=>iH d
 |_,_,_=>iH d
def q7k(P:Program)(d n:Nat)(t:TypeId)(x i:Operand):lM d:=
 match P.underlying t,aM d n x,aM d n i with
 |some .string,⟨g⟩,⟨h⟩=>.q false fun _ L _=>qdp (g L) (h L)
 |some (.array n e),⟨g⟩,⟨h⟩=>match jA P e,qpg P e with
  |some z,p=>.q false fun _ L _=>aIR p n z (g L) (h L)
  |none,_=>iH d
 |_,_,_=>iH d
def qux(P:Program)(d n:Nat)(t:TypeId)(m k:Operand)(ok:Bool):lM d:=
 match P.underlying t,aM d n m,aM d n k with
 |some (.map kt et),⟨g⟩,⟨h⟩=>match yV P kt,(P.info? et).bind (·.zero)with
  |some ky,some z=>.q true fun _ L H=>nR ky (qvd z) ok H (g L) (h L)
  |_,_=>iH d
 |_,_,_=>iH d
def qd1(P:Program)(d n:Nat)(t:TypeId)(m k x:Operand):lM d:=
 match P.underlying t,aM d n m,aM d n k,aM d n x with
 |some (.map kt _),⟨g⟩,⟨h⟩,⟨i⟩=>match yV P kt with
  |some ky=>.e fun _ L H=>kL ky H (g L) (h L) (i L)
  |none=>iH d
 |_,_,_,_=>iH d
def qjm(P:Program)(d n:Nat)(t:TypeId)(m k:Operand):lM d:=
 match P.underlying t,aM d n m,aM d n k with
 |some (.map kt et),⟨g⟩,⟨h⟩=>match yV P kt,(P.info? et).bind (·.zero)with
  |some ky,some z=>.e fun _ L H=>qj1 ky (qvd z) H (g L) (h L)
  |_,_=>iH d
 |_,_,_=>iH d
def qo2(d n:Nat)(m s x:Operand):lM d:=
 match aM d n m,aM d n s,aM d n x with
 |⟨g⟩,⟨h⟩,⟨i⟩=>.e fun _ L H=>qhu H (g L) (h L) (i L)
/- ranges over maps of at most one entry: an iterator is a block; its map's name and one more (0: no map), the map's clock, and what was seen -/
def q7m(d n:Nat)(x:Operand)(i:Nat):lM d:=
 match aM d n x with
 |⟨g⟩=>.q false fun _ L _=>match g L with
  | .bA l=>match l[i]? with|some v=>.val v|none=>.bad
  |_=>.bad
/- the one function without a body that is known: the comparison of two strings -/
def qqf:String := "internal".push (Char.ofNat 47) ++ "bytealg.abigen_runtime_cmpstring"
def ztf(P:Program)(f:FuncId):Bool:=
 match P.funcs[f]? with
 |some fn=>fn.body.isNone&&fn.name==qqf&&fn.origin == ""
 |none=>false
def aJh(l:List AV):R0:=
 match l with
 | [.str n a,.str m b]=>.val (.int .i64 (bif qd6 n n a m b then .negSucc 0 else bif eqS n a m b then .ofNat 0 else .ofNat 1))
 |_=>.bad
def q7n(P:Program)(d n:Nat)(f:FuncId)(args:List Operand):lM d:=
 match vV d n args,ztf P f with
 |⟨g⟩,true=>.q false fun _ L _=>aJh (g L)
 |⟨g⟩,false=>.e fun O L H=>O (.f f) (g L) H
def lJ(P:Program)(d n:Nat)(o:Oper):lM d:=
 match o.op with
 | .move x| .assign x=>z6v d n x
 | .pick c a b=>z6u d n c a b
 | .alloc t=>q7p P d t
 | .box t x=>aFt P d n t x
 | .build t ps=>q7o P d n t ps
 | .buildSlice t len ps=>qfo P d n t len ps
 | .load t a=>zr7 P d n t a
 | .store t a x=>q7h P d n t a x
 | .nilCheck x=>qxy d n x
 | .binOp op t x y _=>zxn P d n op t x y
 | .unOp op _ x=>z6s d n op x
 | .convert s t x=>qnd P d n s t x
 | .makeInterface t x=>qdi P d n t x
 | .makeFunc (.func f) first cap=>qxz d n f first cap
 | .makeMap _ none=>q7j d
 | .makeSlice t l c=>qhh P d n t l c
 | .slice t x lo hi mx=>q7i P d n t x lo hi mx
 | .fieldAddr s x f=>qhj P d n s x f
 | .field t x f=>q7l P d n t x f
 | .indexAddr t x i=>qhi P d n t x i
 | .index t x i=>q7k P d n t x i
 | .lookup t m k ok=>qux P d n t m k ok
 | .mapUpdate t m k x| .insert t m k x=>qd1 P d n t m k x
 | .mapEntry t m k=>qjm P d n t m k
 | .entryStore _ m s x=>qo2 d n m s x
 | .extract x i=>q7m d n x i
 | .call {callee:=.builtin b,args,argTypes}=>qhw P d n b args.toList argTypes.toList
 | .call {callee:=.value (.func f),args,..}=>q7n P d n f args.toList
 | .call {callee:=.value x,args,..}=>match aM d n x,vV d n args.toList with
  |⟨h⟩,⟨g⟩=>.e fun O L H=>wY O (h L) (g L) H
 |_=>iH d
/- running operations one behind the other -/
inductive Rs(d:Nat) where
 |bad
 |ok (L:TT AV d) (H:Hp)
structure Wd(d:Nat) where f:TT AV d->Option Bool
def xW(d n:Nat)(ops:Array Oper)(o:Oper):Wd d:=
 match o.guard with
 |none=>⟨fun _=>some true⟩
 |some (j,want)=>match(ops[j]?).bind (·.dst)with
  |some t=>bif Nat.blt t n then(match dR (α:=AV) d t with
   |⟨g⟩=>⟨fun L=>match g L with| .bool b=>some (b==want)| .undef=>some false|_=>none⟩)else⟨fun _=>none⟩
  |none=>⟨fun _=>none⟩
structure Pt(d:Nat) where f:TT AV d->AV->TT AV d
def eG(d n:Nat):Option Tmp->Pt d
 |some t=>bif Nat.blt t n then(match setter (α:=AV) d t with|⟨s⟩=>⟨s⟩)else⟨fun L _=>L⟩
 |none=>⟨fun L _=>L⟩
structure St(d:Nat) where f:Call->TT AV d->Hp->Rs d
def doQ{d:Nat}(put:TT AV d->AV->TT AV d)(L:TT AV d)(H:Hp)(r:R0):Rs d:=
 match r with
 | .bad=>.bad
 | .val v=>.ok (put L v) H
 | .new v b=>.ok (put L v) (aI H b)
def doE{d:Nat}(put:TT AV d->AV->TT AV d)(L:TT AV d)(r:R1):Rs d:=
 match r with
 | .bad=>.bad
 | .ok v H=>.ok (put L v) H
def ifW{d:Nat}(w:Option Bool)(a b:Rs d):Rs d:=
 match w with
 |some true=>a
 |some false=>b
 |none=>.bad
def q28(P:Program)(d n:Nat)(ops:Array Oper)(o:Oper):St d:=
 match lJ P d n o,o.guard,xW d n ops o,eG d n o.dst with
 | .q _ f,none,_,⟨put⟩=>⟨fun _ L H=>doQ put L H (f H.nx L H)⟩
 | .e f,none,_,⟨put⟩=>⟨fun O L H=>doE put L (f O L H)⟩
 | .q _ f,some _,⟨w⟩,⟨put⟩=>⟨fun _ L H=>ifW (w L) (doQ put L H (f H.nx L H)) (.ok (put L .undef) H)⟩
 | .e f,some _,⟨w⟩,⟨put⟩=>⟨fun O L H=>ifW (w L) (doE put L (f O L H)) (.ok (put L .undef) H)⟩
def zt9{d:Nat}(r:Rs d)(k:TT AV d->Hp->Rs d):Rs d:=match r with| .bad=>.bad| .ok L H=>k L H
/- deferred calls wait in the slot behind the temporaries -/
def sM(o:Oper):Bool:=match o.op with| .defer _=>true|_=>false
structure DfC where
 x:Operand
 args:List Operand
def aCl(o:Oper):Option DfC:=
 match o.op,o.guard with
 | .defer {callee:=.value x,args,..},none=>some ⟨x,args.toList⟩
 |_,_=>none
def dl:AV->List AV
 | .bA l=>l
 |_=>[]
def doD{d:Nat}(n:Nat)(put:TT AV d->AV->TT AV d)(L:TT AV d)(H:Hp)(x:AV)(as:List AV):Rs d:=
 match x with
 | .fn f first cap=>.ok (put ((setter d n).f L (.bA (.fn f (first++as++cap) []::dl ((dR d n).f L)))) .undef) H
 |_=>.bad
def qqt(P:Program)(d n:Nat)(ops:Array Oper)(o:Oper):St d:=
 match aCl o with
 |none=>q28 P d n ops o
 |some c=>match aM d n c.x,vV d n c.args,eG d n o.dst with
  |⟨g⟩,⟨h⟩,⟨put⟩=>⟨fun _ L H=>doD n put L H (g L) (h L)⟩
def vC(P:Program)(d n:Nat)(ops:Array Oper):List Oper->St d
 | []=>⟨fun _ L H=>.ok L H⟩
 |o::r=>⟨fun O L H=>zt9 ((qqt P d n ops o).f O L H) ((vC P d n ops r).f O)⟩
/- regions that draw their order -/
def hasB(m i:Nat):Bool:=Nat.beq (Nat.land (Nat.shiftRight m i) 1) 1
def vO(m i:Nat):Nat:=Nat.lor m (Nat.shiftLeft 1 i)
def aCP(m k:Nat):Bool:=Nat.beq (Nat.lor m k) k
def yS(o:Oper):List Nat:=(o.after.toList.filter (Region.binds .any)).map (·.on)
def qsh(ms:List Nat)(o:Oper):Nat:=(yS o).foldl (fun s j=>Nat.lor (vO s j) (ms.getD j 0)) 0
def qbt(ms:List Nat):List Oper->List Nat
 | []=>ms
 |o::r=>qbt (ms++[qsh ms o]) r
def z6g:Operand->Option Tmp
 | .tmp t=>some t
 |_=>none
def lX(ops:Array Oper)(o:Oper):List Tmp:=
 o.op.operands.toList.filterMap z6g++(match o.guard with|some (j,_)=>((ops[j]?).bind (·.dst)).toList|none=>[])
def qh7:Op->Bool
 | .alloc _| .box .. | .buildSlice .. | .convert .. | .makeMap .. | .makeSlice .. =>true
 |_=>false
structure Pj(d:Nat) where f:TT AV d->TT AV d
def oG(d n:Nat):List Tmp->Pj d
 | []=>⟨fun _=>same .undef d⟩
 |t::r=>bif Nat.blt t n then(match dR (α:=AV) d t,setter (α:=AV) d t,oG d n r with|⟨g⟩,⟨s⟩,⟨p⟩=>⟨fun L=>s (p L) (g L)⟩)else oG d n r
mutual
def nC:Nat->AV->AV->Bool
 |0,_,_=>false
 |k+1,x,y=>match x,y with
  | .undef,.undef| .bJ,.bJ| .aA,.aA| .sle,.sle| .bQ,.bQ| .jH,.jH| .pI,.pI=>true
  | .bool a,.bool b=>a==b
  | .int i a,.int j b=>decide (i=j)&&decide (a=b)
  | .str a b,.str c e=>Nat.beq a c&&Nat.beq b e
  | .ptr a b,.ptr c e=>Nat.beq a c&&Nat.beq b e
  | .sl a b c e f,.sl a' b' c' e' f'=>Nat.beq a a'&&Nat.beq b b'&&Nat.beq c c'&&Nat.beq e e'&&f==f'
  | .map a,.map b=>Nat.beq a b
  | .yield a,.yield b=>Nat.beq a b
  | .fn f a b,.fn g c e=>Nat.beq f g&&qW k a c&&qW k b e
  | .iface t a,.iface u b=>Nat.beq t u&&nC k a b
  | .agg a,.agg b=>qW k a b
  | .bA a,.bA b=>qW k a b
  |_,_=>false
def qW:Nat->List AV->List AV->Bool
 |0,_,_=>false
 |_,[],[]=>true
 |k+1,x::l,y::m=>nC k x y&&qW k l m
 |_,_,_=>false
end
structure Pd where
 (i nm:Nat)
 b:bW
structure Wt where
 (i A:Nat)
 f:Hp->R0
 v:AV
inductive Rx(d:Nat) where
 |bad
 |ok (L:TT AV d) (H:Hp) (pend:List Pd) (jM:List Wt)
structure Sx(d:Nat) where f:Call->Nat->TT AV d->Hp->List Pd->List Wt->Rx d
def dZ(A:Nat)(pend:List Pd)(H:Hp):Hp:=
 List.rec (motive:=fun _=>Hp) H (fun p _ ih=>bif hasB A p.i then ih.put p.nm p.b else ih) pend
def oF(pend:List Pd)(H:Hp):Hp:=
 List.rec (motive:=fun _=>Hp) H (fun p _ ih=>ih.put p.nm p.b) pend
def sG(A:Nat)(pend:List Pd):List Pd:=
 List.rec (motive:=fun _=>List Pd) [] (fun p _ ih=>bif hasB A p.i then ih else p::ih) pend
def rP(A:Nat)(jM:List Wt):List Wt:=
 List.rec (motive:=fun _=>List Wt) [] (fun p _ ih=>bif hasB A p.i then ih else p::ih) jM
def zjc(r:R0)(v:AV):Bool:=match r with| .val u=>nC 64 u v|_=>false
def qjc(pend:List Pd)(H:Hp)(jM:List Wt):Bool:=
 List.rec (motive:=fun _=>Bool) true (fun x _ ih=>zjc (x.f (dZ x.A pend H)) x.v&&ih) jM
def qX{d:Nat}(put:TT AV d->AV->TT AV d)(lk al:Bool)(i A nm:Nat)(L:TT AV d)(H:Hp)(pend:List Pd)(jM:List Wt)(f:Hp->R0)(w:Option Bool):Rx d:=
 match w with
 |none=>.bad
 |some false=>.ok (put L .undef) H pend jM
 |some true=>match f (dZ A pend H)with
  | .bad=>.bad
  | .val v=>.ok (put L v) H pend (bif lk then⟨i,A,f,v⟩::jM else jM)
  | .new v b=>bif al&&b.wr then .ok (put L v) H (⟨i,nm,b⟩::pend) jM else .bad
def eX{d:Nat}(put:TT AV d->AV->TT AV d)(A:Nat)(L:TT AV d)(H:Hp)(pend:List Pd)(jM:List Wt)(r:R1)(w:Option Bool):Rx d:=
 match w with
 |none=>.bad
 |some false=>.ok (put L .undef) H pend jM
 |some true=>match r with
  | .bad=>.bad
  | .ok v H'=>bif qjc (sG A pend) H' (rP A jM)then .ok (put L v) H' (sG A pend) (rP A jM)else .bad
def qxh(P:Program)(d n:Nat)(ops:Array Oper)(i A:Nat)(o:Oper):Sx d:=
 match lJ P d n o,oG d n (lX ops o),xW d n ops o,eG d n o.dst with
 | .q lk f,⟨pj⟩,⟨w⟩,⟨put⟩=>⟨fun _ base L H pend jM=>qX put lk (qh7 o.op&& !lk) i A (base+i) L H pend jM (f (base+i) (pj L)) (w (pj L))⟩
 | .e f,⟨pj⟩,⟨w⟩,⟨put⟩=>⟨fun O _ L H pend jM=>eX put A L H pend jM (f O (pj L) (dZ A pend H)) (w (pj L))⟩
def z4r{d:Nat}(r:Rx d)(k:TT AV d->Hp->List Pd->List Wt->Rx d):Rx d:=match r with| .bad=>.bad| .ok L H p w=>k L H p w
def vK(P:Program)(d n:Nat)(ops:Array Oper)(ms:List Nat):List Nat->Sx d
 | []=>⟨fun _ _ L H p w=>.ok L H p w⟩
 |i::r=>match ops[i]? with
  |some o=>⟨fun O base L H p w=>z4r ((qxh P d n ops i (ms.getD i 0) o).f O base L H p w) ((vK P d n ops ms r).f O base)⟩
  |none=>⟨fun _ _ _ _ _ _=>.bad⟩
def isE{d:Nat}:lM d->Bool
 | .e _=>true
 | .q .. =>false
def aF0{d:Nat}:lM d->Bool
 | .q lk _=>lk
 | .e _=>false
structure Kd where
 (i A:Nat)
 (nH lk:Bool)
def qsi(P:Program)(d n:Nat)(ms:List Nat):Nat->List Oper->List Kd
 |_,[]=>[]
 |i,o::r=>⟨i,ms.getD i 0,isE (lJ P d n o),aF0 (lJ P d n o)⟩::qsi P d n ms (i+1) r
def zl2(ks:List Kd):Nat:=ks.foldl (fun s k=>bif k.nH then vO s k.i else s) 0
def zj3(EM:Nat):Nat->Nat->List Kd->List Nat
 |0,_,ks=>ks.map (·.i)
 |k+1,E,ks=>
  match ks.filter (fun x=> !x.nH&&aCP (Nat.land x.A EM) E),ks.filter (fun x=>x.nH|| !aCP (Nat.land x.A EM) E)with
  |now,rest=>now.map (·.i) ++
   match rest.filter (fun x=>x.nH&&aCP (Nat.land x.A EM) E)with
   |e::_=>e.i::zj3 EM k (vO E e.i) (rest.filter fun x=> !(Nat.beq x.i e.i))
   | []=>rest.map (·.i)
def qye(ops:Array Oper)(ks:List Kd):Nat->Nat->List Nat->Bool
 |_,_,[]=>true
 |D,E,i::r=>match ops[i]?,ks[i]? with
  |some o,some k=>(yS o).all (hasB D)&& !hasB D i&&(!(k.nH||k.lk)||aCP E k.A)&&qye ops ks (vO D i) (bif k.nH then vO E i else E) r
  |_,_=>false
def qsx:Nat->List Oper->Bool
 |_,[]=>true
 |i,o::r=>(yS o).all (fun j=>Nat.blt j i)&&qsx (i+1) r
def q63(ops:Array Oper)(ms:List Nat):Bool:=
 (List.range ops.size).all fun k=>match ops[k]? with
  |none=>false
  |some o=>(List.range ops.size).all fun i=>match ops[i]? with
   |none=>false
   |some o'=>match o'.dst with
    |none=>true
    |some t=>Nat.beq i k||hasB (ms.getD k 0) i||hasB (ms.getD i 0) k|| !((lX ops o).contains t||o.dst==some t)
structure Pln where
 ms:List Nat
 ord:List Nat
 up:Nat
def q3u(P:Program)(d n:Nat)(ops:Array Oper):Option Pln:=
 match qbt [] ops.toList with
 |ms=>match qsi P d n ms 0 ops.toList with
  |ks=>match zj3 (zl2 ks) ks.length 0 ks with
   |ord=>bif qsx 0 ops.toList&&q63 ops ms&&Nat.beq ord.length ops.size&&qye ops ks 0 0 ord then
     some ⟨ms,ord,bif ops.toList.any (fun o=>qh7 o.op)then ops.size else 0⟩else none
def qq2(P:Program)(d n:Nat)(ops:Array Oper):St d:=
 match q3u P d n ops with
 |none=>⟨fun _ _ _=>.bad⟩
 |some pl=>match vK P d n ops pl.ms pl.ord with
  |⟨g⟩=>⟨fun O L H=>match g O H.nx L ⟨H.t,H.nx+pl.up⟩ [] []with| .bad=>.bad| .ok L' H' pend _=>.ok L' (oF pend H')⟩
/- code -/
structure Dn(d:Nat) where f:Call->TT AV d->Hp->Rc d
def pO{d:Nat}:Rs d->Rc d
 | .bad=>.bad
 | .ok L H=>.ok .normal L H
def zW{d:Nat}(r:Rc d)(k:TT AV d->Hp->Rc d):Rc d:=
 match r with
 | .ok .normal L H=>k L H
 |r=>r
def qzs{d:Nat}(id:Nat)(r:Rc d):Rc d:=
 match r with
 | .ok (.exit id') L H=>bif Nat.beq id' id then .ok .normal L H else .ok (.exit id') L H
 |r=>r
def condC{d:Nat}(c:AV)(a b:Rc d):Rc d:=
 match c with
 | .bool true=>a
 | .bool false=>b
 |_=>.bad
def qyy{d:Nat}(b:TT AV d->Hp->Rc d)(n:Nat):TT AV d->Hp->Rc d:=
 Nat.rec (motive:=fun _=>TT AV d->Hp->Rc d) (fun _ _=>.bad) (fun _ ih L H=>zW (b L H) ih) n
def bZ:Nat:=1000000
def endLoop{d:Nat}(l:Nat)(r:R1)(L:TT AV d):Rc d:=
 match r with
 | .bad=>.bad
 | .ok _ H=>match H.get l with
  | .loop true none .. =>.ok .normal L (H.put l .dead)
  | .loop false (some .ret) .. =>.ok .ret L (H.put l .dead)
  | .loop false (some (.exit id)) .. =>.ok (.exit id) L (H.put l .dead)
  |_=>.bad
def lI:Code->Bool
 | .region _ ops _=> !(ops.toList.any sM)
 | .seq a b=>lI a&&lI b
 | .cond _ a b=>lI a&&lI b
 | .block _ b=>lI b
 | .loop b=>lI b
 | .scope _=>false
 | .rangeFunc .. =>false
 |_=>true
def den(P:Program)(d n:Nat):Code->Dn d
 | .skip| .label _=>⟨fun _ L H=>.ok .normal L H⟩
 | .region _ ops false=>⟨fun O L H=>pO ((vC P d n ops ops.toList).f O L H)⟩
 | .region _ ops true=>match qq2 P d n ops with|⟨g⟩=>⟨fun O L H=>pO (g O L H)⟩
 | .seq a b=>⟨fun O L H=>zW ((den P d n a).f O L H) ((den P d n b).f O)⟩
 | .cond x a b=>match aM d n x with|⟨g⟩=>⟨fun O L H=>condC (g L) ((den P d n a).f O L H) ((den P d n b).f O L H)⟩
 | .block id b=>⟨fun O L H=>qzs id ((den P d n b).f O L H)⟩
 | .loop b=>⟨fun O L H=>qyy ((den P d n b).f O) bZ L H⟩
 | .scope b=>den P d n b
 | .exit id=>⟨fun _ L H=>.ok (.exit id) L H⟩
 | .goto _=>⟨fun _ _ _=>.bad⟩
 | .ret=>⟨fun _ L H=>.ok .ret L H⟩
 | .rangeFunc f ps assign body=>match aM d n f,lI assign&&lI body with
  |_,false=>⟨fun _ _ _=>.bad⟩
  |⟨g⟩,true=>⟨fun O L H=>endLoop H.nx (qj3 O (g L) [.yield H.nx] (aI H (.loop true none d n L ps.toList assign body))) L⟩
 | .refuse _=>⟨fun _ _ _=>.bad⟩
/- functions -/
structure Rv(d:Nat) where f:TT AV d->Hp->Option AV
def aCq(P:Program)(d n:Nat):ResultVar->Rv d
 | .tmp t=>match aM d n (.tmp t)with|⟨g⟩=>⟨fun L _=>some (g L)⟩
 | .cell a t=>match aM d n (.tmp a),uP P t,jA P t with
  |⟨g⟩,some true,some k=>⟨fun L H=>match cO k H (g L)with| .val v=>some v|_=>none⟩
  |⟨g⟩,some false,some _=>⟨fun L H=>match aR H (g L)with| .val v=>some v|_=>none⟩
  |_,_,_=>⟨fun _ _=>none⟩
structure RvL(d:Nat) where f:TT AV d->Hp->Option (List AV)
def zab(P:Program)(d n:Nat):List ResultVar->RvL d
 | []=>⟨fun _ _=>some []⟩
 |x::r=>match aCq P d n x,zab P d n r with
  |⟨g⟩,⟨h⟩=>⟨fun L H=>match g L H,h L H with|some v,some l=>some (v::l)|_,_=>none⟩
def qcs(P:Program)(d n:Nat)(rs:List ResultVar):Rv d:=
 match rs with
 | [x]=>aCq P d n x
 |l=>match zab P d n l with|⟨h⟩=>⟨fun L H=>match h L H with|some l=>some (.bA l)|none=>none⟩
def aFg(O:Call)(l:List AV):Hp->Option Hp:=
 List.rec (motive:=fun _=>Hp->Option Hp) (fun H=>some H) (fun x _ ih H=>match x with
  | .fn g all []=>match O (.d g) all H with| .ok _ H'=>ih H'| .bad=>none
  |_=>none) l
def dM(v:Option AV)(H:Hp):R1:=match v with|some v=>.ok v H|none=>.bad
def jR{d:Nat}(n:Nat)(O:Call)(res:TT AV d->Hp->Option AV)(L:TT AV d)(H:Hp):R1:=
 match aFg O (dl ((dR d n).f L)) H with
 |some H'=>dM (res L H') H'
 |none=>.bad
def aGj{d:Nat}(n:Nat)(O:Call)(res:TT AV d->Hp->Option AV)(r:Rc d):R1:=
 match r with
 | .ok .normal L H=>jR n O res L H
 | .ok .ret L H=>jR n O res L H
 |_=>.bad
structure Fd where f:Call->List AV->Hp->R1
def aK(P:Program)(f:FuncId):Fd:=
 match P.funcs[f]? with
 |none=>⟨fun _ _ _=>.bad⟩
 |some fn=>if fn.name == "runtime.NumGoroutine" then⟨fun _ _ _=> .bad⟩else match fn.body with
  |none=>⟨fun _ _ _=>.bad⟩
  |some c=>
   match qcs P (iF (fn.ntmps+1)) fn.ntmps fn.results.toList with
   |⟨res⟩=>⟨fun O args H=>bif Nat.ble args.length fn.ntmps&&Nat.ble (fn.ntmps+1) 262144 then aGj fn.ntmps O res ((den P (iF (fn.ntmps+1)) fn.ntmps c).f O (pX args 0 (same .undef _)) H)else .bad⟩
def qpd(P:Program)(f:FuncId):Bool:=
 match P.funcs[f]? with
 |some fn=>(match fn.body with|some c=>lI c|none=>false)
 |none=>false
def qgk{d:Nat}(L:TT AV d)(ps:List Tmp)(args:List AV):TT AV d:=
 match ps,args with
 |p::ps,a::as=>qgk ((setter d p).f L a) ps as
 |_,_=>L
def zxx:Ex->Option (Option Code)
 | .normal=>some none
 | .ret=>some (some .ret)
 | .exit id=>some (some (.exit id))
 | .goto _=>none
def endRound{d:Nat}(l:Nat)(r:Rc d):R1:=
 match r with
 | .bad=>.bad
 | .ok e _ H=>match zxx e with
  |none=>.bad
  |some j=>match H.get l with
   | .loop false none d n L ps assign body=>.ok (.bool j.isNone) (H.put l (.loop j.isNone j d n L ps assign body))
   |_=>.bad
def qh1(P:Program)(O:Call)(l:Nat)(args:List AV)(H:Hp):R1:=
 match H.get l with
 | .loop true none d n L ps assign body=>
  bif Nat.beq ps.length args.length&&ps.all (fun p=>Nat.blt p n)then
   match(den P d n assign).f O (qgk ((setter d n).f L .undef) ps args) H with
   | .ok .normal L1 H1=>match H1.get l with
    | .loop true none d' n' L' ps' xG body'=>endRound l ((den P d n body).f O L1 (H1.put l (.loop false none d' n' L' ps' xG body')))
    |_=>.bad
   |_=>.bad
  else .bad
 |_=>.bad
def qsj:R1->Bool
 | .ok (.bool b) _=>b
 |_=>false
end Go.Ev
end
noncomputable section
namespace Go.Ev
variable {α:Type}
def qqv(k:Nat)(t:Q α):α:=
 match k with
 |0=>t.c0|1=>t.c1|2=>t.c2|3=>t.c3|4=>t.c4|5=>t.c5|6=>t.c6|_=>t.c7
def aIn(k:Nat)(t:Q α)(v:α):Q α:=
 match k with
 |0=>{t with c0:=v}|1=>{t with c1:=v}|2=>{t with c2:=v}|3=>{t with c3:=v}
 |4=>{t with c4:=v}|5=>{t with c5:=v}|6=>{t with c6:=v}|_=>{t with c7:=v}
theorem z8u(i:Nat):Nat.land i 7=i%8:=by have:=Nat.and_two_pow_sub_one_eq_mod i 3;omega
theorem aMp(i:Nat):Nat.shiftRight i 3=i / 8:=by have:=Nat.shiftRight_eq_div_pow i 3;omega
theorem lt8{k:Nat}(h:k<8):k=0\/k=1\/k=2\/k=3\/k=4\/k=5\/k=6\/k=7:=by omega
theorem qfw(d i:Nat)(t:TT α (d+1)):(dR (d+1) i).f t=(dR d (i / 8)).f (qqv (i%8) t):=by have e:dR (α:=α) (d+1) i=zX.rec (motive:=fun _=>zX α (d+1)) (fun g=>lU.rec (motive:=fun _=>zX α (d+1)) (fun s=>⟨fun t=>g (s t)⟩) (sel (TT α d) (Nat.land i 7))) (dR d (Nat.shiftRight i 3)):=rfl;rw[e,z8u,aMp];generalize dR (α:=α) d (i / 8)=g;cases g;cases t;rcases lt8 (xq i (by grind))with h|h|h|h|h|h|h|h<;>rw[h]<;>rfl
theorem q3h(d i:Nat)(t:TT α (d+1))(v:α):(setter (d+1) i).f t v=aIn (i%8) t ((setter d (i / 8)).f (qqv (i%8) t) v):=by have e:setter (α:=α) (d+1) i=zC.rec (motive:=fun _=>zC α (d+1)) (fun g=>lN.rec (motive:=fun _=>zC α (d+1)) (fun s=>⟨fun t v=>s (fun c=>g c v) t⟩) (aOj (TT α d) (Nat.land i 7))) (setter d (Nat.shiftRight i 3)):=rfl;rw[e,z8u,aMp];generalize setter (α:=α) d (i / 8)=g;cases g;cases t;rcases lt8 (xq i (by grind))with h|h|h|h|h|h|h|h<;>rw[h]<;>rfl
theorem zsq(k j:Nat)(a:k<8)(b:j<8)(t:Q α)(v:α):qqv k (aIn j t v)=if k=j then v else qqv k t:=by
 rcases lt8 a with rfl|rfl|rfl|rfl|rfl|rfl|rfl|rfl <;>
  grind [lt8,qqv,aIn]
theorem qex(d:Nat):∀(i j:Nat) (t:TT α d) (v:α),i<8 ^ d->j<8 ^ d -> (dR d i).f ((setter d j).f t v)=if i=j then v else(dR d i).f t:=by
 induction d with
 |zero=>
  intro i j t v a b;have:i=j:=by grind
  subst this;rw[qj rfl];rfl
 |succ d ih=>
  grind [dR,setter,qqv,grind,qfw,q3h,zsq,xq]
theorem qhp(a:α)(d:Nat):∀ i,(dR d i).f (same a d)=a:=by
 induction d with
 |zero=>intro i;rfl
 |succ d ih=>
  intro i;rw[qfw];have:qqv (i%8) (same a (d+1):Q (TT α d))=same a d:=by rcases lt8 (xq i (by grind))with h|h|h|h|h|h|h|h<;>rw[h]<;>rfl
  rw[this,ih]
theorem qb5(n:Nat):n<=8 ^ iF n:=by
 unfold iF;simp only[cond_eq_ite,Nat.ble_eq]
 grind [zo,Nat.lt_pow_self]
theorem q89(n:Nat)(_:n<=262144):n<=8 ^ iF n:=qb5 n
theorem qu5{d:Nat}(c:TT AV d)(k o:Nat):w9 c (k+1) o=(dR d o).f c::w9 c k (o+1):=rfl
theorem qhm{d:Nat}(c:TT AV d)(k:Nat):∀ o,(w9 c k o).length=k:=by
 induction k with
 |zero=>intro o;rfl
 |succ k ih=>intro o;rw[qu5,pq,ih]
theorem zjo{d:Nat}(c:TT AV d)(k:Nat):∀ o i,i<k->(w9 c k o)[i]? =some ((dR d (o+i)).f c):=by
 induction k with
 |zero=>intro o i h;omega
 |succ k ih=>
  intro o i h;rw[qu5];cases i with
  |zero=>rfl
  |succ i=>rw[lAY,ih _ _ (by omega),show o+1+i=o+(i+1)by omega]
theorem z13{d:Nat}(o:Nat)(c:TT AV d):pX [] o c=c:=rfl
theorem zrl{d:Nat}(v:AV)(l:List AV)(o:Nat)(c:TT AV d):pX (v::l) o c=pX l (o+1) ((setter d o).f c v):=rfl
theorem qif{d:Nat}(l:List AV):∀(o:Nat) (c:TT AV d) (i:Nat),o+l.length<=8 ^ d->i<8 ^ d -> (dR d i).f (pX l o c)=if o<=i/\i<o+l.length then l.getD (i-o) .undef else(dR d i).f c:=by
 induction l with
 |nil=>intro o c i _ _;rw[z13,pg (by simp)]
 |cons v l ih=>
  grind [pq,zrl,qex,grind]
theorem zse{d:Nat}(c:TT AV d)(o:Nat):w9 c 0 o=[]:=rfl
end Go.Ev
end
noncomputable section
namespace Go.Ev
open Go.RowKit
structure Loc where
 (blk base ext z:Nat)
abbrev Im:=Nat->Option Loc
def qef(n a:Nat)(s:ByteArray):Prop:=s.data.toList.length=n/\kD s.data.toList=a
mutual
def aO(ι:Im):AV->Value->Prop
 | .undef,V=>V=.tuple #[]
 | .lit v,V=>V=v
 | .bool b,V=>V=.bool b
 | .int k n,V=>V=.int k n
 | .str n a,V=>∃ s,V=.string s/\qef n a s
 | .ptr b o,V=>∃ l,ι b=some l/\V=.pointer (some ⟨l.blk,l.base+o,none⟩)
 | .bJ,V=>V=.pointer none
 | .sl b o len cap ex,V=>len<=cap/\∃ l,ι b=some l/\V=.slice (some ⟨l.blk,l.base+o,none⟩) len (if ex then cap else cap+l.ext)
 | .aA,V=>V=.slice none 0 0
 | .sle,V=>∃ a c,V=.slice (some a) 0 c
 | .map b,V=>∃ l,ι b=some l/\V=.map (some l.blk)
 | .bQ,V=>V=.map none
 | .fn f first cap,V=>∃ F C,aL ι first F/\aL ι cap C/\V=.func (.func f) F.toArray C.toArray
 | .yield b,V=>∃ l,ι b=some l/\V=.func (.yield l.blk) #[] #[]
 | .jH,V=>V=.nilFunc
 | .iface t v,V=>∃ X,aO ι v X/\V=.iface t X
 | .pI,V=>V=.nilIface
 | .agg l,V=>∃ vs,aL ι l vs/\V=.agg vs.toArray/\∀ v∈vs,v.oneCell=true
 | .bA l,V=>∃ vs,aL ι l vs/\V=.tuple vs.toArray
def aL(ι:Im):List AV->List Value->Prop
 | [],vs=>vs=[]
 |a::l,vs=>∃ v r,vs=v::r/\aO ι a v/\aL ι l r
end
def Im.le(ι ι':Im):Prop:=∀ b l,ι b=some l->ι' b=some l
theorem Im.le_refl(ι:Im):ι.le ι:=fun _ _ h=>h
theorem Im.le_trans{a b c:Im}(h:a.le b)(k:b.le c):a.le c:=fun x l e=>k x l (h x l e)
mutual
theorem aO.mono{ι d:Im}(h:ι.le d):(v:AV)->(V:Value)->aO ι v V->aO d v V
 | .undef,V,hr| .lit _,V,hr| .bool _,V,hr| .int _ _,V,hr| .str _ _,V,hr| .bJ,V,hr| .aA,V,hr| .sle,V,hr
 | .bQ,V,hr| .jH,V,hr| .pI,V,hr=>by simpa only[aO] using hr
 | .ptr b o,V,hr=>by simp only[aO]at *;obtain⟨l,a,c⟩:=hr;exact⟨l,h _ _ a,c⟩
 | .sl b o len cap ex,V,hr=>by simp only[aO]at *;obtain⟨e,l,a,c⟩:=hr;exact⟨e,l,h _ _ a,c⟩
 | .map b,V,hr=>by simp only[aO]at *;obtain⟨l,a,c⟩:=hr;exact⟨l,h _ _ a,c⟩
 | .yield b,V,hr=>by simp only[aO]at *;obtain⟨l,a,c⟩:=hr;exact⟨l,h _ _ a,c⟩
 | .fn f first cap,V,hr=>by simp only[aO]at *;obtain⟨F,C,a,c,g⟩:=hr;exact⟨F,C,aL.mono h first F a,aL.mono h cap C c,g⟩
 | .iface t v,V,hr=>by simp only[aO]at *;obtain⟨X,a,c⟩:=hr;exact⟨X,aO.mono h v X a,c⟩
 | .agg l,V,hr=>by simp only[aO]at *;obtain⟨vs,a,c⟩:=hr;exact⟨vs,aL.mono h l vs a,c⟩
 | .bA l,V,hr=>by simp only[aO]at *;obtain⟨vs,a,c⟩:=hr;exact⟨vs,aL.mono h l vs a,c⟩
theorem aL.mono{ι b:Im}(h:ι.le b):(l:List AV)->(vs:List Value)->aL ι l vs->aL b l vs
 | [],vs,hr=>by simpa only[aL] using hr
 |a::l,vs,hr=>by simp only[aL]at *;obtain⟨v,r,c,d,e⟩:=hr;exact⟨v,r,c,aO.mono h a v d,aL.mono h l r e⟩
end
theorem aL.length{ι:Im}:∀{l:List AV} {vs:List Value},aL ι l vs->vs.length=l.length
 | [],vs,h=>by simp only[aL]at h;simp[h]
 |a::l,vs,h=>by simp only[aL]at h;obtain⟨v,r,rfl,_,b⟩:=h;simp[aL.length b]
theorem aL.get{ι:Im}:∀{l:List AV} {vs:List Value},aL ι l vs->∀(i:Nat) (a:AV),l[i]? =some a->∃ v,vs[i]? =some v/\aO ι a v
 | [],vs,h,i,a,hi=>by simp at hi
 |x::l,vs,h,i,a,hi=>by
  simp only[aL]at h;obtain⟨v,r,rfl,b,c⟩:=h;cases i with
  |zero=>simp at hi;subst hi;exact⟨v,rfl,b⟩
  |succ i=>simp at hi;obtain⟨d,e,f⟩:=aL.get c i a hi;exact⟨d,by simpa using e,f⟩
theorem aL.append{ι:Im}:∀{l m:List AV} {vs a:List Value},aL ι l vs->aL ι m a->aL ι (l++m) (vs++a)
 | [],m,vs,a,h,k=>by simp only[aL]at h;subst h;simpa using k
 |x::l,m,vs,a,h,k=>by simp only[aL]at h;obtain⟨v,r,rfl,b,c⟩:=h;simp only[lA7,aL];exact⟨v,r++a,rfl,b,aL.append c k⟩
theorem aL.drop{ι:Im}:∀{l:List AV} {vs:List Value} (n:Nat),aL ι l vs->aL ι (l.drop n) (vs.drop n)
 |l,vs,0,h=>by simpa using h
 | [],vs,n+1,h=>by simp only[aL]at h;subst h;simp[aL]
 |x::l,vs,n+1,h=>by simp only[aL]at h;obtain⟨v,r,rfl,b,a⟩:=h;simpa using aL.drop n a
theorem aL.take{ι:Im}:∀{l:List AV} {vs:List Value} (n:Nat),aL ι l vs->aL ι (l.take n) (vs.take n)
 |l,vs,0,h=>by simp[aL]
 | [],vs,n+1,h=>by simp only[aL]at h;subst h;simp[aL]
 |x::l,vs,n+1,h=>by simp only[aL]at h;obtain⟨v,r,rfl,a,b⟩:=h;simp only[iq,aL];exact⟨v,r.take n,rfl,a,aL.take n b⟩
theorem aL.aBF{ι:Im}:∀{l:List AV} {vs:List Value},vs.length=l.length->(∀(i:Nat) (a:AV),l[i]? =some a->∃ v,vs[i]? =some v/\aO ι a v)->aL ι l vs
 | [],vs,h,_=>by simp only[aL];exact tu.1 (by simpa using h)
 |x::l,[],h,_=>by simp at h
 |x::l,v::r,h,k=>by
  simp only[aL];refine⟨v,r,rfl,?_,aL.aBF (by simpa using h) fun i a e=>?_⟩
  ·obtain⟨d,b,c⟩:=k 0 x rfl;simp at b;subst b;exact c
  ·obtain⟨d,b,c⟩:=k (i+1) a (by simpa using e);exact⟨d,by simpa using b,c⟩
theorem aL.singleton{ι:Im}{a:AV}{v:Value}(h:aO ι a v):aL ι [a] [v]:=by simp only[aL];exact⟨v,[],rfl,h,rfl⟩
def dS(ι:Im):List gD->List MapEntry->Prop
 | [],es=>es=[]
 |x::l,es=>∃ e r,es=e::r/\aO ι x.key e.key/\aO ι x.val e.val/\e.born=x.born/\dS ι l r
theorem dS.mono{ι a:Im}(h:ι.le a):∀(l:List gD) (es:List MapEntry),dS ι l es->dS a l es
 | [],es,k=>k
 |x::l,es,k=>by simp only[dS]at *;obtain⟨e,r,b,c,d,f,g⟩:=k;exact⟨e,r,b,aO.mono h _ _ c,aO.mono h _ _ d,f,dS.mono h _ _ g⟩
structure LR(ι:Im)(d n:Nat)(L:TT AV d)(tmps:Array Value):Prop where
 size:tmps.size=n
 fits:n<8 ^ d
 get:∀ i,i<n->aO ι ((dR d i).f L) (tmps.getD i Go.undef)
theorem LR.fit{ι:Im}{d n:Nat}{L:TT AV d}{tmps:Array Value}(k:LR ι d n L tmps):n<=8 ^ d:=zo k.fits
theorem LR.mono{ι a:Im}{d n:Nat}{L:TT AV d}{tmps:Array Value}(h:ι.le a)(k:LR ι d n L tmps):LR a d n L tmps:=
 ⟨k.size,k.fits,fun i b=>aO.mono h _ _ (k.get i b)⟩
theorem LR.set{ι:Im}{d n:Nat}{L:TT AV d}{tmps:Array Value}(k:LR ι d n L tmps){t:Nat}(b:t<n){v:AV}{V:Value}(c:aO ι v V):LR ι d n ((setter d t).f L v) (tmps.setIfInBounds t V):=by
 have a:=k.size;have f:=k.fits;refine⟨by simp[a],f,fun i e=>?_⟩;rw[qex _ _ _ _ _ (by omega) (by omega)];by_cases h:i=t
 ·subst h;rw[qj rfl];simp[a,b];exact c
 ·rw[pg h];have:=k.get i e;simpa [Array.getElem?_setIfInBounds_ne (Ne.symm h)] using this
def BR(ι:Im)(w:World)(b:Nat):bW->Prop
 | .dead=>True
 | .cells d n c ro z=>∃ l,ι b=some l/\(n<=8 ^ d/\l.z=z) /\
   (∀i,i<n->∃ V,w.cell? ⟨l.blk,l.base+i,none⟩=some V/\aO ι ((dR d i).f c) V/\V.oneCell=true/\(ro=false->w.frozen? ⟨l.blk,l.base+i,none⟩=false)) /\
   (ro=false->∀ j,j<l.ext*l.z->∃ V,w.cell? ⟨l.blk,l.base+(n+j),none⟩=some V/\w.frozen? ⟨l.blk,l.base+(n+j),none⟩=false/\V.oneCell=true)
 | .map es clock=>∃ l ES,ι b=some l/\w.heap[l.blk]? =some (.map ES.toArray clock)/\dS ι es ES
 | .sH m since pos=>∃ l r,ι b=some l/\l.base=0/\w.heap[l.blk]? =some (.mapIter r since (match pos with|0=> #[]|p+1=> #[p]) since) /\
   (match m with|0=>r=none|m'+1=>∃ lm,ι m'=some lm/\r=some lm.blk)
 | .loop ready pending d n L params assign body=>∃ l lp,ι b=some l/\w.heap[l.blk]? =some (.loop lp) /\
   lp.state=(if ready then .ready else if pending.isSome then .done else .busy)/\lp.pending=pending/\lp.params.toList=params/\lp.assign=assign/\lp.body=body/\LR ι d n L lp.tmps/\lI assign=true/\lI body=true
def bW.bD:bW->Bool
 | .dead=>true
 |_=>false
theorem bW.aW{b:bW}(h:b.wr=true):b.bD=false:=by cases b<;>simp_all [bW.wr,bW.bD]
def eT(_:Nat):Prop:=True
theorem p8{b:Nat}:eT b:=trivial
structure HR(ι:Im)(H:Hp)(w:World):Prop where
 top:eT (H.nx)
 blk:∀ b,eT (b)->BR ι w b (H.get b)
 low:∀ b l,eT (b)->(H.get b).bD=false->ι b=some l->l.blk<w.heap.size
 inj:∀ b c l m,eT (b)->eT (c)->(H.get b).wr=true->(H.get c).bD=false->ι b=some l->ι c=some m->l.blk=m.blk->b=c
 fresh:∀ b,H.nx<=b->ι b=none
 free:∀ b,H.nx<=b->eT (b)->H.get b=.dead
theorem HR.lt{ι:Im}{H:Hp}{w:World}(_:HR ι H w){b:Nat}{l:Loc}(_:ι b=some l):eT (b):=by exact p8
structure Fr(ι ι':Im)(H H':Hp)(w w':World):Prop where
 le:ι.le ι'
 nx:H.nx<=H'.nx
 dom:∀ b,ι b=none->ι' b≠none->H.nx<=b
 os:w'.os=w.os
 tape:w'.tape=w.tape
 output:w'.output=w.output
 size:w.heap.size<=w'.heap.size
 keep:∀ c,c<w.heap.size->(∀b l,eT (b)->(H.get b).wr=true->ι b=some l->l.blk≠c)->w'.heap[c]? =w.heap[c]?
 new:∀ b l,eT (b)->(H'.get b).wr=true->ι' b=some l->w.heap.size<=l.blk\/∃ b0 l0,eT (b0)/\(H.get b0).wr=true/\ι b0=some l0/\l0.blk=l.blk
 live:∀ b l,eT (b)->(H'.get b).bD=false->ι' b=some l->w.heap.size<=l.blk\/∃ b0 l0,eT (b0)/\(H.get b0).bD=false/\ι b0=some l0/\l0.blk=l.blk
theorem Fr.refl(ι:Im)(H:Hp)(w:World):Fr ι ι H H w w:=
 ⟨Im.le_refl _,lu _,fun _ h k=>absurd h k,rfl,rfl,rfl,lu _,fun _ _ _=>rfl,fun b l a c d=>.inr ⟨b,l,a,c,d,rfl⟩,fun b l a c d=>.inr ⟨b,l,a,c,d,rfl⟩⟩
theorem Fr.trans{ι v e:Im}{H A i:Hp}{w w' j:World}(f:Fr ι v H A w w')(g:Fr v e A i w' j):Fr ι e H i w j:=by
 refine⟨Im.le_trans f.le g.le,rq f.nx g.nx,fun b h k=>?_,g.os.trans f.os,g.tape.trans f.tape,g.output.trans f.output,rq f.size g.size,fun c B C=>?_,fun b l m n o=>?_,fun b l m n o=>?_⟩
 ·cases D:v b with
  |none=>exact rq f.nx (g.dom b D k)
  |some l=>exact f.dom b h (by simp[D])
 ·rw[g.keep c (ku B f.size) ?_,f.keep c B C];intro b l m n o E;rcases f.new b l m n o with a|⟨p,q,a,r,s,t⟩
  ·omega
  ·exact C p q a r s (t.trans E)
 ·rcases g.new b l m n o with a|⟨p,q,a,r,s,t⟩
  ·exact .inl (rq f.size a)
  ·rcases f.new p q a r s with u|⟨x,l1,u,y,z,d⟩
   ·exact .inl (by omega)
   ·exact .inr ⟨x,l1,u,y,z,d.trans t⟩
 ·rcases g.live b l m n o with a|⟨p,q,a,r,s,t⟩
  ·exact .inl (rq f.size a)
  ·rcases f.live p q a r s with u|⟨x,l1,u,y,z,d⟩
   ·exact .inl (by omega)
   ·exact .inr ⟨x,l1,u,y,z,d.trans t⟩
theorem Fr.below{ι a:Im}{H c:Hp}{w w':World}(f:Fr ι a H c w w')(B:Nat)(i:B<=w.heap.size)(h:∀ b l,eT (b)->(H.get b).wr=true->ι b=some l->B<=l.blk):Below B w w':=
 ⟨f.os,f.tape,f.output,f.size,fun k j=>f.keep k (by omega) fun b l d e g m=>by have:=h b l d e g;omega⟩
end Go.Ev
end
noncomputable section
namespace Go.Ev
open Go.RowKit
theorem qsv{w w':World}{a:Addr}(h:w'.heap[a.block]? =w.heap[a.block]?):w'.cell? a=w.cell? a:=by unfold World.cell?;rw[h]
theorem qlw{w w':World}{a:Addr}(h:w'.heap[a.block]? =w.heap[a.block]?):w'.frozen? a=w.frozen? a:=by unfold World.frozen?;rw[h]
theorem BR.keep{ι:Im}{w w':World}{b:Nat}{k:bW}(h:BR ι w b k)(o:∀ l,k.bD=false->ι b=some l->w'.heap[l.blk]? =w.heap[l.blk]?):BR ι w' b k:=by
 cases k with
 |dead=>trivial
 |cells d n c ro z=>
  obtain⟨l,f,g,m,t⟩:=h;have e:=o l rfl f;refine⟨l,f,g,fun i q=>?_,fun p j s=>?_⟩
  ·obtain⟨V,a,b,c,d⟩:=m i q;exact⟨V,by rw[qsv (w:=w) e];exact a,b,c,fun p=>by rw[qlw (w:=w) e];exact d p⟩
  ·obtain⟨V,a,b⟩:=t p j s;exact⟨V,by rw[qsv (w:=w) e];exact a,by rw[qlw (w:=w) e];exact b⟩
 |map es clock=>obtain⟨l,u,f,g,m⟩:=h;exact⟨l,u,f,by rw[o l rfl f];exact g,m⟩
 |sH=>obtain⟨l,r,f,v,g,m⟩:=h;exact⟨l,r,f,v,by rw[o l rfl f];exact g,m⟩
 |loop=>obtain⟨l,x,f,g,m⟩:=h;exact⟨l,x,f,by rw[o l rfl f];exact g,m⟩
theorem BR.mono{ι p:Im}{w:World}{b:Nat}{k:bW}(e:ι.le p)(h:BR ι w b k):BR p w b k:=by
 cases k with
 |dead=>trivial
 |cells d n c ro z=>obtain⟨l,g,j,f,o⟩:=h;refine⟨l,e _ _ g,j,fun i s=>?_,o⟩;obtain⟨V,a,b,c,d⟩:=f i s;exact⟨V,a,aO.mono e _ _ b,c,d⟩
 |map es clock=>obtain⟨l,t,g,j,f⟩:=h;exact⟨l,t,e _ _ g,j,dS.mono e _ _ f⟩
 |sH m=>
  obtain⟨l,r,g,u,j,f⟩:=h;refine⟨l,r,e _ _ g,u,j,?_⟩;cases m with
  |zero=>exact f
  |succ m=>obtain⟨v,x,k2⟩:=f;exact⟨v,e _ _ x,k2⟩
 |loop=>obtain⟨l,y,g,j,f,o,A,B,C,q⟩:=h;exact⟨l,y,e _ _ g,j,f,o,A,B,C,q.1.mono e,q.2⟩
theorem BR.some{ι:Im}{w:World}{b:Nat}{k:bW}(h:BR ι w b k)(e:k.bD=false):∃ l,ι b=some l:=by
 cases k with
 |dead=>simp[bW.bD]at e
 |cells d n c ro z=>obtain⟨l,a,_⟩:=h;exact⟨l,a⟩
 |map es clock=>obtain⟨l,_,a,_⟩:=h;exact⟨l,a⟩
 |sH=>obtain⟨l,_,a,_⟩:=h;exact⟨l,a⟩
 |loop=>obtain⟨l,_,a,_⟩:=h;exact⟨l,a⟩
theorem xae:8 ^ HD=2097152:=by decide
theorem Mem.get_put(m:Mem)(b c:Nat)(k:bW):(m.put b k).get c=if c=b then k else m.get c:=by
 unfold Mem.put Mem.get;cases g:Nat.blt b 2097152 with
 |true=>
  have d:b<8 ^ HD:=by rw[xae];simp[Nat.blt]at g;omega
  cases a:Nat.blt c 2097152 with
  |true=>
   have f:c<8 ^ HD:=by rw[xae];simp[Nat.blt]at a;omega
   grind [qex]
  |false=>
   grind
 |false=>
  cases a:Nat.blt c 2097152 with
  |true=>
   grind
  |false=>
   show(bif Nat.beq c b then k else m.x c)=if c=b then k else m.x c
   by_cases e:c=b
   ·simp
   ·rw[pg e]
    grind [Nat.beq,rf]
theorem Hp.get_put(H:Hp)(b c:Nat)(k:bW)(_:eT (b))(_:eT (c)):(H.put b k).get c=if c=b then k else H.get c:=by exact Mem.get_put H.t b c k
theorem HR.put{ι:Im}{H:Hp}{w w':World}(h:HR ι H w){b:Nat}(p:eT (b))(i:(H.get b).wr=true){l:Loc}(t:ι b=some l)(k:bW)(z:w'.os=w.os)(r:w'.tape=w.tape)(j:w'.output=w.output)(size:w'.heap.size=w.heap.size)(n:∀ c,c≠l.blk->w'.heap[c]? =w.heap[c]?)(C:BR ι w' b k):HR ι (H.put b k) w'/\Fr ι ι H (H.put b k) w w':=by
 have o:=bW.aW i;refine⟨⟨h.top,fun c a=>?_,fun c m a d f=>?_,fun c s m u a g d f v x y=>?_,h.fresh,fun c a g=>?_⟩,
  ⟨Im.le_refl _,lu _,fun c d f=>absurd d f,z,r,j,by omega,fun c a d=>n c fun e=>d b l p i t e.symm,fun c m a d f=>?_,fun c m a d f=>?_⟩⟩
 ·rw[Hp.get_put _ _ _ _ p a];by_cases e:c=b
  ·simp_all
  ·rw[pg e];exact(h.blk c a).keep fun m A B=>n _ fun q=>e (h.inj b c l m p a i A t B q.symm).symm
 ·rw[Hp.get_put _ _ _ _ p a]at d;rw[size];by_cases e:c=b
  ·subst e;rw[t]at f;cases f;exact h.low c l a o t
  ·rw[pg e]at d;exact h.low c m a d f
 ·rw[Hp.get_put _ _ _ _ p a]at d;rw[Hp.get_put _ _ _ _ p g]at f;by_cases e:c=b
  ·subst e;by_cases q:s=c
   ·omega
   ·rw[pg q]at f;exact h.inj c s m u a g i f v x y
  ·rw[pg e]at d;by_cases q:s=b
   ·subst q;exact h.inj c s m u a g d o v x y
   ·rw[pg q]at f;exact h.inj c s m u a g d f v x y
 ·have f:=h.free c a g
  grind [Hp.get_put,bW.wr]
 ·grind [Hp.get_put,grind]
 ·grind [Hp.get_put,grind]
theorem HR.kill{ι:Im}{H:Hp}{w:World}(h:HR ι H w){b:Nat}(c:eT (b))(a:(H.get b).wr=true):HR ι (H.put b .dead) w/\Fr ι ι H (H.put b .dead) w w:=by obtain⟨l,d⟩:=(h.blk b c).some (bW.aW a);exact h.put c a d .dead rfl rfl rfl rfl (fun _ _=>rfl) trivial
def Im.set(ι:Im)(b:Nat)(l:Loc):Im:=fun c=>if c=b then some l else ι c
theorem Im.dA(ι:Im)(b:Nat)(l:Loc):(ι.set b l) b=some l:=by simp[Im.set]
theorem Im.eU(ι:Im){b c:Nat}(l:Loc)(h:c≠b):(ι.set b l) c=ι c:=by simp[Im.set,h]
theorem Im.jI{ι:Im}{b:Nat}(l:Loc)(h:ι b=none):ι.le (ι.set b l):=fun c m a=>by grind [Im.eU]
theorem HR.add{ι:Im}{H:Hp}{w w':World}(h:HR ι H w){b nx':Nat}(C:eT (b))(v:ι b=none)(D:H.get b=.dead)(x:H.nx<=nx')(r:eT (nx'))(y:b<nx')(l:Loc)(k:bW)(size:w.heap.size<=w'.heap.size)(i:∀ c m,eT (c)->(H.get c).bD=false->ι c=some m->w'.heap[m.blk]? =w.heap[m.blk]?)(j:k.bD=false->l.blk<w'.heap.size)(z:∀ c m,eT (c)->(H.get c).bD=false->ι c=some m->m.blk≠l.blk)(E:BR (ι.set b l) w' b k):HR (ι.set b l) ⟨H.t.put b k,nx'⟩ w':=by
 have t:=Im.jI l v;have n:∀ c,eT (c)->Hp.get ⟨H.t.put b k,nx'⟩ c=if c=b then k else H.get c:=fun c a=>by exact Mem.get_put H.t b c k
 refine⟨r,fun c a=>?_,fun c m a d f=>?_,fun c p m A a g d f q s B=>?_,fun c a=>?_,fun c a g=>?_⟩
 ·rw[n c a];by_cases e:c=b
  ·simp_all
  ·rw[pg e];exact((h.blk c a).keep fun m d f=>i c m a d f).mono t
 ·rw[n c a]at d;by_cases e:c=b
  ·subst e;rw[qj rfl]at d;rw[Im.dA]at f;cases f;exact j d
  ·rw[pg e]at d;rw[Im.eU _ _ e]at f;exact ku (h.low c m a d f) size
 ·rw[n c a]at d;rw[n p g]at f;by_cases e:c=b
  ·subst e;by_cases o:p=c
   ·omega
   ·rw[pg o]at f;rw[Im.dA]at q;cases q;rw[Im.eU _ _ o]at s
    grind
  ·rw[pg e]at d;rw[Im.eU _ _ e]at q;by_cases o:p=b
   ·grind [Im.dA,bW.aW]
   ·rw[pg o]at f;rw[Im.eU _ _ o]at s;exact h.inj c p m A a g d f q s B
 ·grind [Im.eU,h.fresh,rq]
 ·have u:c≠b:=by simp only at a;omega
  rw[n c g,pg u];exact h.free c (rq x a) g
theorem HR.push{ι:Im}{H:Hp}{w w':World}(h:HR ι H w)(j:eT (H.nx))(l:Loc)(k:bW)(p:w'.os=w.os)(i:w'.tape=w.tape)(d:w'.output=w.output)(size:w.heap.size<w'.heap.size)(g:∀ c,c<w.heap.size->w'.heap[c]? =w.heap[c]?)(s:l.blk=w.heap.size)(q:BR (ι.set H.nx l) w' H.nx k):HR (ι.set H.nx l) (aI H k) w'/\Fr ι (ι.set H.nx l) H (aI H k) w w':=by
 have o:=h.fresh H.nx (lu _);have r:=h.free H.nx (lu _) j;refine⟨h.add j o r (Nat.le_succ _) j (ig _) l k (zo size) (fun c m f a b=>g _ (h.low c m f a b)) (fun _=>by omega)
  (fun c m f a b=>by have:=h.low c m f a b;omega) q,
  ⟨Im.jI l o,Nat.le_succ _,fun c a b=>?_,p,i,d,zo size,fun c f _=>g c f,fun c m f a b=>?_,fun c m f a b=>?_⟩⟩
 ·by_cases e:c=H.nx
  ·omega
  ·grind [Im.eU]
 ·have n:(aI H k).get c=if c=H.nx then k else H.get c:=by exact Mem.get_put H.t H.nx c k
  by_cases e:c=H.nx
  ·grind [Im.dA]
  ·rw[n,pg e]at a;rw[Im.eU _ _ e]at b;exact .inr ⟨c,m,f,a,b,rfl⟩
 ·have n:(aI H k).get c=if c=H.nx then k else H.get c:=by exact Mem.get_put H.t H.nx c k
  by_cases e:c=H.nx
  ·grind [Im.dA]
  ·rw[n,pg e]at a;rw[Im.eU _ _ e]at b;exact .inr ⟨c,m,f,a,b,rfl⟩
/- stores -/
structure Wrote(w w':World)(blk off:Nat)(vs:List Value):Prop where
 os:w'.os=w.os
 tape:w'.tape=w.tape
 output:w'.output=w.output
 size:w'.heap.size=w.heap.size
 keep:∀ c,c≠blk->w'.heap[c]? =w.heap[c]?
 cell:∀ i,w'.cell? ⟨blk,i,none⟩=if off<=i/\i<off+vs.length then some (vs.getD (i-off) Go.undef)else w.cell? ⟨blk,i,none⟩
 frozen:∀ a,w'.frozen? a=w.frozen? a
theorem addr_add(b o i:Nat):Addr.add ⟨b,o,none⟩ i=⟨b,o+i,none⟩:=by grind [Addr.add,grind]
theorem quy(P:Program)(w:World)(a:Addr)(v:Value){u:Value}(b:w.cell? a=some u)(c:w.frozen? a=false)(d:v.oneCell=true):(Go.store a v).run P w=.ok () (w.setCell a v):=by unfold Go.store;cases v<;>first|(simp[Value.oneCell]at d;done)|(simp only[Sem.run,b,c];rfl)
theorem qh2(P:Program)(b:Nat):∀(vs:List Value) (w:World) (o i:Nat), (∀j,j<vs.length->∃ u,w.cell? ⟨b,o+i+j,none⟩=some u/\w.frozen? ⟨b,o+i+j,none⟩=false)->(∀v∈vs,v.oneCell=true) -> ∃w',(storeCells ⟨b,o,none⟩ vs i).run P w=.ok () w'/\Wrote w w' b (o+i) vs:=by
 intro vs
 induction vs with
 |nil=>intro w o i _ _;exact⟨w,rfl,rfl,rfl,rfl,rfl,fun _ _=>rfl,fun j=>by rw[pg (by simp)],fun _=>rfl⟩
 |cons v vs ih=>
  intro w o i k l;obtain⟨u,f,m⟩:=k 0 (by simp);simp only[zt]at f m;obtain⟨w',p,d⟩:=ih (w.setCell ⟨b,o+i,none⟩ v) o (i+1) (fun j t=>by obtain⟨q,g,h⟩:=k (j+1) (by grind);rw[show o+(i+1)+j=o+i+(j+1)by omega];refine⟨q,?_,by rw[World.frozen?_setCell];exact h⟩;rw[World.cell?_setCell_other];exact g;intro e;simp at e) (fun x n=>l x (by simp[n]));refine⟨w',?_,d.os,d.tape,d.output,by rw[d.size];simp,fun c y=>?_,fun j=>?_,fun a=>by rw[d.frozen];simp⟩
  ·unfold storeCells;rw[addr_add,Sem.run_bind,quy P w _ v f m (l v (by simp))];exact p
  ·grind [d.keep,Below.heap_setCell]
  ·rw[d.cell j];simp only[pq];by_cases r:o+(i+1)<=j/\j<o+(i+1)+vs.length
   ·grind
   ·rw[pg r];by_cases s:j=o+i
    ·subst s;rw[qj (by omega),World.cell?_setCell_same w _ v f];simp
    ·rw[pg (by omega),World.cell?_setCell_other]
     grind
theorem run_loadCellsFrom(P:Program)(w:World)(a o:Nat):∀(vs:List Value) (i:Nat) (acc:Array Value), (∀j (v:Value),vs[j]? =some v->w.cell? ⟨a,o+i+j,none⟩=some v) -> (loadCellsFrom ⟨a,o,none⟩ i vs.length acc).run P w=.ok (acc++vs.toArray) w:=by
 intro vs
 induction vs with
 |nil=>intro i acc _;simp[loadCellsFrom]
 |cons v vs ih=>intro i acc h;have b:=h 0 v rfl;simp only[zt]at b;simp only[pq,loadCellsFrom,Sem.run_bind,addr_add,run_load,b,Result.andThen_ok];rw[ih (i+1) _ fun j u c=>by have:=h (j+1) u (by grind);rw[show o+(i+1)+j=o+i+(j+1)by omega];exact this];simp
theorem run_loadCells(P:Program)(w:World)(a o:Nat)(vs:List Value)(h:∀ j (v:Value),vs[j]? =some v->w.cell? ⟨a,o+j,none⟩=some v):(loadCells ⟨a,o,none⟩ vs.length).run P w=.ok vs.toArray w:=by unfold loadCells;rw[run_loadCellsFrom P w a o vs 0 #[] (by simpa using h)];simp
end Go.Ev
end
noncomputable section
namespace Go.Ev
open Go.RowKit
variable {P:Program} {w:World} {ι:Im}
theorem yE{a b:Nat}(h:Nat.blt a b=true):a<b:=yg h
theorem zbn{a b:Nat}(h:Nat.blt a b=false):¬ a<b:=fun k=>by grind [Nat.blt,zh]
theorem pK{a b:Nat}(h:Nat.ble a b=true):a<=b:=yg h
theorem z9v{a b:Nat}(h:Nat.ble a b=false):¬ a<=b:=fun k=>by grind [zh]
theorem yM{a b:Nat}(h:Nat.beq a b=true):a=b:=rf h
theorem qzt{a b:Nat}(h:Nat.beq a b=false):a≠b:=Nat.ne_of_beq_eq_false h
theorem dX{t:TypeId}{d:TypeDesc}(h:P.underlying t=some d):(underlying t).run P w=.ok d w:=by simp[underlying,h]
theorem zjs{t:TypeId}{i:TypeInfo}(h:P.info? t=some i):(typeInfo t).run P w=.ok i w:=by simp[typeInfo,h]
theorem qR{t:TypeId}{n:Nat}(h:jA P t=some n):(sizeOf t).run P w=.ok n w:=by
 unfold jA at h;cases a:P.info? t with
 |none=>simp[a]at h
 |some i=>simp[a]at h;simp[sizeOf,zjs a,h]
theorem qu7{t:TypeId}{n:Nat}(h:qj4 P t=some n):∃ i,(∀w,(typeInfo t).run P w=.ok i w)/\i.bytes=n:=by
 unfold qj4 at h;cases a:P.info? t with
 |none=>simp[a]at h
 |some i=>simp[a]at h;exact⟨i,fun _=>zjs a,h⟩
theorem qgn{t:TypeId}{b:Bool}(h:uP P t=some b):(isAgg t).run P w=.ok b w:=by
 unfold uP at h;cases a:P.underlying t with
 |none=>simp[a]at h
 |some d=>simp only[a,lEH,qo]at h;unfold isAgg;rw[Sem.run_bind,dX a];subst h;cases d<;>rfl
theorem qdf{t:TypeId}{z:Value}(h:(P.info? t).bind (·.zero)=some z):(zeroValue t).run P w=.ok z w:=by
 cases a:P.info? t with
 |none=>simp[a]at h
 |some i=>simp[a]at h;simp[zeroValue,zjs a,h]
theorem zj8(v:Value)(h:aCu v=true):v.oneCell=true:=by cases v<;>simp_all [aCu,Value.oneCell]
theorem qk5(v:Value):aO ι (qpl v) v:=by
 unfold qpl;split<;>simp only[aO]
 ·exact⟨_,rfl,rfl,rfl⟩
theorem qk4:∀ l:List Value,aL ι (l.map qpl) l
 | []=>by simp[aL]
 |v::l=>by simp only[ou,aL];exact⟨v,l,rfl,qk5 v,qk4 l⟩
theorem qgq(v:Value):aO ι (qvd v) v:=by
 unfold qvd;split
 ·rename_i cs;cases h:cs.toList.all aCu with
  |false=>simp[aO]
  |true=>exact⟨cs.toList,qk4 _,by simp,fun v a=>zj8 v (vk.1 h v a)⟩
 ·rfl
 ·exact qk5 _
theorem qq4{z:Value}{l:List AV}(h:qlf z=some l):aL ι l z.cells.toList/\∀ v∈z.cells.toList,v.oneCell=true:=by
 unfold qlf at h;split at h
 ·rename_i cs;cases a:cs.toList.all aCu with
  |false=>simp[a]at h
  |true=>simp[a]at h;subst h;exact⟨by simpa [Value.cells] using qk4 cs.toList,fun v b=>zj8 v (vk.1 a v (by simpa [Value.cells] using b))⟩
 ·simp at h
 ·rename_i c d;simp at h;subst h;have e:z.cells= #[z]:=by grind [Value.cells]
  grind [aL.singleton,qk5,Value.oneCell]
theorem qcz{t:TypeId}{l:List AV}(h:qj8 P t=some l):∃ z,(P.info? t).bind (·.zero)=some z/\aL ι l z.cells.toList/\∀ v∈z.cells.toList,v.oneCell=true:=by
 unfold qj8 at h;cases a:(P.info? t).bind (·.zero)with
 |none=>simp[a]at h
 |some z=>rw[a]at h;exact⟨z,rfl,qq4 h⟩
theorem qvj{a:Im}{w':World}{nm:Nat}{l:List AV}{vs:List Value}{loc:Loc}(d:a nm=some loc)(e:aL a l vs)(g:∀ v∈vs,v.oneCell=true)(h:∀(i:Nat) (v:Value),vs[i]? =some v->w'.cell? ⟨loc.blk,loc.base+i,none⟩=some v/\w'.frozen? ⟨loc.blk,loc.base+i,none⟩=false)(f:∀ j,j<loc.ext*loc.z->∃ V,w'.cell? ⟨loc.blk,loc.base+(l.length+j),none⟩=some V/\w'.frozen? ⟨loc.blk,loc.base+(l.length+j),none⟩=false/\V.oneCell=true):BR a w' nm (aB loc.z l):=by
 have c:l.length<=8 ^ iF l.length:=qb5 _;refine⟨loc,d,⟨c,rfl⟩,fun i b=>?_,fun _=>f⟩;rw[qif _ _ _ _ (by omega) (by omega),qj (by omega)];have k:l[i]? =some (l.getD i .undef):=by simp[b]
 grind [e.get,grind]
structure New(w w':World)(l:Loc):Prop where
 os:w'.os=w.os
 tape:w'.tape=w.tape
 output:w'.output=w.output
 size:w'.heap.size=w.heap.size+1
 keep:∀ c,c<w.heap.size->w'.heap[c]? =w.heap[c]?
 blk:l.blk=w.heap.size
theorem New.alloc(w:World)(o:Obj)(e z:Nat):New w (w.alloc o) ⟨w.heap.size,0,e,z⟩:=
 ⟨rfl,rfl,rfl,by simp,fun c a=>Below.heap_alloc w o c a,rfl⟩
def iU(P:Program)(o:Oper)(ρ:Operand->Value)(ι:Im)(w:World)(nm:Nat):R0->Prop
 | .bad=>True
 | .val v=>∃ V,(execOp ρ o).run P w=.ok (.value V) w/\aO ι v V
 | .new v k=>∃ V w' l,(execOp ρ o).run P w=.ok (.value V) w'/\New w w' l/\∀ ι',ι.le ι'->ι' nm=some l->aO ι' v V/\BR ι' w' nm k
theorem qgs{l:List AV}{vs:List Value}(c:aL ι l vs)(d:∀ v∈vs,v.oneCell=true)(t:TypeId)(nm z:Nat):∀a,ι.le a->a nm=some ⟨w.heap.size,0,0,z⟩->BR a (w.alloc (.cells vs.toArray t)) nm (aB z l):=by intro a b g;refine qvj (loc:=⟨w.heap.size,0,0,z⟩) g (aL.mono b _ _ c) d (fun i v e=>?_) (fun j f=>by simp at f);simp[e]
theorem fK{d n:Nat}{L:TT AV d}{a:Act}(h:LR ι d n L a.tmps)(x:Operand):aO ι ((aM d n x).f L) (a.eval x):=by
 cases x with
 |tmp t=>
  simp only[aM];cases c:Nat.blt t n with
  |true=>have b:=yE c;have:=h.get t b;trivial
  |false=>
   have b:=zbn c;simp only[af,aO,Act.eval];have:a.tmps.size<=t:=by rw[h.size];omega
   simp[lE3 this,Go.undef]
 |const v=>exact qgq v
 |global g=>simp[aM,aO,Act.eval]
 |func f=>simp only[aM,aO,Act.eval];exact⟨[],[],by simp[aL],by simp[aL],rfl⟩
theorem qc8{d n:Nat}{L:TT AV d}{a:Act}(h:LR ι d n L a.tmps):∀ l:List Operand,aL ι ((vV d n l).f L) (l.map a.eval)
 | []=>by simp[vV,aL]
 |x::l=>by exact⟨_,_,rfl,fK h x,qc8 h l⟩
theorem zxr{o:Oper}{a:Act}{x:Operand}{nm:Nat}(b:o.op=.move x\/o.op=.assign x){d n:Nat}{L:TT AV d}(h:LR ι d n L a.tmps):iU P o a.eval ι w nm (.val ((aM d n x).f L)):=by refine⟨a.eval x,?_,fK h x⟩;rcases b with b|b<;>simp[execOp,b]
theorem z7l{o:Oper}{a:Act}{c x y:Operand}{nm:Nat}(f:o.op=.pick c x y){d n:Nat}{L:TT AV d}(h:LR ι d n L a.tmps):iU P o a.eval ι w nm (dV ((aM d n c).f L) ((aM d n x).f L) ((aM d n y).f L)):=by
 have b:=fK h c;unfold dV;split
 ·rename_i e;rw[e]at b;simp only[aO]at b;exact⟨_,by simp[execOp,f,asBool,b],fK h x⟩
 ·rename_i e;rw[e]at b;simp only[aO]at b;exact⟨_,by simp[execOp,f,asBool,b],fK h y⟩
 ·trivial
theorem z2x{o:Oper}{ρ:Operand->Value}{t:TypeId}{nm:Nat}(b:o.op=.alloc t){z:List AV}(c:qj8 P t=some z):iU P o ρ ι w nm (.new (.ptr nm 0) (aB 0 z)):=by
 obtain⟨f,g,h,i⟩:=qcz (ι:=ι) c;refine⟨.pointer (some ⟨w.heap.size,0,none⟩),_,⟨w.heap.size,0,0,0⟩,?_,New.alloc w (.cells f.cells.toList.toArray t) 0 0,fun d a e=>⟨?_,qgs h i t nm 0 d a e⟩⟩
 ·simp only[execOp,b,Instr.alloc,Sem.run_bind,qdf g,Result.andThen_ok,newVar,newRow];simp
 ·grind [aO]
def AV.plain:AV->Bool
 | .agg _| .bA _| .undef| .lit _=>false
 |_=>true
theorem aO.one{v:AV}{V:Value}(h:aO ι v V)(a:v.plain=true):V.oneCell=true/\V.cells= #[V]:=by
 cases v<;>first|(simp[AV.plain]at a;done)|skip
 all_goals simp only[aO]at h
 all_goals first
  |(subst h;exact⟨rfl,rfl⟩)
  |(obtain⟨_,rfl,_⟩:=h;exact⟨rfl,rfl⟩)
  |(obtain⟨_,_,rfl⟩:=h;exact⟨rfl,rfl⟩)
  |(obtain⟨_,_,_,rfl⟩:=h;exact⟨rfl,rfl⟩)
  |(obtain⟨_,_,_,_,rfl⟩:=h;exact⟨rfl,rfl⟩)
theorem z7r{o:Oper}{a:Act}{t:TypeId}{x:Operand}{nm:Nat}(e:o.op=.box t x){d n:Nat}{L:TT AV d}(h:LR ι d n L a.tmps):iU P o a.eval ι w nm (nV nm ((aM d n x).f L)):=by
 have c:=fK h x;unfold nV;split<;>first|trivial|skip
 rename_i j k p l;have i:((aM d n x).f L).plain=true:=by grind [AV.plain]
 obtain⟨q,m⟩:=c.one i;refine⟨.pointer (some ⟨w.heap.size,0,none⟩),_,⟨w.heap.size,0,0,0⟩,?_,New.alloc w (.cells [a.eval x].toArray t) 0 0,fun f b g=>⟨?_,qgs (aL.singleton c) (by grind) t nm 0 f b g⟩⟩
 ·simp[execOp,e,Instr.box,newVar,newRow,m]
 ·grind [aO]
end Go.Ev
end
noncomputable section
namespace Go.Ev
open Go.RowKit
variable {P:Program} {w:World} {ι:Im} {o:Oper} {a:Act} {nm:Nat} {d n:Nat} {L:TT AV d} {H:Hp}
theorem z7q{t:TypeId}{x:Operand}(f:o.op=.box t x)(k:Nat)(h:LR ι d n L a.tmps):iU P o a.eval ι w nm (qI k nm ((aM d n x).f L)):=by
 have c:=fK h x;unfold qI;split
 ·rename_i l e;rw[e]at c;simp only[aO]at c;obtain⟨vs,j,m,p⟩:=c;cases Nat.beq l.length k with
  |false=>trivial
  |true=>
   refine⟨.pointer (some ⟨w.heap.size,0,none⟩),_,⟨w.heap.size,0,0,0⟩,?_,New.alloc w (.cells vs.toArray t) 0 0,fun g b i=>⟨?_,qgs j p t nm 0 g b i⟩⟩
   ·simp[execOp,f,Instr.box,newVar,newRow,m,Value.cells]
   ·grind [aO]
 ·trivial
/- loads -/
theorem qx6{b:Nat}{k:bW}(e:BR ι w b k){i:Nat}{v:AV}(h:bX k i=.val v):∃ l V,ι b=some l/\w.cell? ⟨l.blk,l.base+i,none⟩=some V/\aO ι v V/\V.oneCell=true:=by
 cases k with
 |cells d n c ro z=>
  obtain⟨l,g,j,f,_⟩:=e;simp only[bX]at h;cases a:Nat.blt i n with
  |false=>rw[a]at h;cases h
  |true=>rw[a]at h;simp only[uB,R0.val.injEq]at h;subst h;obtain⟨V,m,o,p,_⟩:=f i (yE a);simp_all
 |_=>simp[bX]at h
theorem q3p(k:bW)(i:Nat):bX k i=.bad\/∃ v,bX k i=.val v:=by
 cases k with
 |cells d n c ro z=>
  cases a:Nat.blt i n with
  |false=>left;simp[bX,a]
  |true=>right;exact⟨_,by simp[bX,a];rfl⟩
 |_=>left;rfl
theorem qgm{b:Nat}{k:bW}(q:BR ι w b k){i m:Nat}{l:List AV}(h:fD k i m=some l):l.length=m/\(m=0\/∃ loc vs,ι b=some loc/\aL ι l vs/\vs.length=m/\(∀v∈vs,v.oneCell=true)/\∀(j:Nat) (v:Value),vs[j]? =some v->w.cell? ⟨loc.blk,loc.base+i+j,none⟩=some v):=by
 cases k with
 |cells d n c ro z=>
  obtain⟨loc,t,C,u,_⟩:=q;simp only[fD]at h;cases g:Nat.ble (i+m) n with
  |false=>rw[g]at h;cases h
  |true=>
   rw[g]at h;simp only[uB,qo]at h;subst h;refine⟨qhm _ _ _,.inr ?_⟩;have s:=pK g;have e:∀ j,j<m->∃ V,w.cell? ⟨loc.blk,loc.base+(i+j),none⟩=some V/\aO ι ((dR d (i+j)).f c) V/\V.oneCell=true:=fun j a=>by obtain⟨V,y,A,B,_⟩:=u (i+j) (by omega);exact⟨V,y,A,B⟩
   obtain⟨f,D⟩:∃ f:Nat->Value,∀j,j<m->w.cell? ⟨loc.blk,loc.base+(i+j),none⟩=some (f j)/\aO ι ((dR d (i+j)).f c) (f j)/\(f j).oneCell=true:=by
    refine⟨fun j=>if a:j<m then Classical.choose (e j a)else .nilFunc,fun j a=>?_⟩
    grind
   refine⟨loc,(List.range m).map f,t,aL.aBF (by simp[qhm]) fun j x o=>?_,by simp,fun v r=>?_,fun j v r=>?_⟩
   ·have a:j<m:=by
     rcases cu j m with p|p
     ·exact p
     ·rw[mf (by grind [qhm])]at o;cases o
    grind [zjo]
   ·grind
   ·grind
 |_=>simp[fD]at h
theorem z2r{t:TypeId}{x:Operand}(m:o.op=.load t x)(p:uP P t=some false)(g:HR ι H w)(h:LR ι d n L a.tmps):iU P o a.eval ι w nm (aR H ((aM d n x).f L)):=by
 have f:=fK h x;unfold aR;split
 ·rename_i b i e;rw[e]at f;simp only[aO]at f;obtain⟨l,j,q⟩:=f;rcases q3p (H.get b) i with c|⟨v,c⟩
  ·rw[c];trivial
  ·rw[c];obtain⟨u,V,k,r,s,_⟩:=qx6 (g.blk b (g.lt j)) c;rw[j]at k;cases k;exact⟨V,by simp[execOp,m,Instr.loadAt,q,Instr.sureAddr,loadVar,qgn p,r],s⟩
 ·trivial
theorem z2q{t:TypeId}{x:Operand}(s:o.op=.load t x)(u:uP P t=some true){k:Nat}(y:jA P t=some k)(q:HR ι H w)(h:LR ι d n L a.tmps):iU P o a.eval ι w nm (cO k H ((aM d n x).f L)):=by
 have p:=fK h x;unfold cO;split
 ·rename_i b i e;rw[e]at p;simp only[aO]at p;obtain⟨l,r,z⟩:=p;cases E:fD (H.get b) i k with
  |none=>trivial
  |some cs=>
   obtain⟨f,A⟩:=qgm (q.blk b (q.lt r)) E;have c:∀ vs:List Value,vs.length=k->(∀(j:Nat) (v:Value),vs[j]? =some v->w.cell? ⟨l.blk,l.base+i+j,none⟩=some v)->(execOp a.eval o).run P w=.ok (.value (.agg vs.toArray)) w:=fun vs g m=>by have:=run_loadCells P w l.blk (l.base+i) vs m;rw[g]at this;simp[execOp,s,Instr.loadAt,z,Instr.sureAddr,loadVar,qgn u,qR y,this]
   rcases A with rfl|⟨loc,vs,g,m,B,C,D⟩
   ·have:cs=[]:=tu.1 f;subst this;exact⟨_,c [] rfl (by simp),by simp only[aO];exact⟨[],by simp[aL],rfl,by simp⟩⟩
   ·rw[r]at g;cases g;exact⟨_,c vs B D,by simp only[aO];exact⟨vs,m,rfl,C⟩⟩
 ·trivial
theorem zah{x:Operand}(i:o.op=.nilCheck x)(h:LR ι d n L a.tmps):iU P o a.eval ι w nm (match(aM d n x).f L with| .ptr b o=>.val (.ptr b o)| .fn a b c=>.val (.fn a b c)| .yield l=>.val (.yield l)|_=>.bad):=by
 have f:=fK h x;split
 ·rename_i e;rw[e]at f;refine⟨a.eval x,?_,f⟩;simp only[aO]at f;obtain⟨l,_,g⟩:=f;simp[execOp,i,g]
 ·rename_i e;rw[e]at f;refine⟨a.eval x,?_,f⟩;simp only[aO]at f;obtain⟨F,C,_,_,g⟩:=f;simp[execOp,i,g]
 ·rename_i e;rw[e]at f;refine⟨a.eval x,?_,f⟩;simp only[aO]at f;obtain⟨l,_,g⟩:=f;simp[execOp,i,g]
 ·trivial
theorem q3q{s:TypeId}{x:Operand}{f:Nat}(k:o.op=.fieldAddr s x f){j:Array Field}(m:P.underlying s=some (.struct j)){c:Field}(p:j[f]? =some c){z:Nat}(q:jA P c.type=some (z+1))(h:LR ι d n L a.tmps):iU P o a.eval ι w nm (aN c.offset ((aM d n x).f L)):=by
 have g:=fK h x;unfold aN;split
 ·rename_i b i e;rw[e]at g;simp only[aO]at g;obtain⟨l,r,t⟩:=g;refine⟨.pointer (some ⟨l.blk,l.base+(i+c.offset),none⟩),?_,by simp only[aO];exact⟨l,r,rfl⟩⟩;simp[execOp,k,Instr.fieldAt,dX m,p,t,Instr.sureAddr,fieldPlace,qR q,addr_add,uu]
 ·trivial
theorem z7o{t e:TypeId}{x y:Operand}(m:o.op=.indexAddr t x y)(p:P.underlying t=some (.slice e)){z:Nat}(q:jA P e=some z)(h:LR ι d n L a.tmps):iU P o a.eval ι w nm (aH z ((aM d n x).f L) ((aM d n y).f L)):=by
 have c:=fK h x;have f:=fK h y;unfold aH;split
 ·rename_i b i len r C k j s u;rw[s]at c;rw[u]at f;simp only[aO]at c f;obtain⟨_,l,v,A⟩:=c;cases B:Nat.blt j len with
  |false=>trivial
  |true=>have g:=yE B;refine⟨.pointer (some ⟨l.blk,l.base+(i+j*z),none⟩),?_,by simp only[aO];exact⟨l,v,rfl⟩⟩;simp[execOp,m,Instr.indexAt,f,A,asIntOf,dX p,qR q,g,addr_add,uu]
 ·trivial
theorem z7p{t e:TypeId}{x y:Operand}(m:o.op=.indexAddr t x y){len:Nat}(p:P.underlying t=some (.array len e)){z:Nat}(q:jA P e=some z)(h:LR ι d n L a.tmps):iU P o a.eval ι w nm (gQ len z ((aM d n x).f L) ((aM d n y).f L)):=by
 have c:=fK h x;have f:=fK h y;unfold gQ;split
 ·rename_i b i k j r s;rw[r]at c;rw[s]at f;simp only[aO]at c f;obtain⟨l,u,v⟩:=c;cases A:Nat.blt j len with
  |false=>trivial
  |true=>have g:=yE A;refine⟨.pointer (some ⟨l.blk,l.base+(i+j*z),none⟩),?_,by simp only[aO];exact⟨l,u,rfl⟩⟩;simp[execOp,m,Instr.indexAt,f,v,asIntOf,dX p,qR q,g,addr_add,uu,Instr.sureAddr]
 ·trivial
theorem ztq{a b:IntKind}(h:eqK a b=true):a=b:=by cases a<;>cases b<;>first|rfl|(simp[eqK,zk3]at h)
theorem qfd(a b:Int):uS a b=(a==b):=by rw[lAZ];cases a<;>cases b<;>simp[uS,Nat.beq_eq];omega
theorem qco(k:IntKind)(n:Int):aO ι (.int k n) (.int k n):=by simp only[aO]
theorem qu2(b:Bool):aO ι (.bool b) (.bool b):=by simp only[aO]
theorem qel(a b:Int):qZ a b=decide (a<b):=by
 have c:∀ m n:Nat,Nat.blt m n=decide (m<n):=fun m n=>by
  cases h:Nat.blt m n with
  |true=>simp[yE h]
  |false=>simp[zbn h]
 cases a with
 |ofNat m=>cases b with
  |ofNat n=>simp[qZ,c]
  |negSucc n=>simp[qZ];omega
 |negSucc m=>cases b with
  |ofNat n=>simp[qZ];omega
  |negSucc n=>simp only[qZ,c];congr 1;simp;omega
theorem zld{k:IntKind}{n:Int}(h:zlg k n=true):k.wrap n=n:=by
 cases n with
 |ofNat m=>
  cases k<;>simp only[zlg]at h<;>have h:=yE h
  ·exact IntWalk.i8_in _ (by grind)
  ·exact IntWalk.i16_in _ (by grind)
  ·exact IntWalk.i32_in _ (by grind)
  ·exact IntWalk.i64_in _ (by grind)
  ·exact IntWalk.u8_in _ (by grind)
  ·exact IntWalk.u16_in _ (by grind)
  ·exact IntWalk.u32_in _ (by grind)
  ·exact IntWalk.u64_in _ (by grind)
 |negSucc m=>
  cases k<;>simp only[zlg]at h<;>first|(cases h;done)|have h:=yE h
  ·grind [IntWalk.i8_in]
  ·grind [IntWalk.i16_in]
  ·grind [IntWalk.i32_in]
  ·grind [IntWalk.i64_in]
theorem qj5(k:IntKind)(n:Int):yG k n=k.wrap n:=by grind [yG,zlg,zld]
theorem q3j{b:BinOp}{t ty:TypeId}{x y:Operand}(c:o.op=.binOp b t x y ty){k:IntKind}{m p:Int}(d:a.eval x=.int k m)(e:a.eval y=.int k p):(execOp a.eval o).run P w=((binOp b t (.int k m) (.int k p)).run P w).andThen fun v w=>.ok (.value v) w:=by simp only[execOp,c,d,e,eqGuard];simp
theorem zk7{b:BinOp}{t ty:TypeId}{x y:Operand}(g:o.op=.binOp b t x y ty)(c:b≠ .shl/\b≠ .shr){k:IntKind}{m p:Int}(h:a.eval x=.int k m)(i:a.eval y=.int k p):iU P o a.eval ι w nm ((oI b).f k m p):=by
 have e:=q3j (P:=P) (w:=w) g h i;cases b<;>simp only[oI]
 case shl=>exact absurd rfl c.1
 case shr=>exact absurd rfl c.2
 case quo|rem=>
  cases f:uS p 0 with
  |true=>trivial
  |false=>
   have d:p≠0:=by rw[qfd]at f;simpa using f
   refine⟨_,?_,qco _ _⟩;rw[e];simp[binOp,Op.intDiv,d,qj5]
 all_goals
  refine⟨_,?_,by first|exact qco _ _|exact qu2 _⟩;rw[e];simp[binOp,Op.intArith,Op.intBits,Op.intCmp,qj5,qfd,qel]
 all_goals first|rfl|(rw[<-decide_not];congr 1;simp)
theorem aLH{b:BinOp}{t ty:TypeId}{x y:Operand}(g:o.op=.binOp b t x y ty)(c:b≠ .shl/\b≠ .shr)(h:LR ι d n L a.tmps):iU P o a.eval ι w nm (iC (oI b).f ((aM d n x).f L) ((aM d n y).f L)):=by
 have e:=fK h x;have f:=fK h y;unfold iC;split
 ·rename_i k m i p j l;rw[j]at e;rw[l]at f;simp only[aO]at e f;cases q:eqK k i with
  |false=>trivial
  |true=>have:=ztq q;subst this;exact zk7 g c e f
 ·trivial
theorem zjw{b:BinOp}{t ty:TypeId}{x y:Operand}(j:o.op=.binOp b t x y ty)(c:b=.shl\/b=.shr)(h:LR ι d n L a.tmps):iU P o a.eval ι w nm (qxt (qjl b).f ((aM d n x).f L) ((aM d n y).f L)):=by
 have e:=fK h x;have f:=fK h y;unfold qxt;split
 ·rename_i k m q p r s;rw[r]at e;rw[s]at f;simp only[aO]at e f;have l:(execOp a.eval o).run P w=((binOp b t (.int k m) (.int q p)).run P w).andThen fun v w=>.ok (.value v) w:=by
   simp only[execOp,j,e,f,eqGuard];simp
  rcases c with rfl|rfl<;>simp only[qjl]
  all_goals
   cases i:qZ p 0 with
   |true=>trivial
   |false=>
    have g:¬ p<0:=by rw[qel]at i;simpa using i
    refine⟨_,?_,qco _ _⟩;rw[l];simp[binOp,Op.shift,g,qj5]
 ·trivial
theorem aWz{c:UnOp}{t:TypeId}{x:Operand}(f:o.op=.unOp c t x)(h:LR ι d n L a.tmps):iU P o a.eval ι w nm ((lH c).f ((aM d n x).f L)):=by
 have b:=fK h x;cases c<;>simp only[lH]<;>first|trivial|skip
 ·split
  ·rename_i e;rw[e]at b;simp only[aO]at b;exact⟨_,by simp[execOp,f,b,Op.unary,Op.intArith,qj5],qco _ _⟩
  ·trivial
 ·split
  ·rename_i e;rw[e]at b;simp only[aO]at b;exact⟨_,by simp[execOp,f,b,Op.unary],qu2 _⟩
  ·trivial
theorem z2v{s t:TypeId}{x:Operand}(c:o.op=.convert s t x){ds:TypeDesc}(f:P.underlying s=some ds){k:IntKind}(g:P.underlying t=some (.int k))(h:LR ι d n L a.tmps):iU P o a.eval ι w nm (qq3 k ((aM d n x).f L)):=by
 have b:=fK h x;unfold qq3;split
 ·rename_i e;rw[e]at b;simp only[aO]at b;exact⟨_,by simp[execOp,c,b,convert,dX f,dX g,Conv.intToInt,qj5],qco _ _⟩
 ·trivial
theorem z2u{s t:TypeId}{x:Operand}(c:o.op=.convert s t x)(f:P.underlying s=some .string)(g:P.underlying t=some .string)(h:LR ι d n L a.tmps):iU P o a.eval ι w nm (match(aM d n x).f L with| .str n a=>.val (.str n a)|_=>.bad):=by
 have b:=fK h x;split
 ·rename_i e;rw[e]at b;refine⟨a.eval x,?_,b⟩;obtain⟨z,i,_⟩:=b;simp[execOp,c,i,convert,dX f,dX g]
 ·trivial
theorem qo8{t:TypeId}{x:Operand}(c:o.op=.makeInterface t x){b:TypeDesc}(e:P.underlying t=some b)(f:∀ ms,b≠ .interface ms)(h:LR ι d n L a.tmps):iU P o a.eval ι w nm (.val (.iface t ((aM d n x).f L))):=by refine⟨.iface t (a.eval x),?_,by simp only[aO];exact⟨_,fK h x,rfl⟩⟩;simp only[execOp,c,Instr.makeInterface,Sem.run_bind,dX e,Result.andThen_ok];rfl
theorem zai{f:FuncId}{first b:Array Operand}(c:o.op=.makeFunc (.func f) first b)(h:LR ι d n L a.tmps):iU P o a.eval ι w nm (.val (.fn f ((vV d n first.toList).f L) ((vV d n b.toList).f L))):=by refine⟨.func (.func f) (first.map a.eval) (b.map a.eval),by simp[execOp,c,Instr.makeFunc],?_⟩;exact⟨_,_,qc8 h _,qc8 h _,by rw[<-lAH,<-lAH]⟩
theorem zjx{t:TypeId}(c:o.op=.makeMap t none):iU P o a.eval ι w nm (.new (.map nm) (.map [] 0)):=by
 refine⟨.map (some w.heap.size),w.alloc (.map #[] 0),⟨w.heap.size,0,0,0⟩,?_,New.alloc w _ 0 0,fun e d b=>⟨by simp only[aO];exact⟨_,b,rfl⟩,⟨_,[],b,?_,by simp[dS]⟩⟩⟩
 ·simp[execOp,c,Instr.makeMap]
 ·show(w.heap.push _)[w.heap.size]? =_;simp
theorem zjy{x:Operand}{i:Nat}(c:o.op=.extract x i)(h:LR ι d n L a.tmps):iU P o a.eval ι w nm (match(aM d n x).f L with
   | .bA l=>match l[i]? with|some v=>.val v|none=>.bad
   |_=>.bad):=by
 have b:=fK h x;split
 ·rename_i l e;rw[e]at b;simp only[aO]at b;obtain⟨vs,f,g⟩:=b;split
  ·rename_i v j;obtain⟨V,k,m⟩:=f.get i v j;exact⟨V,by simp[execOp,c,g,Instr.extract,k],m⟩
  ·trivial
 ·trivial
theorem qhd(s:ByteArray):s.toList=s.data.toList:=ByteArray.toList_eq s
theorem qcb(b:UInt8)(l:List UInt8):kD (b::l)=kD l*256+b.toNat:=rfl
theorem qlh(b:UInt8):b.toNat<256:=b.toNat_lt
theorem pack_inj:∀{l m:List UInt8},l.length=m.length->kD l=kD m->l=m
 | [],[],_,_=>rfl
 | [],_::_,h,_=>by simp at h
 |_::_,[],h,_=>by simp at h
 |b::l,c::m,h,k=>by
  rw[qcb,qcb]at k;have e:=qlh b;have f:=qlh c;have a:b.toNat=c.toNat:=by omega
  have d:kD l=kD m:=by omega
  rw[UInt8.toNat_inj.1 a,pack_inj (by simpa using h) d]
theorem qnl:kD []=0:=rfl
theorem qpi:∀ l m:List UInt8,kD (l++m)=kD l+256 ^ l.length*kD m
 | [],m=>by simp[qnl]
 |b::l,m=>by rw[lA7,qcb,qcb,qpi l m,pq,Nat.pow_succ,zk,Nat.mul_assoc,Nat.mul_assoc,lEK (kD m) 256];omega
theorem qph:∀(l:List UInt8) (k:Nat),kD (l.drop k)=kD l / 256 ^ k
 |l,0=>by simp
 | [],k+1=>by simp[qnl]
 |b::l,k+1=>by
  have:=qlh b;rw[List.drop_succ_cons,qph l k,qcb,Nat.pow_succ,lEK (256 ^ k) 256,<-Nat.div_div_eq_div_mul]
  grind
theorem qyf:∀(l:List UInt8) (k:Nat),kD (l.take k)=kD l%256 ^ k
 |l,0=>by simp[qnl,Nat.mod_one]
 | [],k+1=>by simp[qnl]
 |b::l,k+1=>by have:=qlh b;rw[iq,qcb,qcb,qyf l k,Nat.pow_succ,lEK (256 ^ k) 256,Nat.mod_mul,show(kD l*256+b.toNat) / 256=kD l by omega,show(kD l*256+b.toNat)%256=b.toNat by omega];omega
theorem zj2(k:Nat):256 ^ k=2 ^ (8*k):=by rw[Nat.pow_mul]
theorem q35(x:Nat):Nat.land x 255=x%256:=by have:=Nat.and_two_pow_sub_one_eq_mod x 8;omega
theorem aFI(x k:Nat):Nat.shiftRight x (Nat.mul 8 k)=x / 256 ^ k:=by have:=Nat.shiftRight_eq_div_pow x (8*k);rw[zj2];exact this
theorem aL7(x k:Nat):Nat.shiftLeft x (Nat.mul 8 k)=256 ^ k*x:=by have:=Nat.shiftLeft_eq x (8*k);rw[zj2,lEK];exact this
theorem aO2(x k:Nat):Nat.land x (Nat.sub (Nat.shiftLeft 1 (Nat.mul 8 k)) 1)=x%256 ^ k:=by rw[aL7,qm,zj2];simp
theorem qzm(l:List UInt8)(i:Nat)(h:i<l.length):qeq (kD l) i=(l[i]).toNat:=by unfold qeq;rw[q35,aFI,<-qph,uq h,qcb];simp
theorem qef.eq{n a m b:Nat}{s t:ByteArray}(h:qef n a s)(k:qef m b t):eqS n a m b=(s.data.toList==t.data.toList):=by
 obtain⟨rfl,rfl⟩:=h;obtain⟨rfl,rfl⟩:=k;unfold eqS;rw[lAZ];simp only[qh,Nat.beq_eq,beq_iff_eq]
 grind [pack_inj]
theorem qef.append{n a m b:Nat}{s t:ByteArray}(h:qef n a s)(k:qef m b t):qef (n+m) (Nat.add a (Nat.shiftLeft b (Nat.mul 8 n))) (s++t):=by
 obtain⟨rfl,rfl⟩:=h;obtain⟨rfl,rfl⟩:=k;have e:(s++t).data.toList=s.data.toList++t.data.toList:=by simp
 exact⟨by rw[e,lL],by rw[e,qpi,aL7];rfl⟩
theorem zkx:∀(l m:List UInt8),qd6 l.length l.length (kD l) m.length (kD m)=Op.bytesLess l m
 | [],[]=>rfl
 | [],c::m=>by simp[qd6,Op.bytesLess];rfl
 |b::l,[]=>by simp[qd6,Op.bytesLess]
 |b::l,c::m=>by
  have ih:=zkx l m;have n:=qlh b;have o:=qlh c;have g:Nat.land (kD (b::l)) 255=b.toNat:=by rw[q35,qcb];omega
  have h:Nat.land (kD (c::m)) 255=c.toNat:=by rw[q35,qcb];omega
  have i:Nat.shiftRight (kD (b::l)) 8=kD l:=by
   have:=aFI (kD (b::l)) 1
   grind [qcb]
  have j:Nat.shiftRight (kD (c::m)) 8=kD m:=by
   have:=aFI (kD (c::m)) 1
   grind [qcb]
  show(bif Nat.beq (m.length+1) 0 then false else bif Nat.beq (l.length+1) 0 then true else
   bif Nat.beq (Nat.land (kD (b::l)) 255) (Nat.land (kD (c::m)) 255)then qd6 l.length (Nat.pred (l.length+1)) (Nat.shiftRight (kD (b::l)) 8) (Nat.pred (m.length+1)) (Nat.shiftRight (kD (c::m)) 8)
   else Nat.blt (Nat.land (kD (b::l)) 255) (Nat.land (kD (c::m)) 255))=_
  rw[g,h,i,j];simp only[Nat.pred_succ,Op.bytesLess,ih];have d:∀ k,Nat.beq (k+1) 0=false:=fun _=>rfl;rw[d,d,af,af];cases a:Nat.beq b.toNat c.toNat with
  |true=>
   grind [UInt8.toNat_inj,yM]
  |false=>
   have e:b≠c:=fun e=>qzt a (by rw[e]);cases f:Nat.blt b.toNat c.toNat with
   |true=>have:=yE f;simp[UInt8.lt_iff_toNat_lt,this]
   |false=>have:=zbn f;simp[UInt8.lt_iff_toNat_lt,this,e]
theorem qef.less{n a m b:Nat}{s t:ByteArray}(h:qef n a s)(k:qef m b t):qd6 n n a m b=Op.bytesLess s.data.toList t.data.toList:=by obtain⟨rfl,rfl⟩:=h;obtain⟨rfl,rfl⟩:=k;exact zkx _ _
theorem zjj{n a:Nat}{s:ByteArray}(h:qef n a s):aO ι (.str n a) (.string s):=by grind [aO]
theorem zsh{c:BinOp}{t ty:TypeId}{x y:Operand}(q:o.op=.binOp c t x y ty)(h:LR ι d n L a.tmps):iU P o a.eval ι w nm (eD (lC c).f ((aM d n x).f L) ((aM d n y).f L)):=by
 have g:=fK h x;have i:=fK h y;unfold eD;split
 ·rename_i m A p B k l;rw[k]at g;rw[l]at i;simp only[aO]at g i;obtain⟨s,r,e⟩:=g;obtain⟨u,z,f⟩:=i;have j:(execOp a.eval o).run P w=((binOp c t (.string s) (.string u)).run P w).andThen fun v w=>.ok (.value v) w:=by
   simp only[execOp,q,r,z,eqGuard];simp
  cases c<;>simp only[lC]<;>first|trivial|skip
  case add=>
   cases b:Nat.ble (m+p) 1099511627776 with
   |false=>trivial
   |true=>
    have b:=pK b;refine⟨_,?_,zjj (e.append f)⟩;rw[j];have k:s.size=m:=e.1;have l:u.size=p:=f.1;have:¬(((s.size+u.size:Nat):Int)>IntKind.i64.max):=by
     have:IntKind.i64.max=9223372036854775807:=by decide
     omega
    simp only[binOp,Op.stringOp,pg this,Sem.run_pure,Result.andThen_ok]
  all_goals
   refine⟨_,?_,qu2 _⟩;rw[j];simp[binOp,Op.stringOp,qhd,e.eq f,e.less f]
 ·trivial
theorem zsl{t:TypeId}{x y:Operand}(g:o.op=.index t x y)(i:P.underlying t=some .string)(h:LR ι d n L a.tmps):iU P o a.eval ι w nm (qdp ((aM d n x).f L) ((aM d n y).f L)):=by
 have b:=fK h x;have c:=fK h y;unfold qdp;split
 ·rename_i f B k j q r;rw[q]at b;rw[r]at c;simp only[aO]at b c;obtain⟨s,u,v,z⟩:=b;cases A:Nat.blt j f with
  |false=>trivial
  |true=>
   have l:=yE A;have e:j<s.data.toList.length:=by omega
   refine⟨_,?_,qco _ _⟩;have m:s.size=f:=v;have p:s[j]? =some (s.data.toList[j]):=by
    have:j<s.size:=by omega
    rw[getElem?_pos s j this];simp;rfl
   rw[<-z,qzm _ _ e];simp[execOp,g,Instr.index,u,c,asIntOf,dX i,p]
 ·trivial
def aA4(ι:Im):Option AV->Option Value->Prop
 |none,none=>True
 |some a,some v=>aO ι a v
 |_,_=>False
theorem qgp(h:LR ι d n L a.tmps)(x:Option Operand):aA4 ι ((qlz d n x).f L) (x.map a.eval):=by
 cases x with
 |none=>simp[qlz,aA4]
 |some x=>simp only[qlz,lEH,aA4];exact fK h x
theorem qzq{x:AV}{X:Value}(d:aO ι x X){f y k Y:Nat}(h:bnd (some x) f y=some k)(g:y<=Y)(c:BoundsCode):(Instr.sliceBound X Y c).run P w=.ok k w/\k<=y:=by
 unfold bnd at h;split at h
 ·simp_all
 ·rename_i i m e;cases e;cases b:Nat.ble m y with
  |false=>rw[b]at h;cases h
  |true=>
   rw[b]at h;simp only[uB,qo]at h;subst h;have:=pK b;have a:(m:Int)<=Y:=by omega
   subst d;exact⟨by simp[Instr.sliceBound,asIntOf,a],this⟩
 ·cases h
theorem qqh{lo g j:Option AV}{b i m:Option Value}(k:aA4 ι lo b)(n:aA4 ι g i)(p:aA4 ι j m){len a C:Nat}{d:Bd}(h:bounds len a lo g j=some d)(u:a<=C)(q:len<=a)(e:Bool):(Instr.sliceBounds e len C b i m).run P w=.ok (d.l,d.h,if j.isSome then d.m else C) w/\d.l<=d.h/\d.h<=d.m/\d.m<=a/\(j=none->d.m=a):=by
 cases j with
 |none=>
  cases m with
  |some _=>exact p.elim
  |none=>
   unfold bounds at h;have y:bnd none a a=some a:=rfl;rw[y]at h;simp only at h;cases f:bnd g len a with
   |none=>rw[f]at h;cases h
   |some hh'=>
    rw[f]at h;simp only at h;cases c:bnd lo 0 hh' with
    |none=>rw[c]at h;cases h
    |some ll=>
     rw[c]at h;simp only[qo]at h;subst h;have r:hh'<=a/\(Instr.sliceBounds e len C b i none).run P w=((match b with|some v=>Instr.sliceBound v hh' .sliceB|none=>pure 0).run P w).andThen fun l w=>.ok (l,hh',C) w:=by
      cases g with
      |none=>
       cases i with
       |some _=>exact n.elim
       |none=>simp only[bnd,qo]at f;subst f;refine⟨q,?_⟩;cases b<;>simp[Instr.sliceBounds]
      |some g=>
       cases i with
       |none=>exact n.elim
       |some i=>obtain⟨o,s⟩:=qzq (P:=P) (w:=w) (ι:=ι) n f u (if e then .sliceAcap else .sliceAlen);refine⟨s,?_⟩;cases b<;>simp[Instr.sliceBounds,o]
     rw[r.2];cases lo with
     |none=>
      cases b with
      |some _=>exact k.elim
      |none=>simp only[bnd,qo]at c;subst c;simp;omega
     |some lo=>
      cases b with
      |none=>exact k.elim
      |some b=>obtain⟨o,s⟩:=qzq (P:=P) (w:=w) (ι:=ι) k c (lu _) .sliceB;simp_all
 |some j=>
  cases m with
  |none=>exact p.elim
  |some m=>
   cases g with
   |none=>simp[bounds]at h
   |some g=>
    cases i with
    |none=>exact n.elim
    |some i=>
     unfold bounds at h;cases t:bnd (some j) a a with
     |none=>rw[t]at h;cases h
     |some mm=>
      rw[t]at h;simp only at h;cases f:bnd (some g) len mm with
      |none=>rw[f]at h;cases h
      |some hh'=>
       rw[f]at h;simp only at h;cases c:bnd lo 0 hh' with
       |none=>rw[c]at h;cases h
       |some ll=>
        rw[c]at h;simp only[qo]at h;subst h;obtain⟨x,z⟩:=qzq (P:=P) (w:=w) (ι:=ι) p t u (if e then .slice3Acap else .slice3Alen);obtain⟨o,s⟩:=qzq (P:=P) (w:=w) (ι:=ι) n f (lu _) .slice3B;cases lo with
        |none=>
         cases b with
         |some _=>exact k.elim
         |none=>simp only[bnd,qo]at c;subst c;simp[Instr.sliceBounds,x,o];omega
        |some lo=>
         cases b with
         |none=>exact k.elim
         |some b=>obtain⟨l1,A⟩:=qzq (P:=P) (w:=w) (ι:=ι) k c (lu _) .slice3C;simp[Instr.sliceBounds,x,o,l1];omega
theorem zaf{t:TypeId}{x:Operand}{lo c:Option Operand}(j:o.op=.slice t x lo c none)(k:P.underlying t=some .string)(h:LR ι d n L a.tmps):iU P o a.eval ι w nm (qut ((aM d n x).f L) ((qlz d n lo).f L) ((qlz d n c).f L)):=by
 have f:=fK h x;unfold qut;split
 ·rename_i m i e;rw[e]at f;simp only[aO]at f;obtain⟨s,l,p,u⟩:=f;split
  ·rename_i b q;obtain⟨r,v,y,z,A⟩:=qqh (P:=P) (w:=w) (ι:=ι) (qgp h lo) (qgp h c) (show aA4 ι none none from trivial) q (lu _) (lu _) false;have g:s.size=m:=p;refine⟨.string (s.extract b.l b.h),?_,zjj ⟨?_,?_⟩⟩
   ·simp only[execOp,j,Instr.sliceAt,Sem.run_bind,dX k,Result.andThen_ok,Instr.slice,l,Option.map_none,g];simp[r]
   ·have:(s.extract b.l b.h).size=min b.h s.size-b.l:=by simp
    show(s.extract b.l b.h).size=_;omega
   ·have:(s.extract b.l b.h).data.toList=(s.data.toList.drop b.l).take (b.h-b.l):=by simp
    grind [qyf,qph,aO2,aFI]
  ·trivial
 ·trivial
theorem zjv{t e:TypeId}{x:Operand}{lo v q:Option Operand}(K:o.op=.slice t x lo v q)(M:P.underlying t=some (.slice e)){z:Nat}(N:jA P e=some z)(h:LR ι d n L a.tmps):iU P o a.eval ι w nm (kU z ((aM d n x).f L) ((qlz d n lo).f L) ((qlz d n v).f L) ((qlz d n q).f L)):=by
 have u:=fK h x;have G:=qgp h lo;have p:=qgp h v;have H:=qgp h q;have B:∀(b:Option Addr) (len C l p m:Nat),a.eval x=.slice b len C->(Instr.sliceBounds true len C (lo.map a.eval) (v.map a.eval) (q.map a.eval)).run P w=.ok (l,p,m) w ->
   (execOp a.eval o).run P w=.ok (.value (.slice (if m=l then b else b.map (·.add (l*z))) (p-l) (m-l))) w:=fun b len C l p m s A=>by
  simp[execOp,K,Instr.sliceAt,dX M,Instr.slice,s,A,qR N]
 unfold kU;split
 ·rename_i D;rw[D]at u;simp only[aO]at u;split
  ·rename_i g E;obtain⟨r,R,y,S,I⟩:=qqh (P:=P) (w:=w) (ι:=ι) G p H E (lu _) (lu _) true;refine⟨.slice none 0 0,?_,by simp only[aO]⟩
   grind
  ·trivial
 ·rename_i b i len j J D;rw[D]at u;simp only[aO]at u;obtain⟨F,l,s,A⟩:=u;split
  ·rename_i g E;have O:j<=(if J=true then j else j+l.ext):=by grind
   obtain⟨r,R,y,S,I⟩:=qqh (P:=P) (w:=w) (ι:=ι) G p H E O F true;have f:=B _ _ _ _ _ _ A r;simp only[lEH,addr_add]at f;unfold iV;cases k:(qlz d n q).f L with
   |some mv=>
    simp only[k,Option.isSome_some,mg]at f;cases c:Nat.beq g.m g.l with
    |true=>
     have:=yM c;refine⟨_,f,?_⟩
     grind [aO,grind]
    |false=>
     have:=qzt c;refine⟨_,f,?_⟩;refine⟨Nat.sub_le_sub_right y _,l,s,?_⟩
     grind
   |none=>
    have Q:=I k;simp only[k,Option.isSome_none,dm,lEB]at f;cases J with
    |true=>
     simp only[mg]at f;cases c:Nat.beq g.m g.l with
     |true=>
      have:=yM c;refine⟨_,f,?_⟩
      grind [aO]
     |false=>
      have:=qzt c;refine⟨_,f,?_⟩;refine⟨Nat.sub_le_sub_right y _,l,s,?_⟩
      grind
    |false=>
     simp only[dm,lEB]at f;cases c:Nat.beq g.m g.l with
     |true=>
      have:=yM c;refine⟨_,f,?_⟩;rw[show g.h-g.l=0 by omega];split
      ·exact⟨_,_,rfl⟩
      ·exact⟨_,_,rfl⟩
     |false=>
      have:=qzt c;refine⟨_,f,?_⟩;refine⟨Nat.sub_le_sub_right y _,l,s,?_⟩
      grind
  ·trivial
 ·trivial
end Go.Ev
end
noncomputable section
namespace Go.Ev
open Go.RowKit
variable {P:Program} {ι:Im} {o:Oper} {a:Act} {nm:Nat} {d n:Nat} {L:TT AV d} {H:Hp}
theorem qk3{t:TypeId}{xs:List AV}{b:List Value}(d:aL ι xs b)(e:∀ v∈b,v.oneCell=true){a:Nat}{v:AV}(h:(qpg P t).f xs a=some v):∃V,(∀w,(part t b.toArray a).run P w=.ok V w)/\aO ι v V:=by
 unfold qpg at h;split at h
 ·rename_i k c g;simp only[qo]at h;subst h;refine⟨.agg (b.toArray.extract a (a+k)),fun w=>?_,?_⟩
  ·simp[part,qgn c,qR g]
  ·simp only[aO];refine⟨(b.drop a).take k,(d.drop a).take k,?_,fun v f=>e v (List.mem_of_mem_drop (oz f))⟩;simp
 ·rename_i c;obtain⟨V,i,j⟩:=d.get a v h;exact⟨V,fun w=>by simp[part,qgn c,i],j⟩
 ·cases h
def aJx(P:Program)(ι:Im)(D:Nat)(t:TypeId)(e:E2):Prop:=
 ∀x y X Y b,e.f x y=some b->aO ι x X->aO ι y Y->∀ D',D<=D'->∀ w,(Op.equalIn D' t X Y).run P w=.ok b w
theorem qee{l:List AV}{X:Value}(h:aO ι (.agg l) X):∃ vs,aL ι l vs/\X=.agg vs.toArray/\∀ v∈vs,v.oneCell=true:=by simpa only[aO] using h
theorem za5{D g:Nat}(u:D<=g){e:TypeId}{p:P1}{q:E2}(x:p=qpg P e)(y:aJx P ι D e q){xs o:List AV}{l m:List Value}(C:aL ι xs l)(E:aL ι o m)(F:∀ v∈l,v.oneCell=true)(G:∀ v∈m,v.oneCell=true)(z:Nat):∀(k i:Nat) (b:Bool),qcx p q z xs o k i=some b->∀ w, ∃r:Option Bool×Unit,(forIn (List.range' i k) ((none,()):Option Bool×Unit) fun j _=>do
    let a<-part e l.toArray (j*z)
    let c<-part e m.toArray (j*z)
    let t<-Op.equalIn g e a c
    if(!t)=true then pure (ForInStep.done (some false,()))else pure (ForInStep.yield (none,()))).run P w=.ok r w/\(b=true->r.fst=none)/\(b=false->r.fst=some false):=by
 intro k
 induction k with
 |zero=>intro i b h w;simp only[qcx,qo]at h;subst h;exact⟨(none,()),by simp,by simp,by simp⟩
 |succ k ih=>
  intro i b h w;simp only[qcx]at h;unfold andThen at h;have f:∀ t:Bool,qsq p q xs o (i*z)=some t->∃ A B,(∀w,(part e l.toArray (i*z)).run P w=.ok A w)/\(∀w,(part e m.toArray (i*z)).run P w=.ok B w)/\∀ w,(Op.equalIn g e A B).run P w=.ok t w:=by
   intro t n;unfold qsq at n;split at n
   ·rename_i a c d s;rw[x]at d s;obtain⟨A,H,I⟩:=qk3 C F d;obtain⟨B,J,K⟩:=qk3 E G s;exact⟨A,B,H,J,y _ _ _ _ _ n I K g u⟩
   ·cases n
  split at h
  ·rename_i d;obtain⟨A,B,L,M,N⟩:=f _ d;obtain⟨r,Q,O⟩:=ih (i+1) b h w;refine⟨r,?_,O⟩;rw[List.range'_succ,List.forIn_cons];simp_all
  ·rename_i d;simp only[qo]at h;subst h;obtain⟨A,B,L,M,N⟩:=f _ d;refine⟨(some false,()),?_,by simp,by simp⟩;rw[List.range'_succ,List.forIn_cons];simp_all
  ·cases h
theorem q4f{D D':Nat}(hD:D<=D'){xs ys:List AV}{XS YS:List Value}(hx:aL ι xs XS)(hy:aL ι ys YS)(h1:∀ v∈XS,v.oneCell=true)(h2:∀ v∈YS,v.oneCell=true)(q:TypeId->E2):∀(fs:List Field),(∀f∈fs,aJx P ι D f.type (q f.type))->∀ b,
  eqFields ((fs.filter fun f=>f.name != "_").map fun f=>(qpg P f.type,q f.type,f.offset)) xs ys=some b->∀ w,
  (Op.eqFields D' XS.toArray YS.toArray fs).run P w=.ok b w:=by
 intro fs
 induction fs with
 |nil=>intro _ b h w;simp[eqFields]at h;subst h;simp[Op.eqFields]
 |cons f fs ih=>
  intro hq b h w;have ihf:=ih (fun g hg=>hq g (by simp[hg]));unfold Op.eqFields
  by_cases hn:f.name = "_"
  ·simp_all
  ·have hb:(f.name != "_")=true:=by simp[hn]
   rw[List.filter_cons_of_pos (by grind),ou]at h;rw[qj hn];unfold eqFields at h;rw[List.foldr_cons]at h;unfold andThen at h;have key:∀ t:Bool,qsq (qpg P f.type) (q f.type) xs ys f.offset=some t->∃ A B,(∀w,(part f.type XS.toArray f.offset).run P w=.ok A w)/\(∀w,(part f.type YS.toArray f.offset).run P w=.ok B w)/\∀ w,(Op.equalIn D' f.type A B).run P w=.ok t w:=by
    intro t ht;unfold qsq at ht;split at ht
    ·rename_i a c e1 e2;obtain⟨A,a1,a2⟩:=qk3 hx h1 e1;obtain⟨B,b1,b2⟩:=qk3 hy h2 e2;exact⟨A,B,a1,b1,hq f (by simp) _ _ _ _ _ ht a2 b2 D' hD⟩
    ·cases ht
   split at h
   ·rename_i e1;obtain⟨A,B,r1,r2,r3⟩:=key _ e1;simp only[Sem.run_bind,r1,r2,r3,Result.andThen_ok,Bool.not_true,dm,lEB];exact ihf b h w
   ·rename_i e1;obtain⟨A,B,r1,r2,r3⟩:=key _ e1;simp only[qo]at h;subst h;simp only[Sem.run_bind,r1,r2,r3,Result.andThen_ok,Bool.not_false,mg,Sem.run_pure]
   ·cases h
theorem zx1:∀(D:Nat) (t:TypeId),aJx P ι D t (eqT P D t):=by
 intro D
 induction D with
 |zero=>intro t x y X Y b h;simp[eqT]at h
 |succ D ih=>
  intro t x y X Y b h c d C Q w;obtain⟨E,rfl⟩:∃ E,C=E+1:=⟨C-1,by omega⟩;rw[eqT]at h;split at h
  ·rename_i a;change qh5 x y=some b at h;unfold qh5 at h;split at h
   ·simp only[aO]at c d;subst c d;simp only[qo]at h;subst h;simp[Op.equalIn,dX a]
   ·cases h
  ·rename_i a;change qq1 x y=some b at h;unfold qq1 at h;split at h
   ·rename_i k m F p;simp only[aO]at c d;subst c d;cases A:eqK k F with
    |false=>rw[A]at h;cases h
    |true=>rw[A]at h;simp only[uB,qo]at h;subst h;have:=ztq A;subst this;simp[Op.equalIn,dX a,qfd]
   ·cases h
  ·rename_i a;change bL x y=some b at h;unfold bL at h;split at h
   ·simp only[aO]at c d;obtain⟨s,rfl,G⟩:=c;obtain⟨u,rfl,H⟩:=d;simp only[qo]at h;subst h;rw[run_equalIn_string w E t s u a,qhd,qhd,G.eq H]
   ·cases h
  ·rename_i I a;split at h
   ·cases h
   ·rename_i J;have g:P.stoodInHeld t=false:=by simpa using J
    simp only at h;unfold dQ at h;split at h
    ·rename_i xs K;obtain⟨L,i,rfl,j⟩:=qee c;obtain⟨M,n,rfl,o⟩:=qee d;have B:P.fieldsOf t=I:=by simp[Program.fieldsOf,a]
     rw[run_equalIn_struct w E t _ _ (by rw[B];exact a) g,B];exact q4f (by omega) i n j o (eqT P D) _ (fun f _=>ih f.type) b h w
    ·cases h
  ·rename_i len e a;split at h
   ·rename_i z N;simp only at h;unfold dQ at h;split at h
    ·rename_i xs K;obtain⟨L,i,rfl,j⟩:=qee c;obtain⟨M,n,rfl,o⟩:=qee d;obtain⟨r,O,q,v⟩:=za5 (P:=P) (show D<=E by omega) rfl (ih e) i n j o z len 0 b h w;simp only[Op.equalIn,Sem.run_bind,dX a,Result.andThen_ok,qR N,Std.Legacy.Range.forIn_eq_forIn_range',Std.Legacy.Range.size];simp only[Nat.sub_zero,lAL,Nat.div_one];rw[O];cases b with
     |true=>rw[Result.andThen_ok,q rfl];rfl
     |false=>rw[Result.andThen_ok,v rfl];rfl
    ·cases h
   ·cases h
  ·rename_i a;change ql1 x y=some b at h;unfold ql1 at h;split at h<;>first|(cases h;done)|skip
   all_goals (simp only[qo]at h;subst h;simp only[aO]at c d)
   ·subst c d;simp[Op.equalIn,dX a]
   ·obtain⟨l,_,rfl⟩:=d;subst c;simp[Op.equalIn,dX a]
   ·obtain⟨l,_,rfl⟩:=c;subst d;simp[Op.equalIn,dX a]
  ·rename_i a;change qH x y=some b at h;unfold qH at h;split at h<;>first|(cases h;done)|skip
   all_goals (simp only[qo]at h;subst h;simp only[aO]at c d)
   ·subst c d;simp[Op.equalIn,dX a]
   ·obtain⟨_,l,_,rfl⟩:=d;subst c;simp[Op.equalIn,dX a]
   ·obtain⟨_,l,rfl⟩:=d;subst c;simp[Op.equalIn,dX a]
   ·obtain⟨_,l,_,rfl⟩:=c;subst d;simp[Op.equalIn,dX a]
   ·obtain⟨_,l,rfl⟩:=c;subst d;simp[Op.equalIn,dX a]
  ·rename_i a;change ztp x y=some b at h;unfold ztp at h;split at h<;>first|(cases h;done)|skip
   all_goals (simp only[qo]at h;subst h;simp only[aO]at c d)
   ·subst c d;simp[Op.equalIn,dX a]
   ·obtain⟨l,_,rfl⟩:=d;subst c;simp[Op.equalIn,dX a]
   ·obtain⟨l,_,rfl⟩:=c;subst d;simp[Op.equalIn,dX a]
  ·rename_i a;change eqFn x y=some b at h;unfold eqFn at h;split at h<;>first|(cases h;done)|skip
   all_goals (simp only[qo]at h;subst h;simp only[aO]at c d)
   ·subst c d;simp[Op.equalIn,dX a]
   ·obtain⟨_,_,_,_,rfl⟩:=d;subst c;simp[Op.equalIn,dX a]
   ·obtain⟨_,_,_,_,rfl⟩:=c;subst d;simp[Op.equalIn,dX a]
  ·rename_i a;change aFz x y=some b at h;unfold aFz at h;split at h<;>first|(cases h;done)|skip
   all_goals (simp only[qo]at h;subst h;simp only[aO]at c d)
   ·obtain⟨_,_,rfl⟩:=d;subst c;simp[Op.equalIn,dX a]
   ·obtain⟨_,_,rfl⟩:=c;subst d;simp[Op.equalIn,dX a]
  ·cases h
end Go.Ev
end
noncomputable section
namespace Go.Ev
open Go.RowKit
variable {P:Program} {w:World} {ι:Im} {o:Oper} {a:Act} {nm:Nat} {d n:Nat} {L:TT AV d} {H:Hp}
/- copies of a zero value -/
theorem zji(l:List AV)(k:Nat):aS l (k+1)=l++aS l k:=rfl
def gZ(l:List Value):Nat->List Value
 |0=>[]
 |k+1=>l++gZ l k
theorem zjh(l:List AV):aS l 0=[]:=rfl
theorem qej{l:List AV}{vs:List Value}(h:aL ι l vs):∀ k,aL ι (aS l k) (gZ vs k)
 |0=>by simp[zjh,gZ,aL]
 |k+1=>by rw[zji,gZ];exact h.append (qej h k)
theorem qce(l:List Value):∀ k,(gZ l k).length=k*l.length
 |0=>by simp[gZ]
 |k+1=>by rw[gZ,lL,qce l k,zk];omega
theorem qhk{l:List Value}:∀{k:Nat} {v:Value},v∈gZ l k->v∈l
 |0,v,h=>by simp[gZ]at h
 |k+1,v,h=>by
  rw[gZ,qi]at h;rcases h with h|h
  ·exact h
  ·exact qhk h
theorem q7z(l:List Value):∀(k i:Nat),i<k*l.length->(gZ l k)[i]? =l[i%l.length]?
 |0,i,h=>by simp at h
 |k+1,i,h=>by
  rw[zk,lA5]at h;rw[gZ];by_cases a:i<l.length
  ·rw[uj a,Nat.mod_eq_of_lt a]
  ·rw[uh (by omega),q7z l k (i-l.length) (by omega)]
   grind [Nat.mod_eq_sub_mod]
theorem range_zero(Z:Array Value)(k s:Nat)(b:Z.size=s):(Array.range (k*s)).map (fun i=>Z[i%Z.size]!)=(gZ Z.toList k).toArray:=by
 apply Array.ext';apply List.ext_getElem?;intro i;have c:(gZ Z.toList k).toArray.toList=gZ Z.toList k:=by simp
 by_cases f:i<k*s
 ·have d:Z.toList.length=s:=by simpa using b
  rw[c,q7z _ _ _ (by grind),d];have a:0<s:=by grind
  have e:i%s<Z.size:=by rw[b];exact xq _ a
  simp_all
 ·rw[mf (by grind),mf (by grind [qce])]
theorem zjt(b:Nat):(askRoom b).run P w=.ok () w:=by simp
theorem zsi{t e:TypeId}{x y:Operand}(G:o.op=.makeSlice t x y)(H:P.underlying t=some (.slice e)){z:List AV}(I:qj8 P e=some z){b s:Nat}(J:qj4 P e=some b)(K:jA P e=some s)(j:z.length=s)(h:LR ι d n L a.tmps):iU P o a.eval ι w nm (qe9 z b nm ((aM d n x).f L) ((aM d n y).f L)):=by
 have k:=fK h x;have l:=fK h y;unfold qe9;split
 ·rename_i Z p k2 q U V;rw[U]at k;rw[V]at l;simp only[aO]at k l;cases E:(Nat.ble p q&&Nat.ble (Nat.mul q b) gV&&Nat.ble q gV)with
  |false=>trivial
  |true=>
   simp only[qh]at E;obtain⟨⟨u,A⟩,B⟩:=E;have u:=pK u;have A:q*b<=1099511627776:=pK A;have B:q<=1099511627776:=pK B;obtain⟨i,W,D,X⟩:=qcz (ι:=ι) I;obtain⟨ti,r,Y⟩:=qu7 (P:=P) J;have Q:i.cells.toList.length=s:=by rw[D.length,j]
   have w1:IntKind.i64.wrap (p:Int)=p:=IntWalk.i64_in _ (by omega);have R:IntKind.i64.wrap (q:Int)=q:=IntWalk.i64_in _ (by omega);have C:(ti.bytes:Int)*(q:Int)<=281474976710656:=by grind
   refine⟨.slice (some ⟨w.heap.size,0,none⟩) p q,w.alloc (.cells (gZ i.cells.toList q).toArray e),⟨w.heap.size,0,0,0⟩,?_,New.alloc w _ 0 0,fun M c N=>⟨?_,qgs (qej D q) (fun v O=>X v (qhk O)) e nm 0 M c N⟩⟩
   ·have m:¬((p:Int)<0):=by omega
    have f:¬((q:Int)<0):=by omega
    have c:¬((q:Int)<p):=by omega
    have g:¬((ti.bytes:Int)*(q:Int)>2 ^ 48):=by grind
    simp only[execOp,G,Instr.makeSlice,Sem.run_bind,dX H,Result.andThen_ok,k,l,asInt,asIntOf,Sem.run_pure,r,ut,w1,R];simp only[m,f,c,g,decide_false,Bool.or_false,dm,lEB,gt_iff_lt,Sem.run_pure,Result.andThen_ok,Int.toNat_natCast,Sem.run_bind,zjt,qR K,Sem.run_ite];by_cases F:q*s=0
    ·have S:(gZ i.cells.toList q)=[]:=tu.1 (by grind [qce]);have T:Array.map (fun _:Nat=>(default:Value)) (Array.range 0)= #[]:=by grind
     simp[F,S,newRow,T]
    ·simp only[F,lEB,qdf W,Result.andThen_ok];rw[range_zero i.cells q s (by grind)];rfl
   ·grind [aO]
 ·trivial
/- aggregates: parts laid in -/
theorem zbd{v:AV}{V:Value}(h:aO ι v V){l:List AV}(a:uQ v=some l):aL ι l V.cells.toList/\∀ x∈V.cells.toList,x.oneCell=true:=by
 unfold uQ at a;split at a
 ·simp only[qo]at a;subst a;obtain⟨vs,b,rfl,i⟩:=qee h;trivial
 ·cases a
 ·cases a
 ·cases a
 ·rename_i d e j f;simp only[qo]at a;subst a;have c:v.plain=true:=by grind [AV.plain]
  obtain⟨b,g⟩:=h.one c;rw[g];exact⟨aL.singleton h,by simpa using b⟩
theorem ztk:∀(l:List Value) (C:Array Value) (a k:Nat),a+k+l.length<=C.size -> ((l.zipIdx k).foldl (fun cs (x:Value×Nat)=>cs.setIfInBounds (a+x.2) x.1) C).toList=C.toList.take (a+k)++l++C.toList.drop (a+k+l.length):=by
 intro l
 induction l with
 |nil=>intro C a k h;simp
 |cons v l ih=>
  intro C a k h;rw[pq]at h;rw[List.zipIdx_cons,lEI,ih _ _ _ (by simp;omega)];simp only[Array.toList_setIfInBounds,pq];have b:a+k<C.toList.length:=by simp;omega
  rw[List.drop_set_of_lt (by omega),show a+(k+1)=(a+k)+1 by omega,lh (by grind)];rw[List.take_set_of_le (lu _)]
  grind
theorem q97{c:List AV}{C:Array Value}(d:aL ι c C.toList)(n:∀ v∈C.toList,v.oneCell=true){v:AV}{V:Value}(i:aO ι v V){l e:List AV}(j:uQ v=some l){a size:Nat}(h:qo0 c a size l=some e):V.cells.size=size/\a+V.cells.size<=C.size/\aL ι e (V.cells.zipIdx.foldl (fun cs (x:Value×Nat)=>cs.setIfInBounds (a+x.2) x.1) C).toList /\ (∀x∈(V.cells.zipIdx.foldl (fun cs (x:Value×Nat)=>cs.setIfInBounds (a+x.2) x.1) C).toList,x.oneCell=true):=by
 obtain⟨g,r⟩:=zbd i j;unfold qo0 at h;cases b:(Nat.beq l.length size&&Nat.ble (a+size) c.length)with
 |false=>rw[b]at h;cases h
 |true=>
  rw[b]at h;simp only[uB,qo]at h;subst h;simp only[qh]at b;have k:=yM b.1;have p:=pK b.2;have f:V.cells.size=size:=by have:=g.length;simpa [k] using this
  have q:C.size=c.length:=by simpa using d.length
  have m:(V.cells.zipIdx.foldl (fun cs (x:Value×Nat)=>cs.setIfInBounds (a+x.2) x.1) C).toList=C.toList.take a++V.cells.toList++C.toList.drop (a+size):=by rw[<-Array.foldl_toList,Array.toList_zipIdx,ztk _ _ _ _ (by simp;omega)];simp[f]
  rw[m];refine⟨f,by omega,(((d.take a).append g).append (d.drop (a+size))),fun x o=>?_⟩
  grind
def aDG(ι:Im)(place:Nat->Option (Nat×Nat)):List (Nat×Nat×AV)->List (Nat×Value)->Prop
 | [],ps=>ps=[]
 |(off,size,v)::l,ps=>∃ i V r,ps=(i,V)::r/\place i=some (off,size)/\aO ι v V/\aDG ι place l r
theorem qjs(h:LR ι d n L a.tmps)(b:Nat->Option (Nat×Nat)):∀(ps:List (Nat×Operand)) (r:RdP d),qqx d n b ps=some r->aDG ι b (r.f L) (ps.map fun(i,x)=>(i,a.eval x))
 | [],r,hr=>by grind [qqx,qo,aDG]
 |(i,x)::ps,r,hr=>by
  simp only[qqx]at hr;split at hr
  ·rename_i c size g k e f j;simp only[qo]at hr;subst hr;refine⟨i,a.eval x,_,rfl,e,?_,?_⟩
   ·have:=fK h x;rw[f]at this;exact this
   ·exact qjs h b ps _ j
  ·cases hr
theorem qfn{a:Nat->Option (Nat×Nat)}:∀{l:List (Nat×Nat×AV)} {ps:List (Nat×Value)} {c b:List AV} {C:Array Value},aDG ι a l ps->aL ι c C.toList->(∀v∈C.toList,v.oneCell=true)->bH c l=some b -> ∃d,Instr.fill a C ps=some d/\aL ι b d.toList/\∀ v∈d.toList,v.oneCell=true
 | [],ps,c,b,C,hp,hc,h1,h=>by simp only[aDG]at hp;subst hp;simp only[bH,qo]at h;subst h;exact⟨C,rfl,hc,h1⟩
 |(off,size,v)::l,ps,c,b,C,hp,hc,h1,h=>by
  obtain⟨i,V,r,rfl,g,j,k⟩:=hp;simp only[bH]at h;split at h
  ·rename_i lv e;split at h
   ·rename_i o f;obtain⟨p,q,m,n⟩:=q97 hc h1 j e f;obtain⟨d,s,t,u⟩:=qfn k m n h
    grind [Instr.fill]
   ·cases h
  ·cases h
theorem zsn{t e:TypeId}{ps:Array (Nat×Operand)}(b:o.op=.build t ps){len:Nat}(f:P.underlying t=some (.array len e)){z:List AV}(g:qj8 P t=some z){s:Nat}(j:jA P e=some s){r:RdP d}(k:qqx d n (fun i=>some (i*s,s)) ps.toList=some r)(h:LR ι d n L a.tmps):iU P o a.eval ι w nm (bP (bH z (r.f L))):=by
 obtain⟨A,l,m,p⟩:=qcz (ι:=ι) g;cases y:bH z (r.f L)with
 |none=>trivial
 |some c=>obtain⟨q,u,v,x⟩:=qfn (qjs h _ _ _ k) m p y;refine⟨.agg q,?_,by simp only[aO];exact⟨_,v,by simp,x⟩⟩;simp only[execOp,b,Instr.build,Sem.run_bind,qdf l,Result.andThen_ok,dX f,qR j,lAH,u];rfl
theorem qo3(a:List Field)(h:∀ f∈a,(jA P f.type).isSome=true):∀(acc:Array (Nat×Nat)), (List.foldlM (fun(b:Array (Nat×Nat)) (f:Field)=>do let y<-(do pure (f.offset,<-sizeOf f.type):Sem (Nat×Nat));pure (b.push y)) acc a).run P w =
   .ok (acc++(a.map fun f=>(f.offset,(jA P f.type).getD 0)).toArray) w:=by
 induction a with
 |nil=>intro acc;simp
 |cons f a ih=>intro acc;obtain⟨s,c⟩:=lAU.1 (h f (by simp));rw[List.foldlM_cons];simp only[Sem.run_bind,qR c,Result.andThen_ok,Sem.run_pure];simp_all
theorem zsm{t:TypeId}{ps:Array (Nat×Operand)}(l:o.op=.build t ps){b:Array Field}(m:P.underlying t=some (.struct b)){z:List AV}(p:qj8 P t=some z)(j:b.toList.all (fun f=>(jA P f.type).isSome)=true){r:RdP d}(q:qqx d n (qfz P b) ps.toList=some r)(h:LR ι d n L a.tmps):iU P o a.eval ι w nm (bP (bH z (r.f L))):=by
 obtain⟨G,x,y,A⟩:=qcz (ι:=ι) p;cases F:bH z (r.f L)with
 |none=>trivial
 |some c=>
  have e:∀ f∈b.toList,(jA P f.type).isSome=true:=fun f k=>vk.1 j f k;obtain⟨B,H,C,D⟩:=qfn (qjs h _ _ _ q) y A F;refine⟨.agg B,?_,by simp only[aO];exact⟨_,C,by simp,D⟩⟩;have u:(fun i=>(b.map fun f=>(f.offset,(jA P f.type).getD 0))[i]?)=qfz P b:=by
   funext i;unfold qfz;rw[Array.getElem?_map];cases k:b[i]? with
   |none=>rfl
   |some f=>
    have v:f∈b.toList:=by grind
    obtain⟨s,E⟩:=lAU.1 (e f v);simp[E]
  have g:(b.mapM fun f=>(do pure (f.offset,<-sizeOf f.type):Sem (Nat×Nat))).run P w=.ok (b.map fun f=>(f.offset,(jA P f.type).getD 0)) w:=by
   rw[Array.mapM_eq_foldlM,<-Array.foldlM_toList];have:=qo3 (P:=P) (w:=w) b.toList e #[];simp only[bind_pure_comp]at this ⊢;rw[this];congr 1
   grind
  simp only[execOp,l,Instr.build,Sem.run_bind,qdf x,Result.andThen_ok,dX m,g,lAH];simp_all
end Go.Ev
end
