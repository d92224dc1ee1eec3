/-
 For ReachesElse: the evaluator and its soundness, part 1 of 2: what a run of the abstract evaluator answers, the model's run answers, in every world and on every schedule. No conditions beyond those that each theorem states.
-/
import GoSem.Step
import Derived.Below
import Derived.Calls
import Derived.Wp
import Derived.IntWalk
import Derived.Laws.Strings
import Derived.Laws.StructEq
import Derived.Laws.NewFold
import Derived.Lib.Bytealg
import Derived.KernelRfl
import Derived.CallsIn
import Derived.OrdersIn
import Derived.TacticsIn
import Derived.RangeFuncLeaves
namespace Go
theorem nh:type_of% @List.take_succ_eq_append_getElem:=List.take_succ_eq_append_getElem
theorem j0:type_of% @List.getElem?_eq_getElem:=List.getElem?_eq_getElem
theorem nj:type_of% @List.length_append:=List.length_append
theorem sx:type_of% @List.getElem_mem:=List.getElem_mem
theorem sy:type_of% @if_neg:=if_neg
theorem AE:type_of% @Nat.lt_of_lt_of_le:=Nat.lt_of_lt_of_le
theorem vt:type_of% @List.getD_eq_getElem?_getD:=List.getD_eq_getElem?_getD
theorem AF:type_of% @Nat.le_refl:=Nat.le_refl
theorem vu:type_of% @List.length_map:=List.length_map
theorem nk:type_of% @List.length_cons:=List.length_cons
theorem nr:type_of% @Nat.zero_add:=Nat.zero_add
theorem sA:type_of% @Bool.and_eq_true:=Bool.and_eq_true
theorem j7:type_of% @decide_eq_true:=decide_eq_true
theorem sB:type_of% @if_pos:=if_pos
theorem lAJ:type_of% @List.mem_append:=List.mem_append
theorem lAK:type_of% @List.mem_singleton:=List.mem_singleton
theorem lAL:type_of% @List.getElem?_eq_some_iff:=List.getElem?_eq_some_iff
theorem AH:type_of% @Option.some.injEq:=Option.some.injEq
theorem sR:type_of% @List.append_assoc:=List.append_assoc
theorem vx:type_of% @Nat.mul_one:=Nat.mul_one
theorem nt:type_of% @List.flatMap_append:=List.flatMap_append
theorem sT:type_of% @decide_eq_false:=decide_eq_false
theorem AJ:type_of% @List.flatMap_singleton:=List.flatMap_singleton
theorem AK:type_of% @Nat.eq_of_beq_eq_true:=Nat.eq_of_beq_eq_true
theorem vy:type_of% @Nat.zero_le:=Nat.zero_le
theorem AL:type_of% @Nat.le_trans:=Nat.le_trans
theorem AM:type_of% @List.getElem?_append_right:=List.getElem?_append_right
theorem DM:type_of% @List.flatMap_cons:=List.flatMap_cons
theorem AN:type_of% @cond_true:=cond_true
theorem AO:type_of% @List.map_append:=List.map_append
theorem lE4:type_of% @List.mem_cons:=List.mem_cons
theorem lE5:type_of% @List.length_eq_zero_iff:=List.length_eq_zero_iff
theorem DN:type_of% @List.append_nil:=List.append_nil
theorem sX:type_of% @List.getElem?_append_left:=List.getElem?_append_left
theorem vA:type_of% @List.mem_cons_self:=List.mem_cons_self
theorem sY:type_of% @List.length_take:=List.length_take
theorem lEA:type_of% @List.mem_map:=List.mem_map
theorem AQ:type_of% @List.take_of_length_le:=List.take_of_length_le
theorem iP:type_of% @List.drop_eq_getElem_cons:=List.drop_eq_getElem_cons
theorem DP:type_of% @List.length_nil:=List.length_nil
theorem DQ:type_of% @List.mem_cons_of_mem:=List.mem_cons_of_mem
theorem AS:type_of% @List.getElem?_map:=List.getElem?_map
theorem sZ:type_of% @Classical.choose_spec:=Classical.choose_spec
theorem lEI:type_of% @List.mem_flatMap:=List.mem_flatMap
theorem vL:type_of% @Nat.mul_le_mul_right:=Nat.mul_le_mul_right
theorem vT:type_of% @Nat.min_le_right:=Nat.min_le_right
theorem lEL:type_of% @List.pairwise_iff_getElem:=List.pairwise_iff_getElem
theorem af:type_of% @Nat.add_assoc:=Nat.add_assoc
theorem lEN:type_of% @List.all_eq_true:=List.all_eq_true
theorem gy:type_of% @List.mem_of_find?_eq_some:=List.mem_of_find?_eq_some
theorem aj:type_of% @List.take_length:=List.take_length
theorem eQ:type_of% @Nat.le_of_ble_eq_true:=Nat.le_of_ble_eq_true
theorem oh:type_of% @List.drop_append_of_le_length:=List.drop_append_of_le_length
theorem ig:type_of% @List.drop_eq_nil_of_le:=List.drop_eq_nil_of_le
theorem au:type_of% @List.nil_append:=List.nil_append
theorem lEU:type_of% @List.mem_filter:=List.mem_filter
theorem ae:type_of% @eq_true:=eq_true
theorem cu:type_of% @List.map_singleton:=List.map_singleton
theorem dh:type_of% @Bool.not_eq_true':=Bool.not_eq_true'
theorem mf:type_of% @Nat.add_sub_cancel_left:=Nat.add_sub_cancel_left
theorem gp:type_of% @decide_eq_true_iff:=decide_eq_true_iff
theorem ik:type_of% @List.mem_map_of_mem:=List.mem_map_of_mem
theorem dm:type_of% @List.filter_cons:=List.filter_cons
theorem lI2:type_of% @List.nodup_append:=List.nodup_append
theorem iq:type_of% @List.getElem?_drop:=List.getElem?_drop
theorem mg:type_of% @Nat.ble_eq_true_of_le:=Nat.ble_eq_true_of_le
theorem ah:type_of% @Nat.mod_lt:=Nat.mod_lt
theorem oq:type_of% @decide_eq_false_iff_not:=decide_eq_false_iff_not
theorem ku:type_of% @List.getElem_of_mem:=List.getElem_of_mem
theorem lI8:type_of% @List.pairwise_append:=List.pairwise_append
theorem bf:type_of% @Nat.add_zero:=Nat.add_zero
theorem lg:type_of% @List.filter_append:=List.filter_append
theorem qm:type_of% @List.take_length_add_append:=List.take_length_add_append
theorem qo:type_of% @List.drop_length_add_append:=List.drop_length_add_append
theorem ou:type_of% @List.length_filter_le:=List.length_filter_le
theorem lIE:type_of% @List.any_eq_true:=List.any_eq_true
theorem dC:type_of% @Nat.lt_irrefl:=Nat.lt_irrefl
theorem iy:type_of% @List.length_set:=List.length_set
theorem sP:type_of% @Array.getD_eq_getD_getElem?:=Array.getD_eq_getD_getElem?
theorem bz:type_of% @Nat.add_mul:=Nat.add_mul
theorem mE:type_of% @decide_eq_true_eq:=decide_eq_true_eq
theorem dE:type_of% @Nat.le_of_lt:=Nat.le_of_lt
theorem bu:type_of% @cond_false:=cond_false
theorem qf:type_of% @Int.ofNat_eq_natCast:=Int.ofNat_eq_natCast
theorem lh:type_of% @Nat.min_eq_left:=Nat.min_eq_left
theorem lIO:type_of% @List.length_pos_iff:=List.length_pos_iff
theorem qp:type_of% @List.getElem?_eq_none:=List.getElem?_eq_none
theorem qw:type_of% @List.take_append_drop:=List.take_append_drop
theorem gq:type_of% @Nat.sub_self:=Nat.sub_self
theorem ny:type_of% @Bool.or_eq_true:=Bool.or_eq_true
theorem oz:type_of% @List.length_drop:=List.length_drop
theorem lIU:type_of% @Array.getElem?_eq_some_iff:=Array.getElem?_eq_some_iff
theorem lq:type_of% @List.all_cons:=List.all_cons
theorem ai:type_of% @if_true:=if_true
theorem qx:type_of% @List.take_succ_cons:=List.take_succ_cons
theorem qy:type_of% @List.map_congr_left:=List.map_congr_left
theorem uu:type_of% @Array.getElem?_eq_getElem:=Array.getElem?_eq_getElem
theorem pg:type_of% @List.any_append:=List.any_append
theorem xm:type_of% @List.take_append_of_le_length:=List.take_append_of_le_length
theorem qg:type_of% @List.cons_append:=List.cons_append
theorem qh:type_of% @Nat.lt_succ_self:=Nat.lt_succ_self
theorem lu:type_of% @Nat.lt_or_ge:=Nat.lt_or_ge
theorem lL:type_of% @List.map_map:=List.map_map
theorem lO6:type_of% @List.mem_flatten:=List.mem_flatten
theorem og:type_of% @List.map_cons:=List.map_cons
theorem sW:type_of% @List.mem_of_getElem?:=List.mem_of_getElem?
theorem pq:type_of% @List.drop_zero:=List.drop_zero
theorem rf:type_of% @List.flatten_cons:=List.flatten_cons
theorem qi:type_of% @Nat.min_le_left:=Nat.min_le_left
theorem rq:type_of% @List.drop_length:=List.drop_length
theorem tq:type_of% @Bool.false_eq_true:=Bool.false_eq_true
theorem tu:type_of% @List.getElem?_take:=List.getElem?_take
theorem lOF:type_of% @List.mem_range:=List.mem_range
theorem xq:type_of% @List.mem_or_eq_of_mem_set:=List.mem_or_eq_of_mem_set
theorem uw:type_of% @List.mem_append_left:=List.mem_append_left
theorem lOI:type_of% @List.nodup_cons:=List.nodup_cons
theorem xu:type_of% @List.getElem?_cons_succ:=List.getElem?_cons_succ
theorem uy:type_of% @List.flatten_append:=List.flatten_append
theorem ry:type_of% @List.take_zero:=List.take_zero
theorem su:type_of% @List.drop_drop:=List.drop_drop
theorem uf:type_of% @List.flatMap_map:=List.flatMap_map
theorem qj:type_of% @List.map_set:=List.map_set
theorem ug:type_of% @Option.map_some:=Option.map_some
theorem uh:type_of% @List.foldl_cons:=List.foldl_cons
theorem ui:type_of% @Nat.not_lt_zero:=Nat.not_lt_zero
theorem xx:type_of% @List.length_singleton:=List.length_singleton
theorem lOT:type_of% @List.mem_iff_getElem?:=List.mem_iff_getElem?
theorem xy:type_of% @List.length_replicate:=List.length_replicate
theorem lOV:type_of% @Option.ne_none_iff_exists':=Option.ne_none_iff_exists'
theorem uj:type_of% @Nat.mul_le_mul:=Nat.mul_le_mul
theorem lOX:type_of% @Option.isSome_iff_exists:=Option.isSome_iff_exists
theorem uz:type_of% @Nat.le_of_not_lt:=Nat.le_of_not_lt
theorem sL:type_of% @Nat.zero_mul:=Nat.zero_mul
theorem uk:type_of% @Bool.false_or:=Bool.false_or
theorem lU1:type_of% @Bool.eq_iff_iff:=Bool.eq_iff_iff
theorem xF:type_of% @Nat.add_sub_cancel:=Nat.add_sub_cancel
theorem yc:type_of% @List.set_cons_succ:=List.set_cons_succ
theorem uA:type_of% @List.range_succ:=List.range_succ
theorem yf:type_of% @Nat.lt_of_le_of_lt:=Nat.lt_of_le_of_lt
theorem yg:type_of% @List.pairwise_cons:=List.pairwise_cons
theorem zx:type_of% @List.getElem_cons_succ:=List.getElem_cons_succ
theorem yh:type_of% @List.ext_getElem?:=List.ext_getElem?
theorem lU9:type_of% @Bool.eq_false_iff:=Bool.eq_false_iff
theorem yj:type_of% @List.length_range:=List.length_range
theorem yl:type_of% @List.getElem_take:=List.getElem_take
theorem um:type_of% @Nat.sub_zero:=Nat.sub_zero
theorem zy:type_of% @List.length_mergeSort:=List.length_mergeSort
theorem uo:type_of% @Nat.beq_refl:=Nat.beq_refl
theorem uB:type_of% @List.nodup_nil:=List.nodup_nil
theorem uq:type_of% @List.any_map:=List.any_map
theorem AG:type_of% @List.countP_le_length:=List.countP_le_length
theorem yu:type_of% @Array.toList_map:=Array.toList_map
theorem pz:type_of% @if_false:=if_false
theorem AP:type_of% @List.mem_of_mem_take:=List.mem_of_mem_take
theorem AU:type_of% @Bool.or_eq_false_iff:=Bool.or_eq_false_iff
theorem lUM:type_of% @List.mem_iff_getElem:=List.mem_iff_getElem
theorem yw:type_of% @List.getElem_map:=List.getElem_map
theorem ut:type_of% @Nat.one_mul:=Nat.one_mul
theorem yx:type_of% @List.find?_some:=List.find?_some
theorem uC:type_of% @Nat.mul_comm:=Nat.mul_comm
theorem vk:type_of% @Nat.lt_trans:=Nat.lt_trans
end Go
set_option linter.all false
noncomputable section
namespace Go.Ev
structure Q(α:Type) where
 (c0 c1 c2 c3 c4 c5 c6 c7:α)
def TT(α:Type):Nat->Type
 |0=>α
 |d+1=>Q (TT α d)
structure aAf(α:Type)(d:Nat) where f:TT α d->α
structure zV(α:Type)(d:Nat) where f:TT α d->α->TT α d
structure mK(α:Type) where f:Q α->α
structure mD(α:Type) where f:(α->α)->Q α->Q α
def bAI(α:Type):mK α:=⟨λt=>Q.rec (motive:=λ_=>α) (λc0 _ _ _ _ _ _ _=>c0) t⟩
def bCV(α:Type):mK α:=⟨λt=>Q.rec (motive:=λ_=>α) (λ_ a _ _ _ _ _ _=>a) t⟩
def bFh(α:Type):mK α:=⟨λt=>Q.rec (motive:=λ_=>α) (λ_ _ a _ _ _ _ _=>a) t⟩
def bCj(α:Type):mK α:=⟨λt=>Q.rec (motive:=λ_=>α) (λ_ _ _ a _ _ _ _=>a) t⟩
def bDZ(α:Type):mK α:=⟨λt=>Q.rec (motive:=λ_=>α) (λ_ _ _ _ c4 _ _ _=>c4) t⟩
def aWa(α:Type):mK α:=⟨λt=>Q.rec (motive:=λ_=>α) (λ_ _ _ _ _ c5 _ _=>c5) t⟩
def bAT(α:Type):mK α:=⟨λt=>Q.rec (motive:=λ_=>α) (λ_ _ _ _ _ _ a _=>a) t⟩
def bAg(α:Type):mK α:=⟨λt=>Q.rec (motive:=λ_=>α) (λ_ _ _ _ _ _ _ a=>a) t⟩
def bD0(α:Type):mD α:=⟨λf t=>Q.rec (motive:=λ_=>Q α) (λc0 a b c c4 c5 d e=>⟨f c0,a,b,c,c4,c5,d,e⟩) t⟩
def aXu(α:Type):mD α:=⟨λf t=>Q.rec (motive:=λ_=>Q α) (λc0 a b c c4 c5 d e=>⟨c0,f a,b,c,c4,c5,d,e⟩) t⟩
def aWi(α:Type):mD α:=⟨λf t=>Q.rec (motive:=λ_=>Q α) (λc0 a b c c4 c5 d e=>⟨c0,a,f b,c,c4,c5,d,e⟩) t⟩
def aWz(α:Type):mD α:=⟨λf t=>Q.rec (motive:=λ_=>Q α) (λc0 a b c c4 c5 d e=>⟨c0,a,b,f c,c4,c5,d,e⟩) t⟩
def aYc(α:Type):mD α:=⟨λf t=>Q.rec (motive:=λ_=>Q α) (λc0 a b c c4 c5 d e=>⟨c0,a,b,c,f c4,c5,d,e⟩) t⟩
def bB4(α:Type):mD α:=⟨λf t=>Q.rec (motive:=λ_=>Q α) (λc0 a b c c4 c5 d e=>⟨c0,a,b,c,c4,f c5,d,e⟩) t⟩
def bBA(α:Type):mD α:=⟨λf t=>Q.rec (motive:=λ_=>Q α) (λc0 a b c c4 c5 d e=>⟨c0,a,b,c,c4,c5,f d,e⟩) t⟩
def aWc(α:Type):mD α:=⟨λf t=>Q.rec (motive:=λ_=>Q α) (λc0 a b c c4 c5 d e=>⟨c0,a,b,c,c4,c5,d,f e⟩) t⟩
def Vf(α:Type)(k:Nat):mK α:=Nat.rec (motive:=λ_=>mK α) (bAI α) (λk _=>Nat.rec (motive:=λ_=>mK α) (bCV α) (λk _=>Nat.rec (motive:=λ_=>mK α) (bFh α) (λk _=>Nat.rec (motive:=λ_=>mK α) (bCj α) (λk _=>Nat.rec (motive:=λ_=>mK α) (bDZ α) (λk _=>Nat.rec (motive:=λ_=>mK α) (aWa α) (λk _=>Nat.rec (motive:=λ_=>mK α) (bAT α) (λ_ _=>bAg α) k) k) k) k) k) k) k
def Qd(α:Type)(k:Nat):mD α:=Nat.rec (motive:=λ_=>mD α) (bD0 α) (λk _=>Nat.rec (motive:=λ_=>mD α) (aXu α) (λk _=>Nat.rec (motive:=λ_=>mD α) (aWi α) (λk _=>Nat.rec (motive:=λ_=>mD α) (aWz α) (λk _=>Nat.rec (motive:=λ_=>mD α) (aYc α) (λk _=>Nat.rec (motive:=λ_=>mD α) (bB4 α) (λk _=>Nat.rec (motive:=λ_=>mD α) (bBA α) (λ_ _=>aWc α) k) k) k) k) k) k) k
def dV{α:Type}(d:Nat):Nat->aAf α d:=
 Nat.rec (motive:=λd=>Nat->aAf α d) (λ_=>⟨λt=>t⟩)
  (λd a i=>aAf.rec (motive:=λ_=>aAf α (d+1)) (λg=>mK.rec (motive:=λ_=>aAf α (d+1)) (λs=>⟨λt=>g (s t)⟩) (Vf (TT α d) (Nat.land i 7))) (a (Nat.shiftRight i 3))) d
def ak{α:Type}(d:Nat):Nat->zV α d:=
 Nat.rec (motive:=λd=>Nat->zV α d) (λ_=>⟨λ_ v=>v⟩)
  (λd a i=>zV.rec (motive:=λ_=>zV α (d+1)) (λg=>mD.rec (motive:=λ_=>zV α (d+1)) (λs=>⟨λt v=>s (λc=>g c v) t⟩) (Qd (TT α d) (Nat.land i 7))) (a (Nat.shiftRight i 3))) d
def same{α:Type}(a:α):(d:Nat)->TT α d
 |0=>a
 |d+1=>(⟨same a d,same a d,same a d,same a d,same a d,same a d,same a d,same a d⟩:Q (TT α d))
inductive AV where
 |undef
 |lit (v:Value)
 |bool (b:Bool)
 |int (k:IntKind) (n:Int)
 |str (len bits:Nat)
 |ptr (b o:Nat)
 |bQ
 |sl (b o len cap:Nat) (ex:Bool)
 |aA
 |sle
 |map (m:Nat)
 |bU
 |fn (f:FuncId) (first cap:List AV)
 |yield (l:Nat)
 |iV
 |iface (t:TypeId) (v:AV)
 |pV
 |agg (l:List AV)
 |aX (l:List AV)
structure eT where
 (key val:AV)
 born:Nat
inductive cZ where
 |dead
 |cells (d n:Nat) (c:TT AV d) (ro:Bool) (z:Nat)
 |map (es:List eT) (clock:Nat)
 |sV (len bits pos:Nat)
 |loop (ready:Bool) (pending:Option Code) (d n:Nat) (L:TT AV d) (params:List Tmp) (assign body:Code)
def cZ.wr:cZ->Bool
 | .dead=>false
 | .cells _ _ _ ro _=> !ro
 |_=>true
def HD:Nat:=7
structure Mem where
 t:TT cZ HD
 x:Nat->cZ
def Mem.get(m:Mem)(i:Nat):cZ:=bif Nat.blt i 2097152 then(dV HD i).f m.t else m.x i
def Mem.put(m:Mem)(i:Nat)(b:cZ):Mem:=bif Nat.blt i 2097152 then⟨(ak HD i).f m.t b,m.x⟩else⟨m.t,λc=>bif Nat.beq c i then b else m.x c⟩
structure Hp where
 t:Mem
 nx:Nat
def Hp.get(H:Hp)(i:Nat):cZ:=H.t.get i
def Hp.put(H:Hp)(i:Nat)(b:cZ):Hp:=⟨H.t.put i b,H.nx⟩
def Hp.empty:Hp:=⟨⟨same .dead HD,λ_=>.dead⟩,0⟩
inductive Ex where
 |normal|exit (id:Nat)|goto (l:Nat)|ret
inductive R0 where
 |bad
 |val (v:AV)
 |new (v:AV) (b:cZ)
inductive R1 where
 |bad
 |ok (v:AV) (H:Hp)
inductive Rc(d:Nat) where
 |bad
 |ok (e:Ex) (L:TT AV d) (H:Hp)
inductive Cl where
 |f (id:FuncId)
 |y (l:Nat)
 |d (id:FuncId)
abbrev Call:=Cl->List AV->Hp->R1
def gY(n:Nat):Nat:=
 bif Nat.ble n 8 then 1 else bif Nat.ble n 64 then 2 else bif Nat.ble n 512 then 3 else bif Nat.ble n 4096 then 4 else bif Nat.ble n 32768 then 5 else bif Nat.ble n 262144 then 6 else n
def xI{d:Nat}(c:TT AV d)(k:Nat):Nat->List AV:=
 Nat.rec (motive:=λ_=>Nat->List AV) (λ_=>[]) (λ_ a o=>(dV d o).f c::a (Nat.succ o)) k
def qN{d:Nat}(l:List AV):Nat->TT AV d->TT AV d:=
 List.rec (motive:=λ_=>Nat->TT AV d->TT AV d) (λ_ c=>c) (λv _ a o c=>a (Nat.succ o) ((ak d o).f c v)) l
def aB(z:Nat)(l:List AV):cZ:=.cells (gY l.length) l.length (qN l 0 (same .undef _)) false z
def kU(l:List UInt8):Nat:=l.foldr (λb acc=>acc*256+b.toNat) 0
def ux:Value->AV
 | .bool b=>.bool b
 | .int k n=>.int k n
 | .string s=>.str s.data.toList.length (kU s.data.toList)
 | .pointer none=>.bQ
 | .slice none 0 0=>.aA
 | .map none=>.bU
 | .nilFunc=>.iV
 | .nilIface=>.pV
 |v=>.lit v
def vh:Value->Bool
 | .agg _| .tuple _=>false
 |_=>true
def mq:Value->AV
 | .agg cs=>bif cs.toList.all vh then .agg (cs.toList.map ux)else .lit (.agg cs)
 | .tuple ⟨[]⟩=>.undef
 |v=>ux v
def vK(P:Program)(t:TypeId):Option Bool:=(P.underlying t).map λ| .struct _| .array _ _=>true|_=>false
def jO(P:Program)(t:TypeId):Option Nat:=(P.info? t).map (·.size)
def me(P:Program)(t:TypeId):Option Nat:=(P.info? t).map (·.bytes)
def Mc:Value->Option (List AV)
 | .agg cs=>bif cs.toList.all vh then some (cs.toList.map ux)else none
 | .tuple _=>none
 |v=>some [ux v]
def fL(P:Program)(t:TypeId):Option (List AV):=((P.info? t).bind (·.zero)).bind Mc
def Dh(k:IntKind)(n:Int):Bool:=
 match n with
 | .ofNat m=>Nat.blt m (match k with| .i8=>128| .i16=>32768| .i32=>2147483648| .i64=>9223372036854775808| .u8=>256| .u16=>65536| .u32=>4294967296| .u64=>18446744073709551616)
 | .negSucc m=>match k with| .i8=>Nat.blt m 128| .i16=>Nat.blt m 32768| .i32=>Nat.blt m 2147483648| .i64=>Nat.blt m 9223372036854775808|_=>false
def zH(k:IntKind)(n:Int):Int:=bif Dh k n then n else k.wrap n
def rH(a b:Int):Bool:=
 match a,b with
 | .ofNat m,.ofNat n=>Nat.blt m n
 | .negSucc m,.negSucc n=>Nat.blt n m
 | .negSucc _,.ofNat _=>true
 | .ofNat _,.negSucc _=>false
def uI(a b:Int):Bool:=
 match a,b with
 | .ofNat m,.ofNat n=>Nat.beq m n
 | .negSucc m,.negSucc n=>Nat.beq m n
 |_,_=>false
def Pc:IntKind->Nat
 | .i8=>0| .i16=>1| .i32=>2| .i64=>3| .u8=>4| .u16=>5| .u32=>6| .u64=>7
def cH(a b:IntKind):Bool:=Nat.beq (Pc a) (Pc b)
structure B2 where f:IntKind->Int->Int->R0
def lT:BinOp->B2
 | .add=>⟨λk a b=>.val (.int k (zH k (a+b)))⟩
 | .sub=>⟨λk a b=>.val (.int k (zH k (a-b)))⟩
 | .mul=>⟨λk a b=>.val (.int k (zH k (a*b)))⟩
 | .quo=>⟨λk a b=>bif uI b 0 then .bad else .val (.int k (zH k (a.tdiv b)))⟩
 | .rem=>⟨λk a b=>bif uI b 0 then .bad else .val (.int k (a.tmod b))⟩
 | .and=>⟨λk a b=>.val (.int k (k.wrap (BitVec.ofInt k.bits a &&& BitVec.ofInt k.bits b).toNat))⟩
 | .or=>⟨λk a b=>.val (.int k (k.wrap (BitVec.ofInt k.bits a ||| BitVec.ofInt k.bits b).toNat))⟩
 | .xor=>⟨λk a b=>.val (.int k (k.wrap (BitVec.ofInt k.bits a ^^^ BitVec.ofInt k.bits b).toNat))⟩
 | .andNot=>⟨λk a b=>.val (.int k (k.wrap (BitVec.ofInt k.bits a &&& ~~~ BitVec.ofInt k.bits b).toNat))⟩
 | .eql=>⟨λ_ a b=>.val (.bool (uI a b))⟩
 | .neq=>⟨λ_ a b=>.val (.bool (!uI a b))⟩
 | .lss=>⟨λ_ a b=>.val (.bool (rH a b))⟩
 | .leq=>⟨λ_ a b=>.val (.bool (!rH b a))⟩
 | .gtr=>⟨λ_ a b=>.val (.bool (rH b a))⟩
 | .geq=>⟨λ_ a b=>.val (.bool (!rH a b))⟩
 |_=>⟨λ_ _ _=>.bad⟩
def BE:BinOp->B2
 | .shl=>⟨λk a b=>bif rH b 0 then .bad else .val (.int k (zH k (a*2 ^ (min b.toNat k.bits))))⟩
 | .shr=>⟨λk a b=>bif rH b 0 then .bad else .val (.int k (a.fdiv (2 ^ (min b.toNat k.bits))))⟩
 |_=>⟨λ_ _ _=>.bad⟩
def gA(a i:Nat):Nat:=Nat.land (Nat.shiftRight a (Nat.mul 8 i)) 255
def ic(f:Nat):(n a m b:Nat)->Bool:=
 Nat.rec (motive:=λ_=>Nat->Nat->Nat->Nat->Bool) (λn _ m _=>Nat.blt n m)
  (λ_ c n a m b=>bif Nat.beq m 0 then false else bif Nat.beq n 0 then true else
   bif Nat.beq (Nat.land a 255) (Nat.land b 255)then c (Nat.pred n) (Nat.shiftRight a 8) (Nat.pred m) (Nat.shiftRight b 8)
   else Nat.blt (Nat.land a 255) (Nat.land b 255)) f
def gd(n a m b:Nat):Bool:=Nat.beq n m&&Nat.beq a b
structure S2 where f:Nat->Nat->Nat->Nat->R0
def lQ:BinOp->S2
 | .add=>⟨λn a m b=>bif Nat.ble (n+m) 1099511627776 then .val (.str (n+m) (Nat.add a (Nat.shiftLeft b (Nat.mul 8 n))))else .bad⟩
 | .eql=>⟨λn a m b=>.val (.bool (gd n a m b))⟩
 | .neq=>⟨λn a m b=>.val (.bool (!gd n a m b))⟩
 | .lss=>⟨λn a m b=>.val (.bool (ic n n a m b))⟩
 | .leq=>⟨λn a m b=>.val (.bool (ic n n a m b||gd n a m b))⟩
 | .gtr=>⟨λn a m b=>.val (.bool (!(ic n n a m b||gd n a m b)))⟩
 | .geq=>⟨λn a m b=>.val (.bool (!ic n n a m b))⟩
 |_=>⟨λ_ _ _ _=>.bad⟩
structure P1 where f:List AV->Nat->Option AV
def im(P:Program)(t:TypeId):P1:=
 match vK P t,jO P t with
 |some true,some k=>⟨λcs off=>some (.agg ((cs.drop off).take k))⟩
 |some false,_=>⟨λcs off=>cs[off]?⟩
 |_,_=>⟨λ_ _=>none⟩
structure E2 where f:AV->AV->Option Bool
def andThen(a b:Option Bool):Option Bool:=
 match a with|some true=>b|some false=>some false|none=>none
def Ad(p:P1)(e:E2)(xs ys:List AV)(off:Nat):Option Bool:=
 match p.f xs off,p.f ys off with
 |some a,some b=>e.f a b
 |_,_=>none
def zT:AV->AV->Option Bool
 | .bool a,.bool b=>some (a==b)
 |_,_=>none
def pI:AV->AV->Option Bool
 | .int k a,.int k' b=>bif cH k k' then some (uI a b)else none
 |_,_=>none
def bH:AV->AV->Option Bool
 | .str n a,.str m b=>some (gd n a m b)
 |_,_=>none
def eN:AV->AV->Option Bool
 | .bQ,.bQ=>some true
 | .bQ,.ptr _ _=>some false
 | .ptr _ _,.bQ=>some false
 |_,_=>none
def rX:AV->AV->Option Bool
 | .aA,.aA=>some true
 | .aA,.sl .. =>some false
 | .aA,.sle=>some false
 | .sl ..,.aA=>some false
 | .sle,.aA=>some false
 |_,_=>none
def IM:AV->AV->Option Bool
 | .bU,.bU=>some true
 | .bU,.map _=>some false
 | .map _,.bU=>some false
 |_,_=>none
def jH:AV->AV->Option Bool
 | .iV,.iV=>some true
 | .iV,.fn .. =>some false
 | .fn ..,.iV=>some false
 |_,_=>none
def zo:AV->AV->Option Bool
 | .pV,.iface .. =>some false
 | .iface ..,.pV=>some false
 |_,_=>none
def dL(f:List AV->List AV->Option Bool):AV->AV->Option Bool
 | .agg xs,.agg ys=>f xs ys
 |_,_=>none
def eqFields(a:List (P1×E2×Nat))(xs b:List AV):Option Bool:=
 a.foldr (λf r=>andThen (Ad f.1 f.2.1 xs b f.2.2) r) (some true)
def zI(p:P1)(e:E2)(z:Nat)(xs ys:List AV):Nat->Nat->Option Bool
 |0,_=>some true
 |k+1,i=>andThen (Ad p e xs ys (i*z)) (zI p e z xs ys k (i+1))
def cJ(P:Program):Nat->TypeId->E2
 |0,_=>⟨λ_ _=>none⟩
 |d+1,t=>
  match P.underlying t with
  |some .bool=>⟨zT⟩
  |some (.int _)=>⟨pI⟩
  |some .string=>⟨bH⟩
  |some (.struct fs)=>
   if P.stoodInHeld t then⟨λ_ _=>none⟩else
   let l:=(fs.toList.filter λf=>f.name != "_").map λf=>(im P f.type,cJ P d f.type,f.offset)
   ⟨dL (eqFields l)⟩
  |some (.array len e)=>
   match jO P e with
   |some z=>let p:=im P e;let q:=cJ P d e;⟨dL λxs ys=>zI p q z xs ys len 0⟩
   |none=>⟨λ_ _=>none⟩
  |some (.pointer _)=>⟨eN⟩
  |some (.slice _)=>⟨rX⟩
  |some (.map ..)=>⟨IM⟩
  |some (.func ..)=>⟨jH⟩
  |some (.interface _)=>⟨zo⟩
  |_=>⟨λ_ _=>none⟩
def fy:Nat:=20
def dQ(c a b:AV):R0:=
 match c with
 | .bool true=>.val a
 | .bool false=>.val b
 |_=>.bad
def eP(g:IntKind->Int->Int->R0)(x y:AV):R0:=
 match x,y with
 | .int k a,.int k' b=>bif cH k k' then g k a b else .bad
 |_,_=>.bad
def C3(g:IntKind->Int->Int->R0)(x y:AV):R0:=
 match x,y with
 | .int k a,.int _ b=>g k a b
 |_,_=>.bad
def eF(g:Nat->Nat->Nat->Nat->R0)(x y:AV):R0:=
 match x,y with
 | .str n a,.str m b=>g n a m b
 |_,_=>.bad
def iQ(neg:Bool)(r:Option Bool):R0:=
 match r with
 |some b=>.val (.bool (bif neg then !b else b))
 |none=>.bad
structure V2 where f:AV->AV->R0
def I4(P:Program)(op:BinOp)(t:TypeId):V2:=
 match P.underlying t with
 |some (.int _)=>
  match op with
  | .shl| .shr=>match BE op with|⟨g⟩=>⟨C3 g⟩
  |_=>match lT op with|⟨g⟩=>⟨eP g⟩
 |some .string=>match lQ op with|⟨g⟩=>⟨eF g⟩
 |some .bool|some (.pointer _)|some (.slice _)|some (.map ..)|some (.func ..)|some (.interface _)=>
  match op,cJ P fy t with
  | .eql,⟨e⟩=>⟨λx y=>iQ false (e x y)⟩
  | .neq,⟨e⟩=>⟨λx y=>iQ true (e x y)⟩
  |_,_=>⟨λ_ _=>.bad⟩
 |some (.struct _)|some (.array ..)=>
  if P.eqGuardType P.depth t then⟨λ_ _=>.bad⟩else
  match op,cJ P fy t with
  | .eql,⟨e⟩=>⟨λx y=>iQ false (e x y)⟩
  | .neq,⟨e⟩=>⟨λx y=>iQ true (e x y)⟩
  |_,_=>⟨λ_ _=>.bad⟩
 |_=>⟨λ_ _=>.bad⟩
structure V1 where f:AV->R0
def kF:UnOp->V1
 | .not=>⟨λx=>match x with| .bool b=>.val (.bool !b)|_=>.bad⟩
 | .neg=>⟨λx=>match x with| .int k n=>.val (.int k (zH k (0-n)))|_=>.bad⟩
 |_=>⟨λ_=>.bad⟩
def cB(b:cZ)(o:Nat):R0:=
 match b with
 | .cells d n c _ _=>bif Nat.blt o n then .val ((dV d o).f c)else .bad
 |_=>.bad
def aR(H:Hp)(a:AV):R0:=
 match a with
 | .ptr b o=>cB (H.get b) o
 |_=>.bad
def eY(b:cZ)(o k:Nat):Option (List AV):=
 match b with
 | .cells _ n c _ _=>bif Nat.ble (o+k) n then some (xI c k o)else none
 |_=>none
def Je(r:Option (List AV)):R0:=match r with|some l=>.val (.agg l)|none=>.bad
def bW(k:Nat)(H:Hp)(a:AV):R0:=
 match a with
 | .ptr b o=>Je (eY (H.get b) o k)
 |_=>.bad
def dt(b:cZ)(o:Nat)(l:List AV):Option cZ:=
 match b with
 | .cells d n c false z=>bif Nat.ble (o+l.length) n then some (.cells d n (qN l o c) false z)else none
 |_=>none
def storeAt(H:Hp)(b o:Nat)(l:List AV)(v:AV):R1:=
 match dt (H.get b) o l with
 |some blk=>.ok v (H.put b blk)
 |none=>.bad
def kL(H:Hp)(a x:AV):R1:=
 match a,x with
 | .ptr _ _,.agg _=>.bad
 | .ptr _ _,.aX _=>.bad
 | .ptr _ _,.undef=>.bad
 | .ptr _ _,.lit _=>.bad
 | .ptr b o,v=>storeAt H b o [v] .undef
 |_,_=>.bad
def yI(k:Nat)(H:Hp)(a x:AV):R1:=
 match a,x with
 | .ptr b o,.agg l=>bif Nat.beq l.length k then storeAt H b o l .undef else .bad
 |_,_=>.bad
def lM(nm:Nat)(x:AV):R0:=
 match x with
 | .agg _| .aX _| .undef| .lit _=>.bad
 |v=>.new (.ptr nm 0) (aB 0 [v])
def pU(k:Nat)(nm:Nat)(x:AV):R0:=
 match x with
 | .agg l=>bif Nat.beq l.length k then .new (.ptr nm 0) (aB 0 l)else .bad
 |_=>.bad
def aL(off:Nat)(x:AV):R0:=match x with| .ptr b o=>.val (.ptr b (Nat.add o off))|_=>.bad
def Ph(p:P1)(off:Nat)(x:AV):R0:=
 match x with
 | .agg l=>match p.f l off with|some v=>.val v|none=>.bad
 |_=>.bad
def aG(z:Nat)(x i:AV):R0:=
 match x,i with
 | .sl b o len _ _,.int _ (.ofNat i)=>bif Nat.blt i len then .val (.ptr b (Nat.add o (Nat.mul i z)))else .bad
 |_,_=>.bad
def gP(len z:Nat)(x i:AV):R0:=
 match x,i with
 | .ptr b o,.int _ (.ofNat i)=>bif Nat.blt i len then .val (.ptr b (Nat.add o (Nat.mul i z)))else .bad
 |_,_=>.bad
def fE(x i:AV):R0:=
 match x,i with
 | .str n a,.int _ (.ofNat i)=>bif Nat.blt i n then .val (.int .u8 (.ofNat (gA a i)))else .bad
 |_,_=>.bad
def Jb(p:P1)(len z:Nat)(x i:AV):R0:=
 match x,i with
 | .agg l,.int _ (.ofNat i)=>bif Nat.blt i len then(match p.f l (Nat.mul i z)with|some v=>.val v|none=>.bad)else .bad
 |_,_=>.bad
def ee(x:Option AV)(dflt y:Nat):Option Nat:=
 match x with
 |none=>some dflt
 |some (.int _ (.ofNat n))=>bif Nat.ble n y then some n else none
 |some _=>none
structure Bd where
 (l h m:Nat)
def aq(len cap:Nat)(lo hi mx:Option AV):Option Bd:=
 match mx,hi with
 |some _,none=>none
 |_,_=>
  match ee mx cap cap with
  |none=>none
  |some m=>match ee hi len m with
   |none=>none
   |some h=>match ee lo 0 h with
    |none=>none
    |some l=>some ⟨l,h,m⟩
def MU(x:AV)(lo hi:Option AV):R0:=
 match x with
 | .str n a=>match aq n n lo hi none with
  |some b=>.val (.str (b.h-b.l) (Nat.land (Nat.shiftRight a (Nat.mul 8 b.l)) (Nat.sub (Nat.shiftLeft 1 (Nat.mul 8 (b.h-b.l))) 1)))
  |none=>.bad
 |_=>.bad
def jJ(b o z:Nat)(bd:Bd)(ex:Bool):R0:=
 bif Nat.beq bd.m bd.l then(bif ex then .val (.sl b o 0 0 true)else .val .sle)
 else .val (.sl b (Nat.add o (Nat.mul bd.l z)) (Nat.sub bd.h bd.l) (Nat.sub bd.m bd.l) ex)
def kM(z:Nat)(x:AV)(lo hi mx:Option AV):R0:=
 match x with
 | .aA=>match aq 0 0 lo hi mx with|some _=>.val .aA|none=>.bad
 | .sl b o len cap ex=>match aq len cap lo hi mx with
  |some bd=>jJ b o z bd (match mx with|some _=>true|none=>ex)
  |none=>.bad
 |_=>.bad
def aU(l:List AV)(n:Nat):List AV:=Nat.rec (motive:=λ_=>List AV) [] (λ_ r=>l++r) n
def iA:Nat:=1099511627776
def fC(z:List AV)(bytes:Nat)(nm:Nat)(l c:AV):R0:=
 match l,c with
 | .int _ (.ofNat n),.int _ (.ofNat m)=>bif Nat.ble n m&&Nat.ble (Nat.mul m bytes) iA&&Nat.ble m iA then .new (.sl nm 0 n m true) (aB 0 (aU z m))else .bad
 |_,_=>.bad
def Cn(c:List AV)(a size:Nat)(v:List AV):Option (List AV):=
 bif Nat.beq v.length size&&Nat.ble (a+size) c.length then some (c.take a++v++c.drop (a+size))else none
def vJ:AV->Option (List AV)
 | .agg l=>some l
 | .aX _| .undef| .lit _=>none
 |v=>some [v]
def bK(c:List AV):List (Nat×Nat×AV)->Option (List AV)
 | []=>some c
 |(off,size,v)::r=>match vJ v with
  |some l=>match Cn c off size l with|some c'=>bK c' r|none=>none
  |none=>none
structure cR where
 i:Nat
 x:eT
def vU(e:AV->AV->Option Bool)(k:AV)(es:List eT):Nat->Option (Option cR):=
 List.rec (motive:=λ_=>Nat->Option (Option cR)) (λ_=>some none)
  (λx _ ih i=>match e k x.key with|some true=>some (some ⟨i,x⟩)|some false=>ih (Nat.succ i)|none=>none) es
def De:AV->AV->Bool
 | .int k a,.int k' b=>cH k k'&&uI a b
 | .str n a,.str m b=>gd n a m b
 | .bool a,.bool b=>a==b
 |_,_=>false
def po:List AV->List AV->Bool
 | [],[]=>true
 |a::l,b::m=>De a b&&po l m
 |_,_=>false
def bL:AV->AV->Bool
 | .agg l,.agg m=>po l m
 |a,b=>De a b
def gr(s:Option Nat)(k:AV):Bool:=
 match s,k with
 |none,.agg _=>false
 |none,_=>true
 |some n,.agg l=>Nat.beq l.length n
 |some _,_=>false
def mw(P:Program):Nat->TypeId->Bool
 |0,_=>false
 |d+1,t=>
  match P.underlying t,jO P t with
  |some (.int _),some _|some .string,some _|some .bool,some _=>true
  |some (.struct fs),some n=>fs.toList.all λf=>match jO P f.type with
   |some m=>Nat.ble (f.offset+m) n&&mw P d f.type&&Nat.blt 0 m
   |none=>false
  |some (.array len e),some n=>match jO P e with
   |some m=>Nat.ble (len*m) n&&mw P d e&&Nat.blt 0 m
   |none=>false
  |_,_=>false
structure Ky where
 e:AV->AV->Option Bool
 s:Option Nat
def zN(P:Program)(kt:TypeId):Option Ky:=
 match mw P fy kt,cJ P fy kt,vK P kt,jO P kt with
 |true,⟨e⟩,some true,some n=>some ⟨e,some n⟩
 |true,⟨e⟩,some false,some _=>some ⟨e,none⟩
 |_,_,_,_=>none
def fN(a:Ky)(k:AV)(es:List eT):Option (Option cR):=
 bif gr a.s k then vU a.e k es 0 else none
def zy2(H:Hp):AV->Option (List eT)
 | .bU=>some []
 | .map m=>match H.get m with| .map es _=>some es|_=>none
 |_=>none
def pW(ok:Bool)(z:AV)(r:Option (Option cR)):R0:=
 match r with
 |some (some h)=>.val (bif ok then .aX [h.x.val,.bool true]else h.x.val)
 |some none=>.val (bif ok then .aX [z,.bool false]else z)
 |none=>.bad
def mX(ky:Ky)(z:AV)(ok:Bool)(H:Hp)(m k:AV):R0:=
 match zy2 H m with
 |some es=>pW ok z (fN ky k es)
 |none=>.bad
def jN(ky:Ky)(H:Hp)(m k v:AV):R1:=
 match m with
 | .map b=>match H.get b with
  | .map es clock=>match fN ky k es with
   |some (some h)=>bif bL h.x.key k then .ok .undef (H.put b (.map (es.set h.i ⟨k,v,h.x.born⟩) clock))else .bad
   |some none=>.ok .undef (H.put b (.map (es++[⟨k,v,clock⟩]) (Nat.succ clock)))
   |none=>.bad
  |_=>.bad
 |_=>.bad
def lR(ky:Ky)(z:AV)(H:Hp)(m k:AV):R1:=
 match m with
 | .map b=>match H.get b with
  | .map es clock=>match fN ky k es with
   |some (some h)=>bif bL h.x.key k then .ok (.aX [h.x.val,.int .i64 (.ofNat h.x.born)]) (H.put b (.map (es.set h.i ⟨k,h.x.val,h.x.born⟩) clock))else .bad
   |some none=>.ok (.aX [z,.int .i64 (.ofNat clock)]) (H.put b (.map (es++[⟨k,z,clock⟩]) (Nat.succ clock)))
   |none=>.bad
  |_=>.bad
 |_=>.bad
def CY(n:Nat)(es:List eT):Nat->Option cR:=
 List.rec (motive:=λ_=>Nat->Option cR) (λ_=>none) (λx _ a i=>bif Nat.beq x.born n then some ⟨i,x⟩else a (Nat.succ i)) es
def wY(H:Hp)(m s v:AV):R1:=
 match m,s with
 | .map b,.int _ (.ofNat n)=>match H.get b with
  | .map es clock=>match CY n es 0 with
   |some h=>.ok .undef (H.put b (.map (es.set h.i ⟨h.x.key,v,h.x.born⟩) clock))
   |none=>.bad
  |_=>.bad
 |_,_=>.bad
def i64(n:Nat):AV:=.int .i64 (.ofNat n)
def qY(x:AV):R0:=match x with| .str n _=>.val (i64 n)|_=>.bad
def aD(x:AV):R0:=
 match x with
 | .sl _ _ n _ _=>.val (i64 n)
 | .aA=>.val (i64 0)
 | .sle=>.val (i64 0)
 |_=>.bad
def sd(H:Hp)(x:AV):R0:=
 match x with
 | .bU=>.val (i64 0)
 | .map m=>match H.get m with| .map es _=>.val (i64 es.length)|_=>.bad
 |_=>.bad
def dX(x:AV):R0:=
 match x with
 | .sl _ _ _ c true=>.val (i64 c)
 | .aA=>.val (i64 0)
 |_=>.bad
def pQ(x y:AV):R0:=
 match x,y with
 | .int k a,.int _ b=>.val (.int k (bif rH b a then b else a))
 |_,_=>.bad
def qV(x y:AV):R0:=
 match x,y with
 | .int k a,.int _ b=>.val (.int k (bif rH a b then b else a))
 |_,_=>.bad
def rT(g:AV->AV->R0)(x:AV)(l:List AV):R0:=
 List.rec (motive:=λ_=>AV->R0) (λx=>.val x) (λy _ ih x=>match g x y with| .val z=>ih z|_=>.bad) l x
def Pk(a n:Nat):List AV:=Nat.rec (motive:=λ_=>Nat->List AV) (λ_=>[]) (λ_ b i=>.int .u8 (.ofNat (gA a i))::b (Nat.succ i)) n 0
structure Src where
 n:Nat
 l:List AV
def IG(z:Nat)(H:Hp)(x:AV):Option Src:=
 match x with
 | .aA| .sle=>some ⟨0,[]⟩
 | .sl b o n _ _=>match eY (H.get b) o (Nat.mul n z)with|some l=>some ⟨n,l⟩|none=>none
 | .str n a=>some ⟨n,Pk a n⟩
 |_=>none
def nP(z:Nat)(H:Hp)(x:AV):Option Src:=
 match x with
 | .str _ _=>bif Nat.beq z 1 then IG z H x else none
 |_=>IG z H x
def GR(w:Nat)(zl:List AV)(x:AV):Option Src:=
 match x with
 | .int _ (.ofNat n)=>bif Nat.ble n iA&&Nat.ble (Nat.mul n w) iA then some ⟨n,aU zl n⟩else none
 |_=>none
def aH(H:Hp)(b:cZ):Hp:=⟨H.t.put H.nx b,Nat.succ H.nx⟩
def grow(z:Nat)(H:Hp)(old:List AV)(s:Src)(n:Nat):R1:=.ok (.sl H.nx 0 n n false) (aH H (aB z (old++s.l)))
def jk(b:cZ)(e z:Nat):Bool:=match b with| .cells _ n _ false z'=>Nat.beq n e&&Nat.beq z' z|_=>false
def jD(z bytes:Nat)(H:Hp)(s:AV)(src:Option Src):R1:=
 match src with
 |none=>.bad
 |some x=>
  match s with
  | .aA=>bif Nat.beq x.n 0 then .ok .aA H else bif Nat.ble (Nat.mul x.n bytes) iA&&Nat.ble x.n iA then grow z H [] x x.n else .bad
  | .sl b o len cap ex=>
   bif Nat.ble (len+x.n) cap then storeAt H b (o+len*z) x.l (.sl b o (len+x.n) cap ex)
   else bif Nat.ble (Nat.mul (len+x.n) bytes) iA&&Nat.ble (len+x.n) iA then
    match eY (H.get b) o (Nat.mul len z)with
    |none=>.bad
    |some old=>bif ex then grow z H old x (len+x.n)else
     bif jk (H.get b) (o+cap*z) z then grow z (H.put b .dead) old x (len+x.n)else .bad
   else .bad
  |_=>.bad
def oY(zl:List AV)(H:Hp)(x:AV):R1:=
 match x with
 | .aA=>.ok .undef H
 | .sl b o n _ _=>bif Nat.beq n 0 then .ok .undef H else storeAt H b o (aU zl n) .undef
 |_=>.bad
def io(k:IntKind)(x:AV):R0:=match x with| .int _ n=>.val (.int k (zH k n))|_=>.bad
inductive l8(d:Nat) where
 |q (looks:Bool) (f:Nat->TT AV d->Hp->R0)
 |e (f:Call->TT AV d->Hp->R1)
structure Rd(d:Nat) where f:TT AV d->AV
def aM(d n:Nat):Operand->Rd d
 | .tmp t=>bif Nat.blt t n then(match dV (α:=AV) d t with|⟨g⟩=>⟨g⟩)else⟨λ_=>.undef⟩
 | .const v=>⟨λ_=>mq v⟩
 | .global g=>⟨λ_=>.lit (.pointer (some ⟨g,0,none⟩))⟩
 | .func f=>⟨λ_=>.fn f [] []⟩
structure RdL(d:Nat) where f:TT AV d->List AV
def wC(d n:Nat):List Operand->RdL d
 | []=>⟨λ_=>[]⟩
 |x::r=>match aM d n x,wC d n r with|⟨g⟩,⟨h⟩=>⟨λL=>g L::h L⟩
structure RdO(d:Nat) where f:TT AV d->Option AV
def gD(d n:Nat):Option Operand->RdO d
 |none=>⟨λ_=>none⟩
 |some x=>match aM d n x with|⟨g⟩=>⟨λL=>some (g L)⟩
structure I0(d:Nat) where f:TT AV d->List (Nat×Nat×AV)
def jq(d n:Nat)(place:Nat->Option (Nat×Nat)):List (Nat×Operand)->Option (I0 d)
 | []=>some ⟨λ_=>[]⟩
 |(i,x)::r=>
  match place i,aM d n x,jq d n place r with
  |some (off,size),⟨g⟩,some ⟨h⟩=>some ⟨λL=>(off,size,g L)::h L⟩
  |_,_,_=>none
def iZ(d:Nat):l8 d:=.e λ_ _ _=>.bad
def bJ(r:Option (List AV)):R0:=match r with|some l=>.val (.agg l)|none=>.bad
def sQ(len:Nat)(nm:Nat)(r:Option (List AV)):R0:=match r with|some l=>.new (.sl nm 0 len len true) (aB 0 l)|none=>.bad
def E0(P:Program)(fs:Array Field)(i:Nat):Option (Nat×Nat):=
 match fs[i]? with
 |some f=>(jO P f.type).map λs=>(f.offset,s)
 |none=>none
def oV(O:Call)(f:AV)(args:List AV)(H:Hp):R1:=
 match f with
 | .fn g first cap=>O (.f g) (first++args++cap) H
 | .yield l=>O (.y l) args H
 |_=>.bad
def ma(O:Call)(f:AV)(args:List AV)(H:Hp):R1:=
 match f with
 | .fn g first cap=>O (.f g) (first++args++cap) H
 |_=>.bad
def rR(P:Program)(d n:Nat)(args:List Operand)(types:List TypeId):l8 d:=
 match args,types with
 | [x],[t]=>
  match P.underlying t with
  |some (.array n _)=>.q false λ_ _ _=>.val (i64 n)
  |some (.pointer arr)=>match P.underlying arr with|some (.array n _)=>.q false λ_ _ _=>.val (i64 n)|_=>iZ d
  |some .string=>match aM d n x with|⟨g⟩=>.q false λ_ L _=>qY (g L)
  |some (.slice _)=>match aM d n x with|⟨g⟩=>.q false λ_ L _=>aD (g L)
  |some (.map ..)=>match aM d n x with|⟨g⟩=>.q true λ_ L H=>sd H (g L)
  |_=>iZ d
 |_,_=>iZ d
def rj(P:Program)(d n:Nat)(args:List Operand)(types:List TypeId):l8 d:=
 match args,types with
 | [x],[t]=>
  match P.underlying t with
  |some (.array n _)=>.q false λ_ _ _=>.val (i64 n)
  |some (.slice _)=>match aM d n x with|⟨g⟩=>.q false λ_ L _=>dX (g L)
  |_=>iZ d
 |_,_=>iZ d
def rC(d n:Nat)(args:List Operand):l8 d:=
 match args with
 |x::r=>match aM d n x,wC d n r with|⟨g⟩,⟨h⟩=>.q false λ_ L _=>rT pQ (g L) (h L)
 |_=>iZ d
def rn(d n:Nat)(args:List Operand):l8 d:=
 match args with
 |x::r=>match aM d n x,wC d n r with|⟨g⟩,⟨h⟩=>.q false λ_ L _=>rT qV (g L) (h L)
 |_=>iZ d
structure Ap where
 (z w:Nat)
 zl:List AV
def jz(P:Program)(e:TypeId):Option Ap:=
 match jO P e,me P e,fL P e with
 |some z,some w,some zl=>bif Nat.beq zl.length z then some ⟨z,w,zl⟩else none
 |_,_,_=>none
def rJ(P:Program)(d n:Nat)(args:List Operand)(types:List TypeId):l8 d:=
 match args,types with
 | [x,y],[t,u]=>
  match P.underlying t with
  |some (.slice e)=>
   match jz P e,P.underlying u with
   |some ap,some (.int _)=>match aM d n x,aM d n y with|⟨g⟩,⟨h⟩=>.e λ_ L H=>jD ap.z ap.w H (g L) (GR ap.w ap.zl (h L))
   |some ap,some (.slice _)=>match aM d n x,aM d n y with|⟨g⟩,⟨h⟩=>.e λ_ L H=>jD ap.z ap.w H (g L) (nP ap.z H (h L))
   |some ap,some .string=>match aM d n x,aM d n y with|⟨g⟩,⟨h⟩=>.e λ_ L H=>jD ap.z ap.w H (g L) (nP ap.z H (h L))
   |_,_=>iZ d
  |_=>iZ d
 |_,_=>iZ d
def rz(P:Program)(d n:Nat)(args:List Operand)(types:List TypeId):l8 d:=
 match args,types with
 | [x],[t]=>
  match P.underlying t with
  |some (.slice e)=>match jz P e with
   |some ap=>match aM d n x with|⟨g⟩=>.e λ_ L H=>oY ap.zl H (g L)
   |none=>iZ d
  |_=>iZ d
 |_,_=>iZ d
def w8(P:Program)(d n:Nat)(b:Builtin)(args:List Operand)(types:List TypeId):l8 d:=
 match b with
 | .len=>rR P d n args types
 | .cap=>rj P d n args types
 | .min=>rC d n args
 | .max=>rn d n args
 | .append=>rJ P d n args types
 | .clear=>rz P d n args types
 |_=>iZ d
def X3(d n:Nat)(x:Operand):l8 d:=
 match aM d n x with|⟨g⟩=>.q false λ_ L _=>.val (g L)
def X2(d n:Nat)(c a b:Operand):l8 d:=
 match aM d n c,aM d n a,aM d n b with|⟨gc⟩,⟨ga⟩,⟨gb⟩=>.q false λ_ L _=>dQ (gc L) (ga L) (gb L)
def EC(P:Program)(d:Nat)(t:TypeId):l8 d:=
 match fL P t with
 |some z=>.q false λnm _ _=>.new (.ptr nm 0) (aB 0 z)
 |none=>iZ d
def DB(P:Program)(d n:Nat)(t:TypeId)(x:Operand):l8 d:=
 match vK P t,jO P t,aM d n x with
 |some true,some k,⟨g⟩=>.q false λnm L _=>pU k nm (g L)
 |some false,some _,⟨g⟩=>.q false λnm L _=>lM nm (g L)
 |_,_,_=>iZ d
def Ez(P:Program)(d n:Nat)(t:TypeId)(ps:Array (Nat×Operand)):l8 d:=
 match P.underlying t,fL P t with
 |some (.struct fs),some z=>if fs.toList.all λf=>(jO P f.type).isSome then match jq d n (E0 P fs) ps.toList with
  |some ⟨h⟩=>.q false λ_ L _=>bJ (bK z (h L))
  |none=>iZ d
  else iZ d
 |some (.array _ e),some z=>match jO P e with
  |some s=>match jq d n (λi=>some (i*s,s)) ps.toList with
   |some ⟨h⟩=>.q false λ_ L _=>bJ (bK z (h L))
   |none=>iZ d
  |none=>iZ d
 |_,_=>iZ d
def E6(P:Program)(d n:Nat)(t:TypeId)(len:Nat)(ps:Array (Nat×Operand)):l8 d:=
 match P.underlying t with
 |some (.slice e)=>match jO P e,fL P e with
  |some s,some z=>bif Nat.ble (len*s) 65536&&Nat.beq z.length s then match jq d n (λi=>some (i*s,s)) ps.toList with
   |some ⟨h⟩=>.q false λnm L _=>sQ len nm (bK (aU z len) (h L))
   |none=>iZ d
   else iZ d
  |_,_=>iZ d
 |_=>iZ d
def IH(P:Program)(d n:Nat)(t:TypeId)(a:Operand):l8 d:=
 match vK P t,jO P t,aM d n a with
 |some true,some k,⟨g⟩=>.q true λ_ L H=>bW k H (g L)
 |some false,some _,⟨g⟩=>.q true λ_ L H=>aR H (g L)
 |_,_,_=>iZ d
def EH(P:Program)(d n:Nat)(t:TypeId)(a x:Operand):l8 d:=
 match vK P t,jO P t,aM d n a,aM d n x with
 |some true,some k,⟨g⟩,⟨h⟩=>.e λ_ L H=>yI k H (g L) (h L)
 |some false,some 1,⟨g⟩,⟨h⟩=>.e λ_ L H=>kL H (g L) (h L)
 |_,_,_,_=>iZ d
def Uo(d n:Nat)(x:Operand):l8 d:=
 match aM d n x with
 |⟨g⟩=>.q false λ_ L _=>match g L with| .ptr b o=>.val (.ptr b o)| .fn a b c=>.val (.fn a b c)| .yield l=>.val (.yield l)|_=>.bad
def zym(P:Program)(d n:Nat)(op:BinOp)(t:TypeId)(x y:Operand):l8 d:=
 match I4 P op t,aM d n x,aM d n y with
 |⟨e⟩,⟨g⟩,⟨h⟩=>.q false λ_ L _=>e (g L) (h L)
def X0(d n:Nat)(op:UnOp)(x:Operand):l8 d:=
 match kF op,aM d n x with|⟨e⟩,⟨g⟩=>.q false λ_ L _=>e (g L)
def Gw(P:Program)(d n:Nat)(s t:TypeId)(x:Operand):l8 d:=
 match P.underlying s,P.underlying t,aM d n x with
 |some (.int _),some (.int k),⟨g⟩=>.q false λ_ L _=>io k (g L)
 |some .string,some .string,⟨g⟩=>.q false λ_ L _=>match g L with| .str n a=>.val (.str n a)|_=>.bad
 |_,_,_=>iZ d
def ET(P:Program)(d n:Nat)(t:TypeId)(x:Operand):l8 d:=
 match P.underlying t,aM d n x with
 |some (.interface _),_=>iZ d
 |some _,⟨g⟩=>.q false λ_ L _=>.val (.iface t (g L))
 |none,_=>iZ d
def Up(d n:Nat)(f:FuncId)(first cap:Array Operand):l8 d:=
 match wC d n first.toList,wC d n cap.toList with
 |⟨g⟩,⟨h⟩=>.q false λ_ L _=>.val (.fn f (g L) (h L))
def R5(d:Nat)  :l8 d:=
 .q false λnm _ _=>.new (.map nm) (.map [] 0)
def Ff(P:Program)(d n:Nat)(t:TypeId)(l c:Operand):l8 d:=
 match P.underlying t,aM d n l,aM d n c with
 |some (.slice e),⟨g⟩,⟨h⟩=>match fL P e,me P e,jO P e with
  |some z,some w,some s=>bif Nat.beq z.length s then .q false λnm L _=>fC z w nm (g L) (h L)else iZ d
  |_,_,_=>iZ d
 |_,_,_=>iZ d
def EI(P:Program)(d n:Nat)(t:TypeId)(x:Operand)(lo hi mx:Option Operand):l8 d:=
 match P.underlying t,aM d n x,gD d n lo,gD d n hi,gD d n mx with
 |some .string,⟨g⟩,⟨l⟩,⟨h⟩,_=>match mx with
  |none=>.q false λ_ L _=>MU (g L) (l L) (h L)
  |some _=>iZ d
 |some (.slice e),⟨g⟩,⟨l⟩,⟨h⟩,⟨m⟩=>match jO P e with
  |some z=>.q false λ_ L _=>kM z (g L) (l L) (h L) (m L)
  |none=>iZ d
 |_,_,_,_,_=>iZ d
def Fh(P:Program)(d n:Nat)(s:TypeId)(x:Operand)(f:Nat):l8 d:=
 match P.underlying s,aM d n x with
 |some (.struct fs),⟨g⟩=>match fs[f]? with
  |some fl=>match jO P fl.type with
   |some (_+1)=>.q false λ_ L _=>aL fl.offset (g L)
   |_=>iZ d
  |none=>iZ d
 |_,_=>iZ d
def EK(P:Program)(d n:Nat)(t:TypeId)(x:Operand)(f:Nat):l8 d:=
 match P.underlying t,aM d n x with
 |some (.struct fs),⟨g⟩=>match fs[f]? with
  |some fl=>match im P fl.type with|p=>.q false λ_ L _=>Ph p fl.offset (g L)
  |none=>iZ d
 |_,_=>iZ d
def Fg(P:Program)(d n:Nat)(t:TypeId)(x i:Operand):l8 d:=
 match P.underlying t,aM d n x,aM d n i with
 |some (.slice e),⟨g⟩,⟨h⟩=>match jO P e with
  |some z=>.q false λ_ L _=>aG z (g L) (h L)
  |none=>iZ d
 |some (.array n e),⟨g⟩,⟨h⟩=>match jO P e with
  |some z=>.q false λ_ L _=>gP n z (g L) (h L)
  |none=>iZ d
 |_,_,_=>iZ d
def EJ(P:Program)(d n:Nat)(t:TypeId)(x i:Operand):l8 d:=
 match P.underlying t,aM d n x,aM d n i with
 |some .string,⟨g⟩,⟨h⟩=>.q false λ_ L _=>fE (g L) (h L)
 |some (.array n e),⟨g⟩,⟨h⟩=>match jO P e,im P e with
  |some z,p=>.q false λ_ L _=>Jb p n z (g L) (h L)
  |none,_=>iZ d
 |_,_,_=>iZ d
def H9(P:Program)(d n:Nat)(t:TypeId)(m k:Operand)(ok:Bool):l8 d:=
 match P.underlying t,aM d n m,aM d n k with
 |some (.map kt et),⟨g⟩,⟨h⟩=>match zN P kt,(P.info? et).bind (·.zero)with
  |some ky,some z=>.q true λ_ L H=>mX ky (mq z) ok H (g L) (h L)
  |_,_=>iZ d
 |_,_,_=>iZ d
def v5(P:Program)(d n:Nat)(t:TypeId)(m k x:Operand):l8 d:=
 match P.underlying t,aM d n m,aM d n k,aM d n x with
 |some (.map kt _),⟨g⟩,⟨h⟩,⟨i⟩=>match zN P kt with
  |some ky=>.e λ_ L H=>jN ky H (g L) (h L) (i L)
  |none=>iZ d
 |_,_,_,_=>iZ d
def Fy(P:Program)(d n:Nat)(t:TypeId)(m k:Operand):l8 d:=
 match P.underlying t,aM d n m,aM d n k with
 |some (.map kt et),⟨g⟩,⟨h⟩=>match zN P kt,(P.info? et).bind (·.zero)with
  |some ky,some z=>.e λ_ L H=>lR ky (mq z) H (g L) (h L)
  |_,_=>iZ d
 |_,_,_=>iZ d
def S3(d n:Nat)(m s x:Operand):l8 d:=
 match aM d n m,aM d n s,aM d n x with
 |⟨g⟩,⟨h⟩,⟨i⟩=>.e λ_ L H=>wY H (g L) (h L) (i L)
def R6(d n:Nat)(x:Operand)(i:Nat):l8 d:=
 match aM d n x with
 |⟨g⟩=>.q false λ_ L _=>match g L with
  | .aX l=>match l[i]? with|some v=>.val v|none=>.bad
  |_=>.bad
def Cw:String := "internal".push (Char.ofNat 47) ++ "bytealg.abigen_runtime_cmpstring"
def II(P:Program)(f:FuncId):Bool:=
 match P.funcs[f]? with
 |some fn=>fn.body.isNone&&fn.name==Cw&&fn.origin == ""
 |none=>false
def Ja(l:List AV):R0:=
 match l with
 | [.str n a,.str m b]=>.val (.int .i64 (bif ic n n a m b then .negSucc 0 else bif gd n a m b then .ofNat 0 else .ofNat 1))
 |_=>.bad
def EL(P:Program)(d n:Nat)(f:FuncId)(args:List Operand):l8 d:=
 match wC d n args,II P f with
 |⟨g⟩,true=>.q false λ_ L _=>Ja (g L)
 |⟨g⟩,false=>.e λO L H=>O (.f f) (g L) H
def lZ(P:Program)(d n:Nat)(o:Oper):l8 d:=
 match o.op with
 | .move x| .assign x=>X3 d n x
 | .pick c a b=>X2 d n c a b
 | .alloc t=>EC P d t
 | .box t x=>DB P d n t x
 | .build t ps=>Ez P d n t ps
 | .buildSlice t len ps=>E6 P d n t len ps
 | .load t a=>IH P d n t a
 | .store t a x=>EH P d n t a x
 | .nilCheck x=>Uo d n x
 | .binOp op t x y _=>zym P d n op t x y
 | .unOp op _ x=>X0 d n op x
 | .convert s t x=>Gw P d n s t x
 | .makeInterface t x=>ET P d n t x
 | .makeFunc (.func f) first cap=>Up d n f first cap
 | .makeMap _ none=>R5 d
 | .makeSlice t l c=>Ff P d n t l c
 | .slice t x lo hi mx=>EI P d n t x lo hi mx
 | .fieldAddr s x f=>Fh P d n s x f
 | .field t x f=>EK P d n t x f
 | .indexAddr t x i=>Fg P d n t x i
 | .index t x i=>EJ P d n t x i
 | .lookup t m k ok=>H9 P d n t m k ok
 | .mapUpdate t m k x| .insert t m k x=>v5 P d n t m k x
 | .mapEntry t m k=>Fy P d n t m k
 | .entryStore _ m s x=>S3 d n m s x
 | .extract x i=>R6 d n x i
 | .call {callee:=.builtin b,args,argTypes}=>w8 P d n b args.toList argTypes.toList
 | .call {callee:=.value (.func f),args,..}=>EL P d n f args.toList
 | .call {callee:=.value x,args,..}=>match aM d n x,wC d n args.toList with
  |⟨h⟩,⟨g⟩=>.e λO L H=>oV O (h L) (g L) H
 |_=>iZ d
inductive Rs(d:Nat) where
 |bad
 |ok (L:TT AV d) (H:Hp)
structure Wd(d:Nat) where f:TT AV d->Option Bool
def yE(d n:Nat)(ops:Array Oper)(o:Oper):Wd d:=
 match o.guard with
 |none=>⟨λ_=>some true⟩
 |some (j,want)=>match(ops[j]?).bind (·.dst)with
  |some t=>bif Nat.blt t n then(match dV (α:=AV) d t with
   |⟨g⟩=>⟨λL=>match g L with| .bool b=>some (b==want)| .undef=>some false|_=>none⟩)else⟨λ_=>none⟩
  |none=>⟨λ_=>none⟩
structure Pt(d:Nat) where f:TT AV d->AV->TT AV d
def eO(d n:Nat):Option Tmp->Pt d
 |some t=>bif Nat.blt t n then(match ak (α:=AV) d t with|⟨s⟩=>⟨s⟩)else⟨λL _=>L⟩
 |none=>⟨λL _=>L⟩
structure St(d:Nat) where f:Call->TT AV d->Hp->Rs d
def sk{d:Nat}(put:TT AV d->AV->TT AV d)(L:TT AV d)(H:Hp)(r:R0):Rs d:=
 match r with
 | .bad=>.bad
 | .val v=>.ok (put L v) H
 | .new v b=>.ok (put L v) (aH H b)
def sj{d:Nat}(put:TT AV d->AV->TT AV d)(L:TT AV d)(r:R1):Rs d:=
 match r with
 | .bad=>.bad
 | .ok v H=>.ok (put L v) H
def mV{d:Nat}(w:Option Bool)(a b:Rs d):Rs d:=
 match w with
 |some true=>a
 |some false=>b
 |none=>.bad
def th(P:Program)(d n:Nat)(ops:Array Oper)(o:Oper):St d:=
 match lZ P d n o,o.guard,yE d n ops o,eO d n o.dst with
 | .q _ f,none,_,⟨put⟩=>⟨λ_ L H=>sk put L H (f H.nx L H)⟩
 | .e f,none,_,⟨put⟩=>⟨λO L H=>sj put L (f O L H)⟩
 | .q _ f,some _,⟨w⟩,⟨put⟩=>⟨λ_ L H=>mV (w L) (sk put L H (f H.nx L H)) (.ok (put L .undef) H)⟩
 | .e f,some _,⟨w⟩,⟨put⟩=>⟨λO L H=>mV (w L) (sj put L (f O L H)) (.ok (put L .undef) H)⟩
def IK{d:Nat}(r:Rs d)(k:TT AV d->Hp->Rs d):Rs d:=match r with| .bad=>.bad| .ok L H=>k L H
def tH(o:Oper):Bool:=match o.op with| .defer _=>true|_=>false
structure DfC where
 x:Operand
 args:List Operand
def va(o:Oper):Option DfC:=
 match o.op,o.guard with
 | .defer {callee:=.value x,args,..},none=>some ⟨x,args.toList⟩
 |_,_=>none
def dl:AV->List AV
 | .aX l=>l
 |_=>[]
def Qp{d:Nat}(n:Nat)(put:TT AV d->AV->TT AV d)(L:TT AV d)(H:Hp)(x:AV)(as:List AV):Rs d:=
 match x with
 | .fn f first cap=>.ok (put ((ak d n).f L (.aX (.fn f (first++as++cap) []::dl ((dV d n).f L)))) .undef) H
 |_=>.bad
def jn(P:Program)(d n:Nat)(ops:Array Oper)(o:Oper):St d:=
 match va o with
 |none=>th P d n ops o
 |some c=>match aM d n c.x,wC d n c.args,eO d n o.dst with
  |⟨g⟩,⟨h⟩,⟨put⟩=>⟨λ_ L H=>Qp n put L H (g L) (h L)⟩
def vP(P:Program)(d n:Nat)(ops:Array Oper):List Oper->St d
 | []=>⟨λ_ L H=>.ok L H⟩
 |o::r=>⟨λO L H=>IK ((jn P d n ops o).f O L H) ((vP P d n ops r).f O)⟩
def aa(m i:Nat):Bool:=Nat.beq (Nat.land (Nat.shiftRight m i) 1) 1
def vY(m i:Nat):Nat:=Nat.lor m (Nat.shiftLeft 1 i)
def u7(m k:Nat):Bool:=Nat.beq (Nat.lor m k) k
def zM(o:Oper):List Nat:=(o.after.toList.filter (Region.binds .any)).map (·.on)
def EN(ms:List Nat)(o:Oper):Nat:=(zM o).foldl (λs j=>Nat.lor (vY s j) (ms.getD j 0)) 0
def cW(ms:List Nat):List Oper->List Nat
 | []=>ms
 |o::r=>cW (ms++[EN ms o]) r
def XV:Operand->Option Tmp
 | .tmp t=>some t
 |_=>none
def mP(ops:Array Oper)(o:Oper):List Tmp:=
 o.op.operands.toList.filterMap XV++(match o.guard with|some (j,_)=>((ops[j]?).bind (·.dst)).toList|none=>[])
def jl:Op->Bool
 | .alloc _| .box .. | .buildSlice .. | .convert .. | .makeMap .. | .makeSlice .. =>true
 |_=>false
structure Pj(d:Nat) where f:TT AV d->TT AV d
def oQ(d n:Nat):List Tmp->Pj d
 | []=>⟨λ_=>same .undef d⟩
 |t::r=>bif Nat.blt t n then(match dV (α:=AV) d t,ak (α:=AV) d t,oQ d n r with|⟨g⟩,⟨s⟩,⟨p⟩=>⟨λL=>s (p L) (g L)⟩)else oQ d n r
mutual
def lV:Nat->AV->AV->Bool
 |0,_,_=>false
 |k+1,x,y=>match x,y with
  | .undef,.undef| .bQ,.bQ| .aA,.aA| .sle,.sle| .bU,.bU| .iV,.iV| .pV,.pV=>true
  | .bool a,.bool b=>a==b
  | .int i a,.int j b=>decide (i=j)&&decide (a=b)
  | .str a b,.str c e=>Nat.beq a c&&Nat.beq b e
  | .ptr a b,.ptr c e=>Nat.beq a c&&Nat.beq b e
  | .sl a b c e f,.sl a' b' c' e' f'=>Nat.beq a a'&&Nat.beq b b'&&Nat.beq c c'&&Nat.beq e e'&&f==f'
  | .map a,.map b=>Nat.beq a b
  | .yield a,.yield b=>Nat.beq a b
  | .fn f a b,.fn g c e=>Nat.beq f g&&oJ k a c&&oJ k b e
  | .iface t a,.iface u b=>Nat.beq t u&&lV k a b
  | .agg a,.agg b=>oJ k a b
  | .aX a,.aX b=>oJ k a b
  |_,_=>false
def oJ:Nat->List AV->List AV->Bool
 |0,_,_=>false
 |_,[],[]=>true
 |k+1,x::l,y::m=>lV k x y&&oJ k l m
 |_,_,_=>false
end
structure Pd where
 (i nm:Nat)
 b:cZ
structure Wt where
 (i A:Nat)
 f:Hp->R0
 v:AV
inductive Rx(d:Nat) where
 |bad
 |ok (L:TT AV d) (H:Hp) (pend:List Pd) (jY:List Wt)
structure Sx(d:Nat) where f:Call->Nat->TT AV d->Hp->List Pd->List Wt->Rx d
def eB(A:Nat)(pend:List Pd)(H:Hp):Hp:=
 List.rec (motive:=λ_=>Hp) H (λp _ a=>bif aa A p.i then a.put p.nm p.b else a) pend
def oW(pend:List Pd)(H:Hp):Hp:=
 List.rec (motive:=λ_=>Hp) H (λp _ a=>a.put p.nm p.b) pend
def sK(A:Nat)(pend:List Pd):List Pd:=
 List.rec (motive:=λ_=>List Pd) [] (λp _ a=>bif aa A p.i then a else p::a) pend
def sS(A:Nat)(jY:List Wt):List Wt:=
 List.rec (motive:=λ_=>List Wt) [] (λp _ a=>bif aa A p.i then a else p::a) jY
def Dd(r:R0)(v:AV):Bool:=match r with| .val u=>lV 64 u v|_=>false
def eR(pend:List Pd)(H:Hp)(jY:List Wt):Bool:=
 List.rec (motive:=λ_=>Bool) true (λx _ a=>Dd (x.f (eB x.A pend H)) x.v&&a) jY
def qX{d:Nat}(put:TT AV d->AV->TT AV d)(lk al:Bool)(i A nm:Nat)(L:TT AV d)(H:Hp)(pend:List Pd)(jY:List Wt)(f:Hp->R0)(w:Option Bool):Rx d:=
 match w with
 |none=>.bad
 |some false=>.ok (put L .undef) H pend jY
 |some true=>match f (eB A pend H)with
  | .bad=>.bad
  | .val v=>.ok (put L v) H pend (bif lk then⟨i,A,f,v⟩::jY else jY)
  | .new v b=>bif al&&b.wr then .ok (put L v) H (⟨i,nm,b⟩::pend) jY else .bad
def eX{d:Nat}(put:TT AV d->AV->TT AV d)(A:Nat)(L:TT AV d)(H:Hp)(pend:List Pd)(jY:List Wt)(r:R1)(w:Option Bool):Rx d:=
 match w with
 |none=>.bad
 |some false=>.ok (put L .undef) H pend jY
 |some true=>match r with
  | .bad=>.bad
  | .ok v H'=>bif eR (sK A pend) H' (sS A jY)then .ok (put L v) H' (sK A pend) (sS A jY)else .bad
def pp(P:Program)(d n:Nat)(ops:Array Oper)(i A:Nat)(o:Oper):Sx d:=
 match lZ P d n o,oQ d n (mP ops o),yE d n ops o,eO d n o.dst with
 | .q lk f,⟨pj⟩,⟨w⟩,⟨put⟩=>⟨λ_ base L H pend jY=>qX put lk (jl o.op&& !lk) i A (base+i) L H pend jY (f (base+i) (pj L)) (w (pj L))⟩
 | .e f,⟨pj⟩,⟨w⟩,⟨put⟩=>⟨λO _ L H pend jY=>eX put A L H pend jY (f O (pj L) (eB A pend H)) (w (pj L))⟩
def NA{d:Nat}(r:Rx d)(k:TT AV d->Hp->List Pd->List Wt->Rx d):Rx d:=match r with| .bad=>.bad| .ok L H p w=>k L H p w
def vW(P:Program)(d n:Nat)(ops:Array Oper)(ms:List Nat):List Nat->Sx d
 | []=>⟨λ_ _ L H p w=>.ok L H p w⟩
 |i::r=>match ops[i]? with
  |some o=>⟨λO base L H p w=>NA ((pp P d n ops i (ms.getD i 0) o).f O base L H p w) ((vW P d n ops ms r).f O base)⟩
  |none=>⟨λ_ _ _ _ _ _=>.bad⟩
def mZ{d:Nat}:l8 d->Bool
 | .e _=>true
 | .q .. =>false
def Dy{d:Nat}:l8 d->Bool
 | .q lk _=>lk
 | .e _=>false
structure Kd where
 (i A:Nat)
 (nR lk:Bool)
def z0(P:Program)(d n:Nat)(ms:List Nat):Nat->List Oper->List Kd
 |_,[]=>[]
 |i,o::r=>⟨i,ms.getD i 0,mZ (lZ P d n o),Dy (lZ P d n o)⟩::z0 P d n ms (i+1) r
def znd(ks:List Kd):Nat:=ks.foldl (λs k=>bif k.nR then vY s k.i else s) 0
def O7(EM:Nat):Nat->Nat->List Kd->List Nat
 |0,_,ks=>ks.map (·.i)
 |k+1,E,ks=>
  match ks.filter (λx=> !x.nR&&u7 (Nat.land x.A EM) E),ks.filter (λx=>x.nR|| !u7 (Nat.land x.A EM) E)with
  |now,rest=>now.map (·.i) ++
   match rest.filter (λx=>x.nR&&u7 (Nat.land x.A EM) E)with
   |e::_=>e.i::O7 EM k (vY E e.i) (rest.filter λx=> !(Nat.beq x.i e.i))
   | []=>rest.map (·.i)
def C5(ops:Array Oper)(ks:List Kd):Nat->Nat->List Nat->Bool
 |_,_,[]=>true
 |D,E,i::r=>match ops[i]?,ks[i]? with
  |some o,some k=>(zM o).all (aa D)&& !aa D i&&(!(k.nR||k.lk)||u7 E k.A)&&C5 ops ks (vY D i) (bif k.nR then vY E i else E) r
  |_,_=>false
def Af:Nat->List Oper->Bool
 |_,[]=>true
 |i,o::r=>(zM o).all (λj=>Nat.blt j i)&&Af (i+1) r
def EF(ops:Array Oper)(ms:List Nat):Bool:=
 (List.range ops.size).all λk=>match ops[k]? with
  |none=>false
  |some o=>(List.range ops.size).all λi=>match ops[i]? with
   |none=>false
   |some o'=>match o'.dst with
    |none=>true
    |some t=>Nat.beq i k||aa (ms.getD k 0) i||aa (ms.getD i 0) k|| !((mP ops o).contains t||o.dst==some t)
structure PK where
 ms:List Nat
 ord:List Nat
 up:Nat
def tp(P:Program)(d n:Nat)(ops:Array Oper):Option PK:=
 match cW [] ops.toList with
 |ms=>match z0 P d n ms 0 ops.toList with
  |ks=>match O7 (znd ks) ks.length 0 ks with
   |ord=>bif Af 0 ops.toList&&EF ops ms&&Nat.beq ord.length ops.size&&C5 ops ks 0 0 ord then
     some ⟨ms,ord,bif ops.toList.any (λo=>jl o.op)then ops.size else 0⟩else none
def js(P:Program)(d n:Nat)(ops:Array Oper):St d:=
 match tp P d n ops with
 |none=>⟨λ_ _ _=>.bad⟩
 |some pl=>match vW P d n ops pl.ms pl.ord with
  |⟨g⟩=>⟨λO L H=>match g O H.nx L ⟨H.t,H.nx+pl.up⟩ [] []with| .bad=>.bad| .ok L' H' pend _=>.ok L' (oW pend H')⟩
structure Dn(d:Nat) where f:Call->TT AV d->Hp->Rc d
def qH{d:Nat}:Rs d->Rc d
 | .bad=>.bad
 | .ok L H=>.ok .normal L H
def mR{d:Nat}(r:Rc d)(k:TT AV d->Hp->Rc d):Rc d:=
 match r with
 | .ok .normal L H=>k L H
 |r=>r
def A4{d:Nat}(id:Nat)(r:Rc d):Rc d:=
 match r with
 | .ok (.exit id') L H=>bif Nat.beq id' id then .ok .normal L H else .ok (.exit id') L H
 |r=>r
def cf{d:Nat}(c:AV)(a b:Rc d):Rc d:=
 match c with
 | .bool true=>a
 | .bool false=>b
 |_=>.bad
def py{d:Nat}(b:TT AV d->Hp->Rc d)(n:Nat):TT AV d->Hp->Rc d:=
 Nat.rec (motive:=λ_=>TT AV d->Hp->Rc d) (λ_ _=>.bad) (λ_ a L H=>mR (b L H) a) n
def bT:Nat:=1000000
def endLoop{d:Nat}(l:Nat)(r:R1)(L:TT AV d):Rc d:=
 match r with
 | .bad=>.bad
 | .ok _ H=>match H.get l with
  | .loop true none .. =>.ok .normal L (H.put l .dead)
  | .loop false (some .ret) .. =>.ok .ret L (H.put l .dead)
  | .loop false (some (.exit id)) .. =>.ok (.exit id) L (H.put l .dead)
  |_=>.bad
def lY:Code->Bool
 | .region _ ops _=> !(ops.toList.any tH)
 | .seq a b=>lY a&&lY b
 | .cond _ a b=>lY a&&lY b
 | .block _ b=>lY b
 | .loop b=>lY b
 | .scope _=>false
 | .rangeFunc .. =>false
 |_=>true
def bj(P:Program)(d n:Nat):Code->Dn d
 | .skip| .label _=>⟨λ_ L H=>.ok .normal L H⟩
 | .region _ ops false=>⟨λO L H=>qH ((vP P d n ops ops.toList).f O L H)⟩
 | .region _ ops true=>match js P d n ops with|⟨g⟩=>⟨λO L H=>qH (g O L H)⟩
 | .seq a b=>⟨λO L H=>mR ((bj P d n a).f O L H) ((bj P d n b).f O)⟩
 | .cond x a b=>match aM d n x with|⟨g⟩=>⟨λO L H=>cf (g L) ((bj P d n a).f O L H) ((bj P d n b).f O L H)⟩
 | .block id b=>⟨λO L H=>A4 id ((bj P d n b).f O L H)⟩
 | .loop b=>⟨λO L H=>py ((bj P d n b).f O) bT L H⟩
 | .scope b=>bj P d n b
 | .exit id=>⟨λ_ L H=>.ok (.exit id) L H⟩
 | .goto _=>⟨λ_ _ _=>.bad⟩
 | .ret=>⟨λ_ L H=>.ok .ret L H⟩
 | .rangeFunc f ps assign body=>match aM d n f,lY assign&&lY body with
  |_,false=>⟨λ_ _ _=>.bad⟩
  |⟨g⟩,true=>⟨λO L H=>endLoop H.nx (ma O (g L) [.yield H.nx] (aH H (.loop true none d n L ps.toList assign body))) L⟩
 | .refuse _=>⟨λ_ _ _=>.bad⟩
structure Rv(d:Nat) where f:TT AV d->Hp->Option AV
def vd(P:Program)(d n:Nat):ResultVar->Rv d
 | .tmp t=>match aM d n (.tmp t)with|⟨g⟩=>⟨λL _=>some (g L)⟩
 | .cell a t=>match aM d n (.tmp a),vK P t,jO P t with
  |⟨g⟩,some true,some k=>⟨λL H=>match bW k H (g L)with| .val v=>some v|_=>none⟩
  |⟨g⟩,some false,some _=>⟨λL H=>match aR H (g L)with| .val v=>some v|_=>none⟩
  |_,_,_=>⟨λ_ _=>none⟩
structure RvL(d:Nat) where f:TT AV d->Hp->Option (List AV)
def xe(P:Program)(d n:Nat):List ResultVar->RvL d
 | []=>⟨λ_ _=>some []⟩
 |x::r=>match vd P d n x,xe P d n r with
  |⟨g⟩,⟨h⟩=>⟨λL H=>match g L H,h L H with|some v,some l=>some (v::l)|_,_=>none⟩
def ey(P:Program)(d n:Nat)(rs:List ResultVar):Rv d:=
 match rs with
 | [x]=>vd P d n x
 |l=>match xe P d n l with|⟨h⟩=>⟨λL H=>match h L H with|some l=>some (.aX l)|none=>none⟩
def zh(O:Call)(l:List AV):Hp->Option Hp:=
 List.rec (motive:=λ_=>Hp->Option Hp) (λH=>some H) (λx _ ih H=>match x with
  | .fn g all []=>match O (.d g) all H with| .ok _ H'=>ih H'| .bad=>none
  |_=>none) l
def dJ(v:Option AV)(H:Hp):R1:=match v with|some v=>.ok v H|none=>.bad
def kH{d:Nat}(n:Nat)(O:Call)(res:TT AV d->Hp->Option AV)(L:TT AV d)(H:Hp):R1:=
 match zh O (dl ((dV d n).f L)) H with
 |some H'=>dJ (res L H') H'
 |none=>.bad
def Dv{d:Nat}(n:Nat)(O:Call)(res:TT AV d->Hp->Option AV)(r:Rc d):R1:=
 match r with
 | .ok .normal L H=>kH n O res L H
 | .ok .ret L H=>kH n O res L H
 |_=>.bad
structure Fd where f:Call->List AV->Hp->R1
def aI(P:Program)(f:FuncId):Fd:=
 match P.funcs[f]? with
 |none=>⟨λ_ _ _=>.bad⟩
 |some fn=>if fn.name == "runtime.NumGoroutine" then⟨λ_ _ _=> .bad⟩else match fn.body with
  |none=>⟨λ_ _ _=>.bad⟩
  |some c=>
   match ey P (gY (fn.ntmps+1)) fn.ntmps fn.results.toList with
   |⟨res⟩=>⟨λO args H=>bif Nat.ble args.length fn.ntmps&&Nat.ble (fn.ntmps+1) 262144 then Dv fn.ntmps O res ((bj P (gY (fn.ntmps+1)) fn.ntmps c).f O (qN args 0 (same .undef _)) H)else .bad⟩
def Cq(P:Program)(f:FuncId):Bool:=
 match P.funcs[f]? with
 |some fn=>(match fn.body with|some c=>lY c|none=>false)
 |none=>false
def ie{d:Nat}(L:TT AV d)(ps:List Tmp)(args:List AV):TT AV d:=
 match ps,args with
 |p::ps,a::as=>ie ((ak d p).f L a) ps as
 |_,_=>L
def zyw:Ex->Option (Option Code)
 | .normal=>some none
 | .ret=>some (some .ret)
 | .exit id=>some (some (.exit id))
 | .goto _=>none
def bc{d:Nat}(l:Nat)(r:Rc d):R1:=
 match r with
 | .bad=>.bad
 | .ok e _ H=>match zyw e with
  |none=>.bad
  |some j=>match H.get l with
   | .loop false none d n L ps assign body=>.ok (.bool j.isNone) (H.put l (.loop j.isNone j d n L ps assign body))
   |_=>.bad
def jh(P:Program)(O:Call)(l:Nat)(args:List AV)(H:Hp):R1:=
 match H.get l with
 | .loop true none d n L ps assign body=>
  bif Nat.beq ps.length args.length&&ps.all (λp=>Nat.blt p n)then
   match(bj P d n assign).f O (ie ((ak d n).f L .undef) ps args) H with
   | .ok .normal L1 H1=>match H1.get l with
    | .loop true none d' n' L' ps' xP body'=>bc l ((bj P d n body).f O L1 (H1.put l (.loop false none d' n' L' ps' xP body')))
    |_=>.bad
   |_=>.bad
  else .bad
 |_=>.bad
def z6:R1->Bool
 | .ok (.bool b) _=>b
 |_=>false
end Go.Ev
end
noncomputable section
namespace Go.Ev
variable {α:Type}
def jo(k:Nat)(t:Q α):α:=
 match k with
 |0=>t.c0|1=>t.c1|2=>t.c2|3=>t.c3|4=>t.c4|5=>t.c5|6=>t.c6|_=>t.c7
def I6(k:Nat)(t:Q α)(v:α):Q α:=
 match k with
 |0=>{t with c0:=v}|1=>{t with c1:=v}|2=>{t with c2:=v}|3=>{t with c3:=v}
 |4=>{t with c4:=v}|5=>{t with c5:=v}|6=>{t with c6:=v}|_=>{t with c7:=v}
theorem Vj(i:Nat):Nat.land i 7=i%8:=by have:=Nat.and_two_pow_sub_one_eq_mod i 3;omega
theorem P9(i:Nat):Nat.shiftRight i 3=i / 8:=by have:=Nat.shiftRight_eq_div_pow i 3;omega
variable{h:Nat}
theorem AY(k:h<8):h=0\/h=1\/h=2\/h=3\/h=4\/h=5\/h=6\/h=7:=by omega
theorem EY(d i:Nat)(t:TT α (d+1)):(dV (d+1) i).f t=(dV d (i / 8)).f (jo (i%8) t):=by have e:dV (α:=α) (d+1) i=aAf.rec (motive:=λ_=>aAf α (d+1)) (λg=>mK.rec (motive:=λ_=>aAf α (d+1)) (λs=>⟨λt=>g (s t)⟩) (Vf (TT α d) (Nat.land i 7))) (dV d (Nat.shiftRight i 3)):=rfl;rw[e,Vj,P9];generalize dV (α:=α) d (i / 8)=g;cases g;cases t;rcases AY (ah i (by grind))with h|h|h|h|h|h|h|h<;>rw[h]<;>rfl
theorem q4w(d i:Nat)(t:TT α (d+1))(v:α):(ak (d+1) i).f t v=I6 (i%8) t ((ak d (i / 8)).f (jo (i%8) t) v):=by have e:ak (α:=α) (d+1) i=zV.rec (motive:=λ_=>zV α (d+1)) (λg=>mD.rec (motive:=λ_=>zV α (d+1)) (λs=>⟨λt v=>s (λc=>g c v) t⟩) (Qd (TT α d) (Nat.land i 7))) (ak d (Nat.shiftRight i 3)):=rfl;rw[e,Vj,P9];generalize ak (α:=α) d (i / 8)=g;cases g;cases t;rcases AY (ah i (by grind))with h|h|h|h|h|h|h|h<;>rw[h]<;>rfl
theorem zuk(k j:Nat)(a:k<8)(b:j<8)(t:Q α)(v:α):jo k (I6 j t v)=if k=j then v else jo k t:=by
 rcases AY a with rfl|rfl|rfl|rfl|rfl|rfl|rfl|rfl <;>
  grind [AY,jo,I6]
theorem je(d:Nat):∀(i j:Nat) (t:TT α d) (v:α),i<8 ^ d->j<8 ^ d -> (dV d i).f ((ak d j).f t v)=if i=j then v else(dV d i).f t:=by
 induction d with
 |zero=>
  intro i j t v a b;have:i=j:=by grind
  subst this;rw[sB rfl];rfl
 |succ d ih=>
  grind [dV,ak,jo,grind,EY,q4w,zuk,ah]
theorem wR(a:α)(d:Nat):∀i,(dV d i).f (same a d)=a:=by
 induction d with
 |zero=>intro i;rfl
 |succ d ih=>
  intro i;rw[EY];have:jo (i%8) (same a (d+1):Q (TT α d))=same a d:=by rcases AY (ah i (by grind))with h|h|h|h|h|h|h|h<;>rw[h]<;>rfl
  rw[this,ih]
theorem gj(n:Nat):n<=8 ^ gY n:=by
 unfold gY;simp only[cond_eq_ite,Nat.ble_eq]
 grind [dE,Nat.lt_pow_self]
def Yw(n:Nat)(_:n<=262144):n<=8 ^ gY n:=gj n
theorem MK(c:TT AV h)(k o:Nat):xI c (k+1) o=(dV h o).f c::xI c k (o+1):=rfl
theorem Fi(c:TT AV h)(k:Nat):∀o,(xI c k o).length=k:=by
 induction k with
 |zero=>intro o;rfl
 |succ k ih=>intro o;rw[MK,nk,ih]
theorem zkt(c:TT AV h)(k:Nat):∀o i,i<k->(xI c k o)[i]? =some ((dV h (o+i)).f c):=by
 induction k with
 |zero=>intro o i d;omega
 |succ k ih=>
  intro o i d;rw[MK];cases i with
  |zero=>rfl
  |succ i=>rw[xu,ih _ _ (by omega),show o+1+i=o+(i+1)by omega]
theorem zz2(o:Nat)(c:TT AV h):qN [] o c=c:=rfl
theorem ztc(v:AV)(l:List AV)(o:Nat)(c:TT AV h):qN (v::l) o c=qN l (o+1) ((ak h o).f c v):=rfl
theorem oS(l:List AV):∀(o:Nat) (c:TT AV h) (i:Nat),o+l.length<=8 ^ h->i<8 ^ h -> (dV h i).f (qN l o c)=if o<=i/\i<o+l.length then l.getD (i-o) .undef else(dV h i).f c:=by
 induction l with
 |nil=>intro o c i _ _;rw[zz2,sy (by simp)]
 |cons v l ih=>
  grind [nk,ztc,je,grind]
theorem zt6(c:TT AV h)(o:Nat):xI c 0 o=[]:=rfl
end Go.Ev
end
noncomputable section
namespace Go.Ev
open Go.RowKit
structure cv where
 (blk base ext z:Nat)
abbrev Im:=Nat->Option cv
def qee(n a:Nat)(s:ByteArray):Prop:=s.data.toList.length=n/\kU s.data.toList=a
mutual
def aQ(ι:Im):AV->Value->Prop
 | .undef,V=>V=.tuple #[]
 | .lit v,V=>V=v
 | .bool b,V=>V=.bool b
 | .int k n,V=>V=.int k n
 | .str n a,V=>∃s,V=.string s/\qee n a s
 | .ptr b o,V=>∃l,ι b=some l/\V=.pointer (some ⟨l.blk,l.base+o,none⟩)
 | .bQ,V=>V=.pointer none
 | .sl b o len cap ex,V=>len<=cap/\∃l,ι b=some l/\V=.slice (some ⟨l.blk,l.base+o,none⟩) len (if ex then cap else cap+l.ext)
 | .aA,V=>V=.slice none 0 0
 | .sle,V=>∃a c,V=.slice (some a) 0 c
 | .map b,V=>∃l,ι b=some l/\V=.map (some l.blk)
 | .bU,V=>V=.map none
 | .fn f first cap,V=>∃F C,aK ι first F/\aK ι cap C/\V=.func (.func f) F.toArray C.toArray
 | .yield b,V=>∃l,ι b=some l/\V=.func (.yield l.blk) #[] #[]
 | .iV,V=>V=.nilFunc
 | .iface t v,V=>∃X,aQ ι v X/\V=.iface t X
 | .pV,V=>V=.nilIface
 | .agg l,V=>∃vs,aK ι l vs/\V=.agg vs.toArray/\∀v∈vs,v.oneCell=true
 | .aX l,V=>∃vs,aK ι l vs/\V=.tuple vs.toArray
def aK(ι:Im):List AV->List Value->Prop
 | [],vs=>vs=[]
 |a::l,vs=>∃v r,vs=v::r/\aQ ι a v/\aK ι l r
end
def Im.le(ι a:Im):Prop:=∀b l,ι b=some l->a b=some l
def Im.le_refl(ι:Im):ι.le ι:=λ_ _ h=>h
def Im.le_trans{a b c:Im}(h:a.le b)(k:b.le c):a.le c:=λx l e=>k x l (h x l e)
mutual
theorem aQ.mono{ι d:Im}(h:ι.le d):(v:AV)->(V:Value)->aQ ι v V->aQ d v V
 | .undef,V,hr| .lit _,V,hr| .bool _,V,hr| .int _ _,V,hr| .str _ _,V,hr| .bQ,V,hr| .aA,V,hr| .sle,V,hr
 | .bU,V,hr| .iV,V,hr| .pV,V,hr=>by simpa only[aQ] using hr
 | .ptr b o,V,hr=>by simp only[aQ]at *;obtain⟨l,a,c⟩:=hr;exact⟨l,h _ _ a,c⟩
 | .sl b o len cap ex,V,hr=>by simp only[aQ]at *;obtain⟨e,l,a,c⟩:=hr;exact⟨e,l,h _ _ a,c⟩
 | .map b,V,hr=>by simp only[aQ]at *;obtain⟨l,a,c⟩:=hr;exact⟨l,h _ _ a,c⟩
 | .yield b,V,hr=>by simp only[aQ]at *;obtain⟨l,a,c⟩:=hr;exact⟨l,h _ _ a,c⟩
 | .fn f first cap,V,hr=>by simp only[aQ]at *;obtain⟨F,C,a,c,g⟩:=hr;exact⟨F,C,aK.mono h first F a,aK.mono h cap C c,g⟩
 | .iface t v,V,hr=>by simp only[aQ]at *;obtain⟨X,a,c⟩:=hr;exact⟨X,aQ.mono h v X a,c⟩
 | .agg l,V,hr=>by simp only[aQ]at *;obtain⟨vs,a,c⟩:=hr;exact⟨vs,aK.mono h l vs a,c⟩
 | .aX l,V,hr=>by simp only[aQ]at *;obtain⟨vs,a,c⟩:=hr;exact⟨vs,aK.mono h l vs a,c⟩
theorem aK.mono{ι b:Im}(h:ι.le b):(l:List AV)->(vs:List Value)->aK ι l vs->aK b l vs
 | [],vs,hr=>by simpa only[aK] using hr
 |a::l,vs,hr=>by simp only[aK]at *;obtain⟨v,r,c,d,e⟩:=hr;exact⟨v,r,c,aQ.mono h a v d,aK.mono h l r e⟩
end
variable{ι:Im}
theorem aK.length:∀{l:List AV} {vs:List Value},aK ι l vs->vs.length=l.length
 | [],vs,h=>by simp only[aK]at h;simp[h]
 |a::l,vs,h=>by simp only[aK]at h;obtain⟨v,r,rfl,_,b⟩:=h;simp[aK.length b]
theorem aK.get:∀{l:List AV} {vs:List Value},aK ι l vs->∀(i:Nat) (a:AV),l[i]? =some a->∃v,vs[i]? =some v/\aQ ι a v
 | [],vs,h,i,a,hi=>by simp at hi
 |x::l,vs,h,i,a,hi=>by
  simp only[aK]at h;obtain⟨v,r,rfl,b,c⟩:=h;cases i with
  |zero=>simp at hi;subst hi;exact⟨v,rfl,b⟩
  |succ i=>simp at hi;obtain⟨d,e,f⟩:=aK.get c i a hi;exact⟨d,by simpa using e,f⟩
theorem aK.append:∀{l m:List AV} {vs a:List Value},aK ι l vs->aK ι m a->aK ι (l++m) (vs++a)
 | [],m,vs,a,h,k=>by simp only[aK]at h;subst h;simpa using k
 |x::l,m,vs,a,h,k=>by simp only[aK]at h;obtain⟨v,r,rfl,b,c⟩:=h;simp only[qg,aK];exact⟨v,r++a,rfl,b,aK.append c k⟩
theorem aK.drop:∀{l:List AV} {vs:List Value} (n:Nat),aK ι l vs->aK ι (l.drop n) (vs.drop n)
 |l,vs,0,h=>by simpa using h
 | [],vs,n+1,h=>by simp only[aK]at h;subst h;simp[aK]
 |x::l,vs,n+1,h=>by simp only[aK]at h;obtain⟨v,r,rfl,b,a⟩:=h;simpa using aK.drop n a
theorem aK.take:∀{l:List AV} {vs:List Value} (n:Nat),aK ι l vs->aK ι (l.take n) (vs.take n)
 |l,vs,0,h=>by simp[aK]
 | [],vs,n+1,h=>by simp only[aK]at h;subst h;simp[aK]
 |x::l,vs,n+1,h=>by simp only[aK]at h;obtain⟨v,r,rfl,a,b⟩:=h;simp only[qx,aK];exact⟨v,r.take n,rfl,a,aK.take n b⟩
theorem aK.aBw:∀{l:List AV} {vs:List Value},vs.length=l.length->(∀(i:Nat) (a:AV),l[i]? =some a->∃v,vs[i]? =some v/\aQ ι a v)->aK ι l vs
 | [],vs,h,_=>by simp only[aK];exact lE5.1 (by simpa using h)
 |x::l,[],h,_=>by simp at h
 |x::l,v::r,h,k=>by
  simp only[aK];refine⟨v,r,rfl,?_,aK.aBw (by simpa using h) λi a e=>?_⟩
  ·obtain⟨d,b,c⟩:=k 0 x rfl;simp at b;subst b;exact c
  ·obtain⟨d,b,c⟩:=k (i+1) a (by simpa using e);exact⟨d,by simpa using b,c⟩
theorem aK.singleton{a:AV}{v:Value}(h:aQ ι a v):aK ι [a] [v]:=by simp only[aK];exact⟨v,[],rfl,h,rfl⟩
def dW(ι:Im):List eT->List MapEntry->Prop
 | [],es=>es=[]
 |x::l,es=>∃e r,es=e::r/\aQ ι x.key e.key/\aQ ι x.val e.val/\e.born=x.born/\dW ι l r
variable{h:Im}
theorem dW.mono(a:ι.le h):∀(l:List eT) (es:List MapEntry),dW ι l es->dW h l es
 | [],es,k=>k
 |x::l,es,k=>by simp only[dW]at *;obtain⟨e,r,b,c,d,f,g⟩:=k;exact⟨e,r,b,aQ.mono a _ _ c,aQ.mono a _ _ d,f,dW.mono a _ _ g⟩
structure LR(ι:Im)(d n:Nat)(L:TT AV d)(tmps:Array Value):Prop where
 size:tmps.size=n
 fits:n<8 ^ d
 get:∀i,i<n->aQ ι ((dV d i).f L) (tmps.getD i Go.undef)
variable{D E:Nat}{F:Array Value}
theorem LR.fit{L:TT AV D}(k:LR ι D E L F):E<=8 ^ D:=dE k.fits
theorem LR.mono{L:TT AV D}(a:ι.le h)(k:LR ι D E L F):LR h D E L F:=
 ⟨k.size,k.fits,λi b=>aQ.mono a _ _ (k.get i b)⟩
theorem LR.set{L:TT AV D}(k:LR ι D E L F){t:Nat}(b:t<E){v:AV}{V:Value}(c:aQ ι v V):LR ι D E ((ak D t).f L v) (F.setIfInBounds t V):=by
 have a:=k.size;have f:=k.fits;refine⟨by simp[a],f,λi e=>?_⟩;rw[je _ _ _ _ _ (by omega) (by omega)];by_cases h:i=t
 ·subst h;rw[sB rfl];simp[a,b];exact c
 ·rw[sy h];have:=k.get i e;simpa [Array.getElem?_setIfInBounds_ne (Ne.symm h)] using this
def BR(ι:Im)(w:World)(b:Nat):cZ->Prop
 | .dead=>True
 | .cells d n c ro z=>∃l,ι b=some l/\(n<=8 ^ d/\l.z=z) /\
   (∀i,i<n->∃V,w.cell? ⟨l.blk,l.base+i,none⟩=some V/\aQ ι ((dV d i).f c) V/\V.oneCell=true/\(ro=false->w.frozen? ⟨l.blk,l.base+i,none⟩=false)) /\
   (ro=false->∀j,j<l.ext*l.z->∃V,w.cell? ⟨l.blk,l.base+(n+j),none⟩=some V/\w.frozen? ⟨l.blk,l.base+(n+j),none⟩=false/\V.oneCell=true)
 | .map es clock=>∃l ES,ι b=some l/\w.heap[l.blk]? =some (.map ES.toArray clock)/\dW ι es ES
 | .sV m since pos=>∃l r,ι b=some l/\l.base=0/\w.heap[l.blk]? =some (.mapIter r since (match pos with|0=> #[]|p+1=> #[p]) since) /\
   (match m with|0=>r=none|m'+1=>∃lm,ι m'=some lm/\r=some lm.blk)
 | .loop ready pending d n L params assign body=>∃l lp,ι b=some l/\w.heap[l.blk]? =some (.loop lp) /\
   lp.state=(if ready then .ready else if pending.isSome then .done else .busy)/\lp.pending=pending/\lp.params.toList=params/\lp.assign=assign/\lp.body=body/\LR ι d n L lp.tmps/\lY assign=true/\lY body=true
def cZ.bG:cZ->Bool
 | .dead=>true
 |_=>false
theorem cZ.aZ{b:cZ}(h:b.wr=true):b.bG=false:=by cases b<;>simp_all [cZ.wr,cZ.bG]
def fD(_:Nat):Prop:=True
theorem vG:fD D:=trivial
structure HR(ι:Im)(H:Hp)(w:World):Prop where
 top:fD (H.nx)
 blk:∀b,fD (b)->BR ι w b (H.get b)
 low:∀b l,fD (b)->(H.get b).bG=false->ι b=some l->l.blk<w.heap.size
 inj:∀b c l m,fD (b)->fD (c)->(H.get b).wr=true->(H.get c).bG=false->ι b=some l->ι c=some m->l.blk=m.blk->b=c
 fresh:∀b,H.nx<=b->ι b=none
 free:∀b,H.nx<=b->fD (b)->H.get b=.dead
variable{J:Hp}{w':World}
theorem HR.lt(_:HR ι J w'){l:cv}(_:ι D=some l):fD (D):=by exact vG
structure Fr(ι ι':Im)(H H':Hp)(w w':World):Prop where
 le:ι.le ι'
 nx:H.nx<=H'.nx
 dom:∀b,ι b=none->ι' b≠none->H.nx<=b
 os:w'.os=w.os
 tape:w'.tape=w.tape
 output:w'.output=w.output
 size:w.heap.size<=w'.heap.size
 keep:∀c,c<w.heap.size->(∀b l,fD (b)->(H.get b).wr=true->ι b=some l->l.blk≠c)->w'.heap[c]? =w.heap[c]?
 new:∀b l,fD (b)->(H'.get b).wr=true->ι' b=some l->w.heap.size<=l.blk\/∃b0 l0,fD (b0)/\(H.get b0).wr=true/\ι b0=some l0/\l0.blk=l.blk
 live:∀b l,fD (b)->(H'.get b).bG=false->ι' b=some l->w.heap.size<=l.blk\/∃b0 l0,fD (b0)/\(H.get b0).bG=false/\ι b0=some l0/\l0.blk=l.blk
theorem Fr.refl(ι:Im)(H:Hp)(w:World):Fr ι ι H H w w:=
 ⟨Im.le_refl _,AF _,λ_ h k=>absurd h k,rfl,rfl,rfl,AF _,λ_ _ _=>rfl,λb l a c d=>.inr ⟨b,l,a,c,d,rfl⟩,λb l a c d=>.inr ⟨b,l,a,c,d,rfl⟩⟩
variable{I:World}{M:Hp}
theorem Fr.trans{e:Im}{i:Hp}{j:World}(f:Fr ι h J M I w')(g:Fr h e M i w' j):Fr ι e J i I j:=by
 refine⟨Im.le_trans f.le g.le,AL f.nx g.nx,λb v k=>?_,g.os.trans f.os,g.tape.trans f.tape,g.output.trans f.output,AL f.size g.size,λc B C=>?_,λb l m n o=>?_,λb l m n o=>?_⟩
 ·cases D:h b with
  |none=>exact AL f.nx (g.dom b D k)
  |some l=>exact f.dom b v (by simp[D])
 ·rw[g.keep c (AE B f.size) ?_,f.keep c B C];intro b l m n o E;rcases f.new b l m n o with a|⟨p,q,a,r,s,t⟩
  ·omega
  ·exact C p q a r s (t.trans E)
 ·rcases g.new b l m n o with a|⟨p,q,a,r,s,t⟩
  ·exact .inl (AL f.size a)
  ·rcases f.new p q a r s with u|⟨x,l1,u,y,z,d⟩
   ·exact .inl (by omega)
   ·exact .inr ⟨x,l1,u,y,z,d.trans t⟩
 ·rcases g.live b l m n o with a|⟨p,q,a,r,s,t⟩
  ·exact .inl (AL f.size a)
  ·rcases f.live p q a r s with u|⟨x,l1,u,y,z,d⟩
   ·exact .inl (by omega)
   ·exact .inr ⟨x,l1,u,y,z,d.trans t⟩
def Fr.below(f:Fr ι h J M I w')(B:Nat)(i:B<=I.heap.size)(a:∀b l,fD (b)->(J.get b).wr=true->ι b=some l->B<=l.blk):Below B I w':=
 ⟨f.os,f.tape,f.output,f.size,λk j=>f.keep k (by omega) λb l d e g m=>by have:=a b l d e g;omega⟩
end Go.Ev
end
noncomputable section
namespace Go.Ev
open Go.RowKit
variable{w':World}
theorem Ue{w:World}{a:Addr}(h:w'.heap[a.block]? =w.heap[a.block]?):w'.cell? a=w.cell? a:=by unfold World.cell?;rw[h]
theorem SM{w:World}{a:Addr}(h:w'.heap[a.block]? =w.heap[a.block]?):w'.frozen? a=w.frozen? a:=by unfold World.frozen?;rw[h]
variable{I:cZ}{h:World}{ι:Im}
theorem BR.keep{b:Nat}(w:BR ι h b I)(o:∀l,I.bG=false->ι b=some l->w'.heap[l.blk]? =h.heap[l.blk]?):BR ι w' b I:=by
 cases I with
 |dead=>trivial
 |cells d n c ro z=>
  obtain⟨l,f,g,m,t⟩:=w;have e:=o l rfl f;refine⟨l,f,g,λi q=>?_,λp j s=>?_⟩
  ·obtain⟨V,a,b,c,d⟩:=m i q;exact⟨V,by rw[Ue (w:=h) e];exact a,b,c,λp=>by rw[SM (w:=h) e];exact d p⟩
  ·obtain⟨V,a,b⟩:=t p j s;exact⟨V,by rw[Ue (w:=h) e];exact a,by rw[SM (w:=h) e];exact b⟩
 |map es clock=>obtain⟨l,u,f,g,m⟩:=w;exact⟨l,u,f,by rw[o l rfl f];exact g,m⟩
 |sV=>obtain⟨l,r,f,v,g,m⟩:=w;exact⟨l,r,f,v,by rw[o l rfl f];exact g,m⟩
 |loop=>obtain⟨l,x,f,g,m⟩:=w;exact⟨l,x,f,by rw[o l rfl f];exact g,m⟩
variable{D:Nat}
theorem BR.mono{p:Im}(e:ι.le p)(h:BR ι w' D I):BR p w' D I:=by
 cases I with
 |dead=>trivial
 |cells d n c ro z=>obtain⟨l,g,j,f,o⟩:=h;refine⟨l,e _ _ g,j,λi s=>?_,o⟩;obtain⟨V,a,D,c,d⟩:=f i s;exact⟨V,a,aQ.mono e _ _ D,c,d⟩
 |map es clock=>obtain⟨l,t,g,j,f⟩:=h;exact⟨l,t,e _ _ g,j,dW.mono e _ _ f⟩
 |sV m=>
  obtain⟨l,r,g,u,j,f⟩:=h;refine⟨l,r,e _ _ g,u,j,?_⟩;cases m with
  |zero=>exact f
  |succ m=>obtain⟨v,x,k2⟩:=f;exact⟨v,e _ _ x,k2⟩
 |loop=>obtain⟨l,y,g,j,f,o,A,B,C,q⟩:=h;exact⟨l,y,e _ _ g,j,f,o,A,B,C,q.1.mono e,q.2⟩
theorem BR.some(h:BR ι w' D I)(e:I.bG=false):∃l,ι D=some l:=by
 cases I with
 |dead=>simp[cZ.bG]at e
 |cells d n c ro z=>obtain⟨l,a,_⟩:=h;exact⟨l,a⟩
 |map es clock=>obtain⟨l,_,a,_⟩:=h;exact⟨l,a⟩
 |sV=>obtain⟨l,_,a,_⟩:=h;exact⟨l,a⟩
 |loop=>obtain⟨l,_,a,_⟩:=h;exact⟨l,a⟩
theorem Vv:8 ^ HD=2097152:=by decide
theorem Mem.get_put(m:Mem)(b c:Nat)(k:cZ):(m.put b k).get c=if c=b then k else m.get c:=by
 unfold Mem.put Mem.get;cases g:Nat.blt b 2097152 with
 |true=>
  have d:b<8 ^ HD:=by rw[Vv];simp[Nat.blt]at g;omega
  cases a:Nat.blt c 2097152 with
  |true=>
   have f:c<8 ^ HD:=by rw[Vv];simp[Nat.blt]at a;omega
   grind [je]
  |false=>
   grind
 |false=>
  cases a:Nat.blt c 2097152 with
  |true=>
   grind
  |false=>
   show(bif Nat.beq c b then k else m.x c)=if c=b then k else m.x c
   by_cases e:c=b
   ·simp
   ·rw[sy e]
    grind [Nat.beq,AK]
theorem Hp.get_put(H:Hp)(b c:Nat)(k:cZ)(_:fD (b))(_:fD (c)):(H.put b k).get c=if c=b then k else H.get c:=by exact Mem.get_put H.t b c k
variable{F:Hp}
theorem HR.put(w:HR ι F h)(p:fD (D))(i:(F.get D).wr=true){l:cv}(t:ι D=some l)(k:cZ)(z:w'.os=h.os)(r:w'.tape=h.tape)(j:w'.output=h.output)(size:w'.heap.size=h.heap.size)(n:∀c,c≠l.blk->w'.heap[c]? =h.heap[c]?)(C:BR ι w' D k):HR ι (F.put D k) w'/\Fr ι ι F (F.put D k) h w':=by
 have o:=cZ.aZ i;refine⟨⟨w.top,λc a=>?_,λc m a d f=>?_,λc s m u a g d f v x y=>?_,w.fresh,λc a g=>?_⟩,
  ⟨Im.le_refl _,AF _,λc d f=>absurd d f,z,r,j,by omega,λc a d=>n c λe=>d D l p i t e.symm,λc m a d f=>?_,λc m a d f=>?_⟩⟩
 ·rw[Hp.get_put _ _ _ _ p a];by_cases e:c=D
  ·simp_all
  ·rw[sy e];exact(w.blk c a).keep λm A B=>n _ λq=>e (w.inj D c l m p a i A t B q.symm).symm
 ·rw[Hp.get_put _ _ _ _ p a]at d;rw[size];by_cases e:c=D
  ·subst e;rw[t]at f;cases f;exact w.low c l a o t
  ·rw[sy e]at d;exact w.low c m a d f
 ·rw[Hp.get_put _ _ _ _ p a]at d;rw[Hp.get_put _ _ _ _ p g]at f;by_cases e:c=D
  ·subst e;by_cases q:s=c
   ·omega
   ·rw[sy q]at f;exact w.inj c s m u a g i f v x y
  ·rw[sy e]at d;by_cases q:s=D
   ·subst q;exact w.inj c s m u a g d o v x y
   ·rw[sy q]at f;exact w.inj c s m u a g d f v x y
 ·have f:=w.free c a g
  grind [Hp.get_put,cZ.wr]
 ·grind [Hp.get_put,grind]
 ·grind [Hp.get_put,grind]
theorem HR.kill(h:HR ι F w')(c:fD (D))(a:(F.get D).wr=true):HR ι (F.put D .dead) w'/\Fr ι ι F (F.put D .dead) w' w':=by obtain⟨l,d⟩:=(h.blk D c).some (cZ.aZ a);exact h.put c a d .dead rfl rfl rfl rfl (λ_ _=>rfl) trivial
def Im.set(ι:Im)(b:Nat)(l:cv):Im:=λc=>if c=b then some l else ι c
theorem Im.dH(ι:Im)(b:Nat)(l:cv):(ι.set b l) b=some l:=by simp[Im.set]
variable{E:Nat}
theorem Im.fI(ι:Im)(l:cv)(h:E≠D):(ι.set D l) E=ι E:=by simp[Im.set,h]
def Im.jS(l:cv)(h:ι D=none):ι.le (ι.set D l):=λc m a=>by grind [Im.fI]
theorem HR.add(w:HR ι F h){nx':Nat}(C:fD (D))(v:ι D=none)(b:F.get D=.dead)(x:F.nx<=nx')(r:fD (nx'))(y:D<nx')(l:cv)(k:cZ)(size:h.heap.size<=w'.heap.size)(i:∀c m,fD (c)->(F.get c).bG=false->ι c=some m->w'.heap[m.blk]? =h.heap[m.blk]?)(j:k.bG=false->l.blk<w'.heap.size)(z:∀c m,fD (c)->(F.get c).bG=false->ι c=some m->m.blk≠l.blk)(E:BR (ι.set D l) w' D k):HR (ι.set D l) ⟨F.t.put D k,nx'⟩ w':=by
 have t:=Im.jS l v;have n:∀c,fD (c)->Hp.get ⟨F.t.put D k,nx'⟩ c=if c=D then k else F.get c:=λc a=>by exact Mem.get_put F.t D c k
 refine⟨r,λc a=>?_,λc m a d f=>?_,λc p m A a g d f q s B=>?_,λc a=>?_,λc a g=>?_⟩
 ·rw[n c a];by_cases e:c=D
  ·simp_all
  ·rw[sy e];exact((w.blk c a).keep λm d f=>i c m a d f).mono t
 ·rw[n c a]at d;by_cases e:c=D
  ·subst e;rw[sB rfl]at d;rw[Im.dH]at f;cases f;exact j d
  ·rw[sy e]at d;rw[Im.fI _ _ e]at f;exact AE (w.low c m a d f) size
 ·rw[n c a]at d;rw[n p g]at f;by_cases e:c=D
  ·subst e;by_cases o:p=c
   ·omega
   ·rw[sy o]at f;rw[Im.dH]at q;cases q;rw[Im.fI _ _ o]at s
    grind
  ·rw[sy e]at d;rw[Im.fI _ _ e]at q;by_cases o:p=D
   ·grind [Im.dH,cZ.aZ]
   ·rw[sy o]at f;rw[Im.fI _ _ o]at s;exact w.inj c p m A a g d f q s B
 ·grind [Im.fI,w.fresh,AL]
 ·have u:c≠D:=by simp only at a;omega
  rw[n c g,sy u];exact w.free c (AL x a) g
def HR.push{H:Hp}(w:HR ι H h)(j:fD (H.nx))(l:cv)(k:cZ)(p:w'.os=h.os)(i:w'.tape=h.tape)(d:w'.output=h.output)(size:h.heap.size<w'.heap.size)(g:∀c,c<h.heap.size->w'.heap[c]? =h.heap[c]?)(s:l.blk=h.heap.size)(q:BR (ι.set H.nx l) w' H.nx k):HR (ι.set H.nx l) (aH H k) w'/\Fr ι (ι.set H.nx l) H (aH H k) h w':=by
 have o:=w.fresh H.nx (AF _);have r:=w.free H.nx (AF _) j;refine⟨w.add j o r (Nat.le_succ _) j (qh _) l k (dE size) (λc m f a b=>g _ (w.low c m f a b)) (λ_=>by omega)
  (λc m f a b=>by have:=w.low c m f a b;omega) q,
  ⟨Im.jS l o,Nat.le_succ _,λc a b=>?_,p,i,d,dE size,λc f _=>g c f,λc m f a b=>?_,λc m f a b=>?_⟩⟩
 ·by_cases e:c=H.nx
  ·omega
  ·grind [Im.fI]
 ·have n:(aH H k).get c=if c=H.nx then k else H.get c:=by exact Mem.get_put H.t H.nx c k
  by_cases e:c=H.nx
  ·grind [Im.dH]
  ·rw[n,sy e]at a;rw[Im.fI _ _ e]at b;exact .inr ⟨c,m,f,a,b,rfl⟩
 ·have n:(aH H k).get c=if c=H.nx then k else H.get c:=by exact Mem.get_put H.t H.nx c k
  by_cases e:c=H.nx
  ·grind [Im.dH]
  ·rw[n,sy e]at a;rw[Im.fI _ _ e]at b;exact .inr ⟨c,m,f,a,b,rfl⟩
structure As(w w':World)(blk off:Nat)(vs:List Value):Prop where
 os:w'.os=w.os
 tape:w'.tape=w.tape
 output:w'.output=w.output
 size:w'.heap.size=w.heap.size
 keep:∀c,c≠blk->w'.heap[c]? =w.heap[c]?
 cell:∀i,w'.cell? ⟨blk,i,none⟩=if off<=i/\i<off+vs.length then some (vs.getD (i-off) Go.undef)else w.cell? ⟨blk,i,none⟩
 frozen:∀a,w'.frozen? a=w.frozen? a
theorem a9(b o i:Nat):Addr.add ⟨b,o,none⟩ i=⟨b,o+i,none⟩:=by grind [Addr.add,grind]
theorem qvw(P:Program)(w:World)(a:Addr)(v:Value){u:Value}(b:w.cell? a=some u)(c:w.frozen? a=false)(d:v.oneCell=true):(Go.store a v).run P w=.ok () (w.setCell a v):=by unfold Go.store;cases v<;>first|(simp[Value.oneCell]at d;done)|(simp only[Sem.run,b,c];rfl)
def SD(P:Program)(b:Nat):∀(vs:List Value) (w:World) (o i:Nat), (∀j,j<vs.length->∃u,w.cell? ⟨b,o+i+j,none⟩=some u/\w.frozen? ⟨b,o+i+j,none⟩=false)->(∀v∈vs,v.oneCell=true) -> ∃w',(storeCells ⟨b,o,none⟩ vs i).run P w=.ok () w'/\As w w' b (o+i) vs:=by
 intro vs
 induction vs with
 |nil=>intro w o i _ _;exact⟨w,rfl,rfl,rfl,rfl,rfl,λ_ _=>rfl,λj=>by rw[sy (by simp)],λ_=>rfl⟩
 |cons v vs ih=>
  intro w o i k l;obtain⟨u,f,m⟩:=k 0 (by simp);simp only[bf]at f m;obtain⟨w',p,d⟩:=ih (w.setCell ⟨b,o+i,none⟩ v) o (i+1) (λj t=>by obtain⟨q,g,h⟩:=k (j+1) (by grind);rw[show o+(i+1)+j=o+i+(j+1)by omega];refine⟨q,?_,by rw[World.frozen?_setCell];exact h⟩;rw[World.cell?_setCell_other];exact g;intro e;simp at e) (λx n=>l x (by simp[n]));refine⟨w',?_,d.os,d.tape,d.output,by rw[d.size];simp,λc y=>?_,λj=>?_,λa=>by rw[d.frozen];simp⟩
  ·unfold storeCells;rw[a9,Sem.run_bind,qvw P w _ v f m (l v (by simp))];exact p
  ·grind [d.keep,Below.heap_setCell]
  ·rw[d.cell j];simp only[nk];by_cases r:o+(i+1)<=j/\j<o+(i+1)+vs.length
   ·grind
   ·rw[sy r];by_cases s:j=o+i
    ·subst s;rw[sB (by omega),World.cell?_setCell_same w _ v f];simp
    ·rw[sy (by omega),World.cell?_setCell_other]
     grind
theorem cg(P:Program)(w:World)(a o:Nat):∀(vs:List Value) (i:Nat) (acc:Array Value), (∀j (v:Value),vs[j]? =some v->w.cell? ⟨a,o+i+j,none⟩=some v) -> (loadCellsFrom ⟨a,o,none⟩ i vs.length acc).run P w=.ok (acc++vs.toArray) w:=by
 intro vs
 induction vs with
 |nil=>intro i acc _;simp[loadCellsFrom]
 |cons v vs ih=>intro i acc h;have b:=h 0 v rfl;simp only[bf]at b;simp only[nk,loadCellsFrom,Sem.run_bind,a9,run_load,b,Result.andThen_ok];rw[ih (i+1) _ λj u c=>by have:=h (j+1) u (by grind);rw[show o+(i+1)+j=o+i+(j+1)by omega];exact this];simp
def bi(P:Program)(w:World)(a o:Nat)(vs:List Value)(h:∀j (v:Value),vs[j]? =some v->w.cell? ⟨a,o+j,none⟩=some v):(loadCells ⟨a,o,none⟩ vs.length).run P w=.ok vs.toArray w:=by unfold loadCells;rw[cg P w a o vs 0 #[] (by simpa using h)];simp
end Go.Ev
end
noncomputable section
namespace Go.Ev
open Go.RowKit
variable {P:Program} {w:World} {ι:Im}
variable{D h:Nat}
theorem yS(a:Nat.blt h D=true):h<D:=eQ a
theorem xf(a:Nat.blt h D=false):¬h<D:=λk=>by grind [Nat.blt,mg]
def pX(a:Nat.ble h D=true):h<=D:=eQ a
def Vu(a:Nat.ble h D=false):¬h<=D:=λk=>by grind [mg]
theorem zK(a:Nat.beq h D=true):h=D:=AK a
def nH(a:Nat.beq h D=false):h≠D:=Nat.ne_of_beq_eq_false a
variable{F:TypeId}
theorem d9{d:TypeDesc}(h:P.underlying F=some d):(underlying F).run P w=.ok d w:=by simp[underlying,h]
theorem O6{i:TypeInfo}(h:P.info? F=some i):(typeInfo F).run P w=.ok i w:=by simp[typeInfo,h]
theorem rE(n:jO P F=some h):(sizeOf F).run P w=.ok h w:=by
 unfold jO at n;cases a:P.info? F with
 |none=>simp[a]at n
 |some i=>simp[a]at n;simp[sizeOf,O6 a,n]
def HN(n:me P F=some h):∃i,(∀w,(typeInfo F).run P w=.ok i w)/\i.bytes=h:=by
 unfold me at n;cases a:P.info? F with
 |none=>simp[a]at n
 |some i=>simp[a]at n;exact⟨i,λ_=>O6 a,n⟩
theorem oX{b:Bool}(h:vK P F=some b):(isAgg F).run P w=.ok b w:=by
 unfold vK at h;cases a:P.underlying F with
 |none=>simp[a]at h
 |some d=>simp only[a,ug,AH]at h;unfold isAgg;rw[Sem.run_bind,d9 a];subst h;cases d<;>rfl
variable{V:Value}
theorem fu(h:(P.info? F).bind (·.zero)=some V):(zeroValue F).run P w=.ok V w:=by
 cases a:P.info? F with
 |none=>simp[a]at h
 |some i=>simp[a]at h;simp[zeroValue,O6 a,h]
def zlh(v:Value)(h:vh v=true):v.oneCell=true:=by cases v<;>simp_all [vh,Value.oneCell]
theorem L4(v:Value):aQ ι (ux v) v:=by
 unfold ux;split<;>simp only[aQ]
 ·exact⟨_,rfl,rfl,rfl⟩
theorem LZ:∀l:List Value,aK ι (l.map ux) l
 | []=>by simp[aK]
 |v::l=>by simp only[og,aK];exact⟨v,l,rfl,L4 v,LZ l⟩
theorem Bm(v:Value):aQ ι (mq v) v:=by
 unfold mq;split
 ·rename_i cs;cases h:cs.toList.all vh with
  |false=>simp[aQ]
  |true=>exact⟨cs.toList,LZ _,by simp,λv a=>zlh v (lEN.1 h v a)⟩
 ·rfl
 ·exact L4 _
variable{I:List AV}
def qrl(h:Mc V=some I):aK ι I V.cells.toList/\∀v∈V.cells.toList,v.oneCell=true:=by
 unfold Mc at h;split at h
 ·rename_i cs;cases a:cs.toList.all vh with
  |false=>simp[a]at h
  |true=>simp[a]at h;subst h;exact⟨by simpa [Value.cells] using LZ cs.toList,λv b=>zlh v (lEN.1 a v (by simpa [Value.cells] using b))⟩
 ·simp at h
 ·rename_i c d;simp at h;subst h;have e:V.cells= #[V]:=by grind [Value.cells]
  grind [aK.singleton,L4,Value.oneCell]
def ld(h:fL P F=some I):∃z,(P.info? F).bind (·.zero)=some z/\aK ι I z.cells.toList/\∀v∈z.cells.toList,v.oneCell=true:=by
 unfold fL at h;cases a:(P.info? F).bind (·.zero)with
 |none=>simp[a]at h
 |some z=>rw[a]at h;exact⟨z,rfl,qrl h⟩
def M8{a:Im}{w':World}{vs:List Value}{loc:cv}(d:a h=some loc)(e:aK a I vs)(g:∀v∈vs,v.oneCell=true)(nm:∀(i:Nat) (v:Value),vs[i]? =some v->w'.cell? ⟨loc.blk,loc.base+i,none⟩=some v/\w'.frozen? ⟨loc.blk,loc.base+i,none⟩=false)(f:∀j,j<loc.ext*loc.z->∃V,w'.cell? ⟨loc.blk,loc.base+(I.length+j),none⟩=some V/\w'.frozen? ⟨loc.blk,loc.base+(I.length+j),none⟩=false/\V.oneCell=true):BR a w' h (aB loc.z I):=by
 have c:I.length<=8 ^ gY I.length:=gj _;refine⟨loc,d,⟨c,rfl⟩,λi b=>?_,λ_=>f⟩;rw[oS _ _ _ _ (by omega) (by omega),sB (by omega)];have k:I[i]? =some (I.getD i .undef):=by simp[b]
 grind [e.get,grind]
structure New(w w':World)(l:cv):Prop where
 os:w'.os=w.os
 tape:w'.tape=w.tape
 output:w'.output=w.output
 size:w'.heap.size=w.heap.size+1
 keep:∀c,c<w.heap.size->w'.heap[c]? =w.heap[c]?
 blk:l.blk=w.heap.size
theorem New.alloc(w:World)(o:Obj)(e z:Nat):New w (w.alloc o) ⟨w.heap.size,0,e,z⟩:=
 ⟨rfl,rfl,rfl,by simp,λc a=>Below.heap_alloc w o c a,rfl⟩
def jI(P:Program)(o:Oper)(ρ:Operand->Value)(ι:Im)(w:World)(nm:Nat):R0->Prop
 | .bad=>True
 | .val v=>∃V,(execOp ρ o).run P w=.ok (.value V) w/\aQ ι v V
 | .new v k=>∃V w' l,(execOp ρ o).run P w=.ok (.value V) w'/\New w w' l/\∀ι',ι.le ι'->ι' nm=some l->aQ ι' v V/\BR ι' w' nm k
variable{O:List Value}
def Bf(c:aK ι I O)(d:∀v∈O,v.oneCell=true)(t:TypeId)(nm z:Nat):∀a,ι.le a->a nm=some ⟨w.heap.size,0,0,z⟩->BR a (w.alloc (.cells O.toArray t)) nm (aB z I):=by intro a b g;refine M8 (loc:=⟨w.heap.size,0,0,z⟩) g (aK.mono b _ _ c) d (λi v e=>?_) (λj f=>by simp at f);simp[e]
variable{J:Act}
def gH{L:TT AV h}(d:LR ι h D L J.tmps)(x:Operand):aQ ι ((aM h D x).f L) (J.eval x):=by
 cases x with
 |tmp t=>
  simp only[aM];cases c:Nat.blt t D with
  |true=>have b:=yS c;have:=d.get t b;trivial
  |false=>
   have b:=xf c;simp only[bu,aQ,Act.eval];have:J.tmps.size<=t:=by rw[d.size];omega
   simp[Array.getElem?_eq_none this,Go.undef]
 |const v=>exact Bm v
 |global g=>simp[aM,aQ,Act.eval]
 |func f=>simp only[aM,aQ,Act.eval];exact⟨[],[],by simp[aK],by simp[aK],rfl⟩
theorem kz{L:TT AV h}(d:LR ι h D L J.tmps):∀l:List Operand,aK ι ((wC h D l).f L) (l.map J.eval)
 | []=>by simp[wC,aK]
 |x::l=>by exact⟨_,_,rfl,gH d x,kz d l⟩
variable{E:Nat}{M:Oper}{N:Operand}
def zyq(b:M.op=.move N\/M.op=.assign N){L:TT AV D}(nm:LR ι D E L J.tmps):jI P M J.eval ι w h (.val ((aM D E N).f L)):=by refine⟨J.eval N,?_,gH nm N⟩;rcases b with b|b<;>simp[execOp,b]
def z9v{x y:Operand}(f:M.op=.pick N x y){L:TT AV D}(nm:LR ι D E L J.tmps):jI P M J.eval ι w h (dQ ((aM D E N).f L) ((aM D E x).f L) ((aM D E y).f L)):=by
 have b:=gH nm N;unfold dQ;split
 ·rename_i e;rw[e]at b;simp only[aQ]at b;exact⟨_,by simp[execOp,f,asBool,b],gH nm x⟩
 ·rename_i e;rw[e]at b;simp only[aQ]at b;exact⟨_,by simp[execOp,f,asBool,b],gH nm y⟩
 ·trivial
theorem z0x{ρ:Operand->Value}(b:M.op=.alloc F)(c:fL P F=some I):jI P M ρ ι w h (.new (.ptr h 0) (aB 0 I)):=by
 obtain⟨f,g,nm,i⟩:=ld (ι:=ι) c;refine⟨.pointer (some ⟨w.heap.size,0,none⟩),_,⟨w.heap.size,0,0,0⟩,?_,New.alloc w (.cells f.cells.toList.toArray F) 0 0,λd a e=>⟨?_,Bf nm i F h 0 d a e⟩⟩
 ·simp only[execOp,b,Instr.alloc,Sem.run_bind,fu g,Result.andThen_ok,newVar,newRow];simp
 ·grind [aQ]
def AV.plain:AV->Bool
 | .agg _| .aX _| .undef| .lit _=>false
 |_=>true
def aQ.one{v:AV}(h:aQ ι v V)(a:v.plain=true):V.oneCell=true/\V.cells= #[V]:=by
 cases v<;>first|(simp[AV.plain]at a;done)|skip
 all_goals simp only[aQ]at h
 all_goals first
  |(subst h;exact⟨rfl,rfl⟩)
  |(obtain⟨_,rfl,_⟩:=h;exact⟨rfl,rfl⟩)
  |(obtain⟨_,_,rfl⟩:=h;exact⟨rfl,rfl⟩)
  |(obtain⟨_,_,_,rfl⟩:=h;exact⟨rfl,rfl⟩)
  |(obtain⟨_,_,_,_,rfl⟩:=h;exact⟨rfl,rfl⟩)
def z92{nm:Nat}(e:M.op=.box F N){L:TT AV h}(d:LR ι h D L J.tmps):jI P M J.eval ι w nm (lM nm ((aM h D N).f L)):=by
 have c:=gH d N;unfold lM;split<;>first|trivial|skip
 rename_i j k l m;have i:((aM h D N).f L).plain=true:=by grind [AV.plain]
 obtain⟨q,p⟩:=c.one i;refine⟨.pointer (some ⟨w.heap.size,0,none⟩),_,⟨w.heap.size,0,0,0⟩,?_,New.alloc w (.cells [J.eval N].toArray F) 0 0,λf b g=>⟨?_,Bf (aK.singleton c) (by grind) F nm 0 f b g⟩⟩
 ·simp[execOp,e,Instr.box,newVar,newRow,p]
 ·grind [aQ]
end Go.Ev
end
noncomputable section
namespace Go.Ev
open Go.RowKit
variable {P:Program} {w:World} {ι:Im} {o:Oper} {a:Act} {nm:Nat} {d n:Nat} {L:TT AV d} {H:Hp}
variable{E:TypeId}{h:Operand}
def z90(f:o.op=.box E h)(k:Nat)(x:LR ι d n L a.tmps):jI P o a.eval ι w nm (pU k nm ((aM d n h).f L)):=by
 have c:=gH x h;unfold pU;split
 ·rename_i l e;rw[e]at c;simp only[aQ]at c;obtain⟨vs,j,m,p⟩:=c;cases Nat.beq l.length k with
  |false=>trivial
  |true=>
   refine⟨.pointer (some ⟨w.heap.size,0,none⟩),_,⟨w.heap.size,0,0,0⟩,?_,New.alloc w (.cells vs.toArray E) 0 0,λg b i=>⟨?_,Bf j p E nm 0 g b i⟩⟩
   ·simp[execOp,f,Instr.box,newVar,newRow,m,Value.cells]
   ·grind [aQ]
 ·trivial
variable{Y:Nat}
def US{k:cZ}(e:BR ι w nm k){v:AV}(h:cB k Y=.val v):∃l V,ι nm=some l/\w.cell? ⟨l.blk,l.base+Y,none⟩=some V/\aQ ι v V/\V.oneCell=true:=by
 cases k with
 |cells d n c ro z=>
  obtain⟨l,g,j,f,_⟩:=e;simp only[cB]at h;cases a:Nat.blt Y n with
  |false=>rw[a]at h;cases h
  |true=>rw[a]at h;simp only[AN,R0.val.injEq]at h;subst h;obtain⟨V,m,o,p,_⟩:=f Y (yS a);simp_all
 |_=>simp[cB]at h
def q44(k:cZ)(i:Nat):cB k i=.bad\/∃v,cB k i=.val v:=by
 cases k with
 |cells d n c ro z=>
  cases a:Nat.blt i n with
  |false=>left;simp[cB,a]
  |true=>right;exact⟨_,by simp[cB,a];rfl⟩
 |_=>left;rfl
def Bj{k:cZ}(q:BR ι w nm k){m:Nat}{l:List AV}(h:eY k Y m=some l):l.length=m/\(m=0\/∃loc vs,ι nm=some loc/\aK ι l vs/\vs.length=m/\(∀v∈vs,v.oneCell=true)/\∀(j:Nat) (v:Value),vs[j]? =some v->w.cell? ⟨loc.blk,loc.base+Y+j,none⟩=some v):=by
 cases k with
 |cells d n c ro z=>
  obtain⟨loc,t,C,u,_⟩:=q;simp only[eY]at h;cases g:Nat.ble (Y+m) n with
  |false=>rw[g]at h;cases h
  |true=>
   rw[g]at h;simp only[AN,AH]at h;subst h;refine⟨Fi _ _ _,.inr ?_⟩;have s:=pX g;have e:∀j,j<m->∃V,w.cell? ⟨loc.blk,loc.base+(Y+j),none⟩=some V/\aQ ι ((dV d (Y+j)).f c) V/\V.oneCell=true:=λj a=>by obtain⟨V,y,A,B,_⟩:=u (Y+j) (by omega);exact⟨V,y,A,B⟩
   obtain⟨f,D⟩:∃f:Nat->Value,∀j,j<m->w.cell? ⟨loc.blk,loc.base+(Y+j),none⟩=some (f j)/\aQ ι ((dV d (Y+j)).f c) (f j)/\(f j).oneCell=true:=by
    refine⟨λj=>if a:j<m then Classical.choose (e j a)else .nilFunc,λj a=>?_⟩
    grind
   refine⟨loc,(List.range m).map f,t,aK.aBw (by simp[Fi]) λj x o=>?_,by simp,λv r=>?_,λj v r=>?_⟩
   ·have a:j<m:=by
     rcases lu j m with p|p
     ·exact p
     ·rw[qp (by grind [Fi])]at o;cases o
    grind [zkt]
   ·grind
   ·grind
 |_=>simp[eY]at h
def z0r(m:o.op=.load E h)(p:vK P E=some false)(g:HR ι H w)(x:LR ι d n L a.tmps):jI P o a.eval ι w nm (aR H ((aM d n h).f L)):=by
 have f:=gH x h;unfold aR;split
 ·rename_i b i e;rw[e]at f;simp only[aQ]at f;obtain⟨l,j,q⟩:=f;rcases q44 (H.get b) i with c|⟨v,c⟩
  ·rw[c];trivial
  ·rw[c];obtain⟨u,V,k,r,s,_⟩:=US (g.blk b (g.lt j)) c;rw[j]at k;cases k;exact⟨V,by simp[execOp,m,Instr.loadAt,q,Instr.sureAddr,loadVar,oX p,r],s⟩
 ·trivial
def z0q(s:o.op=.load E h)(u:vK P E=some true)(y:jO P E=some Y)(q:HR ι H w)(x:LR ι d n L a.tmps):jI P o a.eval ι w nm (bW Y H ((aM d n h).f L)):=by
 have p:=gH x h;unfold bW;split
 ·rename_i b i e;rw[e]at p;simp only[aQ]at p;obtain⟨l,r,z⟩:=p;cases t:eY (H.get b) i Y with
  |none=>trivial
  |some cs=>
   obtain⟨f,A⟩:=Bj (q.blk b (q.lt r)) t;have c:∀vs:List Value,vs.length=Y->(∀(j:Nat) (v:Value),vs[j]? =some v->w.cell? ⟨l.blk,l.base+i+j,none⟩=some v)->(execOp a.eval o).run P w=.ok (.value (.agg vs.toArray)) w:=λvs g m=>by have:=bi P w l.blk (l.base+i) vs m;rw[g]at this;simp[execOp,s,Instr.loadAt,z,Instr.sureAddr,loadVar,oX u,rE y,this]
   rcases A with rfl|⟨loc,vs,g,m,B,C,D⟩
   ·have:cs=[]:=lE5.1 f;subst this;exact⟨_,c [] rfl (by simp),by simp only[aQ];exact⟨[],by simp[aK],rfl,by simp⟩⟩
   ·rw[r]at g;cases g;exact⟨_,c vs B D,by simp only[aQ];exact⟨vs,m,rfl,C⟩⟩
 ·trivial
def zbx(i:o.op=.nilCheck h)(x:LR ι d n L a.tmps):jI P o a.eval ι w nm (match(aM d n h).f L with| .ptr b o=>.val (.ptr b o)| .fn a b c=>.val (.fn a b c)| .yield l=>.val (.yield l)|_=>.bad):=by
 have f:=gH x h;split
 ·rename_i e;rw[e]at f;refine⟨a.eval h,?_,f⟩;simp only[aQ]at f;obtain⟨l,_,g⟩:=f;simp[execOp,i,g]
 ·rename_i e;rw[e]at f;refine⟨a.eval h,?_,f⟩;simp only[aQ]at f;obtain⟨F,C,_,_,g⟩:=f;simp[execOp,i,g]
 ·rename_i e;rw[e]at f;refine⟨a.eval h,?_,f⟩;simp only[aQ]at f;obtain⟨l,_,g⟩:=f;simp[execOp,i,g]
 ·trivial
def q45(k:o.op=.fieldAddr E h Y){j:Array Field}(m:P.underlying E=some (.struct j)){c:Field}(p:j[Y]? =some c){z:Nat}(q:jO P c.type=some (z+1))(x:LR ι d n L a.tmps):jI P o a.eval ι w nm (aL c.offset ((aM d n h).f L)):=by
 have g:=gH x h;unfold aL;split
 ·rename_i b i e;rw[e]at g;simp only[aQ]at g;obtain⟨l,r,t⟩:=g;refine⟨.pointer (some ⟨l.blk,l.base+(i+c.offset),none⟩),?_,by simp only[aQ];exact⟨l,r,rfl⟩⟩;simp[execOp,k,Instr.fieldAt,d9 m,p,t,Instr.sureAddr,fieldPlace,rE q,a9,af]
 ·trivial
variable{D:Operand}{F:TypeId}
def z9y(m:o.op=.indexAddr E h D)(p:P.underlying E=some (.slice F))(q:jO P F=some Y)(x:LR ι d n L a.tmps):jI P o a.eval ι w nm (aG Y ((aM d n h).f L) ((aM d n D).f L)):=by
 have c:=gH x h;have f:=gH x D;unfold aG;split
 ·rename_i b i len r C k j s u;rw[s]at c;rw[u]at f;simp only[aQ]at c f;obtain⟨_,l,v,A⟩:=c;cases B:Nat.blt j len with
  |false=>trivial
  |true=>have g:=yS B;refine⟨.pointer (some ⟨l.blk,l.base+(i+j*Y),none⟩),?_,by simp only[aQ];exact⟨l,v,rfl⟩⟩;simp[execOp,m,Instr.indexAt,f,A,asIntOf,d9 p,rE q,g,a9,af]
 ·trivial
def z9z(m:o.op=.indexAddr E h D)(p:P.underlying E=some (.array Y F)){z:Nat}(q:jO P F=some z)(x:LR ι d n L a.tmps):jI P o a.eval ι w nm (gP Y z ((aM d n h).f L) ((aM d n D).f L)):=by
 have c:=gH x h;have f:=gH x D;unfold gP;split
 ·rename_i b i k j r s;rw[r]at c;rw[s]at f;simp only[aQ]at c f;obtain⟨l,u,v⟩:=c;cases A:Nat.blt j Y with
  |false=>trivial
  |true=>have g:=yS A;refine⟨.pointer (some ⟨l.blk,l.base+(i+j*z),none⟩),?_,by simp only[aQ];exact⟨l,u,rfl⟩⟩;simp[execOp,m,Instr.indexAt,f,v,asIntOf,d9 p,rE q,g,a9,af,Instr.sureAddr]
 ·trivial
variable{I:IntKind}
theorem IP{b:IntKind}(h:cH I b=true):I=b:=by cases I<;>cases b<;>first|rfl|(simp[cH,Pc]at h)
theorem eI(a b:Int):uI a b=(a==b):=by rw[lU1];cases a<;>cases b<;>simp[uI,Nat.beq_eq];omega
def cM(k:IntKind)(n:Int):aQ ι (.int k n) (.int k n):=by simp only[aQ]
def MI(b:Bool):aQ ι (.bool b) (.bool b):=by simp only[aQ]
theorem eH(a b:Int):rH a b=decide (a<b):=by
 have c:∀m n:Nat,Nat.blt m n=decide (m<n):=λm n=>by
  cases h:Nat.blt m n with
  |true=>simp[yS h]
  |false=>simp[xf h]
 cases a with
 |ofNat m=>cases b with
  |ofNat n=>simp[rH,c]
  |negSucc n=>simp[rH];omega
 |negSucc m=>cases b with
  |ofNat n=>simp[rH];omega
  |negSucc n=>simp only[rH,c];congr 1;simp;omega
variable{T:Int}
theorem zmn(h:Dh I T=true):I.wrap T=T:=by
 cases T with
 |ofNat m=>
  cases I<;>simp only[Dh]at h<;>have h:=yS h
  ·exact IntWalk.i8_in _ (by grind)
  ·exact IntWalk.i16_in _ (by grind)
  ·exact IntWalk.i32_in _ (by grind)
  ·exact IntWalk.i64_in _ (by grind)
  ·exact IntWalk.u8_in _ (by grind)
  ·exact IntWalk.u16_in _ (by grind)
  ·exact IntWalk.u32_in _ (by grind)
  ·exact IntWalk.u64_in _ (by grind)
 |negSucc m=>
  cases I<;>simp only[Dh]at h<;>first|(cases h;done)|have h:=yS h
  ·grind [IntWalk.i8_in]
  ·grind [IntWalk.i16_in]
  ·grind [IntWalk.i32_in]
  ·grind [IntWalk.i64_in]
theorem BH(k:IntKind)(n:Int):zH k n=k.wrap n:=by grind [zH,Dh,zmn]
variable{N:BinOp}{U:Int}
def q4y(c:o.op=.binOp N E h D F)(d:a.eval h=.int I T)(e:a.eval D=.int I U):(execOp a.eval o).run P w=((binOp N E (.int I T) (.int I U)).run P w).andThen λv w=>.ok (.value v) w:=by simp only[execOp,c,d,e,eqGuard];simp
def zmh(g:o.op=.binOp N E h D F)(c:N≠ .shl/\N≠ .shr)(x:a.eval h=.int I T)(i:a.eval D=.int I U):jI P o a.eval ι w nm ((lT N).f I T U):=by
 have e:=q4y (P:=P) (w:=w) g x i;cases N<;>simp only[lT]
 case shl=>exact absurd rfl c.1
 case shr=>exact absurd rfl c.2
 case quo|rem=>
  cases f:uI U 0 with
  |true=>trivial
  |false=>
   have d:U≠0:=by rw[eI]at f;simpa using f
   refine⟨_,?_,cM _ _⟩;rw[e];simp[binOp,Op.intDiv,d,BH]
 all_goals
  refine⟨_,?_,by first|exact cM _ _|exact MI _⟩;rw[e];simp[binOp,Op.intArith,Op.intBits,Op.intCmp,BH,eI,eH]
 all_goals first|rfl|(rw[<-decide_not];congr 1;simp)
theorem aMu(g:o.op=.binOp N E h D F)(c:N≠ .shl/\N≠ .shr)(x:LR ι d n L a.tmps):jI P o a.eval ι w nm (eP (lT N).f ((aM d n h).f L) ((aM d n D).f L)):=by
 have e:=gH x h;have f:=gH x D;unfold eP;split
 ·rename_i k m i p j l;rw[j]at e;rw[l]at f;simp only[aQ]at e f;cases q:cH k i with
  |false=>trivial
  |true=>have:=IP q;subst this;exact zmh g c e f
 ·trivial
theorem zk1(j:o.op=.binOp N E h D F)(c:N=.shl\/N=.shr)(x:LR ι d n L a.tmps):jI P o a.eval ι w nm (C3 (BE N).f ((aM d n h).f L) ((aM d n D).f L)):=by
 have e:=gH x h;have f:=gH x D;unfold C3;split
 ·rename_i k m q p r s;rw[r]at e;rw[s]at f;simp only[aQ]at e f;have l:(execOp a.eval o).run P w=((binOp N E (.int k m) (.int q p)).run P w).andThen λv w=>.ok (.value v) w:=by
   simp only[execOp,j,e,f,eqGuard];simp
  rcases c with rfl|rfl<;>simp only[BE]
  all_goals
   cases i:rH p 0 with
   |true=>trivial
   |false=>
    have g:¬p<0:=by rw[eH]at i;simpa using i
    refine⟨_,?_,cM _ _⟩;rw[l];simp[binOp,Op.shift,g,BH]
 ·trivial
def aXF{c:UnOp}(f:o.op=.unOp c E h)(x:LR ι d n L a.tmps):jI P o a.eval ι w nm ((kF c).f ((aM d n h).f L)):=by
 have b:=gH x h;cases c<;>simp only[kF]<;>first|trivial|skip
 ·split
  ·rename_i e;rw[e]at b;simp only[aQ]at b;exact⟨_,by simp[execOp,f,b,Op.unary,Op.intArith,BH],cM _ _⟩
  ·trivial
 ·split
  ·rename_i e;rw[e]at b;simp only[aQ]at b;exact⟨_,by simp[execOp,f,b,Op.unary],MI _⟩
  ·trivial
variable{V:TypeDesc}
def z0v(c:o.op=.convert E F h)(f:P.underlying E=some V)(g:P.underlying F=some (.int I))(x:LR ι d n L a.tmps):jI P o a.eval ι w nm (io I ((aM d n h).f L)):=by
 have b:=gH x h;unfold io;split
 ·rename_i e;rw[e]at b;simp only[aQ]at b;exact⟨_,by simp[execOp,c,b,convert,d9 f,d9 g,Conv.intToInt,BH],cM _ _⟩
 ·trivial
def z0u(c:o.op=.convert E F h)(f:P.underlying E=some .string)(g:P.underlying F=some .string)(x:LR ι d n L a.tmps):jI P o a.eval ι w nm (match(aM d n h).f L with| .str n a=>.val (.str n a)|_=>.bad):=by
 have b:=gH x h;split
 ·rename_i e;rw[e]at b;refine⟨a.eval h,?_,b⟩;obtain⟨z,i,_⟩:=b;simp[execOp,c,i,convert,d9 f,d9 g]
 ·trivial
def qpp(c:o.op=.makeInterface E h)(e:P.underlying E=some V)(f:∀ms,V≠ .interface ms)(x:LR ι d n L a.tmps):jI P o a.eval ι w nm (.val (.iface E ((aM d n h).f L))):=by refine⟨.iface E (a.eval h),?_,by simp only[aQ];exact⟨_,gH x h,rfl⟩⟩;simp only[execOp,c,Instr.makeInterface,Sem.run_bind,d9 e,Result.andThen_ok];rfl
def zby{f:FuncId}{first b:Array Operand}(c:o.op=.makeFunc (.func f) first b)(h:LR ι d n L a.tmps):jI P o a.eval ι w nm (.val (.fn f ((wC d n first.toList).f L) ((wC d n b.toList).f L))):=by refine⟨.func (.func f) (first.map a.eval) (b.map a.eval),by simp[execOp,c,Instr.makeFunc],?_⟩;exact⟨_,_,kz h _,kz h _,by rw[<-yu,<-yu]⟩
def zk2(c:o.op=.makeMap E none):jI P o a.eval ι w nm (.new (.map nm) (.map [] 0)):=by
 refine⟨.map (some w.heap.size),w.alloc (.map #[] 0),⟨w.heap.size,0,0,0⟩,?_,New.alloc w _ 0 0,λe d b=>⟨by simp only[aQ];exact⟨_,b,rfl⟩,⟨_,[],b,?_,by simp[dW]⟩⟩⟩
 ·simp[execOp,c,Instr.makeMap]
 ·show(w.heap.push _)[w.heap.size]? =_;simp
def zk3(c:o.op=.extract h Y)(x:LR ι d n L a.tmps):jI P o a.eval ι w nm (match(aM d n h).f L with
   | .aX l=>match l[Y]? with|some v=>.val v|none=>.bad
   |_=>.bad):=by
 have b:=gH x h;split
 ·rename_i l e;rw[e]at b;simp only[aQ]at b;obtain⟨vs,f,g⟩:=b;split
  ·rename_i v j;obtain⟨V,k,m⟩:=f.get Y v j;exact⟨V,by simp[execOp,c,g,Instr.extract,k],m⟩
  ·trivial
 ·trivial
theorem Fe(s:ByteArray):s.toList=s.data.toList:=ByteArray.toList_eq s
theorem gn(b:UInt8)(l:List UInt8):kU (b::l)=kU l*256+b.toNat:=rfl
def za(b:UInt8):b.toNat<256:=b.toNat_lt
theorem bS:∀{l m:List UInt8},l.length=m.length->kU l=kU m->l=m
 | [],[],_,_=>rfl
 | [],_::_,h,_=>by simp at h
 |_::_,[],h,_=>by simp at h
 |b::l,c::m,h,k=>by
  rw[gn,gn]at k;have e:=za b;have f:=za c;have a:b.toNat=c.toNat:=by omega
  have d:kU l=kU m:=by omega
  rw[UInt8.toNat_inj.1 a,bS (by simpa using h) d]
theorem GE:kU []=0:=rfl
theorem S8:∀l m:List UInt8,kU (l++m)=kU l+256 ^ l.length*kU m
 | [],m=>by simp[GE]
 |b::l,m=>by rw[qg,gn,gn,S8 l m,nk,Nat.pow_succ,bz,Nat.mul_assoc,Nat.mul_assoc,uC (kU m) 256];omega
theorem Mr:∀(l:List UInt8) (k:Nat),kU (l.drop k)=kU l / 256 ^ k
 |l,0=>by simp
 | [],k+1=>by simp[GE]
 |b::l,k+1=>by
  have:=za b;rw[List.drop_succ_cons,Mr l k,gn,Nat.pow_succ,uC (256 ^ k) 256,<-Nat.div_div_eq_div_mul]
  grind
theorem UY:∀(l:List UInt8) (k:Nat),kU (l.take k)=kU l%256 ^ k
 |l,0=>by simp[GE,Nat.mod_one]
 | [],k+1=>by simp[GE]
 |b::l,k+1=>by have:=za b;rw[qx,gn,gn,UY l k,Nat.pow_succ,uC (256 ^ k) 256,Nat.mod_mul,show(kU l*256+b.toNat) / 256=kU l by omega,show(kU l*256+b.toNat)%256=b.toNat by omega];omega
theorem O3(k:Nat):256 ^ k=2 ^ (8*k):=by rw[Nat.pow_mul]
theorem Lg(x:Nat):Nat.land x 255=x%256:=by have:=Nat.and_two_pow_sub_one_eq_mod x 8;omega
theorem zq(x k:Nat):Nat.shiftRight x (Nat.mul 8 k)=x / 256 ^ k:=by have:=Nat.shiftRight_eq_div_pow x (8*k);rw[O3];exact this
theorem PZ(x k:Nat):Nat.shiftLeft x (Nat.mul 8 k)=256 ^ k*x:=by have:=Nat.shiftLeft_eq x (8*k);rw[O3,uC];exact this
theorem aQb(x k:Nat):Nat.land x (Nat.sub (Nat.shiftLeft 1 (Nat.mul 8 k)) 1)=x%256 ^ k:=by rw[PZ,vx,O3];simp
theorem QQ(l:List UInt8)(i:Nat)(h:i<l.length):gA (kU l) i=(l[i]).toNat:=by unfold gA;rw[Lg,zq,<-Mr,iP h,gn];simp
variable{J M:ByteArray}
theorem qee.eq(h:qee n nm J)(k:qee d Y M):gd n nm d Y=(J.data.toList==M.data.toList):=by
 obtain⟨rfl,rfl⟩:=h;obtain⟨rfl,rfl⟩:=k;unfold gd;rw[lU1];simp only[sA,Nat.beq_eq,beq_iff_eq]
 grind [bS]
theorem qee.append(h:qee n nm J)(k:qee d Y M):qee (n+d) (Nat.add nm (Nat.shiftLeft Y (Nat.mul 8 n))) (J++M):=by
 obtain⟨rfl,rfl⟩:=h;obtain⟨rfl,rfl⟩:=k;have e:(J++M).data.toList=J.data.toList++M.data.toList:=by simp
 exact⟨by rw[e,nj],by rw[e,S8,PZ];rfl⟩
theorem zl6:∀(l m:List UInt8),ic l.length l.length (kU l) m.length (kU m)=Op.bytesLess l m
 | [],[]=>rfl
 | [],c::m=>by simp[ic,Op.bytesLess];rfl
 |b::l,[]=>by simp[ic,Op.bytesLess]
 |b::l,c::m=>by
  have ih:=zl6 l m;have n:=za b;have o:=za c;have g:Nat.land (kU (b::l)) 255=b.toNat:=by rw[Lg,gn];omega
  have h:Nat.land (kU (c::m)) 255=c.toNat:=by rw[Lg,gn];omega
  have i:Nat.shiftRight (kU (b::l)) 8=kU l:=by
   have:=zq (kU (b::l)) 1
   grind [gn]
  have j:Nat.shiftRight (kU (c::m)) 8=kU m:=by
   have:=zq (kU (c::m)) 1
   grind [gn]
  show(bif Nat.beq (m.length+1) 0 then false else bif Nat.beq (l.length+1) 0 then true else
   bif Nat.beq (Nat.land (kU (b::l)) 255) (Nat.land (kU (c::m)) 255)then ic l.length (Nat.pred (l.length+1)) (Nat.shiftRight (kU (b::l)) 8) (Nat.pred (m.length+1)) (Nat.shiftRight (kU (c::m)) 8)
   else Nat.blt (Nat.land (kU (b::l)) 255) (Nat.land (kU (c::m)) 255))=_
  rw[g,h,i,j];simp only[Nat.pred_succ,Op.bytesLess,ih];have d:∀k,Nat.beq (k+1) 0=false:=λ_=>rfl;rw[d,d,bu,bu];cases a:Nat.beq b.toNat c.toNat with
  |true=>
   grind [UInt8.toNat_inj,zK]
  |false=>
   have e:b≠c:=λe=>nH a (by rw[e]);cases f:Nat.blt b.toNat c.toNat with
   |true=>have:=yS f;simp[UInt8.lt_iff_toNat_lt,this]
   |false=>have:=xf f;simp[UInt8.lt_iff_toNat_lt,this,e]
theorem qee.less(h:qee n nm J)(k:qee d Y M):ic n n nm d Y=Op.bytesLess J.data.toList M.data.toList:=by obtain⟨rfl,rfl⟩:=h;obtain⟨rfl,rfl⟩:=k;exact zl6 _ _
def zko(h:qee n nm J):aQ ι (.str n nm) (.string J):=by grind [aQ]
def zt8(q:o.op=.binOp N E h D F)(x:LR ι d n L a.tmps):jI P o a.eval ι w nm (eF (lQ N).f ((aM d n h).f L) ((aM d n D).f L)):=by
 have g:=gH x h;have i:=gH x D;unfold eF;split
 ·rename_i m A p B k l;rw[k]at g;rw[l]at i;simp only[aQ]at g i;obtain⟨s,r,e⟩:=g;obtain⟨u,z,f⟩:=i;have j:(execOp a.eval o).run P w=((binOp N E (.string s) (.string u)).run P w).andThen λv w=>.ok (.value v) w:=by
   simp only[execOp,q,r,z,eqGuard];simp
  cases N<;>simp only[lQ]<;>first|trivial|skip
  case add=>
   cases b:Nat.ble (m+p) 1099511627776 with
   |false=>trivial
   |true=>
    have b:=pX b;refine⟨_,?_,zko (e.append f)⟩;rw[j];have k:s.size=m:=e.1;have l:u.size=p:=f.1;have:¬(((s.size+u.size:Nat):Int)>IntKind.i64.max):=by
     have:IntKind.i64.max=9223372036854775807:=by decide
     omega
    simp only[binOp,Op.stringOp,sy this,Sem.run_pure,Result.andThen_ok]
  all_goals
   refine⟨_,?_,MI _⟩;rw[j];simp[binOp,Op.stringOp,Fe,e.eq f,e.less f]
 ·trivial
def zuf(g:o.op=.index E h D)(i:P.underlying E=some .string)(x:LR ι d n L a.tmps):jI P o a.eval ι w nm (fE ((aM d n h).f L) ((aM d n D).f L)):=by
 have b:=gH x h;have c:=gH x D;unfold fE;split
 ·rename_i f B k j q r;rw[q]at b;rw[r]at c;simp only[aQ]at b c;obtain⟨s,u,v,z⟩:=b;cases A:Nat.blt j f with
  |false=>trivial
  |true=>
   have l:=yS A;have e:j<s.data.toList.length:=by omega
   refine⟨_,?_,cM _ _⟩;have m:s.size=f:=v;have p:s[j]? =some (s.data.toList[j]):=by
    have:j<s.size:=by omega
    rw[getElem?_pos s j this];simp;rfl
   rw[<-z,QQ _ _ e];simp[execOp,g,Instr.index,u,c,asIntOf,d9 i,p]
 ·trivial
def re(ι:Im):Option AV->Option Value->Prop
 |none,none=>True
 |some a,some v=>aQ ι a v
 |_,_=>False
def Bk(h:LR ι d n L a.tmps)(x:Option Operand):re ι ((gD d n x).f L) (x.map a.eval):=by
 cases x with
 |none=>simp[gD,re]
 |some x=>simp only[gD,ug,re];exact gH h x
def A5{x:AV}{X:Value}(d:aQ ι x X){k:Nat}(h:ee (some x) nm n=some k)(g:n<=Y)(c:BoundsCode):(Instr.sliceBound X Y c).run P w=.ok k w/\k<=n:=by
 unfold ee at h;split at h
 ·simp_all
 ·rename_i i m e;cases e;cases b:Nat.ble m n with
  |false=>rw[b]at h;cases h
  |true=>
   rw[b]at h;simp only[AN,AH]at h;subst h;have:=pX b;have a:(m:Int)<=Y:=by omega
   subst d;exact⟨by simp[Instr.sliceBound,asIntOf,a],this⟩
 ·cases h
def MA{lo g j:Option AV}{b i m:Option Value}(k:re ι lo b)(n:re ι g i)(p:re ι j m){C:Nat}{d:Bd}(h:aq nm Y lo g j=some d)(u:Y<=C)(q:nm<=Y)(e:Bool):(Instr.sliceBounds e nm C b i m).run P w=.ok (d.l,d.h,if j.isSome then d.m else C) w/\d.l<=d.h/\d.h<=d.m/\d.m<=Y/\(j=none->d.m=Y):=by
 cases j with
 |none=>
  cases m with
  |some _=>exact p.elim
  |none=>
   unfold aq at h;have y:ee none Y Y=some Y:=rfl;rw[y]at h;simp only at h;cases f:ee g nm Y with
   |none=>rw[f]at h;cases h
   |some hh'=>
    rw[f]at h;simp only at h;cases c:ee lo 0 hh' with
    |none=>rw[c]at h;cases h
    |some ll=>
     rw[c]at h;simp only[AH]at h;subst h;have r:hh'<=Y/\(Instr.sliceBounds e nm C b i none).run P w=((match b with|some v=>Instr.sliceBound v hh' .sliceB|none=>pure 0).run P w).andThen λl w=>.ok (l,hh',C) w:=by
      cases g with
      |none=>
       cases i with
       |some _=>exact n.elim
       |none=>simp only[ee,AH]at f;subst f;refine⟨q,?_⟩;cases b<;>simp[Instr.sliceBounds]
      |some g=>
       cases i with
       |none=>exact n.elim
       |some i=>obtain⟨o,s⟩:=A5 (P:=P) (w:=w) (ι:=ι) n f u (if e then .sliceAcap else .sliceAlen);refine⟨s,?_⟩;cases b<;>simp[Instr.sliceBounds,o]
     rw[r.2];cases lo with
     |none=>
      cases b with
      |some _=>exact k.elim
      |none=>simp only[ee,AH]at c;subst c;simp;omega
     |some lo=>
      cases b with
      |none=>exact k.elim
      |some b=>obtain⟨o,s⟩:=A5 (P:=P) (w:=w) (ι:=ι) k c (AF _) .sliceB;simp_all
 |some j=>
  cases m with
  |none=>exact p.elim
  |some m=>
   cases g with
   |none=>simp[aq]at h
   |some g=>
    cases i with
    |none=>exact n.elim
    |some i=>
     unfold aq at h;cases t:ee (some j) Y Y with
     |none=>rw[t]at h;cases h
     |some mm=>
      rw[t]at h;simp only at h;cases f:ee (some g) nm mm with
      |none=>rw[f]at h;cases h
      |some hh'=>
       rw[f]at h;simp only at h;cases c:ee lo 0 hh' with
       |none=>rw[c]at h;cases h
       |some ll=>
        rw[c]at h;simp only[AH]at h;subst h;obtain⟨x,z⟩:=A5 (P:=P) (w:=w) (ι:=ι) p t u (if e then .slice3Acap else .slice3Alen);obtain⟨o,s⟩:=A5 (P:=P) (w:=w) (ι:=ι) n f (AF _) .slice3B;cases lo with
        |none=>
         cases b with
         |some _=>exact k.elim
         |none=>simp only[ee,AH]at c;subst c;simp[Instr.sliceBounds,x,o];omega
        |some lo=>
         cases b with
         |none=>exact k.elim
         |some b=>obtain⟨l1,A⟩:=A5 (P:=P) (w:=w) (ι:=ι) k c (AF _) .slice3C;simp[Instr.sliceBounds,x,o,l1];omega
variable{O R:Option Operand}
def zbw(j:o.op=.slice E h O R none)(k:P.underlying E=some .string)(x:LR ι d n L a.tmps):jI P o a.eval ι w nm (MU ((aM d n h).f L) ((gD d n O).f L) ((gD d n R).f L)):=by
 have f:=gH x h;unfold MU;split
 ·rename_i m i e;rw[e]at f;simp only[aQ]at f;obtain⟨s,l,p,u⟩:=f;split
  ·rename_i b q;obtain⟨r,v,y,z,A⟩:=MA (P:=P) (w:=w) (ι:=ι) (Bk x O) (Bk x R) (show re ι none none from trivial) q (AF _) (AF _) false;have g:s.size=m:=p;refine⟨.string (s.extract b.l b.h),?_,zko ⟨?_,?_⟩⟩
   ·simp only[execOp,j,Instr.sliceAt,Sem.run_bind,d9 k,Result.andThen_ok,Instr.slice,l,Option.map_none,g];simp[r]
   ·have:(s.extract b.l b.h).size=min b.h s.size-b.l:=by simp
    show(s.extract b.l b.h).size=_;omega
   ·have:(s.extract b.l b.h).data.toList=(s.data.toList.drop b.l).take (b.h-b.l):=by simp
    grind [UY,Mr,aQb,zq]
  ·trivial
 ·trivial
def zk0{q:Option Operand}(K:o.op=.slice E h O R q)(M:P.underlying E=some (.slice F))(N:jO P F=some Y)(x:LR ι d n L a.tmps):jI P o a.eval ι w nm (kM Y ((aM d n h).f L) ((gD d n O).f L) ((gD d n R).f L) ((gD d n q).f L)):=by
 have u:=gH x h;have G:=Bk x O;have p:=Bk x R;have H:=Bk x q;have B:∀(b:Option Addr) (len C l p m:Nat),a.eval h=.slice b len C->(Instr.sliceBounds true len C (O.map a.eval) (R.map a.eval) (q.map a.eval)).run P w=.ok (l,p,m) w ->
   (execOp a.eval o).run P w=.ok (.value (.slice (if m=l then b else b.map (·.add (l*Y))) (p-l) (m-l))) w:=λb len C l p m s A=>by
  simp[execOp,K,Instr.sliceAt,d9 M,Instr.slice,s,A,rE N]
 unfold kM;split
 ·rename_i D;rw[D]at u;simp only[aQ]at u;split
  ·rename_i g t;obtain⟨r,v,y,S,I⟩:=MA (P:=P) (w:=w) (ι:=ι) G p H t (AF _) (AF _) true;refine⟨.slice none 0 0,?_,by simp only[aQ]⟩
   grind
  ·trivial
 ·rename_i b i len j J D;rw[D]at u;simp only[aQ]at u;obtain⟨e,l,s,A⟩:=u;split
  ·rename_i g t;have lo:j<=(if J=true then j else j+l.ext):=by grind
   obtain⟨r,v,y,S,I⟩:=MA (P:=P) (w:=w) (ι:=ι) G p H t lo e true;have f:=B _ _ _ _ _ _ A r;simp only[ug,a9]at f;unfold jJ;cases k:(gD d n q).f L with
   |some mv=>
    simp only[k,Option.isSome_some,ai]at f;cases c:Nat.beq g.m g.l with
    |true=>
     have:=zK c;refine⟨_,f,?_⟩
     grind [aQ,grind]
    |false=>
     have:=nH c;refine⟨_,f,?_⟩;refine⟨Nat.sub_le_sub_right y _,l,s,?_⟩
     grind
   |none=>
    have Q:=I k;simp only[k,Option.isSome_none,tq,pz]at f;cases J with
    |true=>
     simp only[ai]at f;cases c:Nat.beq g.m g.l with
     |true=>
      have:=zK c;refine⟨_,f,?_⟩
      grind [aQ]
     |false=>
      have:=nH c;refine⟨_,f,?_⟩;refine⟨Nat.sub_le_sub_right y _,l,s,?_⟩
      grind
    |false=>
     simp only[tq,pz]at f;cases c:Nat.beq g.m g.l with
     |true=>
      have:=zK c;refine⟨_,f,?_⟩;rw[show g.h-g.l=0 by omega];split
      ·exact⟨_,_,rfl⟩
      ·exact⟨_,_,rfl⟩
     |false=>
      have:=nH c;refine⟨_,f,?_⟩;refine⟨Nat.sub_le_sub_right y _,l,s,?_⟩
      grind
  ·trivial
 ·trivial
end Go.Ev
end
noncomputable section
namespace Go.Ev
open Go.RowKit
variable {P:Program} {ι:Im} {o:Oper} {a:Act} {nm:Nat} {d n:Nat} {L:TT AV d} {H:Hp}
variable{h:List Value}{xs:List AV}
def y5{t:TypeId}(d:aK ι xs h)(e:∀v∈h,v.oneCell=true){a:Nat}{v:AV}(b:(im P t).f xs a=some v):∃V,(∀w,(part t h.toArray a).run P w=.ok V w)/\aQ ι v V:=by
 unfold im at b;split at b
 ·rename_i k c g;simp only[AH]at b;subst b;refine⟨.agg (h.toArray.extract a (a+k)),λw=>?_,?_⟩
  ·simp[part,oX c,rE g]
  ·simp only[aQ];refine⟨(h.drop a).take k,(d.drop a).take k,?_,λv f=>e v (List.mem_of_mem_drop (AP f))⟩;simp
 ·rename_i c;obtain⟨V,i,j⟩:=d.get a v b;exact⟨V,λw=>by simp[part,oX c,i],j⟩
 ·cases b
def Jf(P:Program)(ι:Im)(D:Nat)(t:TypeId)(e:E2):Prop:=
 ∀x y X Y b,e.f x y=some b->aQ ι x X->aQ ι y Y->∀D',D<=D'->∀w,(Op.equalIn D' t X Y).run P w=.ok b w
def dr{X:Value}(h:aQ ι (.agg xs) X):∃vs,aK ι xs vs/\X=.agg vs.toArray/\∀v∈vs,v.oneCell=true:=by simpa only[aQ] using h
def zci{D g:Nat}(u:D<=g){e:TypeId}{p:P1}{q:E2}(x:p=im P e)(y:Jf P ι D e q){o:List AV}{m:List Value}(C:aK ι xs h)(E:aK ι o m)(F:∀v∈h,v.oneCell=true)(G:∀v∈m,v.oneCell=true)(z:Nat):∀(k i:Nat) (b:Bool),zI p q z xs o k i=some b->∀w, ∃r:Option Bool×Unit,(forIn (List.range' i k) ((none,()):Option Bool×Unit) λj _=>do
    let a<-part e h.toArray (j*z)
    let c<-part e m.toArray (j*z)
    let t<-Op.equalIn g e a c
    if(!t)=true then pure (ForInStep.done (some false,()))else pure (ForInStep.yield (none,()))).run P w=.ok r w/\(b=true->r.fst=none)/\(b=false->r.fst=some false):=by
 intro k
 induction k with
 |zero=>intro i b l w;simp only[zI,AH]at l;subst l;exact⟨(none,()),by simp,by simp,by simp⟩
 |succ k ih=>
  intro i b l w;simp only[zI]at l;unfold andThen at l;have f:∀t:Bool,Ad p q xs o (i*z)=some t->∃A B,(∀w,(part e h.toArray (i*z)).run P w=.ok A w)/\(∀w,(part e m.toArray (i*z)).run P w=.ok B w)/\∀w,(Op.equalIn g e A B).run P w=.ok t w:=by
   intro t n;unfold Ad at n;split at n
   ·rename_i a c d s;rw[x]at d s;obtain⟨A,H,I⟩:=y5 C F d;obtain⟨B,J,K⟩:=y5 E G s;exact⟨A,B,H,J,y _ _ _ _ _ n I K g u⟩
   ·cases n
  split at l
  ·rename_i d;obtain⟨A,B,L,M,N⟩:=f _ d;obtain⟨r,Q,O⟩:=ih (i+1) b l w;refine⟨r,?_,O⟩;rw[List.range'_succ,List.forIn_cons];simp_all
  ·rename_i d;simp only[AH]at l;subst l;obtain⟨A,B,L,M,N⟩:=f _ d;refine⟨(some false,()),?_,by simp,by simp⟩;rw[List.range'_succ,List.forIn_cons];simp_all
  ·cases l
def q5u{D D':Nat}(hD:D<=D'){xs ys:List AV}{XS YS:List Value}(hx:aK ι xs XS)(hy:aK ι ys YS)(h1:∀v∈XS,v.oneCell=true)(h2:∀v∈YS,v.oneCell=true)(q:TypeId->E2):∀(fs:List Field),(∀f∈fs,Jf P ι D f.type (q f.type))->∀b,
  eqFields ((fs.filter λf=>f.name != "_").map λf=>(im P f.type,q f.type,f.offset)) xs ys=some b->∀w,
  (Op.eqFields D' XS.toArray YS.toArray fs).run P w=.ok b w:=by
 intro fs
 induction fs with
 |nil=>intro _ b h w;simp[eqFields]at h;subst h;simp[Op.eqFields]
 |cons f fs ih=>
  intro hq b h w;have ihf:=ih (λg hg=>hq g (by simp[hg]));unfold Op.eqFields
  by_cases hn:f.name = "_"
  ·simp_all
  ·have hb:(f.name != "_")=true:=by simp[hn]
   rw[List.filter_cons_of_pos (by grind),og]at h;rw[sB hn];unfold eqFields at h;rw[List.foldr_cons]at h;unfold andThen at h;have key:∀t:Bool,Ad (im P f.type) (q f.type) xs ys f.offset=some t->∃A B,(∀w,(part f.type XS.toArray f.offset).run P w=.ok A w)/\(∀w,(part f.type YS.toArray f.offset).run P w=.ok B w)/\∀w,(Op.equalIn D' f.type A B).run P w=.ok t w:=by
    intro t ht;unfold Ad at ht;split at ht
    ·rename_i a c e1 e2;obtain⟨A,a1,a2⟩:=y5 hx h1 e1;obtain⟨B,b1,b2⟩:=y5 hy h2 e2;exact⟨A,B,a1,b1,hq f (by simp) _ _ _ _ _ ht a2 b2 D' hD⟩
    ·cases ht
   split at h
   ·rename_i e1;obtain⟨A,B,r1,r2,r3⟩:=key _ e1;simp only[Sem.run_bind,r1,r2,r3,Result.andThen_ok,Bool.not_true,tq,pz];exact ihf b h w
   ·rename_i e1;obtain⟨A,B,r1,r2,r3⟩:=key _ e1;simp only[AH]at h;subst h;simp only[Sem.run_bind,r1,r2,r3,Result.andThen_ok,Bool.not_false,ai,Sem.run_pure]
   ·cases h
def zy1:∀(D:Nat) (t:TypeId),Jf P ι D t (cJ P D t):=by
 intro D
 induction D with
 |zero=>intro t x y X Y b h;simp[cJ]at h
 |succ D ih=>
  intro t x y X Y b h c d C Q w;obtain⟨E,rfl⟩:∃E,C=E+1:=⟨C-1,by omega⟩;rw[cJ]at h;split at h
  ·rename_i a;change zT x y=some b at h;unfold zT at h;split at h
   ·simp only[aQ]at c d;subst c d;simp only[AH]at h;subst h;simp[Op.equalIn,d9 a]
   ·cases h
  ·rename_i a;change pI x y=some b at h;unfold pI at h;split at h
   ·rename_i k m F p;simp only[aQ]at c d;subst c d;cases A:cH k F with
    |false=>rw[A]at h;cases h
    |true=>rw[A]at h;simp only[AN,AH]at h;subst h;have:=IP A;subst this;simp[Op.equalIn,d9 a,eI]
   ·cases h
  ·rename_i a;change bH x y=some b at h;unfold bH at h;split at h
   ·simp only[aQ]at c d;obtain⟨s,rfl,G⟩:=c;obtain⟨u,rfl,H⟩:=d;simp only[AH]at h;subst h;rw[run_equalIn_string w E t s u a,Fe,Fe,G.eq H]
   ·cases h
  ·rename_i I a;split at h
   ·cases h
   ·rename_i J;have g:P.stoodInHeld t=false:=by simpa using J
    simp only at h;unfold dL at h;split at h
    ·rename_i xs K;obtain⟨L,i,rfl,j⟩:=dr c;obtain⟨M,n,rfl,o⟩:=dr d;have B:P.fieldsOf t=I:=by simp[Program.fieldsOf,a]
     rw[run_equalIn_struct w E t _ _ (by rw[B];exact a) g,B];exact q5u (by omega) i n j o (cJ P D) _ (λf _=>ih f.type) b h w
    ·cases h
  ·rename_i len e a;split at h
   ·rename_i z N;simp only at h;unfold dL at h;split at h
    ·rename_i xs K;obtain⟨L,i,rfl,j⟩:=dr c;obtain⟨M,n,rfl,o⟩:=dr d;obtain⟨r,O,q,v⟩:=zci (P:=P) (show D<=E by omega) rfl (ih e) i n j o z len 0 b h w;simp only[Op.equalIn,Sem.run_bind,d9 a,Result.andThen_ok,rE N,Std.Legacy.Range.forIn_eq_forIn_range',Std.Legacy.Range.size];simp only[um,xF,Nat.div_one];rw[O];cases b with
     |true=>rw[Result.andThen_ok,q rfl];rfl
     |false=>rw[Result.andThen_ok,v rfl];rfl
    ·cases h
   ·cases h
  ·rename_i a;change eN x y=some b at h;unfold eN at h;split at h<;>first|(cases h;done)|skip
   all_goals (simp only[AH]at h;subst h;simp only[aQ]at c d)
   ·subst c d;simp[Op.equalIn,d9 a]
   ·obtain⟨l,_,rfl⟩:=d;subst c;simp[Op.equalIn,d9 a]
   ·obtain⟨l,_,rfl⟩:=c;subst d;simp[Op.equalIn,d9 a]
  ·rename_i a;change rX x y=some b at h;unfold rX at h;split at h<;>first|(cases h;done)|skip
   all_goals (simp only[AH]at h;subst h;simp only[aQ]at c d)
   ·subst c d;simp[Op.equalIn,d9 a]
   ·obtain⟨_,l,_,rfl⟩:=d;subst c;simp[Op.equalIn,d9 a]
   ·obtain⟨_,l,rfl⟩:=d;subst c;simp[Op.equalIn,d9 a]
   ·obtain⟨_,l,_,rfl⟩:=c;subst d;simp[Op.equalIn,d9 a]
   ·obtain⟨_,l,rfl⟩:=c;subst d;simp[Op.equalIn,d9 a]
  ·rename_i a;change IM x y=some b at h;unfold IM at h;split at h<;>first|(cases h;done)|skip
   all_goals (simp only[AH]at h;subst h;simp only[aQ]at c d)
   ·subst c d;simp[Op.equalIn,d9 a]
   ·obtain⟨l,_,rfl⟩:=d;subst c;simp[Op.equalIn,d9 a]
   ·obtain⟨l,_,rfl⟩:=c;subst d;simp[Op.equalIn,d9 a]
  ·rename_i a;change jH x y=some b at h;unfold jH at h;split at h<;>first|(cases h;done)|skip
   all_goals (simp only[AH]at h;subst h;simp only[aQ]at c d)
   ·subst c d;simp[Op.equalIn,d9 a]
   ·obtain⟨_,_,_,_,rfl⟩:=d;subst c;simp[Op.equalIn,d9 a]
   ·obtain⟨_,_,_,_,rfl⟩:=c;subst d;simp[Op.equalIn,d9 a]
  ·rename_i a;change zo x y=some b at h;unfold zo at h;split at h<;>first|(cases h;done)|skip
   all_goals (simp only[AH]at h;subst h;simp only[aQ]at c d)
   ·obtain⟨_,_,rfl⟩:=d;subst c;simp[Op.equalIn,d9 a]
   ·obtain⟨_,_,rfl⟩:=c;subst d;simp[Op.equalIn,d9 a]
  ·cases h
end Go.Ev
end
noncomputable section
namespace Go.Ev
open Go.RowKit
variable {P:Program} {w:World} {ι:Im} {o:Oper} {a:Act} {nm:Nat} {d n:Nat} {L:TT AV d} {H:Hp}
theorem zkn(l:List AV)(k:Nat):aU l (k+1)=l++aU l k:=rfl
def iI(l:List Value):Nat->List Value
 |0=>[]
 |k+1=>l++iI l k
theorem zkm(l:List AV):aU l 0=[]:=rfl
variable{O:List AV}
theorem oi{vs:List Value}(h:aK ι O vs):∀k,aK ι (aU O k) (iI vs k)
 |0=>by simp[zkm,iI,aK]
 |k+1=>by rw[zkn,iI];exact h.append (oi h k)
theorem nI(l:List Value):∀k,(iI l k).length=k*l.length
 |0=>by simp[iI]
 |k+1=>by rw[iI,nj,nI l k,bz];omega
theorem xK{l:List Value}:∀{k:Nat} {v:Value},v∈iI l k->v∈l
 |0,v,h=>by simp[iI]at h
 |k+1,v,h=>by
  rw[iI,lAJ]at h;rcases h with h|h
  ·exact h
  ·exact xK h
theorem Sf(l:List Value):∀(k i:Nat),i<k*l.length->(iI l k)[i]? =l[i%l.length]?
 |0,i,h=>by simp at h
 |k+1,i,h=>by
  rw[bz,ut]at h;rw[iI];by_cases a:i<l.length
  ·rw[sX a,Nat.mod_eq_of_lt a]
  ·rw[AM (by omega),Sf l k (i-l.length) (by omega)]
   grind [Nat.mod_eq_sub_mod]
theorem bN(Z:Array Value)(k s:Nat)(b:Z.size=s):(Array.range (k*s)).map (λi=>Z[i%Z.size]!)=(iI Z.toList k).toArray:=by
 apply Array.ext';apply yh;intro i;have c:(iI Z.toList k).toArray.toList=iI Z.toList k:=by simp
 by_cases f:i<k*s
 ·have d:Z.toList.length=s:=by simpa using b
  rw[c,Sf _ _ _ (by grind),d];have a:0<s:=by grind
  have e:i%s<Z.size:=by rw[b];exact ah _ a
  simp_all
 ·rw[qp (by grind),qp (by grind [nI])]
theorem zkx(b:Nat):(askRoom b).run P w=.ok () w:=by simp
variable{D h:TypeId}{I J:Operand}
def zt9(G:o.op=.makeSlice h I J)(H:P.underlying h=some (.slice D))(x:fL P D=some O){b s:Nat}(y:me P D=some b)(K:jO P D=some s)(j:O.length=s)(t:LR ι d n L a.tmps):jI P o a.eval ι w nm (fC O b nm ((aM d n I).f L) ((aM d n J).f L)):=by
 have k:=gH t I;have l:=gH t J;unfold fC;split
 ·rename_i Z p k2 q U V;rw[U]at k;rw[V]at l;simp only[aQ]at k l;cases E:(Nat.ble p q&&Nat.ble (Nat.mul q b) iA&&Nat.ble q iA)with
  |false=>trivial
  |true=>
   simp only[sA]at E;obtain⟨⟨u,A⟩,B⟩:=E;have u:=pX u;have A:q*b<=1099511627776:=pX A;have B:q<=1099511627776:=pX B;obtain⟨i,W,e,X⟩:=ld (ι:=ι) x;obtain⟨ti,r,Y⟩:=HN (P:=P) y;have Q:i.cells.toList.length=s:=by rw[e.length,j]
   have w1:IntKind.i64.wrap (p:Int)=p:=IntWalk.i64_in _ (by omega);have R:IntKind.i64.wrap (q:Int)=q:=IntWalk.i64_in _ (by omega);have C:(ti.bytes:Int)*(q:Int)<=281474976710656:=by grind
   refine⟨.slice (some ⟨w.heap.size,0,none⟩) p q,w.alloc (.cells (iI i.cells.toList q).toArray D),⟨w.heap.size,0,0,0⟩,?_,New.alloc w _ 0 0,λM c N=>⟨?_,Bf (oi e q) (λv z=>X v (xK z)) D nm 0 M c N⟩⟩
   ·have m:¬((p:Int)<0):=by omega
    have f:¬((q:Int)<0):=by omega
    have c:¬((q:Int)<p):=by omega
    have g:¬((ti.bytes:Int)*(q:Int)>2 ^ 48):=by grind
    simp only[execOp,G,Instr.makeSlice,Sem.run_bind,d9 H,Result.andThen_ok,k,l,asInt,asIntOf,Sem.run_pure,r,qf,w1,R];simp only[m,f,c,g,decide_false,Bool.or_false,tq,pz,gt_iff_lt,Sem.run_pure,Result.andThen_ok,Int.toNat_natCast,Sem.run_bind,zkx,rE K,Sem.run_ite];by_cases F:q*s=0
    ·have S:(iI i.cells.toList q)=[]:=lE5.1 (by grind [nI]);have T:Array.map (λ_:Nat=>(default:Value)) (Array.range 0)= #[]:=by grind
     simp[F,S,newRow,T]
    ·simp only[F,pz,fu W,Result.andThen_ok];rw[bN i.cells q s (by grind)];rfl
   ·grind [aQ]
 ·trivial
variable{V:Value}{W:AV}
def zcq(h:aQ ι W V)(a:vJ W=some O):aK ι O V.cells.toList/\∀x∈V.cells.toList,x.oneCell=true:=by
 unfold vJ at a;split at a
 ·simp only[AH]at a;subst a;obtain⟨vs,b,rfl,j⟩:=dr h;trivial
 ·cases a
 ·cases a
 ·cases a
 ·rename_i d e f g;simp only[AH]at a;subst a;have c:W.plain=true:=by grind [AV.plain]
  obtain⟨b,i⟩:=h.one c;rw[i];exact⟨aK.singleton h,by simpa using b⟩
theorem zvf:∀(l:List Value) (C:Array Value) (a k:Nat),a+k+l.length<=C.size -> ((l.zipIdx k).foldl (λcs (x:Value×Nat)=>cs.setIfInBounds (a+x.2) x.1) C).toList=C.toList.take (a+k)++l++C.toList.drop (a+k+l.length):=by
 intro l
 induction l with
 |nil=>intro C a k h;simp
 |cons v l ih=>
  intro C a k h;rw[nk]at h;rw[List.zipIdx_cons,uh,ih _ _ _ (by simp;omega)];simp only[Array.toList_setIfInBounds,nk];have b:a+k<C.toList.length:=by simp;omega
  rw[List.drop_set_of_lt (by omega),show a+(k+1)=(a+k)+1 by omega,nh (by grind)];rw[List.take_set_of_le (AF _)]
  grind
def zbp{C:Array Value}(d:aK ι O C.toList)(n:∀W∈C.toList,W.oneCell=true)(i:aQ ι W V){l e:List AV}(j:vJ W=some l){a:Nat}(h:Cn O a nm l=some e):V.cells.size=nm/\a+V.cells.size<=C.size/\aK ι e (V.cells.zipIdx.foldl (λcs (x:Value×Nat)=>cs.setIfInBounds (a+x.2) x.1) C).toList /\ (∀x∈(V.cells.zipIdx.foldl (λcs (x:Value×Nat)=>cs.setIfInBounds (a+x.2) x.1) C).toList,x.oneCell=true):=by
 obtain⟨g,r⟩:=zcq i j;unfold Cn at h;cases b:(Nat.beq l.length nm&&Nat.ble (a+nm) O.length)with
 |false=>rw[b]at h;cases h
 |true=>
  rw[b]at h;simp only[AN,AH]at h;subst h;simp only[sA]at b;have k:=zK b.1;have p:=pX b.2;have f:V.cells.size=nm:=by have:=g.length;simpa [k] using this
  have q:C.size=O.length:=by simpa using d.length
  have m:(V.cells.zipIdx.foldl (λcs (x:Value×Nat)=>cs.setIfInBounds (a+x.2) x.1) C).toList=C.toList.take a++V.cells.toList++C.toList.drop (a+nm):=by rw[<-Array.foldl_toList,Array.toList_zipIdx,zvf _ _ _ _ (by simp;omega)];simp[f]
  rw[m];refine⟨f,by omega,(((d.take a).append g).append (d.drop (a+nm))),λx o=>?_⟩
  grind
def Aw(ι:Im)(place:Nat->Option (Nat×Nat)):List (Nat×Nat×AV)->List (Nat×Value)->Prop
 | [],ps=>ps=[]
 |(off,size,v)::l,ps=>∃i V r,ps=(i,V)::r/\place i=some (off,size)/\aQ ι v V/\Aw ι place l r
theorem FA(h:LR ι d n L a.tmps)(b:Nat->Option (Nat×Nat)):∀(ps:List (Nat×Operand)) (r:I0 d),jq d n b ps=some r->Aw ι b (r.f L) (ps.map λ(i,x)=>(i,a.eval x))
 | [],r,hr=>by grind [jq,AH,Aw]
 |(i,x)::ps,r,hr=>by
  simp only[jq]at hr;split at hr
  ·rename_i c size g k e f j;simp only[AH]at hr;subst hr;refine⟨i,a.eval x,_,rfl,e,?_,?_⟩
   ·have:=gH h x;rw[f]at this;exact this
   ·exact FA h b ps _ j
  ·cases hr
theorem E5{a:Nat->Option (Nat×Nat)}:∀{l:List (Nat×Nat×AV)} {ps:List (Nat×Value)} {c b:List AV} {C:Array Value},Aw ι a l ps->aK ι c C.toList->(∀v∈C.toList,v.oneCell=true)->bK c l=some b -> ∃d,Instr.fill a C ps=some d/\aK ι b d.toList/\∀v∈d.toList,v.oneCell=true
 | [],ps,c,b,C,hp,hc,h1,h=>by simp only[Aw]at hp;subst hp;simp only[bK,AH]at h;subst h;exact⟨C,rfl,hc,h1⟩
 |(off,size,v)::l,ps,c,b,C,hp,hc,h1,h=>by
  obtain⟨i,V,r,rfl,g,j,k⟩:=hp;simp only[bK]at h;split at h
  ·rename_i lv e;split at h
   ·rename_i o f;obtain⟨p,q,m,n⟩:=zbp hc h1 j e f;obtain⟨d,s,t,u⟩:=E5 k m n h
    grind [Instr.fill]
   ·cases h
  ·cases h
variable{T:Array (Nat×Operand)}{X:I0 d}
def zuh(b:o.op=.build h T){len:Nat}(f:P.underlying h=some (.array len D))(g:fL P h=some O){s:Nat}(j:jO P D=some s)(k:jq d n (λi=>some (i*s,s)) T.toList=some X)(t:LR ι d n L a.tmps):jI P o a.eval ι w nm (bJ (bK O (X.f L))):=by
 obtain⟨A,l,m,p⟩:=ld (ι:=ι) g;cases y:bK O (X.f L)with
 |none=>trivial
 |some c=>obtain⟨q,u,v,x⟩:=E5 (FA t _ _ _ k) m p y;refine⟨.agg q,?_,by simp only[aQ];exact⟨_,v,by simp,x⟩⟩;simp only[execOp,b,Instr.build,Sem.run_bind,fu l,Result.andThen_ok,d9 f,rE j,yu,u];rfl
def qpm(a:List Field)(h:∀f∈a,(jO P f.type).isSome=true):∀(acc:Array (Nat×Nat)), (List.foldlM (λ(b:Array (Nat×Nat)) (f:Field)=>do let y<-(do pure (f.offset,<-sizeOf f.type):Sem (Nat×Nat));pure (b.push y)) acc a).run P w =
   .ok (acc++(a.map λf=>(f.offset,(jO P f.type).getD 0)).toArray) w:=by
 induction a with
 |nil=>intro acc;simp
 |cons f a ih=>intro acc;obtain⟨s,c⟩:=lOX.1 (h f (by simp));rw[List.foldlM_cons];simp only[Sem.run_bind,rE c,Result.andThen_ok,Sem.run_pure];simp_all
variable{Z:Array Field}
def zug(l:o.op=.build h T)(m:P.underlying h=some (.struct Z))(p:fL P h=some O)(j:Z.toList.all (λf=>(jO P f.type).isSome)=true)(q:jq d n (E0 P Z) T.toList=some X)(t:LR ι d n L a.tmps):jI P o a.eval ι w nm (bJ (bK O (X.f L))):=by
 obtain⟨G,x,y,A⟩:=ld (ι:=ι) p;cases F:bK O (X.f L)with
 |none=>trivial
 |some c=>
  have e:∀f∈Z.toList,(jO P f.type).isSome=true:=λf k=>lEN.1 j f k;obtain⟨B,H,C,D⟩:=E5 (FA t _ _ _ q) y A F;refine⟨.agg B,?_,by simp only[aQ];exact⟨_,C,by simp,D⟩⟩;have u:(λi=>(Z.map λf=>(f.offset,(jO P f.type).getD 0))[i]?)=E0 P Z:=by
   funext i;unfold E0;rw[Array.getElem?_map];cases k:Z[i]? with
   |none=>rfl
   |some f=>
    have v:f∈Z.toList:=by grind
    obtain⟨s,E⟩:=lOX.1 (e f v);simp[E]
  have g:(Z.mapM λf=>(do pure (f.offset,<-sizeOf f.type):Sem (Nat×Nat))).run P w=.ok (Z.map λf=>(f.offset,(jO P f.type).getD 0)) w:=by
   rw[Array.mapM_eq_foldlM,<-Array.foldlM_toList];have:=qpm (P:=P) (w:=w) Z.toList e #[];simp only[bind_pure_comp]at this ⊢;rw[this];congr 1
   grind
  simp only[execOp,l,Instr.build,Sem.run_bind,fu x,Result.andThen_ok,d9 m,g,yu];simp_all
def qzb{len:Nat}(u:o.op=.buildSlice h len T)(y:P.underlying h=some (.slice D))(A:fL P D=some O){s:Nat}(B:jO P D=some s)(g:O.length=s)(e:len*s<=65536)(E:jq d n (λi=>some (i*s,s)) T.toList=some X)(t:LR ι d n L a.tmps):jI P o a.eval ι w nm (sQ len nm (bK (aU O len) (X.f L))):=by
 obtain⟨f,J,p,K⟩:=ld (ι:=ι) A;have H:f.cells.toList.length=s:=by rw[p.length,g]
 cases Q:bK (aU O len) (X.f L)with
 |none=>trivial
 |some c=>
  obtain⟨M,l,N,z⟩:=E5 (C:=(iI f.cells.toList len).toArray) (FA t _ _ _ E) (by simpa using oi p len) (λv F=>K v (xK (by simpa using F))) Q;refine⟨.slice (some ⟨w.heap.size,0,none⟩) len len,w.alloc (.cells M.toList.toArray D),⟨w.heap.size,0,0,0⟩,?_,New.alloc w _ 0 0,λG j m=>⟨?_,Bf N z D nm 0 G j m⟩⟩
  ·have b:¬(len*s>2 ^ 24):=by omega
   simp only[execOp,u,Instr.buildSlice,Sem.run_bind,d9 y,Result.andThen_ok,rE B,sy b,Sem.run_pure,yu,Sem.run_ite];by_cases q:len*s=0
   ·have k:(iI f.cells.toList len)=[]:=lE5.1 (by grind [nI]);rw[k]at l;have I:Array.map (λx=>(#[]:Array Value)[x%(#[]:Array Value).size]!) (Array.range 0)= #[]:=by grind
    simp only[q,ai];rw[I,l];rfl
   ·simp only[q,pz,fu J,Result.andThen_ok];rw[bN f.cells len s (by grind),l];rfl
  ·simp only[aQ];exact⟨AF _,_,m,by simp⟩
def z0t{f:Nat}(i:o.op=.field h I f)(j:P.underlying h=some (.struct Z)){b:Field}(k:Z[f]? =some b)(t:LR ι d n L a.tmps):jI P o a.eval ι w nm (Ph (im P b.type) b.offset ((aM d n I).f L)):=by
 have g:=gH t I;unfold Ph;split
 ·rename_i l e;rw[e]at g;obtain⟨vs,m,p,q⟩:=dr g;split
  ·rename_i v s;obtain⟨V,r,u⟩:=y5 m q s;exact⟨V,by simp[execOp,i,Instr.field,d9 j,k,p,asAgg,r],u⟩
  ·trivial
 ·trivial
def z9x(g:o.op=.index h I J){len:Nat}(j:P.underlying h=some (.array len D)){z:Nat}(m:jO P D=some z)(t:LR ι d n L a.tmps):jI P o a.eval ι w nm (Jb (im P D) len z ((aM d n I).f L) ((aM d n J).f L)):=by
 have f:=gH t I;have b:=gH t J;unfold Jb;split
 ·rename_i l k i q s;rw[q]at f;rw[s]at b;simp only[aQ]at b;obtain⟨vs,u,A,B⟩:=dr f;cases E:Nat.blt i len with
  |false=>trivial
  |true=>
   have c:=yS E;split
   ·rename_i v C;obtain⟨V,r,e⟩:=y5 u B C;refine⟨V,?_,e⟩;have p:∀w,(part D vs.toArray (i*z)).run P w=.ok V w:=r;simp[execOp,g,Instr.index,d9 j,A,b,asIntOf,rE m,c,p]
   ·trivial
 ·trivial
theorem TY(d:o.op=.call {callee:=.builtin .len,args:= #[I],argTypes:= #[h]})(c:(∃e,P.underlying h=some (.array n e))\/∃b e,P.underlying h=some (.pointer b)/\P.underlying b=some (.array n e)):jI P o a.eval ι w nm (.val (i64 n)):=by
 refine⟨_,?_,cM _ _⟩;rcases c with⟨e,c⟩|⟨b,e,c,f⟩
 ·simp[execOp,d,resolve,invoke,builtin,Builtin.len_,d9 c,goInt]
 ·simp[execOp,d,resolve,invoke,builtin,Builtin.len_,d9 c,d9 f,goInt]
theorem zbz(c:o.op=.call {callee:=.builtin .cap,args:= #[I],argTypes:= #[h]})(b:∃e,P.underlying h=some (.array d e)):jI P o a.eval ι w nm (.val (i64 d)):=by refine⟨_,?_,cM _ _⟩;obtain⟨e,b⟩:=b;simp[execOp,c,resolve,invoke,builtin,Builtin.cap_,d9 b,goInt]
theorem zue(c:o.op=.call {callee:=.builtin .len,args:= #[I],argTypes:= #[h]})(f:P.underlying h=some .string)(t:LR ι d n L a.tmps):jI P o a.eval ι w nm (qY ((aM d n I).f L)):=by
 have b:=gH t I;unfold qY;split
 ·rename_i e;rw[e]at b;simp only[aQ]at b;obtain⟨s,g,i,_⟩:=b;refine⟨_,?_,cM _ _⟩;have:s.size=_:=i;simp[execOp,c,resolve,invoke,builtin,Builtin.len_,d9 f,goInt,g,this]
 ·trivial
theorem z0s(c:o.op=.call {callee:=.builtin .len,args:= #[I],argTypes:= #[h]})(f:P.underlying h=some (.slice D))(t:LR ι d n L a.tmps):jI P o a.eval ι w nm (aD ((aM d n I).f L)):=by
 have b:=gH t I;unfold aD;split
 ·rename_i D;rw[D]at b;simp only[aQ]at b;obtain⟨_,l,_,g⟩:=b;exact⟨_,by simp[execOp,c,resolve,invoke,builtin,Builtin.len_,d9 f,goInt,g],cM _ _⟩
 ·rename_i D;rw[D]at b;simp only[aQ]at b;exact⟨_,by simp[execOp,c,resolve,invoke,builtin,Builtin.len_,d9 f,goInt,b],cM _ _⟩
 ·rename_i D;rw[D]at b;simp only[aQ]at b;obtain⟨_,_,g⟩:=b;exact⟨_,by simp[execOp,c,resolve,invoke,builtin,Builtin.len_,d9 f,goInt,g],cM _ _⟩
 ·trivial
theorem dW.length:∀{es:List eT} {a:List MapEntry},dW ι es a->a.length=es.length
 | [],a,h=>by grind [dW]
 |x::es,a,h=>by obtain⟨e,r,rfl,_,_,_,b⟩:=h;simp[dW.length b]
variable{E:TypeId}
theorem z9w(f:o.op=.call {callee:=.builtin .len,args:= #[I],argTypes:= #[h]})(g:P.underlying h=some (.map D E))(i:HR ι H w)(t:LR ι d n L a.tmps):jI P o a.eval ι w nm (sd H ((aM d n I).f L)):=by
 have b:=gH t I;unfold sd;split
 ·rename_i E;rw[E]at b;simp only[aQ]at b;exact⟨_,by simp[execOp,f,resolve,invoke,builtin,Builtin.len_,d9 g,goInt,b],cM _ _⟩
 ·rename_i m E;rw[E]at b;simp only[aQ]at b;obtain⟨l,p,s⟩:=b;have j:=i.blk m (i.lt p);split
  ·rename_i es c u;rw[u]at j;obtain⟨z,A,q,v,y⟩:=j;rw[p]at q;cases q;have r:=y.length;refine⟨_,?_,cM _ _⟩;simp[execOp,f,resolve,invoke,builtin,Builtin.len_,d9 g,goInt,s,getObj,Sem.run,v,r]
  ·trivial
 ·trivial
theorem z0w(c:o.op=.call {callee:=.builtin .cap,args:= #[I],argTypes:= #[h]})(f:P.underlying h=some (.slice D))(t:LR ι d n L a.tmps):jI P o a.eval ι w nm (dX ((aM d n I).f L)):=by
 have b:=gH t I;unfold dX;split
 ·rename_i D;rw[D]at b;simp only[aQ]at b;obtain⟨_,l,_,g⟩:=b;exact⟨_,by simp[execOp,c,resolve,invoke,builtin,Builtin.cap_,d9 f,goInt,g],cM _ _⟩
 ·rename_i D;rw[D]at b;simp only[aQ]at b;exact⟨_,by simp[execOp,c,resolve,invoke,builtin,Builtin.cap_,d9 f,goInt,b],cM _ _⟩
 ·trivial
theorem Yl:∀(l:List AV) (b:List Value) (x:AV) (X:Value) (v:AV),aK ι l b->aQ ι x X->rT pQ x l=.val v->∃V,(b.foldlM Builtin.min2 X).run P w=.ok V w/\aQ ι v V
 | [],b,x,X,v,hl,hx,h=>by simp only[aK]at hl;subst hl;have h:R0.val x=.val v:=h;cases h;exact⟨X,by simp,hx⟩
 |y::l,b,x,X,v,hl,hx,h=>by
  obtain⟨Y,r,rfl,c,e⟩:=hl;have h:(match pQ x y with| .val z=>rT pQ z l|_=>.bad)=.val v:=h;split at h
  ·rename_i z a;have d:∃Z,(Builtin.min2 X Y).run P w=.ok Z w/\aQ ι z Z:=by
    unfold pQ at a;split at a
    ·simp only[R0.val.injEq]at a;subst a;simp only[aQ]at hx c;subst hx c;refine⟨_,rfl,?_⟩
     grind [aQ,eH]
    ·cases a
   obtain⟨Z,f,g⟩:=d;obtain⟨V,i,j⟩:=Yl l r z Z v e g h;exact⟨V,by rw[List.foldlM_cons,Sem.run_bind,f];exact i,j⟩
  ·cases h
theorem Ym:∀(l:List AV) (b:List Value) (x:AV) (X:Value) (v:AV),aK ι l b->aQ ι x X->rT qV x l=.val v->∃V,(b.foldlM Builtin.max2 X).run P w=.ok V w/\aQ ι v V
 | [],b,x,X,v,hl,hx,h=>by simp only[aK]at hl;subst hl;have h:R0.val x=.val v:=h;simp_all
 |y::l,b,x,X,v,hl,hx,h=>by
  obtain⟨Y,r,rfl,c,e⟩:=hl;have h:(match qV x y with| .val z=>rT qV z l|_=>.bad)=.val v:=h;split at h
  ·rename_i z a;have d:∃Z,(Builtin.max2 X Y).run P w=.ok Z w/\aQ ι z Z:=by
    unfold qV at a;split at a
    ·simp only[R0.val.injEq]at a;subst a;simp only[aQ]at hx c;subst hx c;refine⟨_,rfl,?_⟩
     grind [aQ,eH]
    ·cases a
   obtain⟨Z,f,g⟩:=d;obtain⟨V,i,j⟩:=Ym l r z Z v e g h;exact⟨V,by rw[List.foldlM_cons,Sem.run_bind,f];exact i,j⟩
  ·cases h
theorem L6(g:AV->AV->R0):∀(l:List AV) (x:AV),rT g x l=.bad\/∃v,rT g x l=.val v
 | [],x=>.inr ⟨x,rfl⟩
 |y::l,x=>by
  show(match g x y with| .val z=>rT g z l|_=>.bad)=.bad\/∃v,(match g x y with| .val z=>rT g z l|_=>.bad)=.val v;split
  ·exact L6 g l _
  ·simp
variable{M:List Operand}{ts:Array TypeId}
theorem aOe(b:o.op=.call {callee:=.builtin .min,args:=(I::M).toArray,argTypes:=ts})(h:LR ι d n L a.tmps):jI P o a.eval ι w nm (rT pQ ((aM d n I).f L) ((wC d n M).f L)):=by
 rcases L6 pQ ((wC d n M).f L) ((aM d n I).f L)with hf|⟨v,hf⟩
 ·rw[hf];trivial
 ·obtain⟨V,c,e⟩:=Yl (P:=P) (w:=w) _ _ _ _ v (kz h M) (gH h I) hf;rw[hf];refine⟨V,?_,e⟩;simp[execOp,b,resolve,invoke,builtin,Builtin.min_,c]
theorem aPr(b:o.op=.call {callee:=.builtin .max,args:=(I::M).toArray,argTypes:=ts})(h:LR ι d n L a.tmps):jI P o a.eval ι w nm (rT qV ((aM d n I).f L) ((wC d n M).f L)):=by
 rcases L6 qV ((wC d n M).f L) ((aM d n I).f L)with hf|⟨v,hf⟩
 ·rw[hf];trivial
 ·obtain⟨V,c,e⟩:=Ym (P:=P) (w:=w) _ _ _ _ v (kz h M) (gH h I) hf;rw[hf];refine⟨V,?_,e⟩;simp[execOp,b,resolve,invoke,builtin,Builtin.max_,c]
def Tm(em:Bool):∀(D:Nat) (t:TypeId),mw P D t=true->∀(D':Nat),D<=D'->∀(K:Value),(vK P t=some true->∃vs:List Value,K=.agg vs.toArray/\jO P t=some vs.length)->∀w,(Instr.checkKey em D' t K).run P w=.ok () w:=by
 intro D
 induction D with
 |zero=>intro t h;simp[mw]at h
 |succ D ih=>
  intro t h D' hD K hK w;obtain⟨E,rfl⟩:∃E,D'=E+1:=⟨D'-1,by omega⟩;have pk:∀(u:TypeId) (m:Nat),jO P u=some m->0<m->mw P D u=true->∀(vs:List Value) (off:Nat),off+m<=vs.length->∀w,((do let p<-part u vs.toArray off;Instr.checkKey em E u p):Sem Unit).run P w=.ok () w:=by
   intro u m hu h0 hk vs off hle w;rw[Sem.run_bind];cases ha:vK P u with
   |none=>
    unfold vK at ha;cases hun:P.underlying u with
    |none=>cases D<;>simp[mw,hun]at hk
    |some _=>rw[hun]at ha;cases ha
   |some b=>
    cases b with
    |true=>
     have:(part u vs.toArray off).run P w=.ok (.agg ((vs.drop off).take m).toArray) w:=by simp[part,oX ha,rE hu]
     grind [Result.andThen_ok]
    |false=>
     have hlt:off<vs.length:=by omega
     have:(part u vs.toArray off).run P w=.ok vs[off] w:=by simp[part,oX ha,hlt]
     grind [Result.andThen_ok]
  rw[mw]at h;split at h
  ·rename_i ht _;unfold Instr.checkKey;simp[d9 ht]
  ·rename_i ht _;unfold Instr.checkKey;simp[d9 ht]
  ·rename_i ht _;unfold Instr.checkKey;simp[d9 ht]
  ·rename_i fs N ht hN;obtain⟨vs,rfl,hvs⟩:=hK (by simp[vK,ht]);have hN':N=vs.length:=by grind
   unfold Instr.checkKey;simp only[Sem.run_bind,d9 ht,Result.andThen_ok];have hall:=lEN.1 h;have loop:∀(l:List Field),(∀f∈l,f∈fs.toList)->∀w,(forIn l () λf _=>(do
     if f.name ≠ "_" then(do let p<-part f.type vs.toArray f.offset;Instr.checkKey em E f.type p;pure (ForInStep.yield ()))else pure (ForInStep.yield ()):Sem (ForInStep Unit))).run P w= .ok () w:=by
    intro l
    induction l with
    |nil=>intro _ w;simp
    |cons f l ihl=>
     intro hl w;have hf:=hall f (hl f (by simp));rw[List.forIn_cons];split at hf
     ·rename_i m hm;simp only[sA]at hf;obtain⟨⟨f1,f2⟩,f3⟩:=hf;have r:=pk f.type m hm (yS f3) f2 vs f.offset (by have:=pX f1;omega)
      by_cases hn:f.name = "_"
      ·grind
      ·simp only[ne_eq,hn,not_false_eq_true,ai,bind_assoc,pure_bind];rw[<-bind_assoc,Sem.run_bind,r w,Result.andThen_ok]
       grind
     ·cases hf
   have:=loop fs.toList (λf hf=>hf) w;simp at this ⊢
   erw [this]
   rfl
  ·rename_i len e N ht hN;obtain⟨vs,rfl,hvs⟩:=hK (by simp[vK,ht]);have hN':N=vs.length:=by grind
   split at h
   ·rename_i m hm;simp only[sA]at h;obtain⟨⟨f1,f2⟩,f3⟩:=h;have f1:=pX f1;unfold Instr.checkKey;simp only[Sem.run_bind,d9 ht,Result.andThen_ok,Std.Legacy.Range.forIn_eq_forIn_range',Std.Legacy.Range.size,um,xF,Nat.div_one];have loop:∀(k i:Nat),i+k<=len->∀w,(forIn (List.range' i k) () λi _=>(do
      let s<-sizeOf e;let p<-part e vs.toArray (i*s);Instr.checkKey em E e p;pure (ForInStep.yield ()):Sem (ForInStep Unit))).run P w=.ok () w:=by
     intro k
     induction k with
     |zero=>intro i _ w;simp
     |succ k ihk=>
      intro i hi w;have hle:i*m+m<=vs.length:=by
       have h1:(i+1)*m<=len*m:=vL m (by omega)
       grind
      have r:=pk e m hm (yS f3) f2 vs (i*m) hle;rw[List.range'_succ,List.forIn_cons];simp only[bind_assoc,pure_bind];rw[Sem.run_bind,rE hm,Result.andThen_ok,<-bind_assoc,Sem.run_bind,r w,Result.andThen_ok]
      grind
    have:=loop len 0 (by omega) w;simp at this ⊢
    erw [this]
    rfl
   ·cases h
  ·cases h
theorem dW.get:∀{es:List eT} {a:List MapEntry},dW ι es a->∀(i:Nat) (x:eT),es[i]? =some x->∃e,a[i]? =some e/\aQ ι x.key e.key/\aQ ι x.val e.val/\e.born=x.born
 | [],a,h,i,x,hi=>by simp at hi
 |y::es,a,h,i,x,hi=>by
  obtain⟨e,r,rfl,b,c,d,f⟩:=h;cases i with
  |zero=>simp at hi;subst hi;exact⟨e,rfl,b,c,d⟩
  |succ i=>simp at hi;obtain⟨g,j,k⟩:=dW.get f i x hi;exact⟨g,by simpa using j,k⟩
def xg(ι:Im)(es:List eT)(ES:List MapEntry):Option cR->Option (Nat×Value)->Prop
 |none,R=>R=none
 |some h,R=>∃V E,R=some (h.i,V)/\es[h.i]? =some h.x/\ES[h.i]? =some E/\aQ ι h.x.key E.key/\aQ ι h.x.val V/\E.val=V/\E.born=h.x.born
variable{N:AV->AV->Option Bool}
theorem EZ:∀(es:List eT) (i:Nat) (r:Option cR),vU N W es i=some r->∀h,r=some h->i<=h.i/\es[h.i-i]? =some h.x
 | [],i,r,a,h,hh=>by have a:(some none:Option (Option cR))=some r:=a;simp_all
 |x::es,i,r,a,h,hh=>by
  have a:(match N W x.key with|some true=>some (some ⟨i,x⟩)|some false=>vU N W es (i+1)|none=>none)=some r:=a;split at a
  ·grind
  ·obtain⟨b,c⟩:=EZ es (i+1) r a h hh
   grind
  ·cases a
theorem T7{j:TypeDesc}(f:∀x X b,N W x=some b->aQ ι x X->Instr.sameNow j V X=some b):∀(es:List eT) (c:List MapEntry) (i:Nat) (r:Option cR),dW ι es c->vU N W es i=some r -> ∃R,Instr.findNow j V c i=some R/\(r=none->R=none)/\∀h,r=some h->∃E,c[h.i-i]? =some E/\R=some (h.i,E.val)
 | [],c,i,r,hE,a=>by have a:(some none:Option (Option cR))=some r:=a;cases a;simp only[dW]at hE;subst hE;exact⟨none,rfl,λ_=>rfl,λh d=>by cases d⟩
 |x::es,c,i,r,hE,a=>by
  obtain⟨E,m,rfl,l,s,t,n⟩:=hE;have a:(match N W x.key with|some true=>some (some ⟨i,x⟩)|some false=>vU N W es (i+1)|none=>none)=some r:=a;split at a
  ·rename_i g;simp only[AH]at a;subst a;refine⟨some (i,E.val),by simp[Instr.findNow,f _ _ _ g l],(λh=>by cases h),λh d=>?_⟩
   grind
  ·rename_i g;obtain⟨R,o,p,q⟩:=T7 f es m (i+1) r n a;refine⟨R,by simp[Instr.findNow,f _ _ _ g l,o],p,λh d=>?_⟩;obtain⟨u,v,w⟩:=q h d;obtain⟨g1,_⟩:=EZ es (i+1) r a h d
   grind
  ·cases a
theorem T8(f:∀x X b,N W x=some b->aQ ι x X->∀w,(Op.equal h V X).run P w=.ok b w):∀(es:List eT) (c:List MapEntry) (i:Nat) (r:Option cR),dW ι es c->vU N W es i=some r -> ∃R,(∀w,(Instr.findAsking h V c i).run P w=.ok R w)/\(r=none->R=none)/\∀j,r=some j->∃E,c[j.i-i]? =some E/\R=some (j.i,E.val)
 | [],c,i,r,hE,a=>by have a:(some none:Option (Option cR))=some r:=a;cases a;simp only[dW]at hE;subst hE;exact⟨none,λ_=>rfl,λ_=>rfl,λj d=>by cases d⟩
 |x::es,c,i,r,hE,a=>by
  obtain⟨E,m,rfl,l,s,t,n⟩:=hE;have a:(match N W x.key with|some true=>some (some ⟨i,x⟩)|some false=>vU N W es (i+1)|none=>none)=some r:=a;split at a
  ·rename_i g;simp only[AH]at a;subst a;refine⟨some (i,E.val),λw=>by simp[Instr.findAsking,f _ _ _ g l],(λj=>by cases j),λj d=>?_⟩
   grind
  ·rename_i g;obtain⟨R,o,p,q⟩:=T8 f es m (i+1) r n a;refine⟨R,λw=>by simp[Instr.findAsking,f _ _ _ g l,o],p,λj d=>?_⟩;obtain⟨u,v,y⟩:=q j d;obtain⟨g1,_⟩:=EZ es (i+1) r a j d
   grind
  ·cases a
def Bt{v:Ky}(c:zN P h=some v)(o:aQ ι W V){es:List eT}{g:List MapEntry}(G:dW ι es g){r:Option cR}(f:fN v W es=some r):(∀t w,(Instr.checkKey t 10000 h V).run P w=.ok () w)/\∃R,(∀w,(Instr.findKey h V g).run P w=.ok R w)/\xg ι es g r R:=by
 unfold fN at f;cases F:gr v.s W with
 |false=>rw[F]at f;cases f
 |true=>
  rw[F]at f;simp only[AN]at f;have Q:=zy1 (P:=P) (ι:=ι) fy h;have fin:∀R:Option (Nat×Value),(r=none->R=none)->(∀f,r=some f->∃E,g[f.i-0]? =some E/\R=some (f.i,E.val))->xg ι es g r R:=by
   intro R J Y;cases r with
   |none=>exact J rfl
   |some hh=>obtain⟨E,z,Z⟩:=Y hh rfl;rw[um]at z;obtain⟨_,g2⟩:=EZ es 0 _ f hh rfl;rw[um]at g2;obtain⟨E',S,a2,a3,a4⟩:=G.get _ _ g2;rw[z]at S;cases S;exact⟨E.val,E,Z,g2,z,a2,a3,rfl,a4⟩
  unfold zN at c;have H:∀(e:AV->AV->Option Bool),cJ P fy h=⟨e⟩->v.e=e->∀x X b,v.e W x=some b->aQ ι x X->∀w,(Op.equal h V X).run P w=.ok b w:=by intro e d L x X b a i w;rw[L]at a;rw[d]at Q;exact Q W x V X b a o i Op.maxDepth (by decide) w
  split at c
  ·rename_i e N B d A T;simp only[AH]at c;subst c;obtain⟨l,rfl⟩:∃l,W=.agg l:=by cases W<;>first|exact⟨_,rfl⟩|(simp[gr]at F;done)
   obtain⟨vs,v1,v2,v3⟩:=dr o;have k:l.length=N:=zK F;refine⟨λt w=>Tm t fy h B 10000 (by decide) V (λ_=>⟨vs,v2,by rw[T,v1.length,k]⟩) w,?_⟩;obtain⟨R,U,C,D⟩:=T8 (H e d rfl) es g 0 r G f;refine⟨R,λw=>?_,fin R C D⟩;have y:∃j,P.underlying h=some j:=by
    unfold vK at A;cases M:P.underlying h with
    |none=>rw[M]at A;cases A
    |some j=>exact⟨j,rfl⟩
   obtain⟨j,y⟩:=y;unfold Instr.findKey;rw[Sem.run_bind,d9 y,Result.andThen_ok];cases g with
   |nil=>
    have:R=none:=by
     cases r with
     |none=>exact C rfl
     |some hh=>obtain⟨E,z,_⟩:=D hh rfl;simp at z
    subst this;rfl
   |cons E rest=>
    have:Instr.findNow j V (E::rest) 0=none:=by grind [vK,Instr.findNow,Instr.sameNow]
    simp_all
  ·rename_i e N B d A T;simp only[AH]at c;subst c;have I:∀t w,(Instr.checkKey t 10000 h V).run P w=.ok () w:=λt w=>Tm t fy h B 10000 (by decide) V (λO=>by rw[A]at O;cases O) w;refine⟨I,?_⟩;have u:∀j,P.underlying h=some j->(∀x X b,e W x=some b->aQ ι x X->Instr.sameNow j V X=some b)->∃R,(∀w,(Instr.findKey h V g).run P w=.ok R w)/\xg ι es g r R:=by
    intro j y hs;obtain⟨R,U,C,D⟩:=T7 hs es g 0 r G f;refine⟨R,λw=>?_,fin R C D⟩;unfold Instr.findKey;rw[Sem.run_bind,d9 y,Result.andThen_ok,U];rfl
   have n:=B;unfold fy at n d;rw[show(20:Nat)=19+1 from rfl,mw]at n;rw[show(20:Nat)=19+1 from rfl,cJ]at d;split at n
   ·rename_i q _;rw[q]at d;simp only[E2.mk.injEq]at d;subst d;refine u _ q λx X b a i=>?_;unfold pI at a;split at a
    ·rename_i kk m k' p;simp only[aQ]at o i;subst o i;cases K:cH kk k' with
     |false=>rw[K]at a;cases a
     |true=>
      rw[K]at a;simp only[AN,AH]at a;subst a
      grind [IP,Instr.sameNow,eI]
    ·cases a
   ·rename_i q _;rw[q]at d;simp only[E2.mk.injEq]at d;subst d;refine u _ q λx X b a i=>?_;unfold bH at a;split at a
    ·simp only[aQ]at o i;obtain⟨s,rfl,J⟩:=o
     grind [AH,Instr.sameNow,beq_toListBytes,Fe,J.eq]
    ·cases a
   ·rename_i q _;rw[q]at d;simp only[E2.mk.injEq]at d;subst d;refine u _ q λx X b a i=>?_;unfold zT at a;split at a
    ·simp only[aQ]at o i;subst o i;trivial
    ·cases a
   ·grind [vK]
   ·grind [vK]
   ·cases n
  ·cases c
variable{R:Bool}
def zua(F:o.op=.lookup h I J R)(G:P.underlying h=some (.map D E)){q:Ky}(u:zN P D=some q)(Q:(P.info? E).bind (·.zero)=some V)(x:HR ι H w)(t:LR ι d n L a.tmps):jI P o a.eval ι w nm (mX q (mq V) R H ((aM d n I).f L) ((aM d n J).f L)):=by
 have j:=gH t I;have S:=gH t J;have k:∀(es:List eT) (i:List MapEntry),dW ι es i->(∀f:Array MapEntry->Sem Value,(execOp a.eval o).run P w=((do
    Instr.checkKey i.toArray.isEmpty 10000 D (a.eval J)
    let (v,b)<-match<-Instr.findKey D (a.eval J) i with
     |some (_,v)=>pure (v,true)
     |none=>pure (<-zeroValue E,false)
    pure (if R then .tuple #[v,.bool b]else v):Sem Value).run P w).andThen λv w=>.ok (.value v) w) ->
   jI P o a.eval ι w nm (pW R (mq V) (fN q ((aM d n J).f L) es)):=by
  intro es i T c;have c:=c λ_=>pure .nilFunc;cases hf:fN q ((aM d n J).f L) es with
  |none=>trivial
  |some r=>
   obtain⟨K,e,M,A⟩:=Bt u S T hf;cases r with
   |none=>
    simp only[xg]at A;subst A;refine⟨if R then .tuple #[V,.bool false]else V,?_,?_⟩
    ·rw[c];simp[K,M,fu Q]
    ·cases R
     ·exact Bm V
     ·simp only[AN,ai,aQ,aK]
      grind [Bm]
   |some hit=>
    obtain⟨z,s,rfl,a1,a2,a3,U,a5,a6⟩:=A;refine⟨if R then .tuple #[z,.bool true]else z,?_,?_⟩
    ·rw[c];simp[K,M]
    ·cases R
     ·exact U
     ·simp only[AN,ai,aQ,aK]
      grind
 unfold mX zy2;split
 ·rename_i es g;split at g
  ·rename_i B;simp only[AH]at g;subst g;rw[B]at j;simp only[aQ]at j;refine k [] [] (by simp[dW]) λ_=>?_;simp[execOp,F,Instr.lookup,d9 G,j];rfl
  ·rename_i m B;rw[B]at j;simp only[aQ]at j;obtain⟨l,N,W⟩:=j;have y:=x.blk m (x.lt N);split at g
   ·rename_i C p X;simp only[AH]at g;subst g;rw[X]at y;obtain⟨l',i,O,Y,Z⟩:=y;rw[N]at O;cases O;refine k C i Z λ_=>?_;simp[execOp,F,Instr.lookup,d9 G,W,getObj,Sem.run,Y];rfl
   ·cases g
  ·cases g
 ·trivial
def Qi{s:BinOp}(B:o.op=.binOp s h I J D)(neg:Bool)(c:s=if neg then .neq else .eql)(k:cJ P fy h=⟨N⟩)(u:∀r,P.underlying h=some r->match r with| .bool| .pointer _| .slice _| .map .. | .func .. | .interface _=>True| .struct _| .array .. =>P.eqGuardType P.depth h=false|_=>False)(v:∃r,P.underlying h=some r)(t:LR ι d n L a.tmps):
  jI P o a.eval ι w nm (iQ neg (N ((aM d n I).f L) ((aM d n J).f L))):=by
 have f:=gH t I;have i:=gH t J;unfold iQ;split
 ·rename_i b j;have A:=zy1 (P:=P) (ι:=ι) fy h;rw[k]at A;have m:=A _ _ _ _ _ j f i Op.maxDepth (by decide) w;refine⟨.bool (if neg then !b else b),?_,by simp only[aQ];cases neg<;>rfl⟩;obtain⟨r,v⟩:=v;have u:=u r v;generalize E:a.eval I=X at *;generalize F:a.eval J=Y at *;have z:(∃g,(eqGuard s h I J X Y).run P w=.ok g w)/\(binOp s h X Y).run P w=.ok (.bool (if neg then !b else b)) w:=by
   unfold fy at k;rw[show(20:Nat)=19+1 from rfl,cJ,v]at k;cases r<;>first|(exact u.elim)|skip
   case bool=>
    simp only[E2.mk.injEq]at k;subst k;unfold zT at j;split at j
    ·rename_i p q;rw[p]at f;rw[q]at i;simp only[aQ]at f i;subst f i;cases neg<;>subst c<;>simp[eqGuard,binOp,Op.equal,m]
    ·cases j
   case pointer=>
    simp only[E2.mk.injEq]at k;subst k;unfold eN at j;split at j<;>first|(cases j;done)|skip
    all_goals (rename_i p q;rw[p]at f;rw[q]at i;simp only[aQ]at f i)
    ·subst f i;cases neg<;>subst c<;>simp[eqGuard,binOp,Op.equal,m]
    ·obtain⟨l,_,rfl⟩:=i;subst f;cases neg<;>subst c<;>simp[eqGuard,binOp,Op.equal,m]
    ·obtain⟨l,_,rfl⟩:=f;subst i;cases neg<;>subst c<;>simp[eqGuard,binOp,Op.equal,m]
   case slice=>
    simp only[E2.mk.injEq]at k;subst k;unfold rX at j;split at j<;>first|(cases j;done)|skip
    all_goals (rename_i p q;rw[p]at f;rw[q]at i;simp only[aQ]at f i)
    ·subst f i;cases neg<;>subst c<;>simp[eqGuard,binOp,Op.equal,m]
    ·obtain⟨_,l,_,rfl⟩:=i;subst f;cases neg<;>subst c<;>simp[eqGuard,binOp,Op.equal,m]
    ·obtain⟨_,l,rfl⟩:=i;subst f;cases neg<;>subst c<;>simp[eqGuard,binOp,Op.equal,m]
    ·obtain⟨_,l,_,rfl⟩:=f;subst i;cases neg<;>subst c<;>simp[eqGuard,binOp,Op.equal,m]
    ·obtain⟨_,l,rfl⟩:=f;subst i;cases neg<;>subst c<;>simp[eqGuard,binOp,Op.equal,m]
   case map=>
    simp only[E2.mk.injEq]at k;subst k;unfold IM at j;split at j<;>first|(cases j;done)|skip
    all_goals (rename_i p q;rw[p]at f;rw[q]at i;simp only[aQ]at f i)
    ·subst f i;cases neg<;>subst c<;>simp[eqGuard,binOp,Op.equal,m]
    ·obtain⟨l,_,rfl⟩:=i;subst f;cases neg<;>subst c<;>simp[eqGuard,binOp,Op.equal,m]
    ·obtain⟨l,_,rfl⟩:=f;subst i;cases neg<;>subst c<;>simp[eqGuard,binOp,Op.equal,m]
   case func=>
    simp only[E2.mk.injEq]at k;subst k;unfold jH at j;split at j<;>first|(cases j;done)|skip
    all_goals (rename_i p q;rw[p]at f;rw[q]at i;simp only[aQ]at f i)
    ·subst f i;cases neg<;>subst c<;>simp[eqGuard,binOp,Op.equal,m]
    ·obtain⟨_,_,_,_,rfl⟩:=i;subst f;cases neg<;>subst c<;>simp[eqGuard,binOp,Op.equal,m]
    ·obtain⟨_,_,_,_,rfl⟩:=f;subst i;cases neg<;>subst c<;>simp[eqGuard,binOp,Op.equal,m]
   case interface=>
    simp only[E2.mk.injEq]at k;subst k;unfold zo at j;split at j<;>first|(cases j;done)|skip
    all_goals (rename_i p q;rw[p]at f;rw[q]at i;simp only[aQ]at f i)
    ·obtain⟨_,_,rfl⟩:=i;subst f;cases neg<;>subst c<;>simp[eqGuard,binOp,Op.equal,m]
    ·obtain⟨_,_,rfl⟩:=f;subst i;cases neg<;>subst c<;>simp[eqGuard,binOp,Op.equal,m]
   case array len N=>
    simp only at k;split at k
    ·simp only[E2.mk.injEq]at k;subst k;unfold dL at j;split at j
     ·rename_i p q;rw[p]at f;rw[q]at i;obtain⟨_,_,rfl,_⟩:=dr f;obtain⟨_,_,rfl,_⟩:=dr i;refine⟨⟨(),run_eqGuard_agg w s h I J _ _ u⟩,?_⟩;cases neg<;>subst c
      ·rw[sy (by simp),run_eql_struct,show(10000:Nat)=Op.maxDepth from rfl,m];rfl
      ·rw[sB rfl,run_neq_struct,show(10000:Nat)=Op.maxDepth from rfl,m];rfl
     ·cases j
    ·grind
   case struct fs=>
    simp only at k;split at k
    ·grind
    ·simp only[E2.mk.injEq]at k;subst k;unfold dL at j;split at j
     ·rename_i p q;rw[p]at f;rw[q]at i;obtain⟨_,_,rfl,_⟩:=dr f;obtain⟨_,_,rfl,_⟩:=dr i;refine⟨⟨(),run_eqGuard_agg w s h I J _ _ u⟩,?_⟩;cases neg<;>subst c
      ·rw[sy (by simp),run_eql_struct,show(10000:Nat)=Op.maxDepth from rfl,m];rfl
      ·rw[sB rfl,run_neq_struct,show(10000:Nat)=Op.maxDepth from rfl,m];rfl
     ·cases j
  obtain⟨⟨g,C⟩,ty⟩:=z;simp[execOp,B,E,F,C,ty]
 ·trivial
theorem QP(a:Nat):∀(n i:Nat),Nat.rec (motive:=λ_=>Nat->List AV) (λ_=>[]) (λ_ ih i=>.int .u8 (.ofNat (gA a i))::ih (Nat.succ i)) n i=(List.range' i n).map λj=>.int .u8 (.ofNat (gA a j))
 |0,i=>rfl
 |n+1,i=>by rw[List.range'_succ,og,<-QP a n (i+1)]
def zcv{s:ByteArray}(h:qee nm n s):aK ι (Pk n nm) (s.data.toList.map λb=>Value.int .u8 (b.toNat:Int)):=by
 obtain⟨rfl,rfl⟩:=h;unfold Pk;rw[QP,<-List.range_eq_range'];refine aK.aBw (by simp) λi v c=>?_;have d:i<s.data.toList.length:=by grind
 rw[AS,List.getElem?_range d]at c;simp only[ug,AH]at c;subst c;refine⟨_,by rw[AS,j0 d];rfl,?_⟩;rw[QQ _ _ d];rfl
def z2f{i:BinOp}(j:o.op=.binOp i h I J D)(t:LR ι d n L a.tmps):jI P o a.eval ι w nm ((I4 P i h).f ((aM d n I).f L) ((aM d n J).f L)):=by
 have l:∀c,P.underlying h=some c->(match c with| .bool| .pointer _| .slice _| .map .. | .func .. | .interface _=>True| .struct _| .array .. =>P.eqGuardType P.depth h=false|_=>False) ->
   jI P o a.eval ι w nm ((match i,cJ P fy h with
    | .eql,⟨e⟩=>(⟨λI J=>iQ false (e I J)⟩:V2)
    | .neq,⟨e⟩=>⟨λI J=>iQ true (e I J)⟩
    |_,_=>⟨λ_ _=>.bad⟩).f ((aM d n I).f L) ((aM d n J).f L)):=by
  intro c g p;have f:∀b,P.underlying h=some b->match b with| .bool| .pointer _| .slice _| .map .. | .func .. | .interface _=>True| .struct _| .array .. =>P.eqGuardType P.depth h=false|_=>False:=λb m=>by grind
  split
  ·rename_i e k;exact Qi j false rfl k f ⟨c,g⟩ t
  ·rename_i e k;exact Qi j true rfl k f ⟨c,g⟩ t
  ·trivial
 unfold I4;split
 ·split
  ·grind [zk1]
  ·grind [zk1]
  ·grind [aMu]
 ·exact zt8 j t
 ·grind
 ·grind
 ·grind
 ·grind
 ·grind
 ·grind
 ·rename_i g;split
  ·trivial
  ·grind
 ·rename_i g;split
  ·trivial
  ·grind
 ·trivial
variable{F:Nat->TT AV d->Hp->R0}{U:List TypeId}
def xay{args:List Operand}(c:o.op=.call {callee:=.builtin .len,args:=args.toArray,argTypes:=U.toArray})(b:rR P d n args U=.q R F)(e:HR ι H w)(h:LR ι d n L a.tmps):jI P o a.eval ι w nm (F nm L H):=by
 unfold rR at b;split at b
 ·rename_i x t;split at b
  ·grind [TY]
  ·rename_i g;split at b
   ·grind [TY]
   ·cases b
  ·grind [zue]
  ·grind [z0s]
  ·grind [z9w]
  ·cases b
 ·cases b
def xbu{args:List Operand}(c:o.op=.call {callee:=.builtin .cap,args:=args.toArray,argTypes:=U.toArray})(b:rj P d n args U=.q R F)(h:LR ι d n L a.tmps):jI P o a.eval ι w nm (F nm L H):=by
 unfold rj at b;split at b
 ·rename_i x t;split at b
  ·grind [zbz]
  ·grind [z0w]
  ·cases b
 ·cases b
def xah{args:List Operand}(c:o.op=.call {callee:=.builtin .min,args:=args.toArray,argTypes:=ts})(b:rC d n args=.q R F)(h:LR ι d n L a.tmps):jI P o a.eval ι w nm (F nm L H):=by
 unfold rC at b;split at b
 ·grind [aOe]
 ·cases b
def xaj{args:List Operand}(c:o.op=.call {callee:=.builtin .max,args:=args.toArray,argTypes:=ts})(b:rn d n args=.q R F)(h:LR ι d n L a.tmps):jI P o a.eval ι w nm (F nm L H):=by
 unfold rn at b;split at b
 ·grind [aPr]
 ·cases b
theorem xb0(a:rJ P d n M U=.q R F):False:=by
 unfold rJ at a;split at a
 ·split at a
  ·split at a<;>cases a
  ·cases a
 ·cases a
theorem xbr(a:rz P d n M U=.q R F):False:=by
 unfold rz at a;split at a
 ·split at a
  ·split at a<;>cases a
  ·cases a
 ·cases a
theorem zcw{b:Builtin}{args:Array Operand}(e:o.op=.call {callee:=.builtin b,args,argTypes:=ts})(c:w8 P d n b args.toList ts.toList=.q R F)(g:HR ι H w)(h:LR ι d n L a.tmps):jI P o a.eval ι w nm (F nm L H):=by
 unfold w8 at c;split at c
 ·exact xay (by simpa using e) c g h
 ·exact xbu (by simpa using e) c h
 ·exact xah (ts:=ts) (by simpa using e) c h
 ·exact xaj (ts:=ts) (by simpa using e) c h
 ·grind [xb0]
 ·grind [xbr]
 ·cases c
theorem LC:∀x y:List UInt8,Lib.compareBytes x y=bif Op.bytesLess x y then -1 else bif decide (x=y)then 0 else 1
 | [],[]=>by simp[Lib.compareBytes,Op.bytesLess]
 | [],_::_=>by simp[Lib.compareBytes,Op.bytesLess]
 |_::_,[]=>by simp[Lib.compareBytes,Op.bytesLess]
 |a::x,b::y=>by
  have ih:=LC x y
  grind [Lib.compareBytes,Op.bytesLess,grind]
def zmg{f:FuncId}(h:II P f=true)(s t:ByteArray)(w:World):(callFunc f #[.string s,.string t]).run P w=.ok (.value (.int .i64 (Lib.compareBytes s.data.toList t.data.toList))) w:=by
 unfold II at h;split at h
 ·rename_i fn hfn;simp only[sA,beq_iff_eq,Option.isNone_iff_eq_none]at h;obtain⟨⟨h1,h2⟩,h3⟩:=h;have hnx:Extern.findNext fn=none:=by
   unfold Extern.findNext;rw[h2,h3];have e1:Extern.allNextRows.lookup Cw=none:=by decide +kernel
   have e2:Extern.allNextRows.lookup "" =none:=by decide +kernel
   grind
  have hfd:Extern.find fn=some Extern.BytealgCompare.compare:=by
   unfold Extern.find;rw[h2];have e1:(Extern.allGenericRows.lookup Cw)=none:=by decide +kernel
   have e2:(Extern.allTypedRows.lookup Cw)=none:=by decide +kernel
   have e3:Extern.allRows.lookup Cw=some Extern.BytealgCompare.compare:=by kernel_rfl
   grind
  have hname:¬fn.name = "runtime.NumGoroutine" :=by rw[h2];decide +kernel
  have hr:=Lib.run_compareString (P:=P) s t w;simp[callFunc,hfn,hname,h1,hnx,hfd,hr,mark,Sem.run]
 ·cases h
def aQZ{f:FuncId}{args:Array Operand}(k:o.op=.call {callee:=.value (.func f),args,argTypes:=ts})(l:II P f=true)(h:LR ι d n L a.tmps):jI P o a.eval ι w nm (Ja ((wC d n args.toList).f L)):=by
 have g:=kz h args.toList;unfold Ja;split
 ·rename_i q r u v e;rw[e]at g;obtain⟨y,z,A,⟨s,rfl,i⟩,B,C,rfl,⟨t,rfl,j⟩,rfl⟩:=g;refine⟨.int .i64 (Lib.compareBytes s.data.toList t.data.toList),?_,?_⟩
  ·have b:args.map a.eval= #[.string s,.string t]:=by
    grind
   have x:=zmg l s t w;have c:a.eval (.func f)=.func (.func f) #[] #[]:=rfl;simp only[execOp,k,resolve,c,Deferred.ofValue,b];trivial
  ·have m:=qee.less i j;have p:gd q r u v=decide (s.data.toList=t.data.toList):=by
    rw[qee.eq i j,lU1];simp
   rw[m,p,LC];rfl
 ·trivial
def Nr(b:lZ P d n o=.q R F)(r:HR ι H w)(h:LR ι d n L a.tmps):jI P o a.eval ι w nm (F nm L H):=by
 unfold lZ at b;split at b
 ·rename_i x c;cases b;exact zyq (.inl c) h
 ·rename_i x c;cases b;exact zyq (.inr c) h
 ·rename_i c;cases b;exact z9v c h
 ·rename_i c;unfold EC at b;split at b
  ·grind [z0x]
  ·cases b
 ·rename_i c;unfold DB at b;split at b
  ·rename_i k g i j l;cases b;have:=z90 (P:=P) (w:=w) (nm:=nm) c k h;rw[l]at this;exact this
  ·rename_i i j l;cases b;have:=z92 (P:=P) (w:=w) (nm:=nm) c h;rw[l]at this;exact this
  ·cases b
 ·rename_i c;unfold Ez at b;split at b
  ·rename_i i j;split at b
   ·rename_i l;split at b
    ·rename_i m;cases b;exact zug c i j l m h
    ·cases b
   ·cases b
  ·rename_i i j;split at b
   ·rename_i l;split at b
    ·rename_i m;cases b;exact zuh c i j l m h
    ·cases b
   ·cases b
  ·cases b
 ·rename_i c;unfold E6 at b;split at b
  ·rename_i i;split at b
   ·rename_i s z j l;cases p:(Nat.ble (_*s) 65536&&Nat.beq z.length s)with
    |false=>rw[p]at b;cases b
    |true=>
     rw[p]at b;simp only[AN]at b;simp only[sA]at p;split at b
     ·rename_i m;cases b;exact qzb c i l j (zK p.2) (pX p.1) m h
     ·cases b
   ·cases b
  ·cases b
 ·rename_i c;unfold IH at b;split at b
  ·rename_i i j l;cases b;have:=z0q (P:=P) (nm:=nm) c i j r h;rw[l]at this;exact this
  ·rename_i i j l;cases b;have:=z0r (P:=P) (nm:=nm) c i r h;rw[l]at this;exact this
  ·cases b
 ·unfold EH at b;split at b<;>cases b
 ·rename_i c;cases b;exact zbx c h
 ·rename_i c;cases b;exact z2f c h
 ·rename_i c;cases b;exact aXF c h
 ·rename_i c;unfold Gw at b;split at b
  ·rename_i i j l;cases b;have:=z0v (P:=P) (w:=w) (nm:=nm) c i j h;rw[l]at this;exact this
  ·rename_i i j l;cases b;have:=z0u (P:=P) (w:=w) (nm:=nm) c i j h;rw[l]at this;exact this
  ·cases b
 ·rename_i c;unfold ET at b;split at b
  ·cases b
  ·rename_i u i j;cases b;have:=qpp (P:=P) (w:=w) (nm:=nm) c i (λms e=>u ms (by rw[e])) h;rw[j]at this;exact this
  ·cases b
 ·rename_i c;cases b;exact zby c h
 ·rename_i c;cases b;exact zk2 c
 ·rename_i c;unfold Ff at b;split at b
  ·rename_i i j l;split at b
   ·rename_i z w' s m q t;cases p:Nat.beq z.length s with
    |false=>rw[p]at b;cases b
    |true=>rw[p]at b;cases b;have:=zt9 (P:=P) (w:=w) (nm:=nm) c i m q t (zK p) h;rw[j,l]at this;exact this
   ·cases b
  ·cases b
 ·rename_i c;unfold EI at b;split at b
  ·rename_i i j l m;split at b
   ·cases b;have:=zbw (P:=P) (w:=w) (nm:=nm) c i h;rw[j,l,m]at this;exact this
   ·cases b
  ·rename_i i j l m q;split at b
   ·rename_i t;cases b;have:=zk0 (P:=P) (w:=w) (nm:=nm) c i t h;rw[j,l,m,q]at this;exact this
   ·cases b
  ·cases b
 ·rename_i c;unfold Fh at b;split at b
  ·rename_i i j;split at b
   ·rename_i l;split at b
    ·rename_i m;cases b;have:=q45 (P:=P) (w:=w) (nm:=nm) c i l m h;rw[j]at this;exact this
    ·cases b
   ·cases b
  ·cases b
 ·rename_i c;unfold EK at b;split at b
  ·rename_i i j;split at b
   ·rename_i l;cases b;have:=z0t (P:=P) (w:=w) (nm:=nm) c i l h;rw[j]at this;exact this
   ·cases b
  ·cases b
 ·rename_i c;unfold Fg at b;split at b
  ·rename_i i j l;split at b
   ·rename_i m;cases b;have:=z9y (P:=P) (w:=w) (nm:=nm) c i m h;rw[j,l]at this;exact this
   ·cases b
  ·rename_i i j l;split at b
   ·rename_i m;cases b;have:=z9z (P:=P) (w:=w) (nm:=nm) c i m h;rw[j,l]at this;exact this
   ·cases b
  ·cases b
 ·rename_i c;unfold EJ at b;split at b
  ·rename_i i j l;cases b;have:=zuf (P:=P) (w:=w) (nm:=nm) c i h;rw[j,l]at this;exact this
  ·rename_i i j l;split at b
   ·rename_i m;cases b;have:=z9x (P:=P) (w:=w) (nm:=nm) c i m h;rw[j,l]at this;exact this
   ·cases b
  ·cases b
 ·rename_i c;unfold H9 at b;split at b
  ·rename_i i j l;split at b
   ·rename_i m q;cases b;have:=zua (P:=P) (nm:=nm) c i m q r h;rw[j,l]at this;exact this
   ·cases b
  ·cases b
 ·unfold v5 at b;split at b<;>first|(cases b;done)|(split at b<;>cases b)
 ·unfold v5 at b;split at b<;>first|(cases b;done)|(split at b<;>cases b)
 ·unfold Fy at b;split at b<;>first|(cases b;done)|(split at b<;>cases b)
 ·cases b
 ·rename_i c;cases b;exact zk3 c h
 ·grind [zcw]
 ·rename_i c;unfold EL at b;split at b
  ·rename_i g i j;cases b;have:=aQZ (P:=P) (w:=w) (nm:=nm) c j h;rw[i]at this;exact this
  ·cases b
 ·cases b
 ·cases b
end Go.Ev
end
noncomputable section
namespace Go.Ev
open Go.RowKit
variable {P:Program} {w:World} {ι:Im} {o:Oper} {a:Act} {d n:Nat} {L:TT AV d} {H:Hp}
def d6(P:Program)(o:Oper)(ρ:Operand->Value)(ι:Im)(H:Hp)(w:World):R1->Prop
 | .bad=>True
 | .ok v H'=>∃N V w' ι',(execOp ρ o).run P w=.ok N w'/\(N=.value V\/(N=.skip/\V=Go.undef))/\aQ ι' v V/\HR ι' H' w'/\Fr ι ι' H H' w w'
variable{I J:Nat}{U:List AV}{V fv:AV}{kG:List Value}
def A9(P:Program){loc:cv}(k:HR ι H w)(g:ι I=some loc)(p:aK ι U kG)(y:∀fv∈kG,fv.oneCell=true){m:Hp}(h:storeAt H I J U fv=.ok V m):V=fv/\∃w',(storeCells ⟨loc.blk,loc.base+J,none⟩ kG).run P w=.ok () w'/\HR ι m w'/\Fr ι ι H m w w':=by
 have f:=k.lt g;have q:=k.blk I f;unfold storeAt at h;split at h
 ·rename_i A a;obtain⟨rfl,rfl⟩:=h;refine⟨rfl,?_⟩;unfold dt at a;split at a
  ·rename_i b B c i s;cases e:Nat.ble (J+U.length) B with
   |false=>rw[e]at a;cases a
   |true=>
    rw[e]at a;simp only[AN,AH]at a;subst a;have e:=pX e;rw[s]at q;obtain⟨K,t,C,x,L⟩:=q;rw[g]at t;cases t;have r:=p.length;obtain⟨w',D,d⟩:=SD P loc.blk kG w (loc.base+J) 0 (λj n=>by
     obtain⟨u,E,F,G,c4⟩:=x (J+j) (by omega);refine⟨u,?_,?_⟩
     ·grind
     ·rw[show loc.base+J+0+j=loc.base+(J+j)by omega];exact c4 rfl) y
    rw[bf]at d;refine⟨w',D,k.put f (by rw[s];rfl) g _ d.os d.tape d.output d.size d.keep ?_⟩;refine⟨loc,g,C,λj n=>?_,λ_ j n=>?_⟩
    ·rw[oS _ _ _ _ (by omega) (by omega),d.cell,d.frozen];obtain⟨u,E,F,G,c4⟩:=x j n;by_cases o:J<=j/\j<J+U.length
     ·rw[sB o,sB (by omega)];have z:U[j-J]? =some (U.getD (j-J) .undef):=by grind
      grind [p.get,grind]
     ·grind
    ·rw[d.cell,d.frozen,sy (by omega)];simp_all
  ·cases a
 ·cases h
variable{D:TypeId}{N O:Operand}
def zvr(f:o.op=.store D N O)(g:jO P D=some 1)(j:HR ι H w)(h:LR ι d n L a.tmps):d6 P o a.eval ι H w (kL H ((aM d n N).f L) ((aM d n O).f L)):=by
 have c:=gH h N;have e:=gH h O;unfold kL;split<;>first|trivial|skip
 rename_i b i l m p q r;rw[l]at c;simp only[aQ]at c;obtain⟨loc,s,v⟩:=c;have k:((aM d n O).f L).plain=true:=by grind [AV.plain]
 obtain⟨E,z⟩:=e.one k;cases t:storeAt H b i [(aM d n O).f L] .undef with
 |bad=>trivial
 |ok u H'=>obtain⟨rfl,w',A,B,C⟩:=A9 P j s (aK.singleton e) (by grind) t;refine⟨.skip,Go.undef,w',ι,?_,.inr ⟨rfl,rfl⟩,by simp[aQ,Go.undef],B,C⟩;simp[execOp,f,Instr.storeAt,v,Instr.sureAddr,storeVar,z,rE g,A]
def zvq(j:o.op=.store D N O)(m:jO P D=some I)(p:HR ι H w)(h:LR ι d n L a.tmps):d6 P o a.eval ι H w (yI I H ((aM d n N).f L) ((aM d n O).f L)):=by
 have c:=gH h N;have f:=gH h O;unfold yI;split
 ·rename_i b i l r s;rw[r]at c;simp only[aQ]at c;obtain⟨loc,v,z⟩:=c;rw[s]at f;obtain⟨vs,g,A,B⟩:=dr f;cases e:Nat.beq l.length I with
  |false=>trivial
  |true=>
   have e:=zK e;cases F:storeAt H b i l .undef with
   |bad=>trivial
   |ok u H'=>
    obtain⟨rfl,w',C,t,E⟩:=A9 P p v g B F;refine⟨.skip,Go.undef,w',ι,?_,.inr ⟨rfl,rfl⟩,by simp[aQ,Go.undef],t,E⟩;have q:vs.length=I:=by rw[g.length,e]
    simp[execOp,j,Instr.storeAt,z,Instr.sureAddr,storeVar,A,Value.cells,rE m,q,C]
 ·trivial
theorem QC(need:Nat):∀(r c X:Nat),c<=X->need+(need+768) / 4<=X->Builtin.growBy need r c<=X
 |0,c,X,h,_=>h
 |r+1,c,X,h,k=>by
  unfold Builtin.growBy;split
  ·exact h
  ·exact QC need r _ X (by omega) k
def Tx{need old:Nat}(h:old<need):Builtin.nextslicecap need old<=3*need:=by
 unfold Builtin.nextslicecap;split
 ·omega
 ·split
  ·omega
  ·exact QC need 4 old _ (by omega) (by omega)
variable{X:Value}
def RW(e:aQ ι fv X)(q:HR ι H w){s:Src}(h:IG I H fv=some s)(n:(∃m b,fv=.str m b)->I=1):∃vs:List Value,aK ι s.l vs/\(∀v∈vs,v.oneCell=true)/\vs.length=s.n*I/\(Builtin.lenOf X).run P w=.ok s.n w /\ ∀k,k<=s.n->(Builtin.firstCells I k X).run P w=.ok (vs.take (k*I)).toArray w:=by
 unfold IG at h;split at h
 ·simp only[AH]at h;subst h;simp only[aQ]at e;subst e;exact⟨[],by simp[aK],by simp,by simp,by simp[Builtin.lenOf],λk _=>by simp[Builtin.firstCells]⟩
 ·simp only[AH]at h;subst h;simp only[aQ]at e;obtain⟨G,c,rfl⟩:=e;refine⟨[],by simp[aK],by simp,by simp,by simp[Builtin.lenOf],λk o=>?_⟩;have:k=0:=by grind
  subst this;simp[Builtin.firstCells,loadCells,loadCellsFrom]
 ·rename_i b i m a r;obtain⟨_,loc,B,rfl⟩:=e;split at h
  ·rename_i cs p;simp only[AH]at h;subst h;obtain⟨z,g⟩:=Bj (q.blk b (q.lt B)) p;have fin:∀vs:List Value,vs.length=m*I->aK ι cs vs->(∀v∈vs,v.oneCell=true)->(∀(j:Nat) (v:Value),vs[j]? =some v->w.cell? ⟨loc.blk,loc.base+i+j,none⟩=some v) ->
     ∃vs:List Value,aK ι cs vs/\(∀v∈vs,v.oneCell=true)/\vs.length=m*I/\(Builtin.lenOf (.slice (some ⟨loc.blk,loc.base+i,none⟩) m (if r then a else a+loc.ext))).run P w=.ok m w /\
      ∀k,k<=m->(Builtin.firstCells I k (.slice (some ⟨loc.blk,loc.base+i,none⟩) m (if r then a else a+loc.ext))).run P w=.ok (vs.take (k*I)).toArray w:=by
    intro vs C D E F;refine⟨vs,D,E,C,by simp[Builtin.lenOf],λk o=>?_⟩;have y:k*I<=m*I:=vL I o;have f:(vs.take (k*I)).length=k*I:=by grind
    have:=bi P w loc.blk (loc.base+i) (vs.take (k*I)) (λj v d=>F j v (by
     rw[tu]at d;split at d
     ·exact d
     ·cases d))
    rw[f]at this;trivial
   rcases g with g|⟨J,vs,g1,g2,g3,g4,g5⟩
   ·have g:m*I=0:=g;have:cs=[]:=lE5.1 (by grind);subst this;exact fin [] (by simp[g]) (by simp[aK]) (by simp) (by simp)
   ·grind
  ·cases h
 ·rename_i m t;simp only[AH]at h;subst h;have A:I=1:=n ⟨_,_,rfl⟩;subst A;obtain⟨s,rfl,u⟩:=e;have l:s.size=m:=u.1;refine⟨_,zcv u,λv d=>?_,?_,by simp[Builtin.lenOf,l],λk o=>?_⟩
  ·simp at d;obtain⟨_,_,rfl⟩:=d;rfl
  ·simp;exact l
  ·simp only[Builtin.firstCells,Sem.run_pure];congr 1;apply Array.ext';simp
 ·cases h
variable{T:List Value}
def Io{p:Ap}(b:jz P D=some p)(E:HR ι H w)(F:aK ι U kG)(J:∀V∈kG,V.oneCell=true){x:Src}(G:aK ι x.l T)(q:∀V∈T,V.oneCell=true)(R:kG.length+T.length=I*p.z){r:Hp}(h:grow p.z H U x I=.ok V r)(a:Nat)(S:I<=a)(s:(P.info? D).bind (·.zero)=some X)(w1:World)(t:w1=w.drew):∃A,aQ A V (.slice (some ⟨w.heap.size,0,none⟩) I a)/\HR A r (w1.alloc (.cells (kG.toArray++T.toArray++Builtin.zeroCells X.cells (a-I)) D)) /\ Fr ι A H r w (w1.alloc (.cells (kG.toArray++T.toArray++Builtin.zeroCells X.cells (a-I)) D)):=by
 subst t;unfold grow at h
 ·
  obtain⟨rfl,rfl⟩:=h;have B:fD (H.nx):=vG;unfold jz at b;split at b
  ·rename_i z d L old v M;cases o:Nat.beq L.length z with
   |false=>rw[o]at b;cases b
   |true=>
    rw[o]at b;simp only[AN,AH]at b;subst b;have o:=zK o;obtain⟨N,need,O,Q⟩:=ld (ι:=ι) M;rw[s]at need;cases need;have l:X.cells.size=z:=by grind [O.length]
    have C:Builtin.zeroCells X.cells (a-I)=(iI X.cells.toList (a-I)).toArray:=by
     have:=bN X.cells (a-I) z l
     grind [Builtin.zeroCells]
    rw[C]
    let loc:cv:=⟨w.heap.size,0,a-I,z⟩
    let W:World:=w.drew.alloc (.cells (kG.toArray++T.toArray++(iI X.cells.toList (a-I)).toArray) D)
    have g:∀i,W.cell? ⟨w.heap.size,i,none⟩=(kG++T++iI X.cells.toList (a-I))[i]? :=λi=>by show(w.drew.alloc _).cell? ⟨w.drew.heap.size,i,none⟩=_;rw[World.cell?_alloc_new];simp
    have m:∀i,W.frozen? ⟨w.heap.size,i,none⟩=false:=λi=>by show(w.drew.alloc _).frozen? ⟨w.drew.heap.size,i,none⟩=_;rw[World.frozen?_alloc_new]
    have n:=E.push (w':=W) B loc (aB z (U++x.l)) rfl rfl rfl (by show w.heap.size<(w.drew.alloc _).heap.size;simp) (λc u=>Below.heap_alloc w.drew _ c u) rfl
     (M8 (vs:=kG++T) (loc:=loc) (Im.dH _ _ _) (aK.mono (Im.jS loc (E.fresh _ (AF _))) _ _ (F.append G)) (λV k=>by
      rcases lAJ.1 k with k|k
      ·grind
      ·exact q V k) (λi V k=>by
      rw[nr];refine⟨?_,m i⟩;rw[g];have K:i<(kG++T).length:=by grind
      rw[sX K];exact k) (λj y=>by
      have y:j<(a-I)*z:=y;rw[nr,g];have e:(kG++T).length=(U++x.l).length:=by grind [nj,F.length,G.length]
      rw[AM (by omega),e,mf];have:j<(iI X.cells.toList (a-I)).length:=by rw[nI];simpa [l] using y
      exact⟨_,j0 this,m _,Q _ (xK (sx this))⟩))
    refine⟨ι.set H.nx loc,?_,n.1,n.2⟩;refine⟨AF _,loc,Im.dH _ _ _,?_⟩
    grind
  ·cases b
variable{F h:TypeId}{td:TypeDesc}
def Lt{ty:TypeId}(i:P.underlying D=some (.slice h))(j:P.underlying F=some td)(b:td=.string\/∃e,td=.slice e)(k:jO P h=some I)(base:Option Addr)(len C:Nat)(X:Value)(l:(Builtin.lenOf X).run P w=.ok J w)(n:(Builtin.firstCells I J X).run P w=.ok kG.toArray w)(c:len+J<=C){w':World}(a:∀d,base=some d->(storeCells (d.add (len*I)) kG).run P w=.ok () w')(g:base=none->w'=w):(Builtin.append_ #[D,F] ty #[.slice base len C,X]).run P w=.ok (.slice base (len+J) C) w':=by
 cases base with
 |none=>
  rw[g rfl];rcases b with rfl|⟨e,rfl⟩
  all_goals simp[Builtin.append_,d9 i,d9 j,rE k,l,n,c]
 |some d=>
  have a:=a d rfl;rcases b with rfl|⟨e,rfl⟩
  all_goals simp[Builtin.append_,d9 i,d9 j,rE k,l,n,c,a]
variable{M:Nat}
set_option maxHeartbeats 1000000 in
def SE{ty:TypeId}(r:P.underlying D=some (.slice h))(s:P.underlying F=some td)(f:td=.string\/∃q,td=.slice q)(v:jO P h=some I)(x:me P h=some J)(g:(P.info? h).bind (·.zero)=some X)(base:Option Addr)(len C:Nat)(o:Value)(y:(Builtin.lenOf o).run P w=.ok M w)(A:(Builtin.firstCells I M o).run P w.drew=.ok T.toArray w.drew)(e:(Builtin.firstCells I len (.slice base len C)).run P w.drew=.ok kG.toArray w.drew)(i:¬len+M<=C)(p:(len+M)*J<=1099511627776)(j:len+M<=1099511627776):∃a,len+M<=a/\(Builtin.append_ #[D,F] ty #[.slice base len C,o]).run P w=.ok (.slice (some ⟨w.heap.size,0,none⟩) (len+M) a) (w.drew.alloc (.cells (kG.toArray++T.toArray++Builtin.zeroCells X.cells (a-(len+M))) h)):=by
 obtain⟨ti,l,n⟩:=HN (P:=P) x;have k:=Tx (need:=len+M) (old:=C) (by omega);have B:¬(2 ^ 48<Builtin.nextslicecap (len+M) C*ti.bytes):=by have t:Builtin.nextslicecap (len+M) C*ti.bytes<=3*(len+M)*ti.bytes:=vL _ k;rw[n]at t ⊢;have:3*(len+M)*J=3*((len+M)*J):=Nat.mul_assoc _ _ _;omega
 refine⟨(Question.appendCap (len+M) C h).cut (w.tape w.drawn (.appendCap (len+M) C h)),by simp only[Question.cut];omega,?_⟩;generalize c:(Question.appendCap (len+M) C h).cut (w.tape w.drawn (.appendCap (len+M) C h))=cap;rcases f with rfl|⟨q,rfl⟩
 all_goals
  simp[Builtin.append_,d9 r,d9 s,rE v,y,i,l,B,Question.forced,c,e,A,fu g,newRow];rw[sy (by omega),<-Array.append_assoc];simp
def Ms{a:Ap}(h:jz P D=some a):jO P D=some a.z/\me P D=some a.w/\fL P D=some a.zl/\a.zl.length=a.z/\∃b,(P.info? D).bind (·.zero)=some b:=by
 unfold jz at h;split at h
 ·rename_i z g d i j f;cases c:Nat.beq d.length z with
  |false=>rw[c]at h;cases h
  |true=>rw[c]at h;simp only[AN,AH]at h;subst h;obtain⟨b,k,_⟩:=ld (ι:=λ_=>none) f;simp_all
 ·cases h
def HR.drew(h:HR ι H w):HR ι H w.drew:=
 ⟨h.top,λb a=>(h.blk b a).keep λ_ _ _=>rfl,h.low,h.inj,h.fresh,h.free⟩
def zld{loc:cv}{z:Nat}(A:HR ι H w)(y:ι I=some loc)(l:jk (H.get I) (J+d*z) z=true)(F:eY (H.get I) J (M*z)=some U){x:Src}(hx:aK ι x.l T)(G:∀V∈T,V.oneCell=true)(b:T.length=x.n*z)(_:M<=d)(_:¬M+x.n<=d)(i:M+x.n<=d+loc.ext){R:Hp}(h:grow z (H.put I .dead) U x (M+x.n)=.ok V R):∃w' S,(storeCells ⟨loc.blk,loc.base+J+M*z,none⟩ T).run P w=.ok () w'/\aQ S V (.slice (some ⟨loc.blk,loc.base+J,none⟩) (M+x.n) (d+loc.ext))/\HR S R w'/\Fr ι S H R w w':=by
 have f:=A.lt y;have r:=A.blk I f;unfold jk at l;split at l
 ·rename_i dd Y c z' hg;simp only[sA]at l;have e1:=zK l.1;have e2:=zK l.2;have p:(H.get I).wr=true:=by rw[hg];rfl
  obtain⟨ol,ov⟩:=Bj r F;rw[hg]at r;obtain⟨l',b1,⟨b2,Z⟩,b3,b4⟩:=r;rw[y]at b1;cases b1;have hz:loc.z=z:=by rw[Z,e2]
  have old:(M+x.n)*z=M*z+x.n*z:=bz _ _ _;have bJa:(d+loc.ext)*z=d*z+loc.ext*z:=bz _ _ _;have bSC:(M+x.n)*z<=(d+loc.ext)*z:=vL z i
  have k:∀j,j<Y+loc.ext*z->∃u,w.cell? ⟨loc.blk,loc.base+j,none⟩=some u/\w.frozen? ⟨loc.blk,loc.base+j,none⟩=false/\u.oneCell=true:=by
   intro j E;by_cases hjn:j<Y
   ·obtain⟨v,O,_,c3,c4⟩:=b3 j hjn;exact⟨v,O,c4 rfl,c3⟩
   ·obtain⟨v,O,Q⟩:=b4 rfl (j-Y) (by rw[hz];omega);simp_all
  obtain⟨w',r1,q⟩:=SD P loc.blk T w (loc.base+J+M*z) 0 (λj E=>by obtain⟨u,O,Q,_⟩:=k (J+M*z+j) (by omega);rw[show loc.base+J+M*z+0+j=loc.base+(J+M*z+j)by omega];exact⟨u,O,Q⟩) G;rw[bf]at q;unfold grow at h
  ·
   obtain⟨rfl,rfl⟩:=h;have C:fD (H.nx):=vG;obtain⟨k1,k2⟩:=A.kill f p;have s:=A.fresh H.nx (AF _)
   let xQ:cv:=⟨loc.blk,loc.base+J,d+loc.ext-(M+x.n),z⟩
   have L:ι.le (ι.set H.nx xQ):=Im.jS xQ s;have W:(H.put I .dead).get H.nx=.dead:=k1.free _ (AF _) C
   obtain⟨kG,o1,o2,o3,o4⟩:∃kG,aK ι U kG/\kG.length=M*z/\(∀V∈kG,V.oneCell=true)/\∀(j:Nat) (V:Value),kG[j]? =some V->w.cell? ⟨loc.blk,loc.base+J+j,none⟩=some V:=by
    rcases ov with ov|⟨l2,kG,g1,g2,g3,g4,g5⟩
    ·have:U=[]:=lE5.1 (by rw[ol];exact ov);subst this;exact⟨[],by simp[aK],by simpa using ov.symm,by simp,by simp⟩
    ·rw[y]at g1;cases g1;exact⟨kG,g2,g3,g4,g5⟩
   have len:(U++x.l).length=(M+x.n)*z:=by rw[nj,ol,<-hx.length,b,old]
   have t:∀j,w'.cell? ⟨loc.blk,loc.base+J+j,none⟩=if M*z<=j/\j<M*z+T.length then some (T.getD (j-M*z) Go.undef)else w.cell? ⟨loc.blk,loc.base+J+j,none⟩:=λj=>by
    rw[q.cell];by_cases n:M*z<=j/\j<M*z+T.length
    ·rw[sB n,sB (by omega),show loc.base+J+j-(loc.base+J+M*z)=j-M*z by omega]
    ·rw[sy n,sy (by omega)]
   have X:BR (ι.set H.nx xQ) w' H.nx (aB z (U++x.l)):=by
    refine M8 (vs:=kG++T) (loc:=xQ) (Im.dH _ _ _) (aK.mono L _ _ (o1.append hx)) (λV B=>by
     rcases lAJ.1 B with B|B
     ·exact o3 V B
     ·exact G V B) (λj V B=>?_) (λj E=>?_)
    ·show w'.cell? ⟨loc.blk,loc.base+J+j,none⟩=some V/\w'.frozen? ⟨loc.blk,loc.base+J+j,none⟩=false;have E:j<(kG++T).length:=by
      rcases lu j (kG++T).length with h|h
      ·exact h
      ·simp_all
     rw[nj,o2,b]at E;refine⟨?_,?_⟩
     ·rw[t];by_cases n:j<M*z
      ·rw[sy (by omega)];simp_all
      ·rw[sB (by omega)];rw[AM (by omega),o2]at B;simp_all
     ·rw[q.frozen];obtain⟨_,_,Q,_⟩:=k (J+j) (by omega);rw[af];exact Q
    ·show ∃v,w'.cell? ⟨loc.blk,loc.base+J+((U++x.l).length+j),none⟩=some v/\w'.frozen? ⟨loc.blk,loc.base+J+((U++x.l).length+j),none⟩=false/\v.oneCell=true;have E:j<(d+loc.ext-(M+x.n))*z:=E;have bO3:(d+loc.ext-(M+x.n))*z=(d+loc.ext)*z-(M+x.n)*z:=Nat.sub_mul _ _ _;rw[t,q.frozen,sy (by omega),len];obtain⟨u,O,Q⟩:=k (J+((M+x.n)*z+j)) (by omega);rw[af];simp_all
   have N:=k1.add (w':=w') C s W (Nat.le_succ _) C (qh _) xQ (aB z (U++x.l)) (by rw[q.size];exact AF _)
    (λc m n g o=>q.keep _ λK=>by
     rw[Hp.get_put _ _ _ _ f n]at g;by_cases a:c=I
     ·subst a;simp[cZ.bG]at g
     ·rw[sy a]at g;exact a (A.inj I c loc m f n p g y o K.symm).symm)
    (λ_=>by rw[q.size];exact A.low I loc f (cZ.aZ p) y)
    (λc m n g o K=>by
     rw[Hp.get_put _ _ _ _ f n]at g;by_cases a:c=I
     ·subst a;simp[cZ.bG]at g
     ·rw[sy a]at g;exact a (A.inj I c loc m f n p g y o K.symm).symm) X
   refine⟨w',ι.set H.nx xQ,r1,?_,N,⟨L,Nat.le_succ _,λc g o=>?_,q.os,q.tape,q.output,by rw[q.size];exact AF _,λc n g=>q.keep c λK=>g I loc f p y K.symm,λc m n g o=>?_,λc m n g o=>?_⟩⟩
   ·simp only[aQ];refine⟨AF _,xQ,Im.dH _ _ _,?_⟩;simp[xQ];omega
   ·by_cases e:c=H.nx
    ·omega
    ·rw[Im.fI _ _ e]at o;exact absurd g o
   ·have D:(aH (H.put I .dead) (aB z (U++x.l))).get c=if c=H.nx then aB z (U++x.l)else(H.put I .dead).get c:=by exact Mem.get_put _ _ _ _
    by_cases e:c=H.nx
    ·subst e;rw[Im.dH]at o;cases o;exact .inr ⟨I,loc,f,p,y,rfl⟩
    ·rw[D,sy e,Hp.get_put _ _ _ _ f n]at g;rw[Im.fI _ _ e]at o;by_cases a:c=I
     ·subst a;simp[cZ.wr]at g
     ·rw[sy a]at g;exact .inr ⟨c,m,n,g,o,rfl⟩
   ·have D:(aH (H.put I .dead) (aB z (U++x.l))).get c=if c=H.nx then aB z (U++x.l)else(H.put I .dead).get c:=by exact Mem.get_put _ _ _ _
    by_cases e:c=H.nx
    ·subst e;rw[Im.dH]at o;cases o;exact .inr ⟨I,loc,f,cZ.aZ p,y,rfl⟩
    ·rw[D,sy e,Hp.get_put _ _ _ _ f n]at g;rw[Im.fI _ _ e]at o;by_cases a:c=I
     ·subst a;simp[cZ.bG]at g
     ·rw[sy a]at g;exact .inr ⟨c,m,n,g,o,rfl⟩
 ·cases l
def UF(c:aQ ι fv X)(d:HR ι H w){s:Src}(h:nP n H fv=some s):∃vs:List Value,aK ι s.l vs/\(∀v∈vs,v.oneCell=true)/\vs.length=s.n*n/\(Builtin.lenOf X).run P w=.ok s.n w /\ ∀k,k<=s.n->(Builtin.firstCells n k X).run P w=.ok (vs.take (k*n)).toArray w:=by
 unfold nP at h;split at h
 ·cases a:Nat.beq n 1 with
  |false=>rw[a]at h;cases h
  |true=>rw[a]at h;exact RW c d h (λ_=>zK a)
 ·rename_i f;exact RW c d h (λ⟨m,b,e⟩=>absurd e (f m b))
def zys{loc:cv}{C:Nat}(a:HR ι H w)(c:ι n=some loc)(h:eY (H.get n) I (J*M)=some U):∃kG,aK ι U kG/\(∀v∈kG,v.oneCell=true)/\kG.length=J*M/\(Builtin.firstCells M J (.slice (some ⟨loc.blk,loc.base+I,none⟩) J C)).run P w=.ok kG.toArray w:=by
 obtain⟨f,ov⟩:=Bj (a.blk n (a.lt c)) h;have fin:∀kG:List Value,kG.length=J*M->(∀(j:Nat) (v:Value),kG[j]? =some v->w.cell? ⟨loc.blk,loc.base+I+j,none⟩=some v)->(Builtin.firstCells M J (.slice (some ⟨loc.blk,loc.base+I,none⟩) J C)).run P w=.ok kG.toArray w:=λkG d e=>by have:=bi P w loc.blk (loc.base+I) kG e;rw[d]at this;trivial
 rcases ov with ov|⟨g,kG,g1,g2,g3,g4,g5⟩
 ·have:U=[]:=lE5.1 (by grind);subst this;exact⟨[],by simp[aK],by simp,by simpa using ov.symm,fin [] (by grind) (by simp)⟩
 ·grind
theorem Yv(ho:o.op=.call {callee:=.builtin .append,args:= #[N,O],argTypes:= #[D,F]})(J:P.underlying D=some (.slice h))(K:P.underlying F=some td)(m:td=.string\/∃e',td=.slice e'){l:Ap}(t:jz P h=some l)(z:HR ι H w)(e:LR ι d n L a.tmps):d6 P o a.eval ι H w (jD l.z l.w H ((aM d n N).f L) (nP l.z H ((aM d n O).f L))):=by
 have E:=gH e N;have hy:=gH e O;obtain⟨x,a2,a3,a4,zv,X⟩:=Ms t;have p:∀S V w',a.eval N=S->(Builtin.append_ #[D,F] o.type #[S,a.eval O]).run P w=.ok V w'->(execOp a.eval o).run P w=.ok (.value V) w':=λS V w' M W=>by simp[execOp,ho,resolve,invoke,builtin,M,W]
 cases hs:nP l.z H ((aM d n O).f L)with
 |none=>trivial
 |some s=>
  obtain⟨uE,x1,x2,x3,y,I⟩:=UF (P:=P) hy z hs;obtain⟨bUi,Q,R,T,x4',q⟩:=UF (P:=P) hy z.drew hs;have I:=I s.n (AF _);have q:=q s.n (AF _);rw[<-x3,aj]at I;rw[<-T,aj]at q;cases c:jD l.z l.w H ((aM d n N).f L) (some s)with
  |bad=>trivial
  |ok v H'=>
   unfold jD at c;simp only at c;split at c
   ·rename_i e1;rw[e1]at E;simp only[aQ]at E;cases u:Nat.beq s.n 0 with
    |true=>have u:=zK u;rw[u]at c;obtain⟨rfl,rfl⟩:=c;have r:=Lt (ty:=o.type) J K m x none 0 0 (a.eval O) y I (by omega) (w':=w) (λ_ e=>by cases e) (λ_=>rfl);rw[u]at r;exact⟨_,.slice none 0 0,w,ι,p _ _ _ E r,.inl rfl,by simp only[aQ],z,Fr.refl _ _ _⟩
    |false=>
     rw[u]at c;simp only[bu]at c;have u:=nH u;cases f:(Nat.ble (Nat.mul s.n l.w) iA&&Nat.ble s.n iA)with
     |false=>rw[f]at c;cases c
     |true=>rw[f]at c;simp only[AN]at c;simp only[sA]at f;have g1:s.n*l.w<=1099511627776:=pX f.1;have g2:s.n<=1099511627776:=pX f.2;obtain⟨nc,Y,Z⟩:=SE (ty:=o.type) (kG:=[]) J K m x a2 X none 0 0 (a.eval O) y q (by simp[Builtin.firstCells]) (by omega) (by grind) (by omega);rw[nr]at Y Z;obtain⟨U,d1,d2,d3⟩:=Io t z (kG:=[]) (show aK ι [] []by simp[aK]) (by simp) Q R (by simp[T]) c nc Y X w.drew rfl;exact⟨_,_,_,U,p _ _ _ E Z,.inl rfl,d1,d2,d3⟩
   ·rename_i b i len k ex e1;rw[e1]at E;simp only[aQ]at E;obtain⟨hlc,loc,M,W⟩:=E;cases j:Nat.ble (len+s.n) k with
    |true=>
     rw[j]at c;simp only[AN]at c;have j:=pX j;obtain⟨rfl,w',r1,r2,r3⟩:=A9 P z M x1 x2 c;have r:=Lt (ty:=o.type) J K m x (some ⟨loc.blk,loc.base+i,none⟩) len (if ex then k else k+loc.ext) (a.eval O) y I (by grind) (w':=w')
      (λad e=>by cases e;rw[a9,af];exact r1) (λe=>by cases e)
     refine⟨_,_,w',ι,p _ _ _ W r,.inl rfl,?_,r2,r3⟩
     grind [aQ]
    |false=>
     rw[j]at c;simp only[bu]at c;have j:=Vu j;cases f:(Nat.ble (Nat.mul (len+s.n) l.w) iA&&Nat.ble (len+s.n) iA)with
     |false=>rw[f]at c;cases c
     |true=>
      rw[f]at c;simp only[AN]at c;simp only[sA]at f;have g1:(len+s.n)*l.w<=1099511627776:=pX f.1;have g2:len+s.n<=1099511627776:=pX f.2;split at c
      ·cases c
      ·rename_i old A;have G:∀C,¬len+s.n<=C->a.eval N=.slice (some ⟨loc.blk,loc.base+i,none⟩) len C->∀(H1:Hp),HR ι H1 w->Fr ι ι H H1 w w->grow l.z H1 old s (len+s.n)=.ok v H'->d6 P o a.eval ι H w (.ok v H'):=by
        intro C hC hxC H1 hH1 hF1 hg;obtain⟨kG,o1,o2,o3,o4⟩:=zys (P:=P) (w:=w.drew) (C:=C) z.drew M A;obtain⟨nc,Y,Z⟩:=SE (ty:=o.type) J K m x a2 X (some ⟨loc.blk,loc.base+i,none⟩) len C (a.eval O) y q o4 hC g1 g2;obtain⟨U,d1,d2,d3⟩:=Io t hH1 o1 o2 Q R (by grind) hg nc Y X w.drew rfl;exact⟨_,_,_,U,p _ _ _ hxC Z,.inl rfl,d1,d2,hF1.trans d3⟩
       cases ex with
       |true=>exact G k j (by grind) H z (Fr.refl _ _ _) c
       |false=>
        cases g:jk (H.get b) (i+k*l.z) l.z with
        |false=>rw[g]at c;cases c
        |true=>
         rw[g]at c;simp only[AN]at c;by_cases B:len+s.n<=k+loc.ext
         ·obtain⟨w',U,q1,q2,q3,q4⟩:=zld (P:=P) z M g A x1 x2 x3 hlc j B c;have r:=Lt (ty:=o.type) J K m x (some ⟨loc.blk,loc.base+i,none⟩) len (k+loc.ext) (a.eval O) y I B (w':=w')
           (λad e=>by cases e;rw[a9];exact q1) (λe=>by cases e)
          exact⟨_,_,w',U,p _ _ _ W r,.inl rfl,q2,q3,q4⟩
         ·have hwr:(H.get b).wr=true:=by
           unfold jk at g;split at g
           ·rename_i hg;rw[hg];rfl
           ·cases g
          grind [z.kill,z.lt,grind]
   ·cases c
def Bh{es:List eT}{loc:cv}(j:HR ι H w)(i:ι I=some loc)(l:H.get I=.map es J)(f:List eT)(a:Nat){d:List MapEntry}(m:dW ι f d):HR ι (H.put I (.map f a)) {w with heap:=w.heap.setIfInBounds loc.blk (.map d.toArray a)}/\Fr ι ι H (H.put I (.map f a)) w {w with heap:=w.heap.setIfInBounds loc.blk (.map d.toArray a)}:=by
 have g:=j.lt i;have h:(H.get I).wr=true:=by rw[l];rfl
 have k:=j.low I loc g (cZ.aZ h) i;refine j.put g h i _ rfl rfl rfl (by simp) (λc n=>?_) ⟨loc,d,i,?_,m⟩
 ·grind
 ·simp_all
theorem dW.set:∀{es:List eT} {a:List MapEntry},dW ι es a->∀(i:Nat) (x:eT) (e:MapEntry),aQ ι x.key e.key->aQ ι x.val e.val->e.born=x.born->dW ι (es.set i x) (a.set i e)
 | [],a,h,i,x,e,_,_,_=>by grind [dW]
 |y::es,a,h,i,x,e,h1,h2,h3=>by
  obtain⟨b,r,rfl,g1,g2,g3,g4⟩:=h;cases i with
  |zero=>simp only[List.set_cons_zero,dW];exact⟨e,r,rfl,h1,h2,h3,g4⟩
  |succ i=>simp only[yc,dW];exact⟨b,r.set i e,rfl,g1,g2,g3,dW.set g4 i x e h1 h2 h3⟩
theorem dW.snoc:∀{es:List eT} {a:List MapEntry},dW ι es a->∀(x:eT) (e:MapEntry),aQ ι x.key e.key->aQ ι x.val e.val->e.born=x.born->dW ι (es++[x]) (a++[e])
 | [],a,h,x,e,h1,h2,h3=>by grind [dW,au]
 |y::es,a,h,x,e,h1,h2,h3=>by obtain⟨b,r,rfl,g1,g2,g3,g4⟩:=h;simp only[qg,dW];exact⟨b,r++[e],rfl,g1,g2,g3,dW.snoc g4 x e h1 h2 h3⟩
theorem dW.erase:∀{es:List eT} {a:List MapEntry},dW ι es a->∀(i:Nat),dW ι (es.eraseIdx i) (a.eraseIdx i)
 | [],a,h,i=>by grind [dW]
 |y::es,a,h,i=>by
  obtain⟨b,r,rfl,g1,g2,g3,g4⟩:=h;cases i with
  |zero=>simpa using g4
  |succ i=>simp only[List.eraseIdx_cons_succ,dW];exact⟨b,r.eraseIdx i,rfl,g1,g2,g3,dW.erase g4 i⟩
variable{Y:Value}
theorem R4(h:De fv V=true)(a:aQ ι fv X)(b:aQ ι V Y):X=Y/\∀k,Instr.sameBits k X X=true:=by
 unfold De at h;split at h
 ·simp only[sA]at h;have:=IP h.1;subst this;have c:=h.2;rw[eI]at c;simp only[aQ]at a b;subst a b;obtain rfl:=eq_of_beq c
  grind [Instr.sameBits]
 ·simp only[aQ]at a b;obtain⟨s,rfl,d⟩:=a;obtain⟨u,rfl,c⟩:=b;rw[d.eq c]at h;have e:s=u:=by
   have:s.data.toList=u.data.toList:=by simpa using h
   cases s;cases u;simp at this;rw[this]
  grind [Instr.sameBits,beq_toListBytes]
 ·simp only[aQ]at a b;subst a b;obtain rfl:=eq_of_beq h
  grind [Instr.sameBits]
 ·cases h
theorem R3:∀{l m:List AV} {vs a:List Value},po l m=true->aK ι l vs->aK ι m a->vs=a/\∀k,(vs.zip vs).all (λ(x,y)=>Instr.sameBits k x y)=true
 | [],[],vs,a,_,h1,h2=>by simp only[aK]at h1 h2;subst h1 h2;exact⟨rfl,λ_=>rfl⟩
 | [],_::_,vs,a,h,_,_=>by simp[po]at h
 |_::_,[],vs,a,h,_,_=>by simp[po]at h
 |x::l,y::m,vs,a,h,h1,h2=>by obtain⟨v,r,rfl,b,c⟩:=h1;obtain⟨u,f,rfl,d,e⟩:=h2;simp only[po,sA]at h;obtain⟨g,i⟩:=R4 h.1 b d;obtain⟨j,n⟩:=R3 h.2 c e;simp_all
def TV(h:bL fv V=true)(a:aQ ι fv X)(b:aQ ι V Y):Instr.sameBits 10000 X Y=true:=by
 unfold bL at h;split at h
 ·obtain⟨vs,d,rfl,_⟩:=dr a;obtain⟨f,e,rfl,_⟩:=dr b;obtain⟨rfl,c⟩:=R3 h d e;simp only[Instr.sameBits,sA];simp_all
 ·grind [R4]
def L5(a:List MapEntry)(i:Nat)(E:MapEntry)(h:a[i]? =some E)(f:MapEntry->MapEntry):a.modify i f=a.set i (f E):=by
 apply yh
 grind
variable{R:Operand}
def Vt(l:o.op=.mapUpdate D N O R\/o.op=.insert D N O R)(I:P.underlying D=some (.map F h)){J:Ky}(i:zN P F=some J)(m:HR ι H w)(Q:LR ι d n L a.tmps):d6 P o a.eval ι H w (jN J H ((aM d n N).f L) ((aM d n O).f L) ((aM d n R).f L)):=by
 have r:=gH Q N;have j:=gH Q O;have K:=gH Q R;have g:(execOp a.eval o).run P w=((Instr.mapUpdate D (a.eval N) (a.eval O) (a.eval R)).run P w).andThen λ_ w=>.ok .skip w:=by rcases l with l|l<;>simp[execOp,l]
 unfold jN;split
 ·rename_i b S;rw[S]at r;simp only[aQ]at r;obtain⟨loc,p,x⟩:=r;have M:=m.blk b (m.lt p);split
  ·rename_i es c u;rw[u]at M;obtain⟨X,T,g1,g2,g3⟩:=M;rw[p]at g1;cases g1;split
   ·rename_i f v;obtain⟨A,z,B,q⟩:=Bt i j g3 v;obtain⟨V,E,rfl,Y,y,U,Z,d5,W⟩:=q;cases G:bL f.x.key ((aM d n O).f L)with
    |false=>trivial
    |true=>have s:=TV G U j;obtain⟨C,t⟩:=Bh m p u (es.set f.i ⟨(aM d n O).f L,(aM d n R).f L,f.x.born⟩) c (g3.set f.i _ ⟨a.eval O,a.eval R,E.born⟩ j K W);refine⟨.skip,Go.undef,_,ι,?_,.inr ⟨rfl,rfl⟩,by simp[aQ,Go.undef],C,t⟩;rw[g,x];have k:=L5 T f.i E y (λe=>{e with key:=a.eval O,val:=a.eval R});simp[Instr.mapUpdate,d9 I,getObj,setObj,Sem.run,g2,A,B,y,Instr.keyThatStays,s,k]
   ·rename_i v;obtain⟨A,z,B,q⟩:=Bt i j g3 v;simp only[xg]at q;subst q;obtain⟨C,t⟩:=Bh m p u (es++[⟨(aM d n O).f L,(aM d n R).f L,c⟩]) (c+1) (g3.snoc _ ⟨a.eval O,a.eval R,c⟩ j K rfl);refine⟨.skip,Go.undef,_,ι,?_,.inr ⟨rfl,rfl⟩,by simp[aQ,Go.undef],C,t⟩;rw[g,x];simp[Instr.mapUpdate,d9 I,getObj,setObj,Sem.run,g2,A,B]
   ·trivial
  ·trivial
 ·trivial
def z1v(G:o.op=.mapEntry h N O)(I:P.underlying h=some (.map D F)){J:Ky}(g:zN P D=some J)(y:(P.info? F).bind (·.zero)=some X)(k:HR ι H w)(t:LR ι d n L a.tmps):d6 P o a.eval ι H w (lR J (mq X) H ((aM d n N).f L) ((aM d n O).f L)):=by
 have p:=gH t N;have i:=gH t O;unfold lR;split
 ·rename_i b Q;rw[Q]at p;simp only[aQ]at p;obtain⟨loc,l,M⟩:=p;have K:=k.blk b (k.lt l);split
  ·rename_i es c r;rw[r]at K;obtain⟨W,S,g1,g2,g3⟩:=K;rw[l]at g1;cases g1;split
   ·rename_i f s;obtain⟨u,R,v,m⟩:=Bt g i g3 s;obtain⟨V,E,rfl,z,x,T,Y,Z,U⟩:=m;cases C:bL f.x.key ((aM d n O).f L)with
    |false=>trivial
    |true=>
     have q:=TV C T i;obtain⟨A,B⟩:=Bh k l r (es.set f.i ⟨(aM d n O).f L,f.x.val,f.x.born⟩) c (g3.set f.i _ ⟨a.eval O,E.val,E.born⟩ i (by grind) U);refine⟨.value (.tuple #[V,.int .i64 (E.born:Int)]),_,_,ι,?_,.inl rfl,?_,A,B⟩
     ·have j:=L5 S f.i E x (λe=>{e with key:=a.eval O});simp[execOp,G,M,Instr.mapEntry,d9 I,getObj,setObj,Sem.run,g2,u,v,x,Instr.keyThatStays,q,j,goInt]
     ·grind [aQ,aK]
   ·rename_i s;obtain⟨u,R,v,m⟩:=Bt g i g3 s;simp only[xg]at m;subst m;obtain⟨A,B⟩:=Bh k l r (es++[⟨(aM d n O).f L,mq X,c⟩]) (c+1) (g3.snoc _ ⟨a.eval O,X,c⟩ i (Bm X) rfl);refine⟨.value (.tuple #[X,.int .i64 (c:Int)]),_,_,ι,?_,.inl rfl,?_,A,B⟩
    ·simp[execOp,G,M,Instr.mapEntry,d9 I,getObj,setObj,Sem.run,g2,u,v,fu y,goInt]
    ·simp only[aQ,aK];exact⟨[X,.int .i64 (c:Int)],⟨X,_,rfl,Bm X,_,_,rfl,rfl,rfl⟩,rfl⟩
   ·trivial
  ·trivial
 ·trivial
theorem UD:∀(es:List eT) (c:List MapEntry) (i:Nat) (a:cR),dW ι es c->CY I es i=some a -> ∃E j,a.i=i+j/\c[j]? =some E/\c.findIdx? (λe=>(e.born:Int)==(I:Int))=some j/\aQ ι a.x.key E.key/\E.born=a.x.born
 | [],c,i,a,hE,b=>by trivial
 |x::es,c,i,a,hE,b=>by
  obtain⟨e,r,rfl,h,l,m,g⟩:=hE;have b:(bif Nat.beq x.born I then some ⟨i,x⟩else CY I es (i+1))=some a:=b;cases d:Nat.beq x.born I with
  |true=>
   rw[d]at b;simp only[AN,AH]at b;subst b
   grind [zK,List.findIdx]
  |false=>
   rw[d]at b;simp only[bu]at b;have f:=nH d;obtain⟨E,j,n,o,p,q,s⟩:=UD es r (i+1) a g b
   grind
def zne(u:o.op=.entryStore D N O R)(i:HR ι H w)(h:LR ι d n L a.tmps):d6 P o a.eval ι H w (wY H ((aM d n N).f L) ((aM d n O).f L) ((aM d n R).f L)):=by
 have k:=gH h N;have l:=gH h O;have v:=gH h R;unfold wY;split
 ·rename_i b y m A B;rw[A]at k;rw[B]at l;simp only[aQ]at k l;obtain⟨loc,p,C⟩:=k;have q:=i.blk b (i.lt p);split
  ·rename_i es f r;rw[r]at q;obtain⟨Q,s,g1,g2,g3⟩:=q;rw[p]at g1;cases g1;split
   ·rename_i c t;obtain⟨E,j,F,G,I,J,K⟩:=UD es s 0 c g3 t;obtain⟨M,x⟩:=Bh i p r (es.set c.i ⟨c.x.key,(aM d n R).f L,c.x.born⟩) f (g3.set c.i _ ⟨E.key,a.eval R,E.born⟩ J v K);refine⟨.skip,Go.undef,_,ι,?_,.inr ⟨rfl,rfl⟩,by simp[aQ,Go.undef],M,x⟩;have g:=L5 s j E G (λe=>{e with val:=a.eval R});simp[execOp,u,C,l,Instr.entryStore,getObj,setObj,Sem.run,g2,asInt,asIntOf,I,g,F]
   ·trivial
  ·trivial
 ·trivial
theorem Lx(a:Value)(k:Nat):Builtin.zeroCells a.cells k=(iI a.cells.toList k).toArray:=by have:=bN a.cells k a.cells.size rfl;trivial
theorem znf(g:o.op=.call {callee:=.builtin .clear,args:= #[N],argTypes:= #[D]})(j:P.underlying D=some (.slice F)){k:Ap}(l:jz P F=some k)(p:HR ι H w)(h:LR ι d n L a.tmps):d6 P o a.eval ι H w (oY k.zl H ((aM d n N).f L)):=by
 have c:=gH h N;obtain⟨J,K,z,M,_⟩:=Ms l;obtain⟨x,A,B,C⟩:=ld (ι:=ι) z;unfold oY;split
 ·rename_i q;rw[q]at c;simp only[aQ]at c;refine⟨.value (.tuple #[]),_,w,ι,?_,.inl rfl,by simp[aQ],p,Fr.refl _ _ _⟩;simp[execOp,g,resolve,invoke,builtin,Builtin.clear_,c,d9 j]
 ·rename_i b i m t O q;rw[q]at c;simp only[aQ]at c;obtain⟨_,loc,E,u⟩:=c;cases f:Nat.beq m 0 with
  |true=>have f:=zK f;subst f;refine⟨.value (.tuple #[]),_,w,ι,?_,.inl rfl,by simp[aQ],p,Fr.refl _ _ _⟩;simp[execOp,g,resolve,invoke,builtin,Builtin.clear_,u,d9 j]
  |false=>
   have f:=nH f;cases r:storeAt H b i (aU k.zl m) .undef with
   |bad=>trivial
   |ok v H'=>obtain⟨rfl,w',e,G,I⟩:=A9 P p E (oi B m) (λv y=>C v (xK y)) r;refine⟨.value (.tuple #[]),_,w',ι,?_,.inl rfl,by simp[aQ],G,I⟩;obtain⟨s,rfl⟩:∃s,m=s+1:=⟨m-1,by omega⟩;simp[execOp,g,resolve,invoke,builtin,Builtin.clear_,u,d9 j,fu A,Lx,e]
 ·trivial
variable{kk:IntKind}
def LI{ty:TypeId}(o:P.underlying D=some (.slice h))(p:P.underlying F=some (.int kk))(q:jO P h=some I)(x:me P h=some J)(j:(P.info? h).bind (·.zero)=some X)(r:aK ι U X.cells.toList)(y:U.length=I)(base:Option Addr)(len C:Nat){k2:IntKind}(u:M<=1099511627776)(A:M*J<=1099511627776)(d:len+M<=C){w':World}(a:∀e,base=some e->(storeCells (e.add (len*I)) (iI X.cells.toList M)).run P w=.ok () w')(k:base=none->w'=w):(Builtin.append_ #[D,F] ty #[.slice base len C,.int k2 (M:Int)]).run P w=.ok (.slice base (len+M) C) w':=by
 obtain⟨ti,g,E⟩:=HN (P:=P) x;have w1:IntKind.i64.wrap (M:Int)=M:=IntWalk.i64_in _ (by omega);have f:¬((M:Int)<0):=by omega
 have c:¬(281474976710656<(M:Int)*(ti.bytes:Int)):=by grind
 have B:X.cells.size=I:=by grind [r.length]
 have n:M*I=0->iI X.cells.toList M=[]:=λl=>lE5.1 (by grind [nI]);by_cases l:M*I=0
 ·have t:=n l;cases base with
  |none=>rw[k rfl];simp[Builtin.append_,d9 o,d9 p,rE q,asInt,asIntOf,w1,f,g,c,l,d]
  |some e=>have a:=a e rfl;rw[t]at a;simp[Builtin.append_,d9 o,d9 p,rE q,asInt,asIntOf,w1,f,g,c,l,d,a]
 ·cases base with
  |none=>rw[k rfl];simp[Builtin.append_,d9 o,d9 p,rE q,asInt,asIntOf,w1,f,g,c,d,fu j]
  |some e=>have a:=a e rfl;simp[Builtin.append_,d9 o,d9 p,rE q,asInt,asIntOf,w1,f,g,c,l,d,fu j,Lx,a]
set_option maxHeartbeats 1000000 in
def SP{ty:TypeId}(v:P.underlying D=some (.slice h))(x:P.underlying F=some (.int kk))(y:jO P h=some I)(H:me P h=some J)(f:(P.info? h).bind (·.zero)=some X)(p:aK ι U X.cells.toList)(z:U.length=I)(base:Option Addr)(len C:Nat){k2:IntKind}(B:M<=1099511627776)(b:M*J<=1099511627776)(g:(Builtin.firstCells I len (.slice base len C)).run P w.drew=.ok kG.toArray w.drew)(e:¬len+M<=C)(t:(len+M)*J<=1099511627776)(q:len+M<=1099511627776):∃a,len+M<=a/\(Builtin.append_ #[D,F] ty #[.slice base len C,.int k2 (M:Int)]).run P w=.ok (.slice (some ⟨w.heap.size,0,none⟩) (len+M) a) (w.drew.alloc (.cells (kG.toArray++(iI X.cells.toList M).toArray++Builtin.zeroCells X.cells (a-(len+M))) h)):=by
 obtain⟨ti,n,o⟩:=HN (P:=P) H;have w1:IntKind.i64.wrap (M:Int)=M:=IntWalk.i64_in _ (by omega);have j:¬((M:Int)<0):=by omega
 have k:¬(281474976710656<(M:Int)*(ti.bytes:Int)):=by
  rw[o];have:((M*J:Nat):Int)<=281474976710656:=by omega
  have h:((M*J:Nat):Int)=(M:Int)*(J:Int):=by simp
  omega
 have r:X.cells.size=I:=by have:=p.length;simp at this;omega
 have l:M*I=0->iI X.cells.toList M=[]:=λi=>lE5.1 (by rw[nI];simp[r,i]);have s:=Tx (need:=len+M) (old:=C) (by omega);have E:¬(2 ^ 48<Builtin.nextslicecap (len+M) C*ti.bytes):=by have B:Builtin.nextslicecap (len+M) C*ti.bytes<=3*(len+M)*ti.bytes:=vL _ s;rw[o]at B ⊢;have:3*(len+M)*J=3*((len+M)*J):=Nat.mul_assoc _ _ _;omega
 refine⟨(Question.appendCap (len+M) C h).cut (w.tape w.drawn (.appendCap (len+M) C h)),by simp only[Question.cut];omega,?_⟩;generalize c:(Question.appendCap (len+M) C h).cut (w.tape w.drawn (.appendCap (len+M) C h))=cap;by_cases i:M*I=0
 ·rw[l i];simp[Builtin.append_,d9 v,d9 x,rE y,asInt,asIntOf,w1,j,n,k,e,E,Question.forced,c,g,i,fu f,newRow];intro u;omega
 ·simp[Builtin.append_,d9 v,d9 x,rE y,asInt,asIntOf,w1,j,n,k,e,E,Question.forced,c,g,i,fu f,newRow];rw[sy (by omega),Lx X M,<-Array.append_assoc];simp
theorem xbn(ho:o.op=.call {callee:=.builtin .append,args:= #[N,O],argTypes:= #[D,F]})(R:P.underlying D=some (.slice h))(T:P.underlying F=some (.int kk)){f:Ap}(u:jz P h=some f)(B:HR ι H w)(e:LR ι d n L a.tmps):d6 P o a.eval ι H w (jD f.z f.w H ((aM d n N).f L) (GR f.w f.zl ((aM d n O).f L))):=by
 have J:=gH e N;have U:=gH e O;obtain⟨X,Y,a3,Q,_⟩:=Ms u;obtain⟨zv,K,M,z3⟩:=ld (ι:=ι) a3;cases E:GR f.w f.zl ((aM d n O).f L)with
 |none=>trivial
 |some s=>
  unfold GR at E;split at E
  ·rename_i k2 m e2;rw[e2]at U;simp only[aQ]at U;cases z:(Nat.ble m iA&&Nat.ble (Nat.mul m f.w) iA)with
   |false=>rw[z]at E;cases E
   |true=>
    rw[z]at E;simp only[AN,AH]at E;subst E;simp only[sA]at z;have W:m<=1099511627776:=pX z.1;have x:m*f.w<=1099511627776:=pX z.2;have U:a.eval O=.int k2 (m:Int):=U;have p:∀S V w',a.eval N=S->(Builtin.append_ #[D,F] o.type #[S,.int k2 (m:Int)]).run P w=.ok V w'->(execOp a.eval o).run P w=.ok (.value V) w':=λS V w' G I=>by simp[execOp,ho,resolve,invoke,builtin,G,U,I]
    have x1:=oi M m;have x2:∀v∈iI zv.cells.toList m,v.oneCell=true:=λv c=>z3 v (xK c);have x3:(iI zv.cells.toList m).length=m*f.z:=by rw[nI,M.length,Q]
    cases c:jD f.z f.w H ((aM d n N).f L) (some ⟨m,aU f.zl m⟩)with
    |bad=>trivial
    |ok v H'=>
     unfold jD at c;simp only at c;split at c
     ·rename_i e1;rw[e1]at J;simp only[aQ]at J;cases y:Nat.beq m 0 with
      |true=>have y:=zK y;subst y;simp only[show Nat.beq 0 0=true from rfl,AN,R1.ok.injEq]at c;obtain⟨rfl,rfl⟩:=c;have r:=LI (P:=P) (ty:=o.type) (k2:=k2) R T X Y K M Q none 0 0 W x (by omega) (w':=w) (λ_ e=>by cases e) (λ_=>rfl);exact⟨_,.slice none 0 0,w,ι,p _ _ _ J r,.inl rfl,by simp only[aQ],B,Fr.refl _ _ _⟩
      |false=>
       rw[y]at c;simp only[bu]at c;have y:=nH y;cases k:(Nat.ble (Nat.mul m f.w) iA&&Nat.ble m iA)with
       |false=>rw[k]at c;cases c
       |true=>rw[k]at c;simp only[AN]at c;obtain⟨nc,c1,c2⟩:=SP (P:=P) (w:=w) (ty:=o.type) (k2:=k2) (kG:=[]) R T X Y K M Q none 0 0 W x (by simp[Builtin.firstCells]) (by omega) (by rw[nr];exact x) (by omega);rw[nr]at c1 c2;obtain⟨Z,d1,d2,d3⟩:=Io u B (kG:=[]) (show aK ι [] []by simp[aK]) (by simp) x1 x2 (by simp[x3]) c nc c1 K w.drew rfl;exact⟨_,_,_,Z,p _ _ _ J c2,.inl rfl,d1,d2,d3⟩
     ·rename_i b i len l ex e1;rw[e1]at J;simp only[aQ]at J;obtain⟨hlc,loc,G,I⟩:=J;cases j:Nat.ble (len+m) l with
      |true=>
       rw[j]at c;simp only[AN]at c;have j:=pX j;obtain⟨rfl,w',r1,r2,r3⟩:=A9 P B G x1 x2 c;have r:=LI (P:=P) (ty:=o.type) (k2:=k2) R T X Y K M Q (some ⟨loc.blk,loc.base+i,none⟩) len (if ex then l else l+loc.ext) W x (by split<;>omega) (w':=w')
        (λad e=>by cases e;rw[a9,af];exact r1) (λe=>by cases e)
       refine⟨_,_,w',ι,p _ _ _ I r,.inl rfl,?_,r2,r3⟩;simp only[aQ];exact⟨j,loc,G,rfl⟩
      |false=>
       rw[j]at c;simp only[bu]at c;have j:=Vu j;cases k:(Nat.ble (Nat.mul (len+m) f.w) iA&&Nat.ble (len+m) iA)with
       |false=>rw[k]at c;cases c
       |true=>
        rw[k]at c;simp only[AN]at c;simp only[sA]at k;have g1:(len+m)*f.w<=1099511627776:=pX k.1;have g2:len+m<=1099511627776:=pX k.2;split at c
        ·cases c
        ·rename_i old t;have q:∀C,¬len+m<=C->a.eval N=.slice (some ⟨loc.blk,loc.base+i,none⟩) len C->∀(H1:Hp),HR ι H1 w->Fr ι ι H H1 w w->grow f.z H1 old ⟨m,aU f.zl m⟩ (len+m)=.ok v H'->d6 P o a.eval ι H w (.ok v H'):=by
          intro C hC hxC H1 hH1 hF1 hg;obtain⟨kG,o1,o2,o3,o4⟩:=zys (P:=P) (w:=w.drew) (C:=C) B.drew G t;obtain⟨nc,c1,c2⟩:=SP (P:=P) (w:=w) (ty:=o.type) (k2:=k2) R T X Y K M Q (some ⟨loc.blk,loc.base+i,none⟩) len C W x o4 hC g1 g2;obtain⟨Z,d1,d2,d3⟩:=Io u hH1 o1 o2 x1 x2 (by rw[o3,x3,bz]) hg nc c1 K w.drew rfl;exact⟨_,_,_,Z,p _ _ _ hxC c2,.inl rfl,d1,d2,hF1.trans d3⟩
         cases ex with
         |true=>simp only[AN]at c;exact q l j (by simpa using I) H B (Fr.refl _ _ _) c
         |false=>
          simp only[bu]at c;cases g:jk (H.get b) (i+l*f.z) f.z with
          |false=>rw[g]at c;cases c
          |true=>
           rw[g]at c;simp only[AN]at c;simp only[tq,pz]at I;by_cases A:len+m<=l+loc.ext
           ·obtain⟨w',Z,q1,q2,q3,q4⟩:=zld (P:=P) (x:=⟨m,aU f.zl m⟩) B G g t x1 x2 x3 hlc j A c;have r:=LI (P:=P) (ty:=o.type) (k2:=k2) R T X Y K M Q (some ⟨loc.blk,loc.base+i,none⟩) len (l+loc.ext) W x A (w':=w')
             (λad e=>by cases e;rw[a9];exact q1) (λe=>by cases e)
            exact⟨_,_,w',Z,p _ _ _ I r,.inl rfl,q2,q3,q4⟩
           ·have hwr:(H.get b).wr=true:=by
             unfold jk at g;split at g
             ·rename_i hg;rw[hg];rfl
             ·cases g
            obtain⟨k1,k2⟩:=B.kill (B.lt G) hwr;exact q _ A I _ k1 k2 c
     ·cases c
  ·cases E
def bP(ι:Im)(H:Hp)(w:World)(v:AV)(H':Hp):Ending->World->Prop
 | .returned V,w'=>∃ι',aQ ι' v V/\HR ι' H' w'/\Fr ι ι' H H' w w'
 |_,_=>False
structure eK(P:Program)(O:Call):Prop where
 fn:∀f args H v H',O (.f f) args H=.ok v H'->∀ι w bE,HR ι H w->aK ι args bE ->
  (callFunc f bE.toArray).run P w=.ok (.enter f bE.toArray) w/\∀m,CallsIn Fence.wide m P f bE.toArray w (bP ι H w v H')
 yd:∀b args H v H',O (.y b) args H=.ok v H'->∀ι w bE loc,HR ι H w->aK ι args bE->ι b=some loc ->
  ∃f tmps assign body,(Instr.yield loc.blk bE.toArray).run P w=.ok (.round loc.blk f tmps assign body) w /\
   ∀m,RoundIn Fence.wide m P loc.blk f tmps assign body w (bP ι H w v H')
 df:∀f args H v H',O (.d f) args H=.ok v H'->∀ι w bE,HR ι H w->aK ι args bE ->
  (callFunc f bE.toArray).run P w=.ok (.enter f bE.toArray) w/\∀m,CallsDIn Fence.wide m P f bE.toArray .returning w (λe u' w'=>u'=.returning/\bP ι H w v H' e w')
structure Fence.dZ(F:Fence):Prop where
 eq:∃r,F={Fence.wide with round:=r}
def Fence.aAZ:Fence.dZ Fence.wide:=⟨none,rfl⟩
def Fence.pJ(l:Nat):Fence.dZ (Fence.wide.inRound l):=⟨some l,rfl⟩
variable{W:Fence}
theorem Fence.dZ.fn(h:Fence.dZ W)(f:FuncId):W.fn f:=by obtain⟨r,rfl⟩:=h;trivial
theorem Fence.dZ.depth(h:Fence.dZ W):W.depth=none:=by obtain⟨r,rfl⟩:=h;rfl
def Fence.dZ.calls(h:Fence.dZ W){f:FuncId}{args:Array Value}{R:Ending->World->Prop}(k:CallsIn Fence.wide d P f args w R):CallsIn W d P f args w R:=by obtain⟨r,rfl⟩:=h;exact k
def Fence.dZ.round(h:Fence.dZ W){f:FuncId}{tmps:Array Value}{a b:Code}{R:Ending->World->Prop}(k:RoundIn Fence.wide d P n f tmps a b w R):RoundIn W d P n f tmps a b w R:=by obtain⟨r,rfl⟩:=h;exact k
theorem tD{ρ:Operand->Value}(h:∀c,o.op≠ .defer c):o.semAt W.round ρ=execOp ρ o:=by
 cases W.round with
 |none=>exact Oper.semAt_none ..
 |some l=>exact Oper.semAt_some l ρ o h
def Nx(ι:Im)(H:Hp)(w:World)(a:Act)(o:Oper)(v:AV)(b:Hp)(next:Act->World->Prop):Prop:=
 ∀V w' ι',aQ ι' v V->HR ι' b w'->Fr ι ι' H b w w'->next (a.put o.dst V) w'
variable{Z:Exit->Act->World->Prop}
def v9(j:Fence.dZ W)(k:∀c,o.op≠ .defer c){b:Hp}(h:d6 P o a.eval ι H w (.ok fv b)){next:Act->World->Prop}(d:Nx ι H w a o fv b next):o.wpIn W I P a w next Z:=by
 obtain⟨N,V,w',p,l,n,e,g,i⟩:=h;refine⟨λf _=>j.fn f,?_⟩;rw[tD k,l];rcases n with rfl|⟨rfl,rfl⟩
 ·exact d _ _ _ e g i
 ·exact d _ _ _ e g i
def UV{c:Hp}{next:Act->World->Prop}(d:Nx ι H w a o fv c next):∀e w',bP ι H w fv c e w'->(match e,w' with
   | .returned fv,b=>next (a.put o.dst fv) b
   | .panicked chain,b=>Z (.panic chain) a b
   | .outgrown,_=>LetsOut Z):=by
 intro e w' h;cases e with
 |returned V=>obtain⟨j,f,g,i⟩:=h;exact d _ _ _ f g i
 |panicked=>exact h.elim
 |outgrown=>exact h.elim
def zi7(i:Fence.dZ W){c:Go.Call}(q:o.op=.call c)(r:c.callee=.value N){O:Call}(s:eK P O)(t:HR ι H w)(u:aQ ι fv (a.eval N))(y:aK ι U (c.args.toList.map a.eval)){z:Hp}(h:oV O fv U H=.ok V z){next:Act->World->Prop}(B:Nx ι H w a o V z next):o.wpIn W I P a w next Z:=by
 refine⟨λf _=>i.fn f,?_⟩;rw[tD (by grind)];have d:c.args.map a.eval=(c.args.toList.map a.eval).toArray:=by grind
 unfold oV at h;split at h
 ·rename_i g first D
  obtain⟨A,C,k,E,l⟩:=u;obtain⟨n,p⟩:=s.fn _ _ _ _ _ h ι w (A++c.args.toList.map a.eval++C) t ((k.append y).append E);have:(execOp a.eval o).run P w=.ok (.enter g (A++c.args.toList.map a.eval++C).toArray) w:=by simp only[execOp,q,resolve,r,l,Deferred.ofValue,d];simpa [invoke] using n
  rw[this];exact⟨by simp[i.depth],CallsIn.mono (i.calls (p _)) (UV B)⟩
 ·rename_i b;obtain⟨loc,k,l⟩:=u;obtain⟨f,tmps,e,j,n,p⟩:=s.yd _ _ _ _ _ h ι w _ loc t y k;have:(execOp a.eval o).run P w=.ok (.round loc.blk f tmps e j) w:=by
   simp only[execOp,q,resolve,r,l,Deferred.ofValue,d];simpa [invoke] using n
  rw[this];exact⟨by simp[i.depth],RoundIn.mono (i.round (p _)) (UV B)⟩
 ·cases h
end Go.Ev
end
noncomputable section
namespace Go.Ev
open Go.RowKit
variable {P:Program} {w:World} {ι:Im} {o:Oper} {a:Act} {d n:Nat} {L:TT AV d} {H:Hp} {O:Call} {F:Fence} {m:Nat} {next:Act->World->Prop} {Q:Exit->Act->World->Prop}
variable{h:Call->TT AV d->Hp->R1}{ts:List TypeId}
def xb1{args:List Operand}(c:o.op=.call {callee:=.builtin .append,args:=args.toArray,argTypes:=ts.toArray})(b:rJ P d n args ts=.e h)(e:HR ι H w)(f:LR ι d n L a.tmps):d6 P o a.eval ι H w (h O L H):=by
 unfold rJ at b;split at b
 ·split at b
  ·rename_i g;split at b
   ·grind [xbn]
   ·grind [Yv]
   ·grind [Yv]
   ·cases b;trivial
  ·cases b;trivial
 ·cases b;trivial
def xbs{args:List Operand}(c:o.op=.call {callee:=.builtin .clear,args:=args.toArray,argTypes:=ts.toArray})(b:rz P d n args ts=.e h)(e:HR ι H w)(f:LR ι d n L a.tmps):d6 P o a.eval ι H w (h O L H):=by
 unfold rz at b;split at b
 ·split at b
  ·rename_i g;split at b
   ·grind [znf]
   ·cases b;trivial
  ·cases b;trivial
 ·cases b;trivial
variable{D:List Operand}
theorem xaz(a:rR P d n D ts=.e h):h O L H=.bad:=by
 unfold rR at a;split at a
 ·split at a
  ·cases a
  ·split at a<;>cases a;rfl
  ·cases a
  ·cases a
  ·cases a
  ·cases a;rfl
 ·cases a;rfl
theorem xbv(a:rj P d n D ts=.e h):h O L H=.bad:=by
 unfold rj at a;split at a
 ·split at a
  ·cases a
  ·cases a
  ·cases a;rfl
 ·cases a;rfl
theorem xai(a:rC d n D=.e h):h O L H=.bad:=by
 unfold rC at a;split at a
 ·cases a
 ·cases a;rfl
theorem xak(a:rn d n D=.e h):h O L H=.bad:=by
 unfold rn at a;split at a
 ·cases a
 ·cases a;rfl
def zcx{b:Builtin}{args:Array Operand}{ts:Array TypeId}(e:o.op=.call {callee:=.builtin b,args,argTypes:=ts})(c:w8 P d n b args.toList ts.toList=.e h)(g:HR ι H w)(f:LR ι d n L a.tmps):d6 P o a.eval ι H w (h O L H):=by
 unfold w8 at c;split at c
 ·rw[xaz c];trivial
 ·rw[xbv c];trivial
 ·rw[xai c];trivial
 ·rw[xak c];trivial
 ·exact xb1 (by simpa using e) c g f
 ·exact xbs (by simpa using e) c g f
 ·cases c;trivial
def XY(b:lZ P d n o=.e h)(u:eK P O)(q:Fence.dZ F)(k:HR ι H w)(f:LR ι d n L a.tmps){v:AV}{y:Hp}(i:h O L H=.ok v y)(r:Nx ι H w a o v y next):o.wpIn F m P a w next Q:=by
 have A:iZ d=.e h->False:=λe=>by cases e;cases i
 unfold lZ at b;split at b
 ·cases b
 ·cases b
 ·cases b
 ·grind [EC]
 ·grind [DB]
 ·grind [Ez]
 ·grind [E6,grind]
 ·grind [IH]
 ·rename_i c;refine v9 q (by grind) ?_ r;unfold EH at b;split at b
  ·rename_i l j p s;cases b;have:=zvq (P:=P) c j k f;rw[p,s]at this;rw[<-i];exact this
  ·rename_i l j p s;cases b;have:=zvr (P:=P) c j k f;rw[p,s]at this;rw[<-i];exact this
  ·grind
 ·cases b
 ·cases b
 ·cases b
 ·grind [Gw]
 ·grind [ET]
 ·cases b
 ·cases b
 ·grind [Ff,grind]
 ·grind [EI]
 ·grind [Fh]
 ·grind [EK]
 ·grind [Fg]
 ·grind [EJ]
 ·grind [H9]
 ·rename_i c;refine v9 q (by grind) ?_ r;unfold v5 at b;split at b
  ·rename_i l j p s;split at b
   ·rename_i t;cases b;have:=Vt (P:=P) (.inl c) l t k f;rw[j,p,s]at this;rw[<-i];exact this
   ·grind
  ·grind
 ·rename_i c;refine v9 q (by grind) ?_ r;unfold v5 at b;split at b
  ·rename_i l j p s;split at b
   ·rename_i t;cases b;have:=Vt (P:=P) (.inr c) l t k f;rw[j,p,s]at this;rw[<-i];exact this
   ·grind
  ·grind
 ·rename_i c;refine v9 q (by grind) ?_ r;unfold Fy at b;split at b
  ·rename_i l j p;split at b
   ·rename_i t B;cases b;have:=z1v (P:=P) c l t B k f;rw[j,p]at this;rw[<-i];exact this
   ·grind
  ·grind
 ·rename_i c;refine v9 q (by grind) ?_ r;cases b;rw[<-i];exact zne c k f
 ·cases b
 ·rename_i c;refine v9 q (by grind) ?_ r;rw[<-i];exact zcx c b k f
 ·rename_i g args ts c;unfold EL at b;split at b
  ·cases b
  ·rename_i C l j;cases b;have z:=kz f args.toList;rw[l]at z;refine zi7 q c rfl u k (fv:=.fn g [] []) ?_ z ?_ r
   ·simp only[aQ,aK];exact⟨[],[],rfl,rfl,rfl⟩
   ·simpa [oV] using i
 ·rename_i x args ts _ c;cases b;exact zi7 q c rfl u k (gH f x) (kz f _) i r
 ·grind
end Go.Ev
end
noncomputable section
namespace Go.Ev
open Go.RowKit
variable {P:Program} {w:World} {ι:Im} {o:Oper} {a:Act} {d n:Nat} {L:TT AV d} {H:Hp} {O:Call} {F:Fence} {m:Nat} {K:Act->World->Prop} {Q:Exit->Act->World->Prop} {ops:Array Oper}
def t6(h:LR ι d n L a.tmps)(t:Option Tmp){v:AV}{V:Value}(b:aQ ι v V):LR ι d n ((eO d n t).f L v) (a.put t V).tmps:=by
 cases t with
 |none=>exact h
 |some t=>
  unfold eO;simp only[Act.put];cases c:Nat.blt t n with
  |true=>simp only[AN];exact h.set (yS c) b
  |false=>
   grind [Array.setIfInBounds_eq_of_size_le,h.size,uz,xf]
theorem ay(a:Act)(t:Option Tmp)(V:Value):(a.put t V).defers=a.defers:=by cases t<;>rfl
theorem BA(h:LR ι d n L a.tmps){b:Bool}(c:(yE d n ops o).f L=some b):Region.wanted o (yielded ops a.tmps)=b:=by
 unfold yE at c;unfold Region.wanted;split at c
 ·grind
 ·rename_i j i p;rw[p];simp only;split at c
  ·rename_i t r;cases l:Nat.blt t n with
   |false=>rw[l]at c;cases c
   |true=>
    rw[l]at c;simp only[AN]at c;have k:=yS l;have f:=h.get t k;have m:yielded ops a.tmps j=(match a.tmps[t]? with|some (.bool b)=>some b|_=>none):=by grind [yielded]
    have g:t<a.tmps.size:=by grind [h.size]
    rw[m];rw[sP,uu g]at f;rw[uu g];simp only[Option.getD_some]at f;split at c
    ·rename_i q e;rw[e]at f;rw[f];simp only[AH]at c;rw[<-c];cases q<;>cases i<;>rfl
    ·rename_i e;rw[e]at f;rw[f]
     grind
    ·cases c
  ·cases c
def ra(ι:Im)(H:Hp)(w:World)(a:Act)(d n:Nat)(c:TT AV d)(b:Hp)(K:Act->World->Prop):Prop:=
 ∀a' w' ι',LR ι' d n c a'.tmps->a'.defers=a.defers->HR ι' b w'->Fr ι ι' H b w w'->K a' w'
theorem Qg{lk:Bool}{f:Nat->TT AV d->Hp->R0}(p:lZ P d n o=.q lk f)(C:Fence.dZ F)(j:HR ι H w)(h:LR ι d n L a.tmps){i:TT AV d->AV->TT AV d}(N:eO d n o.dst=⟨i⟩){z:TT AV d}{A:Hp}(k:sk i L H (f H.nx L H)=.ok z A)(B:ra ι H w a d n z A K):o.wpIn F m P a w K Q:=by
 have q:=Nr (nm:=H.nx) p j h;have t:∀c,o.op≠ .defer c:=λc D=>by unfold lZ at p;rw[D]at p;cases p
 have e:∀{r:Im} (_:ι.le r) {v:AV} {V:Value},aQ r v V->LR r d n (i L v) (a.put o.dst V).tmps:=λs v V E=>by have:=t6 (a:=a) (h.mono s) o.dst E;simp_all
 refine⟨λf _=>C.fn f,?_⟩;rw[tD t];unfold sk at k;split at k
 ·cases k
 ·rename_i v x;rw[x]at q;obtain⟨V,y,g⟩:=q;rw[y];cases k;exact B _ _ ι (e (Im.le_refl _) g) (ay ..) j (Fr.refl ..)
 ·rename_i v b x;rw[x]at q
  ·
   cases k;obtain⟨V,w',l,y,g,G⟩:=q;rw[y];have u:fD (H.nx):=vG;obtain⟨I,J⟩:=G (ι.set H.nx l) (Im.jS l (j.fresh _ (AF _))) (Im.dH ..);obtain⟨M,k2⟩:=j.push u l b g.os g.tape g.output (by rw[g.size];exact qh _) g.keep g.blk J;exact B _ _ _ (e (Im.jS l (j.fresh _ (AF _))) I) (ay ..) M k2
def ztp(C:eK P O)(u:Fence.dZ F)(y:HR ι H w)(h:LR ι d n L a.tmps){r:TT AV d}{s:Hp}(e:(th P d n ops o).f O L H=.ok r s)(z:ra ι H w a d n r s K):if Region.wanted o (yielded ops a.tmps)then o.wpIn F m P a w K Q else(∀f,o.about P w a.eval=some f->F.fn f)/\K (a.put o.dst Go.undef) w:=by
 have i:∀{b:TT AV d->AV->TT AV d} (_:eO d n o.dst=⟨b⟩) {j:Im} (_:ι.le j) {v:AV} {V:Value},aQ j v V->LR j d n (b L v) (a.put o.dst V).tmps:=λg j x v V D=>by have:=t6 (a:=a) (h.mono x) o.dst D;simp_all
 have l:∀{b:TT AV d->AV->TT AV d} (_:eO d n o.dst=⟨b⟩),r=b L .undef->s=H->K (a.put o.dst Go.undef) w:=λg E G=>by subst E;subst G;exact z _ _ ι (i g (Im.le_refl _) (by simp only[aQ];rfl)) (ay ..) y (Fr.refl ..)
 have B:∀{b:TT AV d->AV->TT AV d} (_:eO d n o.dst=⟨b⟩) {f:Call->TT AV d->Hp->R1} (_:lZ P d n o=.e f),sj b L (f O L H)=.ok r s->o.wpIn F m P a w K Q:=λg f k t=>by
  unfold sj at t;split at t
  ·cases t
  ·rename_i v H1 M;cases t;exact XY k C u y h M λV w' j I J A=>z _ _ j (i g A.le I) (ay ..) J A
 unfold th at e;split at e
 ·rename_i f b k p g;simp only[Region.wanted,p,ai]
  grind [Qg]
 ·rename_i f b k p g;simp only[Region.wanted,p,ai];simp_all
 ·rename_i f _ N b k p q g;simp only[mV]at e;split at e
  ·rename_i c;rw[BA (o:=o) (ops:=ops) h (by rw[q];exact c),sB rfl]
   grind [Qg]
  ·rename_i c;rw[BA (o:=o) (ops:=ops) h (by rw[q];exact c)];cases e;exact⟨λf _=>u.fn f,l g rfl rfl⟩
  ·cases e
 ·rename_i f _ N b k p q g;simp only[mV]at e;split at e
  ·rename_i c;rw[BA (o:=o) (ops:=ops) h (by rw[q];exact c),sB rfl];simp_all
  ·rename_i c;rw[BA (o:=o) (ops:=ops) h (by rw[q];exact c)];cases e;exact⟨λf _=>u.fn f,l g rfl rfl⟩
  ·cases e
end Go.Ev
end
noncomputable section
namespace Go.Ev
open Go.RowKit
theorem Mx(m i:Nat):aa m i=m.testBit i:=by unfold aa Nat.testBit;rw[show Nat.land (Nat.shiftRight m i) 1=(m >>> i) &&& 1 from rfl,Nat.and_comm 1,Nat.and_one_is_mod];rcases Nat.mod_two_eq_zero_or_one (m >>> i)with h|h<;>rw[h]<;>rfl
theorem Nh(a b i:Nat):aa (Nat.lor a b) i=(aa a i||aa b i):=by simp only[Mx];exact Nat.testBit_or a b i
theorem Bg(m j i:Nat):aa (vY m j) i=(aa m i||decide (j=i)):=by unfold vY;rw[Nh];congr 1;rw[Mx,show Nat.shiftLeft 1 j=1 <<< j from rfl,Nat.one_shiftLeft,Nat.testBit_two_pow]
theorem QA(i:Nat):aa 0 i=false:=by grind [Mx]
variable{D h:Nat}
theorem zto(m:u7 h D=true){i:Nat}(a:aa h i=true):aa D i=true:=by
 have:=AK m
 grind [Nh]
theorem SL(l:List Oper):∀ms i,i<ms.length->(cW ms l).getD i 0=ms.getD i 0:=by
 induction l with
 |nil=>intro ms i _;rfl
 |cons o r ih=>intro ms i a;rw[cW,ih _ _ (by simp;omega),vt,vt,sX a]
theorem SF{ms a:List Nat}:∀(l:List Nat) (s:Nat),(∀j∈l,ms.getD j 0=a.getD j 0) -> l.foldl (λs j=>Nat.lor (vY s j) (ms.getD j 0)) s=l.foldl (λs j=>Nat.lor (vY s j) (a.getD j 0)) s
 | [],_,_=>rfl
 |j::l,s,h=>by simp only[uh];rw[h j (by simp)];exact SF l _ λx b=>h x (by simp[b])
def qz2(l:List Oper):∀ms i o,l[i]? =some o->(∀j∈zM o,j<ms.length+i)->(cW ms l).getD (ms.length+i) 0=EN (cW ms l) o:=by
 induction l with
 |nil=>intro ms i o h;simp at h
 |cons o' r ih=>
  intro ms i o h b;rw[cW];cases i with
  |zero=>simp at h;subst h;rw[bf,SL _ _ _ (by simp)];simp only[vt,List.getElem?_concat_length,Option.getD_some];refine SF _ _ λj a=>?_;have:=b j a;rw[SL _ _ _ (by simp;omega),vt,vt,sX this]
  |succ i=>
   grind
theorem QB(ms:List Nat)(k:Nat):∀(l:List Nat) (s:Nat),aa (l.foldl (λs j=>Nat.lor (vY s j) (ms.getD j 0)) s) k=true↔aa s k=true\/∃j∈l,k=j\/aa (ms.getD j 0) k=true
 | [],s=>by simp
 |j::l,s=>by
  rw[uh,QB ms k l,Nh,Bg]
  grind
theorem q5m(ms:List Nat)(o:Oper)(k:Nat):aa (EN ms o) k=true↔∃j∈zM o,k=j\/aa (ms.getD j 0) k=true:=by unfold EN;rw[QB,QA];simp
theorem Qt:∀(l:List Oper) (k:Nat),Af k l=true->∀i o,l[i]? =some o->∀j∈zM o,j<k+i
 | [],_,_,i,o,h,j,hj=>by simp at h
 |o'::r,k,hb,i,o,h,j,hj=>by
  simp only[Af,sA,lEN]at hb;cases i with
  |zero=>simp at h;subst h;exact eQ (hb.1 j hj)
  |succ i=>simp at h;have:=Qt r (k+1) hb.2 i o h j hj;omega
structure Edg(ops:Array Oper)(ms:List Nat):Prop where
 back:∀i o,ops[i]? =some o->∀j∈zM o,j<i
 mask:∀i o k,ops[i]? =some o->(aa (ms.getD i 0) k=true↔∃j∈zM o,k=j\/aa (ms.getD j 0) k=true)
 tmps:∀i k o' o t,ops[i]? =some o'->ops[k]? =some o->o'.dst=some t->i=k\/aa (ms.getD k 0) i=true\/aa (ms.getD i 0) k=true\/(t∉mP ops o/\o.dst≠some t)
def Edg.of{ops:Array Oper}(n:Af 0 ops.toList=true)(b:EF ops (cW [] ops.toList)=true):Edg ops (cW [] ops.toList):=by
 have m:∀i o,ops[i]? =some o->∀j∈zM o,j<i:=λi o h j c=>by have:=Qt ops.toList 0 n i o (by simpa using h) j c;omega
 refine⟨m,λi o k h=>?_,λi k q o t g l p=>?_⟩
 ·have:=qz2 ops.toList [] i o (by simpa using h) (λj c=>by have:=m i o h j c;simpa using this);simp only[DP,nr]at this;rw[this,q5m]
 ·unfold EF at b;rw[lEN]at b;have d:k<ops.size:=(lIU.1 l).1;have e:i<ops.size:=(lIU.1 g).1;have f:=b k (lOF.2 d);rw[l]at f;simp only[lEN]at f;have a:=f i (lOF.2 e);rw[g]at a;simp only[p,ny,dh,AU]at a;rcases a with((a|a)|a)|a
  ·simp_all
  ·simp_all
  ·simp_all
  ·simp_all
variable {ops:Array Oper} {ms:List Nat}
variable{E:Oper}
def Edg.ex(i:Edg ops ms)(a:ops[h]? =some E)(b:D∈zM E):∃c,ops[D]? =some c:=by
 have d:=i.back h E a D b
 grind
def Edg.aKh(h:Edg ops ms):∀i o k,ops[i]? =some o->aa (ms.getD i 0) k=true->k<i:=by
 intro i
 induction i using Nat.strongRecOn with
 |ind i ih=>
  intro o k a c;obtain⟨j,d,e⟩:=(h.mask i o k a).1 c;have b:=h.back i o a j d
  grind
def cz(ops:Array Oper)(S:Nat->Prop):Prop:=∀i o,ops[i]? =some o->S i->∀j∈zM o,S j
variable{F:Nat->Prop}
def Edg.yY(h:Edg ops ms)(l:cz ops F):∀i o k,ops[i]? =some o->(∀j∈zM o,F j)->aa (ms.getD i 0) k=true->F k:=by
 intro i
 induction i using Nat.strongRecOn with
 |ind i ih=>
  intro o k d f m;obtain⟨j,b,e⟩:=(h.mask i o k d).1 m;have c:=h.back i o d j b;rcases e with rfl|e
  ·exact f _ b
  ·obtain⟨g,a⟩:=h.ex d b;exact ih j c g k a (l j g a (f j b)) e
def Edg.uO(i:Edg ops ms)(a:cz ops F)(b:ops[h]? =some E)(c:F h)(d:aa (ms.getD h 0) D=true):F D:=
 i.yY a h E D b (a h E b c) d
theorem S5{L a:TT AV h}:∀(ts:List Tmp),(∀t∈ts,t<D->(dV h t).f L=(dV h t).f a)->(oQ h D ts).f L=(oQ h D ts).f a
 | [],_=>rfl
 |t::r,d=>by
  unfold oQ;have ih:=S5 r λx b=>d x (by simp[b]);cases c:Nat.blt t D with
  |true=>simp_all
  |false=>simp only[bu];exact ih
theorem UU{d n:Nat}(c:n<=8 ^ d){L:TT AV d}{i:Nat}(b:i<8 ^ d):∀(ts:List Tmp),(dV d i).f ((oQ d n ts).f L)=if i∈ts/\i<n then(dV d i).f L else .undef
 | []=>by simp[oQ,wR]
 |t::r=>by
  unfold oQ;have ih:=UU (n:=n) c (L:=L) b r;cases a:Nat.blt t n with
  |true=>
   simp only[AN];rw[je _ _ _ _ _ b (by have:=yS a;omega)];by_cases e:i=t
   ·simp_all
   ·simp_all
  |false=>
   simp only[bu];rw[ih];have a:=xf a
   grind
def dy(ts:List Tmp)(tmps:Array Value):Array Value:=Array.ofFn (n:=tmps.size) λi=>if i.1∈ts then tmps[i]else Go.undef
theorem E7(ts:List Tmp)(tmps:Array Value):(dy ts tmps).size=tmps.size:=by simp[dy]
theorem Mp(ts:List Tmp)(tmps:Array Value)(i:Nat):(dy ts tmps).getD i Go.undef=if i∈ts then tmps.getD i Go.undef else Go.undef:=by
 simp only[dy,sP,Array.getElem?_ofFn]
 grind
def LR.proj{ι:Im}{L:TT AV h}{tmps:Array Value}(d:LR ι h D L tmps)(ts:List Tmp):LR ι h D ((oQ h D ts).f L) (dy ts tmps):=by
 refine⟨by rw[E7,d.size],d.fits,λi a=>?_⟩;rw[UU d.fit (AE a d.fit),Mp];have c:=d.get i a;by_cases b:i∈ts
 ·grind
 ·rw[sy (by simp[b]),sy b];simp only[aQ];rfl
def zm2(a:Act)(ts:List Tmp)(x:Operand)(b:∀t,XV x=some t->t∈ts):({a with tmps:=dy ts a.tmps}:Act).eval x=a.eval x:=by
 cases x with
 |tmp t=>have:=b t rfl;show(dy ts a.tmps).getD t Go.undef=a.tmps.getD t Go.undef;rw[Mp,sB this]
 |_=>rfl
theorem qx5(a:Act)(o:Oper):Region.wanted o (yielded ops (dy (mP ops o) a.tmps))=Region.wanted o (yielded ops a.tmps):=by
 unfold Region.wanted;cases i:o.guard with
 |none=>rfl
 |some gw=>
  obtain⟨g,d⟩:=gw;have h:yielded ops (dy (mP ops o) a.tmps) g=yielded ops a.tmps g:=by
   unfold yielded;cases j:(ops[g]?).bind (·.dst)with
   |none=>rfl
   |some t=>
    have f:t∈mP ops o:=by grind [mP]
    show(match(dy (mP ops o) a.tmps)[t]? with|some (.bool b)=>some b|_=>none)=(match a.tmps[t]? with|some (.bool b)=>some b|_=>none);have c:=Mp (mP ops o) a.tmps t;rw[sB f]at c;rw[sP,sP]at c;by_cases e:t<a.tmps.size
    ·rw[uu (by grind [E7]),uu e]at c ⊢;simp_all
    ·rw[Array.getElem?_eq_none (by grind [E7,uz]),Array.getElem?_eq_none (uz e)]
  grind
theorem Mz(a:Act)(o:Oper)(c:∀cs b,o.op≠ .select cs b):execOp ({a with tmps:=dy (mP ops o) a.tmps}:Act).eval o=execOp a.eval o:=
 execOp_congr o c λx d=>zm2 a _ x λt e=>by exact uw _ (List.mem_filterMap.2 ⟨x,by simpa using d,e⟩)
variable{P:Program}
def q5i{args:List Operand}{ts:List TypeId}{f:Nat->TT AV h->Hp->R0}(a:rR P h D args ts=.q false f)(nm:Nat)(L:TT AV h)(H b:Hp):f nm L H=f nm L b:=by
 unfold rR at a;split at a
 ·split at a
  ·cases a;rfl
  ·split at a<;>cases a;rfl
  ·cases a;rfl
  ·cases a;rfl
  ·cases a
  ·cases a
 ·cases a
theorem T3{f:Nat->TT AV h->Hp->R0}(a:lZ P h D E=.q false f)(nm:Nat)(L:TT AV h)(H b:Hp):f nm L H=f nm L b:=by
 unfold lZ at a;split at a
 all_goals first
  |(cases a;done)
  |(cases a;rfl)
  |((first|unfold X3 at a|unfold X2 at a|unfold EC at a|unfold DB at a|unfold Ez at a|unfold IH at a|unfold EH at a|unfold Uo at a|unfold zym at a|unfold X0 at a|unfold Gw at a|unfold ET at a|unfold Up at a|unfold R5 at a|unfold EI at a|unfold Fh at a|unfold EK at a|unfold Fg at a|unfold EJ at a|unfold H9 at a|unfold v5 at a|unfold Fy at a|unfold S3 at a|unfold R6 at a|unfold rj at a|unfold rC at a|unfold rn at a|unfold rJ at a|unfold rz at a|unfold EL at a);(repeat' split at a)<;>first|(cases a;done)|(cases a;rfl))
  |(unfold E6 at a;simp only[Bool.cond_eq_ite]at a;(repeat' split at a)<;>first|(cases a;done)|(cases a;rfl))
  |(unfold Ff at a;simp only[Bool.cond_eq_ite]at a;(repeat' split at a)<;>first|(cases a;done)|(cases a;rfl))
  |skip
 unfold w8 at a;split at a
 ·exact q5i a nm L H b
 all_goals first
  |(cases a;done)
  |((first|unfold rj at a|unfold rC at a|unfold rn at a|unfold rJ at a|unfold rz at a);(repeat' split at a)<;>first|(cases a;done)|(cases a;rfl))
end Go.Ev
end
noncomputable section
namespace Go.Ev
open Go.RowKit
structure CS(d:Nat) where
 L:TT AV d
 H:Hp
 pend:List Pd
 jY:List Wt
variable {P:Program} {d n:Nat} {O:Call} {base:Nat} {ops:Array Oper} {ms:List Nat}
theorem T2:∀(b:List Nat) (s:CS d) {c:TT AV d} {e:Hp} {f:List Pd} {w':List Wt},(vW P d n ops ms b).f O base s.L s.H s.pend s.jY=.ok c e f w' -> ∃a:Nat->CS d,a 0=s/\a b.length=⟨c,e,f,w'⟩/\∀q i,b[q]? =some i->∃o,ops[i]? =some o /\ (pp P d n ops i (ms.getD i 0) o).f O base (a q).L (a q).H (a q).pend (a q).jY=.ok (a (q+1)).L (a (q+1)).H (a (q+1)).pend (a (q+1)).jY
 | [],s,c,e,f,w',h=>by cases h;exact⟨λ_=>s,rfl,rfl,λq i g=>by simp at g⟩
 |i::r,s,c,e,f,w',h=>by
  unfold vW at h;split at h
  ·rename_i o m;simp only[NA]at h;split at h
   ·cases h
   ·rename_i L1 H1 p1 w1 p;obtain⟨a,t,k,l⟩:=T2 r ⟨L1,H1,p1,w1⟩ h;refine⟨λq=>match q with|0=>s|q+1=>a q,rfl,k,λq j g=>?_⟩;cases q with
    |zero=>simp_all
    |succ q=>simp at g;exact l q j g
  ·cases h
inductive qls(P:Program)(d n:Nat)(O:Call)(base:Nat)(ops:Array Oper)(i A:Nat)(o:Oper)(s s':CS d):AV->Option cZ->Bool->Prop
 |skip:(yE d n ops o).f ((oQ d n (mP ops o)).f s.L)=some false->s'=⟨(eO d n o.dst).f s.L .undef,s.H,s.pend,s.jY⟩->qls P d n O base ops i A o s s' .undef none false
 |val (lk:Bool) (f:Nat->TT AV d->Hp->R0) (v:AV):lZ P d n o=.q lk f->(yE d n ops o).f ((oQ d n (mP ops o)).f s.L)=some true ->
   f (base+i) ((oQ d n (mP ops o)).f s.L) (eB A s.pend s.H)=.val v ->
   s'=⟨(eO d n o.dst).f s.L v,s.H,s.pend,bif lk then⟨i,A,f (base+i) ((oQ d n (mP ops o)).f s.L),v⟩::s.jY else s.jY⟩->qls P d n O base ops i A o s s' v none false
 |new (f:Nat->TT AV d->Hp->R0) (v:AV) (b:cZ):lZ P d n o=.q false f->jl o.op=true->b.wr=true->(yE d n ops o).f ((oQ d n (mP ops o)).f s.L)=some true ->
   f (base+i) ((oQ d n (mP ops o)).f s.L) (eB A s.pend s.H)=.new v b ->
   s'=⟨(eO d n o.dst).f s.L v,s.H,⟨i,base+i,b⟩::s.pend,s.jY⟩->qls P d n O base ops i A o s s' v (some b) false
 |nR (f:Call->TT AV d->Hp->R1) (v:AV) (H':Hp):lZ P d n o=.e f->(yE d n ops o).f ((oQ d n (mP ops o)).f s.L)=some true ->
   f O ((oQ d n (mP ops o)).f s.L) (eB A s.pend s.H)=.ok v H'->eR (sK A s.pend) H' (sS A s.jY)=true ->
   s'=⟨(eO d n o.dst).f s.L v,H',sK A s.pend,sS A s.jY⟩->qls P d n O base ops i A o s s' v none true
def ztq{i A:Nat}{o:Oper}{s a:CS d}(h:(pp P d n ops i A o).f O base s.L s.H s.pend s.jY=.ok a.L a.H a.pend a.jY):∃v b k,qls P d n O base ops i A o s a v b k:=by
 unfold pp at h;split at h
 ·rename_i lk f q w e j r t u;simp only at h;unfold qX at h;have z:(oQ d n (mP ops o)).f=q:=by rw[r]
  have B:(yE d n ops o).f=w:=by rw[t]
  have g:(eO d n o.dst).f=e:=by rw[u]
  split at h
  ·cases h
  ·rename_i x;obtain⟨l,m,p,w'⟩:=a;cases h;exact⟨_,_,_,.skip (by grind) (by rw[g])⟩
  ·rename_i x;split at h
   ·cases h
   ·rename_i v y;obtain⟨l,m,p,w'⟩:=a;cases h;exact⟨_,_,_,.val lk f v j (by grind) (by grind) (by grind)⟩
   ·rename_i v b y;cases c:(jl o.op&& !lk&&b.wr)with
    |false=>rw[c]at h;cases h
    |true=>rw[c]at h;simp only[sA,dh]at c;obtain⟨⟨C,D⟩,E⟩:=c;subst D;obtain⟨l,m,p,w'⟩:=a;cases h;exact⟨_,_,_,.new f v b j C E (by grind) (by grind) (by rw[g])⟩
 ·rename_i f q w e j r t u;simp only at h;unfold eX at h;have z:(oQ d n (mP ops o)).f=q:=by rw[r]
  have B:(yE d n ops o).f=w:=by rw[t]
  have g:(eO d n o.dst).f=e:=by rw[u]
  split at h
  ·cases h
  ·rename_i x;obtain⟨l,m,p,w'⟩:=a;cases h;exact⟨_,_,_,.skip (by grind) (by rw[g])⟩
  ·rename_i x;split at h
   ·cases h
   ·rename_i v H1 y;cases c:eR (sK A s.pend) H1 (sS A s.jY)with
    |false=>rw[c]at h;cases h
    |true=>rw[c]at h;simp only[AN]at h;obtain⟨l,m,p,w'⟩:=a;simp only[Rx.ok.injEq]at h;obtain⟨g1,g2,g3,g4⟩:=h;subst g1;subst g2;subst g3;subst g4;exact⟨_,_,_,.nR f v _ j (by grind) (by grind) c (by rw[g])⟩
def UO(l:List Oper):∀(k i:Nat) (o:Oper),l[i]? =some o->(z0 P d n ms k l)[i]? =some (Kd.mk (k+i) (ms.getD (k+i) 0) (mZ (lZ P d n o)) (Dy (lZ P d n o))):=by
 induction l with
 |nil=>intro k i o h;simp at h
 |cons o' r ih=>
  intro k i o h;cases i with
  |zero=>simp at h;subst h;simp[z0]
  |succ i=>
   simp only[z0,xu]
   grind
theorem UW{ks:List Kd}:∀(l:List Nat) (D E:Nat),C5 ops ks D E l=true->∀q i,l[q]? =some i->∃o k,ops[i]? =some o/\ks[i]? =some k /\ (∀j∈zM o,aa D j=true\/j∈l.take q)/\aa D i=false/\i∉l.take q /\ ((k.nR=true\/k.lk=true)->∀e,(aa E e=true\/(e∈l.take q/\∃c,ks[e]? =some c/\c.nR=true))->aa k.A e=true)
 | [],D,E,h,q,i,hq=>by simp at hq
 |i'::r,D,E,h,q,i,hq=>by
  unfold C5 at h;split at h
  ·rename_i o k p n;simp only[sA,lEN,dh,ny]at h;obtain⟨⟨⟨s,t⟩,B⟩,u⟩:=h;cases q with
   |zero=>
    simp at hq;subst hq;refine⟨o,k,p,n,λj g=>.inl (s j g),t,by simp,λm e a=>?_⟩;have A:u7 E k.A=true:=by grind
    grind [zto]
   |succ q=>
    obtain⟨v,w,x,y,C,d,F,z⟩:=UW r _ _ u q i hq;rw[Bg]at d;simp only[AU,oq]at d;refine⟨v,w,x,y,λj g=>?_,d.1,?_,λm e a=>z m e ?_⟩
    ·grind [Bg,grind]
    ·grind
    ·rcases a with a|⟨a,c,b,f⟩
     ·left;cases k.nR with
      |true=>simp only[AN];rw[Bg,a];rfl
      |false=>exact a
     ·simp only[qx,lE4]at a;rcases a with rfl|a
      ·left;rw[n]at b;cases b;rw[f];simp only[AN];rw[Bg];simp
      ·simp_all
  ·cases h
theorem M3:∀(m:Nat) (l:List Nat),l.Nodup->(∀x∈l,x<m)->l.length<=m
 |0,l,_,h=>by
  cases l with
  |nil=>simp
  |cons a l=>have:=h a (by simp);omega
 |m+1,l,hn,h=>by
  by_cases d:m∈l
  ·have c:=M3 m (l.erase m) (hn.erase m) λx b=>by
    grind
   simp_all
  ·have:=M3 m l hn λx b=>by
    grind
   omega
structure Can(P:Program)(d n:Nat)(O:Call)(base:Nat)(ops:Array Oper)(ms:List Nat)(st:Nat->CS d)(pos:Nat->Nat)(V:Nat->AV)(B:Nat->Option cZ)(K:Nat->Bool):Prop where
 edg:Edg ops ms
 plt:∀i,i<ops.size->pos i<ops.size
 inj:∀i j,i<ops.size->j<ops.size->pos i=pos j->i=j
 aZs:∀q,q<ops.size->∃i,i<ops.size/\pos i=q
 step:∀i o,ops[i]? =some o->qls P d n O base ops i (ms.getD i 0) o (st (pos i)) (st (pos i+1)) (V i) (B i) (K i)
 edge:∀i o,ops[i]? =some o->∀j∈zM o,pos j<pos i
 nR:∀i o e oe,ops[i]? =some o->ops[e]? =some oe->mZ (lZ P d n oe)=true->(mZ (lZ P d n o)=true\/Dy (lZ P d n o)=true)->pos e<pos i->aa (ms.getD i 0) e=true
theorem Can.of{pl:PK}(p:tp P d n ops=some pl){s:CS d}{W:TT AV d}{X:Hp}{Y:List Pd}{w':List Wt}(h:(vW P d n ops pl.ms pl.ord).f O base s.L s.H s.pend s.jY=.ok W X Y w'):∃t a V B K,Can P d n O base ops pl.ms t a V B K/\t 0=s/\t ops.size=⟨W,X,Y,w'⟩/\pl.up=(bif ops.toList.any (λo=>jl o.op)then ops.size else 0):=by
 unfold tp at p;simp only at p;generalize U:z0 P d n (cW [] ops.toList) 0 ops.toList=ks at p;generalize O7 (znd ks) ks.length 0 ks=ord at p;cases M:(Af 0 ops.toList&&EF ops (cW [] ops.toList)&&Nat.beq ord.length ops.size&&C5 ops ks 0 0 ord)with
 |false=>rw[M]at p;cases p
 |true=>
  rw[M]at p;simp only[AN,AH]at p;subst p;simp only[sA]at M;obtain⟨⟨⟨c1,c2⟩,S⟩,c4⟩:=M;have S:=AK S;obtain⟨t,a1,a2,a3⟩:=T2 ord s h;have u:=UW ord 0 0 c4;have y:ord.Nodup:=by
   refine lEL.2 λi j w r hij e=>?_;obtain⟨o,k,_,_,_,_,b5,_⟩:=u j ord[j] (j0 r)
   grind [List.mem_take_iff_getElem]
  have G:∀x∈ord,x<ops.size:=λx N=>by
   obtain⟨q,I,e⟩:=ku N;obtain⟨o,k,L,_⟩:=u q x (by rw[j0 I,e])
   grind
  have H:∀i,i<ops.size->i∈ord:=λi w=>Classical.byContradiction λQ=>by
   have:=M3 ops.size (i::ord) (lOI.2 ⟨Q,y⟩) λx N=>by grind
   simp at this;omega
  have g:∀i,∃q v b k,i<ops.size->ord[q]? =some i/\∀o,ops[i]? =some o->qls P d n O base ops i ((cW [] ops.toList).getD i 0) o (t q) (t (q+1)) v b k:=λi=>by
   by_cases w:i<ops.size
   ·obtain⟨q,I,e⟩:=ku (H i w);have l:ord[q]? =some i:=by grind
    obtain⟨o,f,hs⟩:=a3 q i l;obtain⟨v,b,k,hk⟩:=ztq hs;exact⟨q,v,b,k,λ_=>⟨l,λZ C=>by rw[f]at C;cases C;exact hk⟩⟩
   ·exact⟨0,.undef,none,false,λh=>absurd h w⟩
  let a:=λi=>Classical.choose (g i)
  let V:=λi=>Classical.choose (sZ (g i))
  let B:=λi=>Classical.choose (sZ (sZ (g i)))
  let K:=λi=>Classical.choose (sZ (sZ (sZ (g i))))
  have c:∀i,i<ops.size->ord[a i]? =some i/\∀o,ops[i]? =some o->qls P d n O base ops i ((cW [] ops.toList).getD i 0) o (t (a i)) (t (a i+1)) (V i) (B i) (K i):=λi=>
   sZ (sZ (sZ (sZ (g i))))
  have m:∀{i o},ops[i]? =some o->i<ops.size:=λh=>(lIU.1 h).1;have Na:∀j q,j<ops.size->j∈ord.take q->a j<q:=λj q r D=>by
   rw[List.mem_take_iff_getElem]at D;obtain⟨x,N,e⟩:=D;have z:=(c j r).1;have h2:ord[x]? =some j:=by rw[j0 (by omega),e]
   have A:a j<ord.length:=(lAL.1 z).1;have:a j=x:=(List.getElem?_inj A y).1 (z.trans h2.symm);omega
  have T:∀j q,j<ops.size->a j<q->j∈ord.take q:=λj q r I=>by have z:=(c j r).1;obtain⟨hl,e⟩:=lAL.1 z;rw[List.mem_take_iff_getElem];exact⟨a j,by omega,e⟩
  refine⟨t,a,V,B,K,⟨Edg.of c1 c2,λi w=>?_,λi j w r e=>?_,λq I=>?_,λi o f=>(c i (m f)).2 o f,λi o f j r=>?_,λi o e oe f E he R F=>?_⟩,a1,by rw[<-S];exact a2,rfl⟩
  ·have:=(lAL.1 (c i w).1).1;omega
  ·grind
  ·have l:q<ord.length:=by omega
   have D:ord[q]∈ord:=sx l;refine⟨ord[q],G _ D,?_⟩;have z:=(c _ (G _ D)).1;have A:=(lAL.1 z).1;exact(List.getElem?_inj A y).1 (z.trans (j0 l).symm)
  ·obtain⟨Z,k,L,b2,b3,_⟩:=u (a i) i (c i (m f)).1;rw[f]at L;cases L;have hlj:j<ops.size:=vk ((Edg.of c1 c2).back i o f j r) (m f);rcases b3 j r with b|b
   ·rw[QA]at b;cases b
   ·simp_all
  ·obtain⟨Z,k,L,b2,b3,b4,b5,b6⟩:=u (a i) i (c i (m f)).1;have J:=UO (P:=P) (d:=d) (n:=n) (ms:=cW [] ops.toList) ops.toList 0 i o (by simpa using f);have k2:=UO (P:=P) (d:=d) (n:=n) (ms:=cW [] ops.toList) ops.toList 0 e oe (by simpa using E);rw[U]at J k2;rw[b2]at J;simp only[nr,AH]at J k2;subst J;exact b6 R e (.inr ⟨T e _ (m E) F,_,k2,he⟩)
end Go.Ev
end
