/-
 For FitsCheck: the evaluator and its soundness, part 1 of 4: what a run of the abstract evaluator answers, the model's run answers, in every world and on every schedule. No conditions beyond those that each theorem states.
-/
import GoSem.Step
import Derived.Below
import Derived.Calls
import Derived.Wp
import Derived.IntWalk
import Derived.Laws.Strings
import Derived.Laws.StructEq
noncomputable section
namespace Go.Ev
structure Q(α:Type) where
 (c0 c1 c2 c3 c4 c5 c6 c7:α)
def TT(α:Type):Nat->Type
 |0=>α
 |d+1=>Q (TT α d)
structure uU(α:Type)(d:Nat) where f:TT α d->α
structure tX(α:Type)(d:Nat) where f:TT α d->α->TT α d
structure j6(α:Type) where f:Q α->α
structure kE(α:Type) where f:(α->α)->Q α->Q α
def aUg(α:Type):j6 α:=⟨fun t=>Q.rec (motive:=fun _=>α) (fun c0 _ _ _ _ _ _ _=>c0) t⟩
def aR2(α:Type):j6 α:=⟨fun t=>Q.rec (motive:=fun _=>α) (fun _ c1 _ _ _ _ _ _=>c1) t⟩
def aRi(α:Type):j6 α:=⟨fun t=>Q.rec (motive:=fun _=>α) (fun _ _ c2 _ _ _ _ _=>c2) t⟩
def aZa(α:Type):j6 α:=⟨fun t=>Q.rec (motive:=fun _=>α) (fun _ _ _ c3 _ _ _ _=>c3) t⟩
def aZn(α:Type):j6 α:=⟨fun t=>Q.rec (motive:=fun _=>α) (fun _ _ _ _ c4 _ _ _=>c4) t⟩
def aXK(α:Type):j6 α:=⟨fun t=>Q.rec (motive:=fun _=>α) (fun _ _ _ _ _ c5 _ _=>c5) t⟩
def aSK(α:Type):j6 α:=⟨fun t=>Q.rec (motive:=fun _=>α) (fun _ _ _ _ _ _ c6 _=>c6) t⟩
def aUL(α:Type):j6 α:=⟨fun t=>Q.rec (motive:=fun _=>α) (fun _ _ _ _ _ _ _ c7=>c7) t⟩
def aTH(α:Type):kE α:=⟨fun f t=>Q.rec (motive:=fun _=>Q α) (fun c0 c1 c2 c3 c4 c5 c6 c7=>⟨f c0,c1,c2,c3,c4,c5,c6,c7⟩) t⟩
def aRl(α:Type):kE α:=⟨fun f t=>Q.rec (motive:=fun _=>Q α) (fun c0 c1 c2 c3 c4 c5 c6 c7=>⟨c0,f c1,c2,c3,c4,c5,c6,c7⟩) t⟩
def aRx(α:Type):kE α:=⟨fun f t=>Q.rec (motive:=fun _=>Q α) (fun c0 c1 c2 c3 c4 c5 c6 c7=>⟨c0,c1,f c2,c3,c4,c5,c6,c7⟩) t⟩
def aRN(α:Type):kE α:=⟨fun f t=>Q.rec (motive:=fun _=>Q α) (fun c0 c1 c2 c3 c4 c5 c6 c7=>⟨c0,c1,c2,f c3,c4,c5,c6,c7⟩) t⟩
def aVR(α:Type):kE α:=⟨fun f t=>Q.rec (motive:=fun _=>Q α) (fun c0 c1 c2 c3 c4 c5 c6 c7=>⟨c0,c1,c2,c3,f c4,c5,c6,c7⟩) t⟩
def aUh(α:Type):kE α:=⟨fun f t=>Q.rec (motive:=fun _=>Q α) (fun c0 c1 c2 c3 c4 c5 c6 c7=>⟨c0,c1,c2,c3,c4,f c5,c6,c7⟩) t⟩
def aRB(α:Type):kE α:=⟨fun f t=>Q.rec (motive:=fun _=>Q α) (fun c0 c1 c2 c3 c4 c5 c6 c7=>⟨c0,c1,c2,c3,c4,c5,f c6,c7⟩) t⟩
def aXV(α:Type):kE α:=⟨fun f t=>Q.rec (motive:=fun _=>Q α) (fun c0 c1 c2 c3 c4 c5 c6 c7=>⟨c0,c1,c2,c3,c4,c5,c6,f c7⟩) t⟩
def sel(α:Type)(k:Nat):j6 α:=Nat.rec (motive:=fun _=>j6 α) (aUg α) (fun k _=>Nat.rec (motive:=fun _=>j6 α) (aR2 α) (fun k _=>Nat.rec (motive:=fun _=>j6 α) (aRi α) (fun k _=>Nat.rec (motive:=fun _=>j6 α) (aZa α) (fun k _=>Nat.rec (motive:=fun _=>j6 α) (aZn α) (fun k _=>Nat.rec (motive:=fun _=>j6 α) (aXK α) (fun k _=>Nat.rec (motive:=fun _=>j6 α) (aSK α) (fun _ _=>aUL α) k) k) k) k) k) k) k
def aIP(α:Type)(k:Nat):kE α:=Nat.rec (motive:=fun _=>kE α) (aTH α) (fun k _=>Nat.rec (motive:=fun _=>kE α) (aRl α) (fun k _=>Nat.rec (motive:=fun _=>kE α) (aRx α) (fun k _=>Nat.rec (motive:=fun _=>kE α) (aRN α) (fun k _=>Nat.rec (motive:=fun _=>kE α) (aVR α) (fun k _=>Nat.rec (motive:=fun _=>kE α) (aUh α) (fun k _=>Nat.rec (motive:=fun _=>kE α) (aRB α) (fun _ _=>aXV α) k) k) k) k) k) k) k
def dI{α:Type}(d:Nat):Nat->uU α d:=
 Nat.rec (motive:=fun d=>Nat->uU α d) (fun _=>⟨fun t=>t⟩)
  (fun d ih i=>uU.rec (motive:=fun _=>uU α (d+1)) (fun g=>j6.rec (motive:=fun _=>uU α (d+1)) (fun s=>⟨fun t=>g (s t)⟩) (sel (TT α d) (Nat.land i 7))) (ih (Nat.shiftRight i 3))) d
def setter{α:Type}(d:Nat):Nat->tX α d:=
 Nat.rec (motive:=fun d=>Nat->tX α d) (fun _=>⟨fun _ v=>v⟩)
  (fun d ih i=>tX.rec (motive:=fun _=>tX α (d+1)) (fun g=>kE.rec (motive:=fun _=>tX α (d+1)) (fun s=>⟨fun t v=>s (fun c=>g c v) t⟩) (aIP (TT α d) (Nat.land i 7))) (ih (Nat.shiftRight i 3))) d
def same{α:Type}(a:α):(d:Nat)->TT α d
 |0=>a
 |d+1=>(⟨same a d,same a d,same a d,same a d,same a d,same a d,same a d,same a d⟩:Q (TT α d))
inductive AV where
 |undef
 |lit (v:Value)
 |bool (b:Bool)
 |int (k:IntKind) (n:Int)
 |str (len bits:Nat)
 |ptr (b o:Nat)
 |cB
 |sl (b o len cap:Nat) (ex:Bool)
 |aA
 |sle
 |map (m:Nat)
 |dP
 |fn (f:FuncId) (first cap:List AV)
 |yield (l:Nat)
 |jB
 |iface (t:TypeId) (v:AV)
 |mY
 |agg (l:List AV)
 |bG (l:List AV)
structure kH where
 (key val:AV)
 born:Nat
inductive bQ where
 |dead
 |cells (d n:Nat) (c:TT AV d) (ro:Bool) (z:Nat)
 |map (es:List kH) (clock:Nat)
 |fK (len bits pos:Nat)
 |loop (ready:Bool) (pending:Option Code) (d n:Nat) (L:TT AV d) (params:List Tmp) (assign body:Code)
def bQ.wr:bQ->Bool
 | .dead=>false
 | .cells _ _ _ ro _=> !ro
 |_=>true
def HD:Nat:=7
structure Mem where
 t:TT bQ HD
 x:Nat->bQ
def Mem.get(m:Mem)(i:Nat):bQ:=bif Nat.blt i 2097152 then(dI HD i).f m.t else m.x i
def Mem.put(m:Mem)(i:Nat)(b:bQ):Mem:=bif Nat.blt i 2097152 then⟨(setter HD i).f m.t b,m.x⟩else⟨m.t,fun c=>bif Nat.beq c i then b else m.x c⟩
structure Hp where
 t:Mem
 nx:Nat
def Hp.get(H:Hp)(i:Nat):bQ:=H.t.get i
def Hp.put(H:Hp)(i:Nat)(b:bQ):Hp:=⟨H.t.put i b,H.nx⟩
def Hp.empty:Hp:=⟨⟨same .dead HD,fun _=>.dead⟩,0⟩
inductive Ex where
 |normal|exit (id:Nat)|goto (l:Nat)|ret
inductive R0 where
 |bad
 |val (v:AV)
 |new (v:AV) (b:bQ)
inductive R1 where
 |bad
 |ok (v:AV) (H:Hp)
inductive Rc(d:Nat) where
 |bad
 |ok (e:Ex) (L:TT AV d) (H:Hp)
inductive Cl where
 |f (id:FuncId)
 |y (l:Nat)
 |d (id:FuncId)
abbrev Call:=Cl->List AV->Hp->R1
def iE(n:Nat):Nat:=
 bif Nat.ble n 8 then 1 else bif Nat.ble n 64 then 2 else bif Nat.ble n 512 then 3 else bif Nat.ble n 4096 then 4 else bif Nat.ble n 32768 then 5 else bif Nat.ble n 262144 then 6 else n
def rM{d:Nat}(c:TT AV d)(k:Nat):Nat->List AV:=
 Nat.rec (motive:=fun _=>Nat->List AV) (fun _=>[]) (fun _ ih o=>(dI d o).f c::ih (Nat.succ o)) k
def nK{d:Nat}(l:List AV):Nat->TT AV d->TT AV d:=
 List.rec (motive:=fun _=>Nat->TT AV d->TT AV d) (fun _ c=>c) (fun v _ ih o c=>ih (Nat.succ o) ((setter d o).f c v)) l
def aD(z:Nat)(l:List AV):bQ:=.cells (iE l.length) l.length (nK l 0 (same .undef _)) false z
def jV(l:List UInt8):Nat:=l.foldr (fun b acc=>acc*256+b.toNat) 0
def qm2:Value->AV
 | .bool b=>.bool b
 | .int k n=>.int k n
 | .string s=>.str s.data.toList.length (jV s.data.toList)
 | .pointer none=>.cB
 | .slice none 0 0=>.aA
 | .map none=>.dP
 | .nilFunc=>.jB
 | .nilIface=>.mY
 |v=>.lit v
def zY:Value->Bool
 | .agg _| .tuple _=>false
 |_=>true
def qs8:Value->AV
 | .agg cs=>bif cs.toList.all zY then .agg (cs.toList.map qm2)else .lit (.agg cs)
 | .tuple ⟨[]⟩=>.undef
 |v=>qm2 v
def AV.cells:AV->List AV
 | .agg l=>l
 |v=>[v]
def oP(P:Program)(t:TypeId):Option Bool:=(P.underlying t).map fun| .struct _| .array _ _=>true|_=>false
def gK(P:Program)(t:TypeId):Option Nat:=(P.info? t).map (·.size)
def qih(P:Program)(t:TypeId):Option Nat:=(P.info? t).map (·.bytes)
def qjo:Value->Option (List AV)
 | .agg cs=>bif cs.toList.all zY then some (cs.toList.map qm2)else none
 | .tuple _=>none
 |v=>some [qm2 v]
def zV(P:Program)(t:TypeId):Option (List AV):=((P.info? t).bind (·.zero)).bind qjo
/- numbers -/
def qtt(k:IntKind)(n:Int):Bool:=
 match n with
 | .ofNat m=>Nat.blt m (match k with| .i8=>128| .i16=>32768| .i32=>2147483648| .i64=>9223372036854775808| .u8=>256| .u16=>65536| .u32=>4294967296| .u64=>18446744073709551616)
 | .negSucc m=>match k with| .i8=>Nat.blt m 128| .i16=>Nat.blt m 32768| .i32=>Nat.blt m 2147483648| .i64=>Nat.blt m 9223372036854775808|_=>false
def sW(k:IntKind)(n:Int):Int:=bif qtt k n then n else k.wrap n
def oM(a b:Int):Bool:=
 match a,b with
 | .ofNat m,.ofNat n=>Nat.blt m n
 | .negSucc m,.negSucc n=>Nat.blt n m
 | .negSucc _,.ofNat _=>true
 | .ofNat _,.negSucc _=>false
def qB(a b:Int):Bool:=
 match a,b with
 | .ofNat m,.ofNat n=>Nat.beq m n
 | .negSucc m,.negSucc n=>Nat.beq m n
 |_,_=>false
def zfg:IntKind->Nat
 | .i8=>0| .i16=>1| .i32=>2| .i64=>3| .u8=>4| .u16=>5| .u32=>6| .u64=>7
def uK(a b:IntKind):Bool:=Nat.beq (zfg a) (zfg b)
structure B2 where f:IntKind->Int->Int->R0
def aJ:BinOp->B2
 | .add=>⟨fun k a b=>.val (.int k (sW k (a+b)))⟩
 | .sub=>⟨fun k a b=>.val (.int k (sW k (a-b)))⟩
 | .mul=>⟨fun k a b=>.val (.int k (sW k (a*b)))⟩
 | .quo=>⟨fun k a b=>bif qB b 0 then .bad else .val (.int k (sW k (a.tdiv b)))⟩
 | .rem=>⟨fun k a b=>bif qB b 0 then .bad else .val (.int k (a.tmod b))⟩
 | .and=>⟨fun k a b=>.val (.int k (k.wrap (BitVec.ofInt k.bits a &&& BitVec.ofInt k.bits b).toNat))⟩
 | .or=>⟨fun k a b=>.val (.int k (k.wrap (BitVec.ofInt k.bits a ||| BitVec.ofInt k.bits b).toNat))⟩
 | .xor=>⟨fun k a b=>.val (.int k (k.wrap (BitVec.ofInt k.bits a ^^^ BitVec.ofInt k.bits b).toNat))⟩
 | .andNot=>⟨fun k a b=>.val (.int k (k.wrap (BitVec.ofInt k.bits a &&& ~~~ BitVec.ofInt k.bits b).toNat))⟩
 | .eql=>⟨fun _ a b=>.val (.bool (qB a b))⟩
 | .neq=>⟨fun _ a b=>.val (.bool (!qB a b))⟩
 | .lss=>⟨fun _ a b=>.val (.bool (oM a b))⟩
 | .leq=>⟨fun _ a b=>.val (.bool (!oM b a))⟩
 | .gtr=>⟨fun _ a b=>.val (.bool (oM b a))⟩
 | .geq=>⟨fun _ a b=>.val (.bool (!oM a b))⟩
 |_=>⟨fun _ _ _=>.bad⟩
def qhx:BinOp->B2
 | .shl=>⟨fun k a b=>bif oM b 0 then .bad else .val (.int k (sW k (a*2 ^ (min b.toNat k.bits))))⟩
 | .shr=>⟨fun k a b=>bif oM b 0 then .bad else .val (.int k (a.fdiv (2 ^ (min b.toNat k.bits))))⟩
 |_=>⟨fun _ _ _=>.bad⟩
/- strings: length, and the bytes packed from the first on -/
def rW(bits i:Nat):Nat:=Nat.land (Nat.shiftRight bits (Nat.mul 8 i)) 255
def qeb(f:Nat):(n a m b:Nat)->Bool:=
 Nat.rec (motive:=fun _=>Nat->Nat->Nat->Nat->Bool) (fun n _ m _=>Nat.blt n m)
  (fun _ ih n a m b=>bif Nat.beq m 0 then false else bif Nat.beq n 0 then true else
   bif Nat.beq (Nat.land a 255) (Nat.land b 255)then ih (Nat.pred n) (Nat.shiftRight a 8) (Nat.pred m) (Nat.shiftRight b 8)
   else Nat.blt (Nat.land a 255) (Nat.land b 255)) f
def eqS(n a m b:Nat):Bool:=Nat.beq n m&&Nat.beq a b
structure S2 where f:Nat->Nat->Nat->Nat->R0
def qJ:BinOp->S2
 | .add=>⟨fun n a m b=>bif Nat.ble (n+m) 1099511627776 then .val (.str (n+m) (Nat.add a (Nat.shiftLeft b (Nat.mul 8 n))))else .bad⟩
 | .eql=>⟨fun n a m b=>.val (.bool (eqS n a m b))⟩
 | .neq=>⟨fun n a m b=>.val (.bool (!eqS n a m b))⟩
 | .lss=>⟨fun n a m b=>.val (.bool (qeb n n a m b))⟩
 | .leq=>⟨fun n a m b=>.val (.bool (qeb n n a m b||eqS n a m b))⟩
 | .gtr=>⟨fun n a m b=>.val (.bool (!(qeb n n a m b||eqS n a m b)))⟩
 | .geq=>⟨fun n a m b=>.val (.bool (!qeb n n a m b))⟩
 |_=>⟨fun _ _ _ _=>.bad⟩
/- parts of aggregates -/
structure P1 where f:List AV->Nat->Option AV
def qka(P:Program)(t:TypeId):P1:=
 match oP P t,gK P t with
 |some true,some k=>⟨fun cs off=>some (.agg ((cs.drop off).take k))⟩
 |some false,_=>⟨fun cs off=>cs[off]?⟩
 |_,_=>⟨fun _ _=>none⟩
/- equality at a type -/
structure E2 where f:AV->AV->Option Bool
def andThen(a b:Option Bool):Option Bool:=
 match a with|some true=>b|some false=>some false|none=>none
def qqd(p:P1)(e:E2)(xs ys:List AV)(off:Nat):Option Bool:=
 match p.f xs off,p.f ys off with
 |some a,some b=>e.f a b
 |_,_=>none
def qfw:AV->AV->Option Bool
 | .bool a,.bool b=>some (a==b)
 |_,_=>none
def qkc:AV->AV->Option Bool
 | .int k a,.int k' b=>bif uK k k' then some (qB a b)else none
 |_,_=>none
def bX:AV->AV->Option Bool
 | .str n a,.str m b=>some (eqS n a m b)
 |_,_=>none
def qnm:AV->AV->Option Bool
 | .cB,.cB=>some true
 | .cB,.ptr _ _=>some false
 | .ptr _ _,.cB=>some false
 |_,_=>none
def aCx:AV->AV->Option Bool
 | .aA,.aA=>some true
 | .aA,.sl .. =>some false
 | .aA,.sle=>some false
 | .sl ..,.aA=>some false
 | .sle,.aA=>some false
 |_,_=>none
def zm7:AV->AV->Option Bool
 | .dP,.dP=>some true
 | .dP,.map _=>some false
 | .map _,.dP=>some false
 |_,_=>none
def eqFn:AV->AV->Option Bool
 | .jB,.jB=>some true
 | .jB,.fn .. =>some false
 | .fn ..,.jB=>some false
 |_,_=>none
def aCG:AV->AV->Option Bool
 | .mY,.iface .. =>some false
 | .iface ..,.mY=>some false
 |_,_=>none
def fI(f:List AV->List AV->Option Bool):AV->AV->Option Bool
 | .agg xs,.agg ys=>f xs ys
 |_,_=>none
def eqFields(fs:List (P1×E2×Nat))(xs ys:List AV):Option Bool:=
 fs.foldr (fun f r=>andThen (qqd f.1 f.2.1 xs ys f.2.2) r) (some true)
def xX(p:P1)(e:E2)(z:Nat)(xs ys:List AV):Nat->Nat->Option Bool
 |0,_=>some true
 |k+1,i=>andThen (qqd p e xs ys (i*z)) (xX p e z xs ys k (i+1))
def uO(P:Program):Nat->TypeId->E2
 |0,_=>⟨fun _ _=>none⟩
 |d+1,t=>
  match P.underlying t with
  |some .bool=>⟨qfw⟩
  |some (.int _)=>⟨qkc⟩
  |some .string=>⟨bX⟩
  |some (.struct fs)=>
   if P.stoodInHeld t then⟨fun _ _=>none⟩else
   let l:=(fs.toList.filter fun f=>f.name != "_").map fun f=>(qka P f.type,uO P d f.type,f.offset)
   ⟨fI (eqFields l)⟩
  |some (.array len e)=>
   match gK P e with
   |some z=>let p:=qka P e;let q:=uO P d e;⟨fI fun xs ys=>xX p q z xs ys len 0⟩
   |none=>⟨fun _ _=>none⟩
  |some (.pointer _)=>⟨qnm⟩
  |some (.slice _)=>⟨aCx⟩
  |some (.map ..)=>⟨zm7⟩
  |some (.func ..)=>⟨eqFn⟩
  |some (.interface _)=>⟨aCG⟩
  |_=>⟨fun _ _=>none⟩
def zW:Nat:=20
/- operations on values -/
def dX(c a b:AV):R0:=
 match c with
 | .bool true=>.val a
 | .bool false=>.val b
 |_=>.bad
def aB(g:IntKind->Int->Int->R0)(x y:AV):R0:=
 match x,y with
 | .int k a,.int k' b=>bif uK k k' then g k a b else .bad
 |_,_=>.bad
def qu6(g:IntKind->Int->Int->R0)(x y:AV):R0:=
 match x,y with
 | .int k a,.int _ b=>g k a b
 |_,_=>.bad
def iU(g:Nat->Nat->Nat->Nat->R0)(x y:AV):R0:=
 match x,y with
 | .str n a,.str m b=>g n a m b
 |_,_=>.bad
def oL(neg:Bool)(r:Option Bool):R0:=
 match r with
 |some b=>.val (.bool (bif neg then !b else b))
 |none=>.bad
structure V2 where f:AV->AV->R0
def vF(P:Program)(op:BinOp)(t:TypeId):V2:=
 match P.underlying t with
 |some (.int _)=>
  match op with
  | .shl| .shr=>match qhx op with|⟨g⟩=>⟨qu6 g⟩
  |_=>match aJ op with|⟨g⟩=>⟨aB g⟩
 |some .string=>match qJ op with|⟨g⟩=>⟨iU g⟩
 |some .bool|some (.pointer _)|some (.slice _)|some (.map ..)|some (.func ..)|some (.interface _)=>
  match op,uO P zW t with
  | .eql,⟨e⟩=>⟨fun x y=>oL false (e x y)⟩
  | .neq,⟨e⟩=>⟨fun x y=>oL true (e x y)⟩
  |_,_=>⟨fun _ _=>.bad⟩
 |some (.struct _)|some (.array ..)=>
  if P.eqGuardType P.depth t then⟨fun _ _=>.bad⟩else
  match op,uO P zW t with
  | .eql,⟨e⟩=>⟨fun x y=>oL false (e x y)⟩
  | .neq,⟨e⟩=>⟨fun x y=>oL true (e x y)⟩
  |_,_=>⟨fun _ _=>.bad⟩
 |_=>⟨fun _ _=>.bad⟩
structure V1 where f:AV->R0
def mR:UnOp->V1
 | .not=>⟨fun x=>match x with| .bool b=>.val (.bool !b)|_=>.bad⟩
 | .neg=>⟨fun x=>match x with| .int k n=>.val (.int k (sW k (0-n)))|_=>.bad⟩
 |_=>⟨fun _=>.bad⟩
/- memory -/
def dO(b:bQ)(o:Nat):R0:=
 match b with
 | .cells d n c _ _=>bif Nat.blt o n then .val ((dI d o).f c)else .bad
 |_=>.bad
def aI(H:Hp)(a:AV):R0:=
 match a with
 | .ptr b o=>dO (H.get b) o
 |_=>.bad
def gN(b:bQ)(o k:Nat):Option (List AV):=
 match b with
 | .cells _ n c _ _=>bif Nat.ble (o+k) n then some (rM c k o)else none
 |_=>none
def aAX(r:Option (List AV)):R0:=match r with|some l=>.val (.agg l)|none=>.bad
def aV(k:Nat)(H:Hp)(a:AV):R0:=
 match a with
 | .ptr b o=>aAX (gN (H.get b) o k)
 |_=>.bad
def vS(b:bQ)(o:Nat)(l:List AV):Option bQ:=
 match b with
 | .cells d n c false z=>bif Nat.ble (o+l.length) n then some (.cells d n (nK l o c) false z)else none
 |_=>none
def storeAt(H:Hp)(b o:Nat)(l:List AV)(v:AV):R1:=
 match vS (H.get b) o l with
 |some blk=>.ok v (H.put b blk)
 |none=>.bad
def gJ(H:Hp)(a x:AV):R1:=
 match a,x with
 | .ptr _ _,.agg _=>.bad
 | .ptr _ _,.bG _=>.bad
 | .ptr _ _,.undef=>.bad
 | .ptr _ _,.lit _=>.bad
 | .ptr b o,v=>storeAt H b o [v] .undef
 |_,_=>.bad
def dY(k:Nat)(H:Hp)(a x:AV):R1:=
 match a,x with
 | .ptr b o,.agg l=>bif Nat.beq l.length k then storeAt H b o l .undef else .bad
 |_,_=>.bad
def lQ(nm:Nat)(x:AV):R0:=
 match x with
 | .agg _| .bG _| .undef| .lit _=>.bad
 |v=>.new (.ptr nm 0) (aD 0 [v])
def bB(k:Nat)(nm:Nat)(x:AV):R0:=
 match x with
 | .agg l=>bif Nat.beq l.length k then .new (.ptr nm 0) (aD 0 l)else .bad
 |_=>.bad
def aK(off:Nat)(x:AV):R0:=match x with| .ptr b o=>.val (.ptr b (Nat.add o off))|_=>.bad
def q4o(p:P1)(off:Nat)(x:AV):R0:=
 match x with
 | .agg l=>match p.f l off with|some v=>.val v|none=>.bad
 |_=>.bad
def aN(z:Nat)(x i:AV):R0:=
 match x,i with
 | .sl b o len _ _,.int _ (.ofNat i)=>bif Nat.blt i len then .val (.ptr b (Nat.add o (Nat.mul i z)))else .bad
 |_,_=>.bad
def fJ(len z:Nat)(x i:AV):R0:=
 match x,i with
 | .ptr b o,.int _ (.ofNat i)=>bif Nat.blt i len then .val (.ptr b (Nat.add o (Nat.mul i z)))else .bad
 |_,_=>.bad
def tF(x i:AV):R0:=
 match x,i with
 | .str n a,.int _ (.ofNat i)=>bif Nat.blt i n then .val (.int .u8 (.ofNat (rW a i)))else .bad
 |_,_=>.bad
def aEN(p:P1)(len z:Nat)(x i:AV):R0:=
 match x,i with
 | .agg l,.int _ (.ofNat i)=>bif Nat.blt i len then(match p.f l (Nat.mul i z)with|some v=>.val v|none=>.bad)else .bad
 |_,_=>.bad
/- slices -/
def bnd(x:Option AV)(dflt y:Nat):Option Nat:=
 match x with
 |none=>some dflt
 |some (.int _ (.ofNat n))=>bif Nat.ble n y then some n else none
 |some _=>none
structure Bd where
 (l h m:Nat)
def bounds(len cap:Nat)(lo hi mx:Option AV):Option Bd:=
 match mx,hi with
 |some _,none=>none
 |_,_=>
  match bnd mx cap cap with
  |none=>none
  |some m=>match bnd hi len m with
   |none=>none
   |some h=>match bnd lo 0 h with
    |none=>none
    |some l=>some ⟨l,h,m⟩
def qss(x:AV)(lo hi:Option AV):R0:=
 match x with
 | .str n a=>match bounds n n lo hi none with
  |some b=>.val (.str (b.h-b.l) (Nat.land (Nat.shiftRight a (Nat.mul 8 b.l)) (Nat.sub (Nat.shiftLeft 1 (Nat.mul 8 (b.h-b.l))) 1)))
  |none=>.bad
 |_=>.bad
def gY(b o z:Nat)(bd:Bd)(ex:Bool):R0:=
 bif Nat.beq bd.m bd.l then(bif ex then .val (.sl b o 0 0 true)else .val .sle)
 else .val (.sl b (Nat.add o (Nat.mul bd.l z)) (Nat.sub bd.h bd.l) (Nat.sub bd.m bd.l) ex)
def lC(z:Nat)(x:AV)(lo hi mx:Option AV):R0:=
 match x with
 | .aA=>match bounds 0 0 lo hi mx with|some _=>.val .aA|none=>.bad
 | .sl b o len cap ex=>match bounds len cap lo hi mx with
  |some bd=>gY b o z bd (match mx with|some _=>true|none=>ex)
  |none=>.bad
 |_=>.bad
def qkp(len z:Nat)(x:AV)(lo hi mx:Option AV):R0:=
 match x with
 | .ptr b o=>match bounds len len lo hi mx with|some bd=>gY b o z bd true|none=>.bad
 |_=>.bad
def bC(l:List AV)(n:Nat):List AV:=Nat.rec (motive:=fun _=>List AV) [] (fun _ r=>l++r) n
def fD:Nat:=1099511627776
def qib(z:List AV)(bytes:Nat)(nm:Nat)(l c:AV):R0:=
 match l,c with
 | .int _ (.ofNat n),.int _ (.ofNat m)=>bif Nat.ble n m&&Nat.ble (Nat.mul m bytes) fD&&Nat.ble m fD then .new (.sl nm 0 n m true) (aD 0 (bC z m))else .bad
 |_,_=>.bad
/- building aggregates: parts in the order of their offsets -/
def qmg(c:List AV)(off size:Nat)(v:List AV):Option (List AV):=
 bif Nat.beq v.length size&&Nat.ble (off+size) c.length then some (c.take off++v++c.drop (off+size))else none
def xA:AV->Option (List AV)
 | .agg l=>some l
 | .bG _| .undef| .lit _=>none
 |v=>some [v]
def bT(c:List AV):List (Nat×Nat×AV)->Option (List AV)
 | []=>some c
 |(off,size,v)::r=>match xA v with
  |some l=>match qmg c off size l with|some c'=>bT c' r|none=>none
  |none=>none
/- maps -/
structure wD where
 i:Nat
 x:kH
def vX(e:AV->AV->Option Bool)(k:AV)(es:List kH):Nat->Option (Option wD):=
 List.rec (motive:=fun _=>Nat->Option (Option wD)) (fun _=>some none)
  (fun x _ ih i=>match e k x.key with|some true=>some (some ⟨i,x⟩)|some false=>ih (Nat.succ i)|none=>none) es
def zlo:AV->AV->Bool
 | .int k a,.int k' b=>uK k k'&&qB a b
 | .str n a,.str m b=>eqS n a m b
 | .bool a,.bool b=>a==b
 |_,_=>false
def q5q:List AV->List AV->Bool
 | [],[]=>true
 |a::l,b::m=>zlo a b&&q5q l m
 |_,_=>false
def sameKey:AV->AV->Bool
 | .agg l,.agg m=>q5q l m
 |a,b=>zlo a b
def qhf(s:Option Nat)(k:AV):Bool:=
 match s,k with
 |none,.agg _=>false
 |none,_=>true
 |some n,.agg l=>Nat.beq l.length n
 |some _,_=>false
def qtl(P:Program):Nat->TypeId->Bool
 |0,_=>false
 |d+1,t=>
  match P.underlying t,gK P t with
  |some (.int _),some _|some .string,some _|some .bool,some _=>true
  |some (.struct fs),some n=>fs.toList.all fun f=>match gK P f.type with
   |some m=>Nat.ble (f.offset+m) n&&qtl P d f.type&&Nat.blt 0 m
   |none=>false
  |some (.array len e),some n=>match gK P e with
   |some m=>Nat.ble (len*m) n&&qtl P d e&&Nat.blt 0 m
   |none=>false
  |_,_=>false
structure Ky where
 e:AV->AV->Option Bool
 s:Option Nat
def qT(P:Program)(kt:TypeId):Option Ky:=
 match qtl P zW kt,uO P zW kt,oP P kt,gK P kt with
 |true,⟨e⟩,some true,some n=>some ⟨e,some n⟩
 |true,⟨e⟩,some false,some _=>some ⟨e,none⟩
 |_,_,_,_=>none
def qn7(ky:Ky)(k:AV)(es:List kH):Option (Option wD):=
 bif qhf ky.s k then vX ky.e k es 0 else none
def zqg(H:Hp):AV->Option (List kH)
 | .dP=>some []
 | .map m=>match H.get m with| .map es _=>some es|_=>none
 |_=>none
def ze1(ok:Bool)(z:AV)(r:Option (Option wD)):R0:=
 match r with
 |some (some h)=>.val (bif ok then .bG [h.x.val,.bool true]else h.x.val)
 |some none=>.val (bif ok then .bG [z,.bool false]else z)
 |none=>.bad
def pF(ky:Ky)(z:AV)(ok:Bool)(H:Hp)(m k:AV):R0:=
 match zqg H m with
 |some es=>ze1 ok z (qn7 ky k es)
 |none=>.bad
def mI(ky:Ky)(H:Hp)(m k v:AV):R1:=
 match m with
 | .map b=>match H.get b with
  | .map es clock=>match qn7 ky k es with
   |some (some h)=>bif sameKey h.x.key k then .ok .undef (H.put b (.map (es.set h.i ⟨k,v,h.x.born⟩) clock))else .bad
   |some none=>.ok .undef (H.put b (.map (es++[⟨k,v,clock⟩]) (Nat.succ clock)))
   |none=>.bad
  |_=>.bad
 |_=>.bad
def zf7(ky:Ky)(z:AV)(H:Hp)(m k:AV):R1:=
 match m with
 | .map b=>match H.get b with
  | .map es clock=>match qn7 ky k es with
   |some (some h)=>bif sameKey h.x.key k then .ok (.bG [h.x.val,.int .i64 (.ofNat h.x.born)]) (H.put b (.map (es.set h.i ⟨k,h.x.val,h.x.born⟩) clock))else .bad
   |some none=>.ok (.bG [z,.int .i64 (.ofNat clock)]) (H.put b (.map (es++[⟨k,z,clock⟩]) (Nat.succ clock)))
   |none=>.bad
  |_=>.bad
 |_=>.bad
def zdh(n:Nat)(es:List kH):Nat->Option wD:=
 List.rec (motive:=fun _=>Nat->Option wD) (fun _=>none) (fun x _ ih i=>bif Nat.beq x.born n then some ⟨i,x⟩else ih (Nat.succ i)) es
def qtv(H:Hp)(m s v:AV):R1:=
 match m,s with
 | .map b,.int _ (.ofNat n)=>match H.get b with
  | .map es clock=>match zdh n es 0 with
   |some h=>.ok .undef (H.put b (.map (es.set h.i ⟨h.x.key,v,h.x.born⟩) clock))
   |none=>.bad
  |_=>.bad
 |_,_=>.bad
/- builtins -/
def i64(n:Nat):AV:=.int .i64 (.ofNat n)
def iF(x:AV):R0:=match x with| .str n _=>.val (i64 n)|_=>.bad
def aF(x:AV):R0:=
 match x with
 | .sl _ _ n _ _=>.val (i64 n)
 | .aA=>.val (i64 0)
 | .sle=>.val (i64 0)
 |_=>.bad
def w9(H:Hp)(x:AV):R0:=
 match x with
 | .dP=>.val (i64 0)
 | .map m=>match H.get m with| .map es _=>.val (i64 es.length)|_=>.bad
 |_=>.bad
def gZ(x:AV):R0:=
 match x with
 | .sl _ _ _ c true=>.val (i64 c)
 | .aA=>.val (i64 0)
 |_=>.bad
def mZ(x y:AV):R0:=
 match x,y with
 | .int k a,.int _ b=>.val (.int k (bif oM b a then b else a))
 |_,_=>.bad
def lV(x y:AV):R0:=
 match x,y with
 | .int k a,.int _ b=>.val (.int k (bif oM a b then b else a))
 |_,_=>.bad
def nL(g:AV->AV->R0)(x:AV)(l:List AV):R0:=
 List.rec (motive:=fun _=>AV->R0) (fun x=>.val x) (fun y _ ih x=>match g x y with| .val z=>ih z|_=>.bad) l x
def qws(bits n:Nat):List AV:=Nat.rec (motive:=fun _=>Nat->List AV) (fun _=>[]) (fun _ ih i=>.int .u8 (.ofNat (rW bits i))::ih (Nat.succ i)) n 0
structure Src where
 n:Nat
 l:List AV
def zlg(z:Nat)(H:Hp)(x:AV):Option Src:=
 match x with
 | .aA| .sle=>some ⟨0,[]⟩
 | .sl b o n _ _=>match gN (H.get b) o (Nat.mul n z)with|some l=>some ⟨n,l⟩|none=>none
 | .str n a=>some ⟨n,qws a n⟩
 |_=>none
def jA(z:Nat)(H:Hp)(x:AV):Option Src:=
 match x with
 | .str _ _=>bif Nat.beq z 1 then zlg z H x else none
 |_=>zlg z H x
def qqn(w:Nat)(zl:List AV)(x:AV):Option Src:=
 match x with
 | .int _ (.ofNat n)=>bif Nat.ble n fD&&Nat.ble (Nat.mul n w) fD then some ⟨n,bC zl n⟩else none
 |_=>none
def aT(H:Hp)(b:bQ):Hp:=⟨H.t.put H.nx b,Nat.succ H.nx⟩
def grow(z:Nat)(H:Hp)(old:List AV)(s:Src)(n:Nat):R1:=.ok (.sl H.nx 0 n n false) (aT H (aD z (old++s.l)))
def qgx(b:bQ)(e z:Nat):Bool:=match b with| .cells _ n _ false z'=>Nat.beq n e&&Nat.beq z' z|_=>false
def gV(z bytes:Nat)(H:Hp)(s:AV)(src:Option Src):R1:=
 match src with
 |none=>.bad
 |some x=>
  match s with
  | .aA=>bif Nat.beq x.n 0 then .ok .aA H else bif Nat.ble (Nat.mul x.n bytes) fD&&Nat.ble x.n fD then grow z H [] x x.n else .bad
  | .sl b o len cap ex=>
   bif Nat.ble (len+x.n) cap then storeAt H b (o+len*z) x.l (.sl b o (len+x.n) cap ex)
   else bif Nat.ble (Nat.mul (len+x.n) bytes) fD&&Nat.ble (len+x.n) fD then
    match gN (H.get b) o (Nat.mul len z)with
    |none=>.bad
    |some old=>bif ex then grow z H old x (len+x.n)else
     bif qgx (H.get b) (o+cap*z) z then grow z (H.put b .dead) old x (len+x.n)else .bad
   else .bad
  |_=>.bad
def copyV(z:Nat)(H:Hp)(d:AV)(src:Option Src):R1:=
 match src,d with
 |some x,.sl b o n _ _=>storeAt H b o (x.l.take (Nat.mul (min x.n n) z)) (i64 (min x.n n))
 |some _,.aA=>.ok (i64 0) H
 |some _,.sle=>.ok (i64 0) H
 |_,_=>.bad
def aEg(ky:Ky)(H:Hp)(m k:AV):R1:=
 match m with
 | .map b=>match H.get b with
  | .map es clock=>match qn7 ky k es with
   |some (some h)=>.ok .undef (H.put b (.map (es.eraseIdx h.i) clock))
   |some none=>.ok .undef (H.put b (.map es clock))
   |none=>.bad
  |_=>.bad
 |_=>.bad
def qhj(zl:List AV)(H:Hp)(x:AV):R1:=
 match x with
 | .aA=>.ok .undef H
 | .sl b o n _ _=>bif Nat.beq n 0 then .ok .undef H else storeAt H b o (bC zl n) .undef
 |_=>.bad
def zgt(H:Hp)(x:AV):R1:=
 match x with
 | .dP=>.ok .undef H
 | .map b=>match H.get b with| .map _ clock=>.ok .undef (H.put b (.map [] clock))|_=>.bad
 |_=>.bad
def zum(x:AV)(r:Option Src):Option Src:=
 match x,r with
 | .int .u8 (.ofNat _),some s=>some ⟨s.n+1,x::s.l⟩
 |_,_=>none
def zul(l:List AV):Option Src:=
 List.rec (motive:=fun _=>Option Src) (some ⟨0,[]⟩) (fun x _ ih=>zum x ih) l
def zei(l:List AV):Nat:=
 List.rec (motive:=fun _=>Nat) 0 (fun x _ ih=>match x with
  | .int _ (.ofNat b)=>Nat.add (Nat.land b 255) (Nat.mul 256 ih)
  |_=>0) l
def ztq(H:Hp)(x:AV):R0:=
 match x with
 | .aA| .sle=>.val (.str 0 0)
 | .sl b o n _ _=>match gN (H.get b) o n with
  |some l=>match zul l with|some _=>.val (.str n (zei l))|none=>.bad
  |none=>.bad
 |_=>.bad
def qz6(nm:Nat)(x:AV):R0:=
 match x with
 | .str n a=>.new (.sl nm 0 n n false) (aD 1 (qws a n))
 |_=>.bad
def qtz(k:IntKind)(x:AV):R0:=match x with| .int _ n=>.val (.int k (sW k n))|_=>.bad
/- an operation, made ready once: quiet (it looks at the heap, or not), or with effects -/
inductive jC(d:Nat) where
 |q (looks:Bool) (f:Nat->TT AV d->Hp->R0)
 |e (f:Call->TT AV d->Hp->R1)
structure Rd(d:Nat) where f:TT AV d->AV
def aH(d n:Nat):Operand->Rd d
 | .tmp t=>bif Nat.blt t n then(match dI (α:=AV) d t with|⟨g⟩=>⟨g⟩)else⟨fun _=>.undef⟩
 | .const v=>⟨fun _=>qs8 v⟩
 | .global g=>⟨fun _=>.lit (.pointer (some ⟨g,0,none⟩))⟩
 | .func f=>⟨fun _=>.fn f [] []⟩
structure RdL(d:Nat) where f:TT AV d->List AV
def rO(d n:Nat):List Operand->RdL d
 | []=>⟨fun _=>[]⟩
 |x::r=>match aH d n x,rO d n r with|⟨g⟩,⟨h⟩=>⟨fun L=>g L::h L⟩
structure RdO(d:Nat) where f:TT AV d->Option AV
def wC(d n:Nat):Option Operand->RdO d
 |none=>⟨fun _=>none⟩
 |some x=>match aH d n x with|⟨g⟩=>⟨fun L=>some (g L)⟩
structure RdP(d:Nat) where f:TT AV d->List (Nat×Nat×AV)
def qn4(d n:Nat)(place:Nat->Option (Nat×Nat)):List (Nat×Operand)->Option (RdP d)
 | []=>some ⟨fun _=>[]⟩
 |(i,x)::r=>
  match place i,aH d n x,qn4 d n place r with
  |some (off,size),⟨g⟩,some ⟨h⟩=>some ⟨fun L=>(off,size,g L)::h L⟩
  |_,_,_=>none
def dV(d:Nat):jC d:=.e fun _ _ _=>.bad
def cO(r:Option (List AV)):R0:=match r with|some l=>.val (.agg l)|none=>.bad
def iB(len:Nat)(nm:Nat)(r:Option (List AV)):R0:=match r with|some l=>.new (.sl nm 0 len len true) (aD 0 l)|none=>.bad
def qe4(P:Program)(fs:Array Field)(i:Nat):Option (Nat×Nat):=
 match fs[i]? with
 |some f=>(gK P f.type).map fun s=>(f.offset,s)
 |none=>none
def vQ(call:Call)(f:AV)(args:List AV)(H:Hp):R1:=
 match f with
 | .fn g first cap=>call (.f g) (first++args++cap) H
 | .yield l=>call (.y l) args H
 |_=>.bad
def qif(call:Call)(f:AV)(args:List AV)(H:Hp):R1:=
 match f with
 | .fn g first cap=>call (.f g) (first++args++cap) H
 |_=>.bad
def rY(P:Program)(d n:Nat)(args:List Operand)(types:List TypeId):jC d:=
 match args,types with
 | [x],[t]=>
  match P.underlying t with
  |some (.array n _)=>.q false fun _ _ _=>.val (i64 n)
  |some (.pointer arr)=>match P.underlying arr with|some (.array n _)=>.q false fun _ _ _=>.val (i64 n)|_=>dV d
  |some .string=>match aH d n x with|⟨g⟩=>.q false fun _ L _=>iF (g L)
  |some (.slice _)=>match aH d n x with|⟨g⟩=>.q false fun _ L _=>aF (g L)
  |some (.map ..)=>match aH d n x with|⟨g⟩=>.q true fun _ L H=>w9 H (g L)
  |_=>dV d
 |_,_=>dV d
def xD(P:Program)(d n:Nat)(args:List Operand)(types:List TypeId):jC d:=
 match args,types with
 | [x],[t]=>
  match P.underlying t with
  |some (.array n _)=>.q false fun _ _ _=>.val (i64 n)
  |some (.slice _)=>match aH d n x with|⟨g⟩=>.q false fun _ L _=>gZ (g L)
  |_=>dV d
 |_,_=>dV d
def wU(d n:Nat)(args:List Operand):jC d:=
 match args with
 |x::r=>match aH d n x,rO d n r with|⟨g⟩,⟨h⟩=>.q false fun _ L _=>nL mZ (g L) (h L)
 |_=>dV d
def wN(d n:Nat)(args:List Operand):jC d:=
 match args with
 |x::r=>match aH d n x,rO d n r with|⟨g⟩,⟨h⟩=>.q false fun _ L _=>nL lV (g L) (h L)
 |_=>dV d
structure Ap where
 (z w:Nat)
 zl:List AV
def apS(P:Program)(e:TypeId):Option Ap:=
 match gK P e,qih P e,zV P e with
 |some z,some w,some zl=>bif Nat.beq zl.length z then some ⟨z,w,zl⟩else none
 |_,_,_=>none
def wT(P:Program)(d n:Nat)(args:List Operand)(types:List TypeId):jC d:=
 match args,types with
 | [x,y],[t,u]=>
  match P.underlying t with
  |some (.slice e)=>
   match apS P e,P.underlying u with
   |some ap,some (.int _)=>match aH d n x,aH d n y with|⟨g⟩,⟨h⟩=>.e fun _ L H=>gV ap.z ap.w H (g L) (qqn ap.w ap.zl (h L))
   |some ap,some (.slice _)=>match aH d n x,aH d n y with|⟨g⟩,⟨h⟩=>.e fun _ L H=>gV ap.z ap.w H (g L) (jA ap.z H (h L))
   |some ap,some .string=>match aH d n x,aH d n y with|⟨g⟩,⟨h⟩=>.e fun _ L H=>gV ap.z ap.w H (g L) (jA ap.z H (h L))
   |_,_=>dV d
  |_=>dV d
 |_,_=>dV d
def q08(P:Program)(d n:Nat)(args:List Operand)(types:List TypeId):jC d:=
 match args,types with
 | [x,y],[t,_]=>
  match P.underlying t with
  |some (.slice e)=>match gK P e with
   |some z=>match aH d n x,aH d n y with|⟨g⟩,⟨h⟩=>.e fun _ L H=>copyV z H (g L) (jA z H (h L))
   |none=>dV d
  |_=>dV d
 |_,_=>dV d
def wR(P:Program)(d n:Nat)(args:List Operand)(types:List TypeId):jC d:=
 match args,types with
 | [x,y],t::_=>
  match P.underlying t with
  |some (.map kt _)=>match qT P kt with
   |some ky=>match aH d n x,aH d n y with|⟨g⟩,⟨h⟩=>.e fun _ L H=>aEg ky H (g L) (h L)
   |none=>dV d
  |_=>dV d
 |_,_=>dV d
def xR(P:Program)(d n:Nat)(args:List Operand)(types:List TypeId):jC d:=
 match args,types with
 | [x],[t]=>
  match P.underlying t with
  |some (.slice e)=>match apS P e with
   |some ap=>match aH d n x with|⟨g⟩=>.e fun _ L H=>qhj ap.zl H (g L)
   |none=>dV d
  |some (.map ..)=>match aH d n x with|⟨g⟩=>.e fun _ L H=>zgt H (g L)
  |_=>dV d
 |_,_=>dV d
def qd5(P:Program)(d n:Nat)(b:Builtin)(args:List Operand)(types:List TypeId):jC d:=
 match b with
 | .len=>rY P d n args types
 | .cap=>xD P d n args types
 | .min=>wU d n args
 | .max=>wN d n args
 | .append=>wT P d n args types
 | .copy=>q08 P d n args types
 | .delete=>wR P d n args types
 | .clear=>xR P d n args types
 |_=>dV d
def zxf(d n:Nat)(x:Operand):jC d:=
 match aH d n x with|⟨g⟩=>.q false fun _ L _=>.val (g L)
def zty(d n:Nat)(c a b:Operand):jC d:=
 match aH d n c,aH d n a,aH d n b with|⟨gc⟩,⟨ga⟩,⟨gb⟩=>.q false fun _ L _=>dX (gc L) (ga L) (gb L)
def q3h(P:Program)(d:Nat)(t:TypeId):jC d:=
 match zV P t with
 |some z=>.q false fun nm _ _=>.new (.ptr nm 0) (aD 0 z)
 |none=>dV d
def aAE(P:Program)(d n:Nat)(t:TypeId)(x:Operand):jC d:=
 match oP P t,gK P t,aH d n x with
 |some true,some k,⟨g⟩=>.q false fun nm L _=>bB k nm (g L)
 |some false,some _,⟨g⟩=>.q false fun nm L _=>lQ nm (g L)
 |_,_,_=>dV d
def q3g(P:Program)(d n:Nat)(t:TypeId)(ps:Array (Nat×Operand)):jC d:=
 match P.underlying t,zV P t with
 |some (.struct fs),some z=>if fs.toList.all fun f=>(gK P f.type).isSome then match qn4 d n (qe4 P fs) ps.toList with
  |some ⟨h⟩=>.q false fun _ L _=>cO (bT z (h L))
  |none=>dV d
  else dV d
 |some (.array _ e),some z=>match gK P e with
  |some s=>match qn4 d n (fun i=>some (i*s,s)) ps.toList with
   |some ⟨h⟩=>.q false fun _ L _=>cO (bT z (h L))
   |none=>dV d
  |none=>dV d
 |_,_=>dV d
def qev(P:Program)(d n:Nat)(t:TypeId)(len:Nat)(ps:Array (Nat×Operand)):jC d:=
 match P.underlying t with
 |some (.slice e)=>match gK P e,zV P e with
  |some s,some z=>bif Nat.ble (len*s) 65536&&Nat.beq z.length s then match qn4 d n (fun i=>some (i*s,s)) ps.toList with
   |some ⟨h⟩=>.q false fun nm L _=>iB len nm (bT (bC z len) (h L))
   |none=>dV d
   else dV d
  |_,_=>dV d
 |_=>dV d
def zdr(P:Program)(d n:Nat)(t:TypeId)(a:Operand):jC d:=
 match oP P t,gK P t,aH d n a with
 |some true,some k,⟨g⟩=>.q true fun _ L H=>aV k H (g L)
 |some false,some _,⟨g⟩=>.q true fun _ L H=>aI H (g L)
 |_,_,_=>dV d
def qva(P:Program)(d n:Nat)(t:TypeId)(a x:Operand):jC d:=
 match oP P t,gK P t,aH d n a,aH d n x with
 |some true,some k,⟨g⟩,⟨h⟩=>.e fun _ L H=>dY k H (g L) (h L)
 |some false,some 1,⟨g⟩,⟨h⟩=>.e fun _ L H=>gJ H (g L) (h L)
 |_,_,_,_=>dV d
def qmi(d n:Nat)(x:Operand):jC d:=
 match aH d n x with
 |⟨g⟩=>.q false fun _ L _=>match g L with| .ptr b o=>.val (.ptr b o)| .fn a b c=>.val (.fn a b c)| .yield l=>.val (.yield l)|_=>.bad
def zds(P:Program)(d n:Nat)(op:BinOp)(t:TypeId)(x y:Operand):jC d:=
 match vF P op t,aH d n x,aH d n y with
 |⟨e⟩,⟨g⟩,⟨h⟩=>.q false fun _ L _=>e (g L) (h L)
def zxd(d n:Nat)(op:UnOp)(x:Operand):jC d:=
 match mR op,aH d n x with|⟨e⟩,⟨g⟩=>.q false fun _ L _=>e (g L)
def qkq(P:Program)(d n:Nat)(s t:TypeId)(x:Operand):jC d:=
 match P.underlying s,P.underlying t,aH d n x with
 |some (.int _),some (.int k),⟨g⟩=>.q false fun _ L _=>qtz k (g L)
 |some .string,some .string,⟨g⟩=>.q false fun _ L _=>match g L with| .str n a=>.val (.str n a)|_=>.bad
 |some .string,some (.slice e),⟨g⟩=>match P.underlying e with
  |some (.int .u8)=>.q false fun nm L _=>qz6 nm (g L)
  |_=>dV d
 |some (.slice e),some .string,⟨g⟩=>match P.underlying e with
  |some (.int .u8)=>match gK P e with|some 1=>.q true fun _ L H=>ztq H (g L)|_=>dV d
  |_=>dV d
 |_,_,_=>dV d
def qcy(P:Program)(d n:Nat)(t:TypeId)(x:Operand):jC d:=
 match P.underlying t,aH d n x with
 |some (.interface _),_=>dV d
 |some _,⟨g⟩=>.q false fun _ L _=>.val (.iface t (g L))
 |none,_=>dV d
def qvb(d n:Nat)(f:FuncId)(first cap:Array Operand):jC d:=
 match rO d n first.toList,rO d n cap.toList with
 |⟨g⟩,⟨h⟩=>.q false fun _ L _=>.val (.fn f (g L) (h L))
def q3e(d:Nat)  :jC d:=
 .q false fun nm _ _=>.new (.map nm) (.map [] 0)
def qf5(P:Program)(d n:Nat)(t:TypeId)(l c:Operand):jC d:=
 match P.underlying t,aH d n l,aH d n c with
 |some (.slice e),⟨g⟩,⟨h⟩=>match zV P e,qih P e,gK P e with
  |some z,some w,some s=>bif Nat.beq z.length s then .q false fun nm L _=>qib z w nm (g L) (h L)else dV d
  |_,_,_=>dV d
 |_,_,_=>dV d
def q3c(P:Program)(d n:Nat)(t:TypeId)(x:Operand)(lo hi mx:Option Operand):jC d:=
 match P.underlying t,aH d n x,wC d n lo,wC d n hi,wC d n mx with
 |some .string,⟨g⟩,⟨l⟩,⟨h⟩,_=>match mx with
  |none=>.q false fun _ L _=>qss (g L) (l L) (h L)
  |some _=>dV d
 |some (.slice e),⟨g⟩,⟨l⟩,⟨h⟩,⟨m⟩=>match gK P e with
  |some z=>.q false fun _ L _=>lC z (g L) (l L) (h L) (m L)
  |none=>dV d
 |some (.array n e),⟨g⟩,⟨l⟩,⟨h⟩,⟨m⟩=>match gK P e with
  |some z=>.q false fun _ L _=>qkp n z (g L) (l L) (h L) (m L)
  |none=>dV d
 |some (.pointer arr),⟨g⟩,⟨l⟩,⟨h⟩,⟨m⟩=>match P.underlying arr with
  |some (.array n e)=>match gK P e with
   |some z=>.q false fun _ L _=>qkp n z (g L) (l L) (h L) (m L)
   |none=>dV d
  |_=>dV d
 |_,_,_,_,_=>dV d
def qek(P:Program)(d n:Nat)(s:TypeId)(x:Operand)(f:Nat):jC d:=
 match P.underlying s,aH d n x with
 |some (.struct fs),⟨g⟩=>match fs[f]? with
  |some fl=>match gK P fl.type with
   |some (_+1)=>.q false fun _ L _=>aK fl.offset (g L)
   |_=>dV d
  |none=>dV d
 |_,_=>dV d
def qvd(P:Program)(d n:Nat)(t:TypeId)(x:Operand)(f:Nat):jC d:=
 match P.underlying t,aH d n x with
 |some (.struct fs),⟨g⟩=>match fs[f]? with
  |some fl=>match qka P fl.type with|p=>.q false fun _ L _=>q4o p fl.offset (g L)
  |none=>dV d
 |_,_=>dV d
def qej(P:Program)(d n:Nat)(t:TypeId)(x i:Operand):jC d:=
 match P.underlying t,aH d n x,aH d n i with
 |some (.slice e),⟨g⟩,⟨h⟩=>match gK P e with
  |some z=>.q false fun _ L _=>aN z (g L) (h L)
  |none=>dV d
 |some (.array n e),⟨g⟩,⟨h⟩=>match gK P e with
  |some z=>.q false fun _ L _=>fJ n z (g L) (h L)
  |none=>dV d
 |_,_,_=>dV d
def qvc(P:Program)(d n:Nat)(t:TypeId)(x i:Operand):jC d:=
 match P.underlying t,aH d n x,aH d n i with
 |some .string,⟨g⟩,⟨h⟩=>.q false fun _ L _=>tF (g L) (h L)
 |some (.array n e),⟨g⟩,⟨h⟩=>match gK P e,qka P e with
  |some z,p=>.q false fun _ L _=>aEN p n z (g L) (h L)
  |none,_=>dV d
 |_,_,_=>dV d
def qsv(P:Program)(d n:Nat)(t:TypeId)(m k:Operand)(ok:Bool):jC d:=
 match P.underlying t,aH d n m,aH d n k with
 |some (.map kt et),⟨g⟩,⟨h⟩=>match qT P kt,(P.info? et).bind (·.zero)with
  |some ky,some z=>.q true fun _ L H=>pF ky (qs8 z) ok H (g L) (h L)
  |_,_=>dV d
 |_,_,_=>dV d
def qdk(P:Program)(d n:Nat)(t:TypeId)(m k x:Operand):jC d:=
 match P.underlying t,aH d n m,aH d n k,aH d n x with
 |some (.map kt _),⟨g⟩,⟨h⟩,⟨i⟩=>match qT P kt with
  |some ky=>.e fun _ L H=>mI ky H (g L) (h L) (i L)
  |none=>dV d
 |_,_,_,_=>dV d
def qhy(P:Program)(d n:Nat)(t:TypeId)(m k:Operand):jC d:=
 match P.underlying t,aH d n m,aH d n k with
 |some (.map kt et),⟨g⟩,⟨h⟩=>match qT P kt,(P.info? et).bind (·.zero)with
  |some ky,some z=>.e fun _ L H=>zf7 ky (qs8 z) H (g L) (h L)
  |_,_=>dV d
 |_,_,_=>dV d
def qmj(d n:Nat)(m s x:Operand):jC d:=
 match aH d n m,aH d n s,aH d n x with
 |⟨g⟩,⟨h⟩,⟨i⟩=>.e fun _ L H=>qtv H (g L) (h L) (i L)
/- ranges over maps of at most one entry: an iterator is a block; its map's name and one more (0: no map), the map's clock, and what was seen -/
def zd4(H:Hp)(x:AV):R1:=
 match x with
 | .dP=>.ok (.ptr H.nx 0) (aT H (.fK 0 0 0))
 | .map b=>match H.get b with
  | .map _ clock=>.ok (.ptr H.nx 0) (aT H (.fK (Nat.succ b) clock 0))
  |_=>.bad
 |_=>.bad
def zx7(H:Hp)(b m since pos:Nat)(es:List kH):R1:=
 match es with
 | []=>.ok (.bG [.bool false]) H
 | [e]=>bif Nat.blt e.born since then
   (bif Nat.beq pos 0 then .ok (.bG [.bool true,e.key,e.val]) (H.put b (.fK m since (Nat.succ e.born)))
    else bif Nat.beq pos (Nat.succ e.born)then .ok (.bG [.bool false]) H else .bad)else .bad
 |_=>.bad
def zut(H:Hp)(x:AV):R1:=
 match x with
 | .ptr b o=>bif Nat.beq o 0 then(match H.get b with
  | .fK m since pos=>match m with
   |0=>.ok (.bG [.bool false]) H
   |m'+1=>match H.get m' with
    | .map es clock=>bif Nat.beq clock since then zx7 H b (Nat.succ m') since pos es else .bad
    |_=>.bad
  |_=>.bad)else .bad
 |_=>.bad
def aEY(H:Hp)(x:AV):R0:=
 match x with
 | .ptr b o=>bif Nat.beq o 0 then(match H.get b with
  | .fK m since pos=>match m,pos with
   |m'+1,p+1=>match H.get m' with
    | .map es clock=>bif Nat.beq clock since then(match es with
     | [e]=>bif Nat.beq e.born p then .val (.bG [e.key,e.val])else .bad
     |_=>.bad)else .bad
    |_=>.bad
   |_,_=>.bad
  |_=>.bad)else .bad
 |_=>.bad
def zp4(d n:Nat)(x:Operand):jC d:=
 match aH d n x with
 |⟨g⟩=>.q true fun _ L H=>aEY H (g L)
def q3d(P:Program)(d n:Nat)(t:TypeId)(x:Operand):jC d:=
 match P.underlying t,aH d n x with
 |some (.map _ _),⟨g⟩=>.e fun _ L H=>zd4 H (g L)
 |_,_=>dV d
def zlp(d n:Nat)(x:Operand)(s:Bool):jC d:=
 match s,aH d n x with
 |false,⟨g⟩=>.e fun _ L H=>zut H (g L)
 |true,_=>dV d
def qsw(d n:Nat)(x:Operand)(i:Nat):jC d:=
 match aH d n x with
 |⟨g⟩=>.q false fun _ L _=>match g L with
  | .bG l=>match l[i]? with|some v=>.val v|none=>.bad
  |_=>.bad
/- the one function without a body that is known: the comparison of two strings -/
def qns:String := "internal".push (Char.ofNat 47) ++ "bytealg.abigen_runtime_cmpstring"
def zmt(P:Program)(f:FuncId):Bool:=
 match P.funcs[f]? with
 |some fn=>fn.body.isNone&&fn.name==qns&&fn.origin == ""
 |none=>false
def aD8(l:List AV):R0:=
 match l with
 | [.str n a,.str m b]=>.val (.int .i64 (bif qeb n n a m b then .negSucc 0 else bif eqS n a m b then .ofNat 0 else .ofNat 1))
 |_=>.bad
def q3f(P:Program)(d n:Nat)(f:FuncId)(args:List Operand):jC d:=
 match rO d n args,zmt P f with
 |⟨g⟩,true=>.q false fun _ L _=>aD8 (g L)
 |⟨g⟩,false=>.e fun call L H=>call (.f f) (g L) H
def gP(P:Program)(d n:Nat)(o:Oper):jC d:=
 match o.op with
 | .move x| .assign x=>zxf d n x
 | .pick c a b=>zty d n c a b
 | .alloc t=>q3h P d t
 | .box t x=>aAE P d n t x
 | .build t ps=>q3g P d n t ps
 | .buildSlice t len ps=>qev P d n t len ps
 | .load t a=>zdr P d n t a
 | .store t a x=>qva P d n t a x
 | .nilCheck x=>qmi d n x
 | .binOp op t x y _=>zds P d n op t x y
 | .unOp op _ x=>zxd d n op x
 | .convert s t x=>qkq P d n s t x
 | .makeInterface t x=>qcy P d n t x
 | .makeFunc (.func f) first cap=>qvb d n f first cap
 | .makeMap _ none=>q3e d
 | .makeSlice t l c=>qf5 P d n t l c
 | .slice t x lo hi mx=>q3c P d n t x lo hi mx
 | .fieldAddr s x f=>qek P d n s x f
 | .field t x f=>qvd P d n t x f
 | .indexAddr t x i=>qej P d n t x i
 | .index t x i=>qvc P d n t x i
 | .lookup t m k ok=>qsv P d n t m k ok
 | .mapUpdate t m k x| .insert t m k x=>qdk P d n t m k x
 | .mapEntry t m k=>qhy P d n t m k
 | .entryStore _ m s x=>qmj d n m s x
 | .extract x i=>qsw d n x i
 | .range t x=>q3d P d n t x
 | .next x s=>zlp d n x s
 | .entry x=>zp4 d n x
 | .call {callee:=.builtin b,args,argTypes}=>qd5 P d n b args.toList argTypes.toList
 | .call {callee:=.value (.func f),args,..}=>q3f P d n f args.toList
 | .call {callee:=.value x,args,..}=>match aH d n x,rO d n args.toList with
  |⟨h⟩,⟨g⟩=>.e fun call L H=>vQ call (h L) (g L) H
 |_=>dV d
/- running operations one behind the other -/
inductive Rs(d:Nat) where
 |bad
 |ok (L:TT AV d) (H:Hp)
structure Wd(d:Nat) where f:TT AV d->Option Bool
def qV(d n:Nat)(ops:Array Oper)(o:Oper):Wd d:=
 match o.guard with
 |none=>⟨fun _=>some true⟩
 |some (j,want)=>match(ops[j]?).bind (·.dst)with
  |some t=>bif Nat.blt t n then(match dI (α:=AV) d t with
   |⟨g⟩=>⟨fun L=>match g L with| .bool b=>some (b==want)| .undef=>some false|_=>none⟩)else⟨fun _=>none⟩
  |none=>⟨fun _=>none⟩
structure Pt(d:Nat) where f:TT AV d->AV->TT AV d
def dR(d n:Nat):Option Tmp->Pt d
 |some t=>bif Nat.blt t n then(match setter (α:=AV) d t with|⟨s⟩=>⟨s⟩)else⟨fun L _=>L⟩
 |none=>⟨fun L _=>L⟩
structure St(d:Nat) where f:Call->TT AV d->Hp->Rs d
def doQ{d:Nat}(put:TT AV d->AV->TT AV d)(L:TT AV d)(H:Hp)(r:R0):Rs d:=
 match r with
 | .bad=>.bad
 | .val v=>.ok (put L v) H
 | .new v b=>.ok (put L v) (aT H b)
def doE{d:Nat}(put:TT AV d->AV->TT AV d)(L:TT AV d)(r:R1):Rs d:=
 match r with
 | .bad=>.bad
 | .ok v H=>.ok (put L v) H
def ifW{d:Nat}(w:Option Bool)(a b:Rs d):Rs d:=
 match w with
 |some true=>a
 |some false=>b
 |none=>.bad
def vN(P:Program)(d n:Nat)(ops:Array Oper)(o:Oper):St d:=
 match gP P d n o,o.guard,qV d n ops o,dR d n o.dst with
 | .q _ f,none,_,⟨put⟩=>⟨fun _ L H=>doQ put L H (f H.nx L H)⟩
 | .e f,none,_,⟨put⟩=>⟨fun call L H=>doE put L (f call L H)⟩
 | .q _ f,some _,⟨w⟩,⟨put⟩=>⟨fun _ L H=>ifW (w L) (doQ put L H (f H.nx L H)) (.ok (put L .undef) H)⟩
 | .e f,some _,⟨w⟩,⟨put⟩=>⟨fun call L H=>ifW (w L) (doE put L (f call L H)) (.ok (put L .undef) H)⟩
def q7b{d:Nat}(r:Rs d)(k:TT AV d->Hp->Rs d):Rs d:=match r with| .bad=>.bad| .ok L H=>k L H
/- deferred calls wait in the slot behind the temporaries -/
def pV(o:Oper):Bool:=match o.op with| .defer _=>true|_=>false
structure DfC where
 x:Operand
 args:List Operand
def xM(o:Oper):Option DfC:=
 match o.op,o.guard with
 | .defer {callee:=.value x,args,..},none=>some ⟨x,args.toList⟩
 |_,_=>none
def dl:AV->List AV
 | .bG l=>l
 |_=>[]
def doD{d:Nat}(n:Nat)(put:TT AV d->AV->TT AV d)(L:TT AV d)(H:Hp)(x:AV)(as:List AV):Rs d:=
 match x with
 | .fn f first cap=>.ok (put ((setter d n).f L (.bG (.fn f (first++as++cap) []::dl ((dI d n).f L)))) .undef) H
 |_=>.bad
def yI(P:Program)(d n:Nat)(ops:Array Oper)(o:Oper):St d:=
 match xM o with
 |none=>vN P d n ops o
 |some c=>match aH d n c.x,rO d n c.args,dR d n o.dst with
  |⟨g⟩,⟨h⟩,⟨put⟩=>⟨fun _ L H=>doD n put L H (g L) (h L)⟩
def oO(P:Program)(d n:Nat)(ops:Array Oper):List Oper->St d
 | []=>⟨fun _ L H=>.ok L H⟩
 |o::r=>⟨fun call L H=>q7b ((yI P d n ops o).f call L H) ((oO P d n ops r).f call)⟩
/- regions that draw their order -/
def hasB(m i:Nat):Bool:=Nat.beq (Nat.land (Nat.shiftRight m i) 1) 1
def qU(m i:Nat):Nat:=Nat.lor m (Nat.shiftLeft 1 i)
def zT(m k:Nat):Bool:=Nat.beq (Nat.lor m k) k
def tJ(o:Oper):List Nat:=(o.after.toList.filter (Region.binds .any)).map (·.on)
def qp3(ms:List Nat)(o:Oper):Nat:=(tJ o).foldl (fun s j=>Nat.lor (qU s j) (ms.getD j 0)) 0
def xL(ms:List Nat):List Oper->List Nat
 | []=>ms
 |o::r=>xL (ms++[qp3 ms o]) r
def zw4:Operand->Option Tmp
 | .tmp t=>some t
 |_=>none
def kJ(ops:Array Oper)(o:Oper):List Tmp:=
 o.op.operands.toList.filterMap zw4++(match o.guard with|some (j,_)=>((ops[j]?).bind (·.dst)).toList|none=>[])
def qgy:Op->Bool
 | .alloc _| .box .. | .buildSlice .. | .convert .. | .makeMap .. | .makeSlice .. =>true
 |_=>false
structure Pj(d:Nat) where f:TT AV d->TT AV d
def l9(d n:Nat):List Tmp->Pj d
 | []=>⟨fun _=>same .undef d⟩
 |t::r=>bif Nat.blt t n then(match dI (α:=AV) d t,setter (α:=AV) d t,l9 d n r with|⟨g⟩,⟨s⟩,⟨p⟩=>⟨fun L=>s (p L) (g L)⟩)else l9 d n r
mutual
def oD:Nat->AV->AV->Bool
 |0,_,_=>false
 |k+1,x,y=>match x,y with
  | .undef,.undef| .cB,.cB| .aA,.aA| .sle,.sle| .dP,.dP| .jB,.jB| .mY,.mY=>true
  | .bool a,.bool b=>a==b
  | .int i a,.int j b=>decide (i=j)&&decide (a=b)
  | .str a b,.str c e=>Nat.beq a c&&Nat.beq b e
  | .ptr a b,.ptr c e=>Nat.beq a c&&Nat.beq b e
  | .sl a b c e f,.sl a' b' c' e' f'=>Nat.beq a a'&&Nat.beq b b'&&Nat.beq c c'&&Nat.beq e e'&&f==f'
  | .map a,.map b=>Nat.beq a b
  | .yield a,.yield b=>Nat.beq a b
  | .fn f a b,.fn g c e=>Nat.beq f g&&qE k a c&&qE k b e
  | .iface t a,.iface u b=>Nat.beq t u&&oD k a b
  | .agg a,.agg b=>qE k a b
  | .bG a,.bG b=>qE k a b
  |_,_=>false
def qE:Nat->List AV->List AV->Bool
 |0,_,_=>false
 |_,[],[]=>true
 |k+1,x::l,y::m=>oD k x y&&qE k l m
 |_,_,_=>false
end
structure Pd where
 (i nm:Nat)
 b:bQ
structure Wt where
 (i A:Nat)
 f:Hp->R0
 v:AV
inductive Rx(d:Nat) where
 |bad
 |ok (L:TT AV d) (H:Hp) (pend:List Pd) (iQ:List Wt)
structure Sx(d:Nat) where f:Call->Nat->TT AV d->Hp->List Pd->List Wt->Rx d
def bN(A:Nat)(pend:List Pd)(H:Hp):Hp:=
 List.rec (motive:=fun _=>Hp) H (fun p _ ih=>bif hasB A p.i then ih.put p.nm p.b else ih) pend
def l7(pend:List Pd)(H:Hp):Hp:=
 List.rec (motive:=fun _=>Hp) H (fun p _ ih=>ih.put p.nm p.b) pend
def pG(A:Nat)(pend:List Pd):List Pd:=
 List.rec (motive:=fun _=>List Pd) [] (fun p _ ih=>bif hasB A p.i then ih else p::ih) pend
def pI(A:Nat)(iQ:List Wt):List Wt:=
 List.rec (motive:=fun _=>List Wt) [] (fun p _ ih=>bif hasB A p.i then ih else p::ih) iQ
def zdq(r:R0)(v:AV):Bool:=match r with| .val u=>oD 64 u v|_=>false
def yJ(pend:List Pd)(H:Hp)(iQ:List Wt):Bool:=
 List.rec (motive:=fun _=>Bool) true (fun x _ ih=>zdq (x.f (bN x.A pend H)) x.v&&ih) iQ
def qX{d:Nat}(put:TT AV d->AV->TT AV d)(lk al:Bool)(i A nm:Nat)(L:TT AV d)(H:Hp)(pend:List Pd)(iQ:List Wt)(f:Hp->R0)(w:Option Bool):Rx d:=
 match w with
 |none=>.bad
 |some false=>.ok (put L .undef) H pend iQ
 |some true=>match f (bN A pend H)with
  | .bad=>.bad
  | .val v=>.ok (put L v) H pend (bif lk then⟨i,A,f,v⟩::iQ else iQ)
  | .new v b=>bif al&&b.wr then .ok (put L v) H (⟨i,nm,b⟩::pend) iQ else .bad
def eX{d:Nat}(put:TT AV d->AV->TT AV d)(A:Nat)(L:TT AV d)(H:Hp)(pend:List Pd)(iQ:List Wt)(r:R1)(w:Option Bool):Rx d:=
 match w with
 |none=>.bad
 |some false=>.ok (put L .undef) H pend iQ
 |some true=>match r with
  | .bad=>.bad
  | .ok v H'=>bif yJ (pG A pend) H' (pI A iQ)then .ok (put L v) H' (pG A pend) (pI A iQ)else .bad
def quy(P:Program)(d n:Nat)(ops:Array Oper)(i A:Nat)(o:Oper):Sx d:=
 match gP P d n o,l9 d n (kJ ops o),qV d n ops o,dR d n o.dst with
 | .q lk f,⟨pj⟩,⟨w⟩,⟨put⟩=>⟨fun _ base L H pend iQ=>qX put lk (qgy o.op&& !lk) i A (base+i) L H pend iQ (f (base+i) (pj L)) (w (pj L))⟩
 | .e f,⟨pj⟩,⟨w⟩,⟨put⟩=>⟨fun call _ L H pend iQ=>eX put A L H pend iQ (f call (pj L) (bN A pend H)) (w (pj L))⟩
def zv8{d:Nat}(r:Rx d)(k:TT AV d->Hp->List Pd->List Wt->Rx d):Rx d:=match r with| .bad=>.bad| .ok L H p w=>k L H p w
def rA(P:Program)(d n:Nat)(ops:Array Oper)(ms:List Nat):List Nat->Sx d
 | []=>⟨fun _ _ L H p w=>.ok L H p w⟩
 |i::r=>match ops[i]? with
  |some o=>⟨fun call base L H p w=>zv8 ((quy P d n ops i (ms.getD i 0) o).f call base L H p w) ((rA P d n ops ms r).f call base)⟩
  |none=>⟨fun _ _ _ _ _ _=>.bad⟩
def isE{d:Nat}:jC d->Bool
 | .e _=>true
 | .q .. =>false
def aCS{d:Nat}:jC d->Bool
 | .q lk _=>lk
 | .e _=>false
structure Kd where
 (i A:Nat)
 (kU lk:Bool)
def qp5(P:Program)(d n:Nat)(ms:List Nat):Nat->List Oper->List Kd
 |_,[]=>[]
 |i,o::r=>⟨i,ms.getD i 0,isE (gP P d n o),aCS (gP P d n o)⟩::qp5 P d n ms (i+1) r
def zgf(ks:List Kd):Nat:=ks.foldl (fun s k=>bif k.kU then qU s k.i else s) 0
def zeg(EM:Nat):Nat->Nat->List Kd->List Nat
 |0,_,ks=>ks.map (·.i)
 |k+1,E,ks=>
  match ks.filter (fun x=> !x.kU&&zT (Nat.land x.A EM) E),ks.filter (fun x=>x.kU|| !zT (Nat.land x.A EM) E)with
  |now,rest=>now.map (·.i) ++
   match rest.filter (fun x=>x.kU&&zT (Nat.land x.A EM) E)with
   |e::_=>e.i::zeg EM k (qU E e.i) (rest.filter fun x=> !(Nat.beq x.i e.i))
   | []=>rest.map (·.i)
def qvq(ops:Array Oper)(ks:List Kd):Nat->Nat->List Nat->Bool
 |_,_,[]=>true
 |D,E,i::r=>match ops[i]?,ks[i]? with
  |some o,some k=>(tJ o).all (hasB D)&& !hasB D i&&(!(k.kU||k.lk)||zT E k.A)&&qvq ops ks (qU D i) (bif k.kU then qU E i else E) r
  |_,_=>false
def qqj:Nat->List Oper->Bool
 |_,[]=>true
 |i,o::r=>(tJ o).all (fun j=>Nat.blt j i)&&qqj (i+1) r
def q2y(ops:Array Oper)(ms:List Nat):Bool:=
 (List.range ops.size).all fun k=>match ops[k]? with
  |none=>false
  |some o=>(List.range ops.size).all fun i=>match ops[i]? with
   |none=>false
   |some o'=>match o'.dst with
    |none=>true
    |some t=>Nat.beq i k||hasB (ms.getD k 0) i||hasB (ms.getD i 0) k|| !((kJ ops o).contains t||o.dst==some t)
structure Pln where
 ms:List Nat
 ord:List Nat
 up:Nat
def q0p(P:Program)(d n:Nat)(ops:Array Oper):Option Pln:=
 match xL [] ops.toList with
 |ms=>match qp5 P d n ms 0 ops.toList with
  |ks=>match zeg (zgf ks) ks.length 0 ks with
   |ord=>bif qqj 0 ops.toList&&q2y ops ms&&Nat.beq ord.length ops.size&&qvq ops ks 0 0 ord then
     some ⟨ms,ord,bif ops.toList.any (fun o=>qgy o.op)then ops.size else 0⟩else none
def qkd(P:Program)(d n:Nat)(ops:Array Oper):St d:=
 match q0p P d n ops with
 |none=>⟨fun _ _ _=>.bad⟩
 |some pl=>match rA P d n ops pl.ms pl.ord with
  |⟨g⟩=>⟨fun call L H=>match g call H.nx L ⟨H.t,H.nx+pl.up⟩ [] []with| .bad=>.bad| .ok L' H' pend _=>.ok L' (l7 pend H')⟩
/- code -/
structure Dn(d:Nat) where f:Call->TT AV d->Hp->Rc d
def mG{d:Nat}:Rs d->Rc d
 | .bad=>.bad
 | .ok L H=>.ok .normal L H
def p9{d:Nat}(r:Rc d)(k:TT AV d->Hp->Rc d):Rc d:=
 match r with
 | .ok .normal L H=>k L H
 |r=>r
def qqi{d:Nat}(id:Nat)(r:Rc d):Rc d:=
 match r with
 | .ok (.exit id') L H=>bif Nat.beq id' id then .ok .normal L H else .ok (.exit id') L H
 |r=>r
def condC{d:Nat}(c:AV)(a b:Rc d):Rc d:=
 match c with
 | .bool true=>a
 | .bool false=>b
 |_=>.bad
def qn6{d:Nat}(b:TT AV d->Hp->Rc d)(n:Nat):TT AV d->Hp->Rc d:=
 Nat.rec (motive:=fun _=>TT AV d->Hp->Rc d) (fun _ _=>.bad) (fun _ ih L H=>p9 (b L H) ih) n
def cZ:Nat:=1000000
def endLoop{d:Nat}(l:Nat)(r:R1)(L:TT AV d):Rc d:=
 match r with
 | .bad=>.bad
 | .ok _ H=>match H.get l with
  | .loop true none .. =>.ok .normal L (H.put l .dead)
  | .loop false (some .ret) .. =>.ok .ret L (H.put l .dead)
  | .loop false (some (.exit id)) .. =>.ok (.exit id) L (H.put l .dead)
  |_=>.bad
def jZ:Code->Bool
 | .region _ ops _=> !(ops.toList.any pV)
 | .seq a b=>jZ a&&jZ b
 | .cond _ a b=>jZ a&&jZ b
 | .block _ b=>jZ b
 | .loop b=>jZ b
 | .scope _=>false
 | .rangeFunc .. =>false
 |_=>true
def den(P:Program)(d n:Nat):Code->Dn d
 | .skip| .label _=>⟨fun _ L H=>.ok .normal L H⟩
 | .region _ ops false=>⟨fun call L H=>mG ((oO P d n ops ops.toList).f call L H)⟩
 | .region _ ops true=>match qkd P d n ops with|⟨g⟩=>⟨fun call L H=>mG (g call L H)⟩
 | .seq a b=>⟨fun call L H=>p9 ((den P d n a).f call L H) ((den P d n b).f call)⟩
 | .cond x a b=>match aH d n x with|⟨g⟩=>⟨fun call L H=>condC (g L) ((den P d n a).f call L H) ((den P d n b).f call L H)⟩
 | .block id b=>⟨fun call L H=>qqi id ((den P d n b).f call L H)⟩
 | .loop b=>⟨fun call L H=>qn6 ((den P d n b).f call) cZ L H⟩
 | .scope b=>den P d n b
 | .exit id=>⟨fun _ L H=>.ok (.exit id) L H⟩
 | .goto _=>⟨fun _ _ _=>.bad⟩
 | .ret=>⟨fun _ L H=>.ok .ret L H⟩
 | .rangeFunc f ps assign body=>match aH d n f,jZ assign&&jZ body with
  |_,false=>⟨fun _ _ _=>.bad⟩
  |⟨g⟩,true=>⟨fun call L H=>endLoop H.nx (qif call (g L) [.yield H.nx] (aT H (.loop true none d n L ps.toList assign body))) L⟩
 | .refuse _=>⟨fun _ _ _=>.bad⟩
/- functions -/
structure Rv(d:Nat) where f:TT AV d->Hp->Option AV
def y7(P:Program)(d n:Nat):ResultVar->Rv d
 | .tmp t=>match aH d n (.tmp t)with|⟨g⟩=>⟨fun L _=>some (g L)⟩
 | .cell a t=>match aH d n (.tmp a),oP P t,gK P t with
  |⟨g⟩,some true,some k=>⟨fun L H=>match aV k H (g L)with| .val v=>some v|_=>none⟩
  |⟨g⟩,some false,some _=>⟨fun L H=>match aI H (g L)with| .val v=>some v|_=>none⟩
  |_,_,_=>⟨fun _ _=>none⟩
structure RvL(d:Nat) where f:TT AV d->Hp->Option (List AV)
def q5u(P:Program)(d n:Nat):List ResultVar->RvL d
 | []=>⟨fun _ _=>some []⟩
 |x::r=>match y7 P d n x,q5u P d n r with
  |⟨g⟩,⟨h⟩=>⟨fun L H=>match g L H,h L H with|some v,some l=>some (v::l)|_,_=>none⟩
def zM(P:Program)(d n:Nat)(rs:List ResultVar):Rv d:=
 match rs with
 | [x]=>y7 P d n x
 |l=>match q5u P d n l with|⟨h⟩=>⟨fun L H=>match h L H with|some l=>some (.bG l)|none=>none⟩
def zX(call:Call)(l:List AV):Hp->Option Hp:=
 List.rec (motive:=fun _=>Hp->Option Hp) (fun H=>some H) (fun x _ ih H=>match x with
  | .fn g all []=>match call (.d g) all H with| .ok _ H'=>ih H'| .bad=>none
  |_=>none) l
def eU(v:Option AV)(H:Hp):R1:=match v with|some v=>.ok v H|none=>.bad
def gX{d:Nat}(n:Nat)(call:Call)(res:TT AV d->Hp->Option AV)(L:TT AV d)(H:Hp):R1:=
 match zX call (dl ((dI d n).f L)) H with
 |some H'=>eU (res L H') H'
 |none=>.bad
def aAv{d:Nat}(n:Nat)(call:Call)(res:TT AV d->Hp->Option AV)(r:Rc d):R1:=
 match r with
 | .ok .normal L H=>gX n call res L H
 | .ok .ret L H=>gX n call res L H
 |_=>.bad
structure Fd where f:Call->List AV->Hp->R1
def aR(P:Program)(f:FuncId):Fd:=
 match P.funcs[f]? with
 |none=>⟨fun _ _ _=>.bad⟩
 |some fn=>if fn.name == "runtime.NumGoroutine" then⟨fun _ _ _=> .bad⟩else match fn.body with
  |none=>⟨fun _ _ _=>.bad⟩
  |some c=>
   match zM P (iE (fn.ntmps+1)) fn.ntmps fn.results.toList with
   |⟨res⟩=>⟨fun call args H=>bif Nat.ble args.length fn.ntmps&&Nat.ble (fn.ntmps+1) 262144 then aAv fn.ntmps call res ((den P (iE (fn.ntmps+1)) fn.ntmps c).f call (nK args 0 (same .undef _)) H)else .bad⟩
def qmv(P:Program)(f:FuncId):Bool:=
 match P.funcs[f]? with
 |some fn=>(match fn.body with|some c=>jZ c|none=>false)
 |none=>false
def qfb{d:Nat}(L:TT AV d)(ps:List Tmp)(args:List AV):TT AV d:=
 match ps,args with
 |p::ps,a::as=>qfb ((setter d p).f L a) ps as
 |_,_=>L
def zqd:Ex->Option (Option Code)
 | .normal=>some none
 | .ret=>some (some .ret)
 | .exit id=>some (some (.exit id))
 | .goto _=>none
def endRound{d:Nat}(l:Nat)(r:Rc d):R1:=
 match r with
 | .bad=>.bad
 | .ok e _ H=>match zqd e with
  |none=>.bad
  |some j=>match H.get l with
   | .loop false none d n L ps assign body=>.ok (.bool j.isNone) (H.put l (.loop j.isNone j d n L ps assign body))
   |_=>.bad
def qgs(P:Program)(call:Call)(l:Nat)(args:List AV)(H:Hp):R1:=
 match H.get l with
 | .loop true none d n L ps assign body=>
  bif Nat.beq ps.length args.length&&ps.all (fun p=>Nat.blt p n)then
   match(den P d n assign).f call (qfb ((setter d n).f L .undef) ps args) H with
   | .ok .normal L1 H1=>match H1.get l with
    | .loop true none d' n' L' ps' nC body'=>endRound l ((den P d n body).f call L1 (H1.put l (.loop false none d' n' L' ps' nC body')))
    |_=>.bad
   |_=>.bad
  else .bad
 |_=>.bad
def qp6:R1->Bool
 | .ok (.bool b) _=>b
 |_=>false
end Go.Ev
end
noncomputable section
namespace Go.Ev
variable {α:Type}
def qmw(k:Nat)(t:Q α):α:=
 match k with
 |0=>t.c0|1=>t.c1|2=>t.c2|3=>t.c3|4=>t.c4|5=>t.c5|6=>t.c6|_=>t.c7
def aFx(k:Nat)(t:Q α)(v:α):Q α:=
 match k with
 |0=>{t with c0:=v}|1=>{t with c1:=v}|2=>{t with c2:=v}|3=>{t with c3:=v}
 |4=>{t with c4:=v}|5=>{t with c5:=v}|6=>{t with c6:=v}|_=>{t with c7:=v}
theorem zyr(i:Nat):Nat.land i 7=i%8:=by have:=Nat.and_two_pow_sub_one_eq_mod i 3;omega
theorem aLk(i:Nat):Nat.shiftRight i 3=i / 8:=by have:=Nat.shiftRight_eq_div_pow i 3;omega
theorem lt8{k:Nat}(h:k<8):k=0\/k=1\/k=2\/k=3\/k=4\/k=5\/k=6\/k=7:=by omega
theorem qdn(d i:Nat)(t:TT α (d+1)):(dI (d+1) i).f t=(dI d (i / 8)).f (qmw (i%8) t):=by have e:dI (α:=α) (d+1) i=uU.rec (motive:=fun _=>uU α (d+1)) (fun g=>j6.rec (motive:=fun _=>uU α (d+1)) (fun s=>⟨fun t=>g (s t)⟩) (sel (TT α d) (Nat.land i 7))) (dI d (Nat.shiftRight i 3)):=rfl;rw[e,zyr,aLk];generalize dI (α:=α) d (i / 8)=g;cases g;cases t;rcases lt8 (Nat.mod_lt i (by decide:8>0))with h|h|h|h|h|h|h|h<;>rw[h]<;>rfl
theorem q0e(d i:Nat)(t:TT α (d+1))(v:α):(setter (d+1) i).f t v=aFx (i%8) t ((setter d (i / 8)).f (qmw (i%8) t) v):=by have e:setter (α:=α) (d+1) i=tX.rec (motive:=fun _=>tX α (d+1)) (fun g=>kE.rec (motive:=fun _=>tX α (d+1)) (fun s=>⟨fun t v=>s (fun c=>g c v) t⟩) (aIP (TT α d) (Nat.land i 7))) (setter d (Nat.shiftRight i 3)):=rfl;rw[e,zyr,aLk];generalize setter (α:=α) d (i / 8)=g;cases g;cases t;rcases lt8 (Nat.mod_lt i (by decide:8>0))with h|h|h|h|h|h|h|h<;>rw[h]<;>rfl
theorem zl9(k j:Nat)(hk:k<8)(hj:j<8)(t:Q α)(v:α):qmw k (aFx j t v)=if k=j then v else qmw k t:=by
 rcases lt8 hk with rfl|rfl|rfl|rfl|rfl|rfl|rfl|rfl <;>
  rcases lt8 hj with rfl|rfl|rfl|rfl|rfl|rfl|rfl|rfl<;>simp[qmw,aFx]
theorem qef(d:Nat):∀(i j:Nat) (t:TT α d) (v:α),i<8 ^ d->j<8 ^ d -> (dI d i).f ((setter d j).f t v)=if i=j then v else(dI d i).f t:=by
 induction d with
 |zero=>
  intro i j t v hi hj;have:i=j:=by simp at hi hj;omega
  subst this;rw[if_pos rfl];rfl
 |succ d ih=>
  intro i j t v hi hj;have e:(dI (d+1) i).f ((setter (d+1) j).f t v)=(dI d (i / 8)).f (if i%8=j%8 then(setter d (j / 8)).f (qmw (j%8) (t:Q (TT α d))) v else qmw (i%8) (t:Q (TT α d))):=by rw[qdn,q0e];exact congrArg _ (zl9 _ _ (Nat.mod_lt _ (by decide)) (Nat.mod_lt _ (by decide)) _ _)
  rw[e,qdn];by_cases hm:i%8=j%8
  ·rw[if_pos hm,ih _ _ _ _ (by omega) (by omega)];by_cases hq:i / 8=j / 8
   ·rw[if_pos hq,if_pos (by omega)]
   ·rw[if_neg hq,if_neg (by omega),hm]
  ·rw[if_neg hm,if_neg (by omega)]
theorem qgc(a:α)(d:Nat):∀ i,(dI d i).f (same a d)=a:=by
 induction d with
 |zero=>intro i;rfl
 |succ d ih=>
  intro i;rw[qdn];have:qmw (i%8) (same a (d+1):Q (TT α d))=same a d:=by rcases lt8 (Nat.mod_lt i (by decide:8>0))with h|h|h|h|h|h|h|h<;>rw[h]<;>rfl
  rw[this,ih]
theorem qbx(n:Nat):n<=8 ^ iE n:=by
 unfold iE;simp only[cond_eq_ite,Nat.ble_eq];split
 ·omega
 split
 ·omega
 split
 ·omega
 split
 ·omega
 split
 ·omega
 split
 ·omega
 ·exact Nat.le_of_lt (Nat.lt_pow_self (by decide))
theorem q4v(n:Nat)(_:n<=262144):n<=8 ^ iE n:=qbx n
theorem zlv{d:Nat}(c:TT AV d)(o:Nat):rM c 0 o=[]:=rfl
theorem qs1{d:Nat}(c:TT AV d)(k o:Nat):rM c (k+1) o=(dI d o).f c::rM c k (o+1):=rfl
theorem qf8{d:Nat}(c:TT AV d)(k:Nat):∀ o,(rM c k o).length=k:=by
 induction k with
 |zero=>intro o;rfl
 |succ k ih=>intro o;rw[qs1,List.length_cons,ih]
theorem zd0{d:Nat}(c:TT AV d)(k:Nat):∀ o i,i<k->(rM c k o)[i]? =some ((dI d (o+i)).f c):=by
 induction k with
 |zero=>intro o i h;omega
 |succ k ih=>
  intro o i h;rw[qs1];cases i with
  |zero=>rfl
  |succ i=>rw[List.getElem?_cons_succ,ih _ _ (by omega),show o+1+i=o+(i+1)by omega]
theorem ztj{d:Nat}(o:Nat)(c:TT AV d):nK [] o c=c:=rfl
theorem zk2{d:Nat}(v:AV)(l:List AV)(o:Nat)(c:TT AV d):nK (v::l) o c=nK l (o+1) ((setter d o).f c v):=rfl
theorem qg4{d:Nat}(l:List AV):∀(o:Nat) (c:TT AV d) (i:Nat),o+l.length<=8 ^ d->i<8 ^ d -> (dI d i).f (nK l o c)=if o<=i/\i<o+l.length then l.getD (i-o) .undef else(dI d i).f c:=by
 induction l with
 |nil=>intro o c i _ _;rw[ztj,if_neg (by simp)]
 |cons v l ih=>
  intro o c i h hi;rw[List.length_cons]at h;rw[zk2,ih _ _ _ (by omega) hi,qef _ _ _ _ _ hi (by omega)];simp only[List.length_cons];by_cases h1:o+1<=i/\i<o+1+l.length
  ·rw[if_pos h1,if_pos (by omega)];obtain⟨j,hj⟩:∃ j,i-o=j+1:=⟨i-o-1,by omega⟩;rw[hj,List.getD_cons_succ];congr 1;omega
  ·rw[if_neg h1];by_cases h2:i=o
   ·simp_all
   ·rw[if_neg h2,if_neg (by omega)]
end Go.Ev
end
noncomputable section
namespace Go.Ev
open Go.RowKit
structure Loc where
 (blk base ext z:Nat)
abbrev Im:=Nat->Option Loc
def xV(n a:Nat)(s:ByteArray):Prop:=s.data.toList.length=n/\jV s.data.toList=a
mutual
def aP(ι:Im):AV->Value->Prop
 | .undef,V=>V=.tuple #[]
 | .lit v,V=>V=v
 | .bool b,V=>V=.bool b
 | .int k n,V=>V=.int k n
 | .str n a,V=>∃ s,V=.string s/\xV n a s
 | .ptr b o,V=>∃ l,ι b=some l/\V=.pointer (some ⟨l.blk,l.base+o,none⟩)
 | .cB,V=>V=.pointer none
 | .sl b o len cap ex,V=>len<=cap/\∃ l,ι b=some l/\V=.slice (some ⟨l.blk,l.base+o,none⟩) len (if ex then cap else cap+l.ext)
 | .aA,V=>V=.slice none 0 0
 | .sle,V=>∃ a c,V=.slice (some a) 0 c
 | .map b,V=>∃ l,ι b=some l/\V=.map (some l.blk)
 | .dP,V=>V=.map none
 | .fn f first cap,V=>∃ F C,aM ι first F/\aM ι cap C/\V=.func (.func f) F.toArray C.toArray
 | .yield b,V=>∃ l,ι b=some l/\V=.func (.yield l.blk) #[] #[]
 | .jB,V=>V=.nilFunc
 | .iface t v,V=>∃ X,aP ι v X/\V=.iface t X
 | .mY,V=>V=.nilIface
 | .agg l,V=>∃ vs,aM ι l vs/\V=.agg vs.toArray/\∀ v∈vs,v.oneCell=true
 | .bG l,V=>∃ vs,aM ι l vs/\V=.tuple vs.toArray
def aM(ι:Im):List AV->List Value->Prop
 | [],vs=>vs=[]
 |a::l,vs=>∃ v r,vs=v::r/\aP ι a v/\aM ι l r
end
def Im.le(ι ι':Im):Prop:=∀ b l,ι b=some l->ι' b=some l
theorem Im.le_refl(ι:Im):ι.le ι:=fun _ _ h=>h
theorem Im.le_trans{a b c:Im}(h:a.le b)(k:b.le c):a.le c:=fun x l e=>k x l (h x l e)
mutual
theorem aP.mono{ι ι':Im}(h:ι.le ι'):(v:AV)->(V:Value)->aP ι v V->aP ι' v V
 | .undef,V,hr| .lit _,V,hr| .bool _,V,hr| .int _ _,V,hr| .str _ _,V,hr| .cB,V,hr| .aA,V,hr| .sle,V,hr
 | .dP,V,hr| .jB,V,hr| .mY,V,hr=>by simpa only[aP] using hr
 | .ptr b o,V,hr=>by simp only[aP]at *;obtain⟨l,h1,h2⟩:=hr;exact⟨l,h _ _ h1,h2⟩
 | .sl b o len cap ex,V,hr=>by simp only[aP]at *;obtain⟨h0,l,h1,h2⟩:=hr;exact⟨h0,l,h _ _ h1,h2⟩
 | .map b,V,hr=>by simp only[aP]at *;obtain⟨l,h1,h2⟩:=hr;exact⟨l,h _ _ h1,h2⟩
 | .yield b,V,hr=>by simp only[aP]at *;obtain⟨l,h1,h2⟩:=hr;exact⟨l,h _ _ h1,h2⟩
 | .fn f first cap,V,hr=>by simp only[aP]at *;obtain⟨F,C,h1,h2,h3⟩:=hr;exact⟨F,C,aM.mono h first F h1,aM.mono h cap C h2,h3⟩
 | .iface t v,V,hr=>by simp only[aP]at *;obtain⟨X,h1,h2⟩:=hr;exact⟨X,aP.mono h v X h1,h2⟩
 | .agg l,V,hr=>by simp only[aP]at *;obtain⟨vs,h1,h2⟩:=hr;exact⟨vs,aM.mono h l vs h1,h2⟩
 | .bG l,V,hr=>by simp only[aP]at *;obtain⟨vs,h1,h2⟩:=hr;exact⟨vs,aM.mono h l vs h1,h2⟩
theorem aM.mono{ι ι':Im}(h:ι.le ι'):(l:List AV)->(vs:List Value)->aM ι l vs->aM ι' l vs
 | [],vs,hr=>by simpa only[aM] using hr
 |a::l,vs,hr=>by simp only[aM]at *;obtain⟨v,r,h1,h2,h3⟩:=hr;exact⟨v,r,h1,aP.mono h a v h2,aM.mono h l r h3⟩
end
theorem aM.length{ι:Im}:∀{l:List AV} {vs:List Value},aM ι l vs->vs.length=l.length
 | [],vs,h=>by simp only[aM]at h;simp[h]
 |a::l,vs,h=>by simp only[aM]at h;obtain⟨v,r,rfl,_,h3⟩:=h;simp[aM.length h3]
theorem aM.get{ι:Im}:∀{l:List AV} {vs:List Value},aM ι l vs->∀(i:Nat) (a:AV),l[i]? =some a->∃ v,vs[i]? =some v/\aP ι a v
 | [],vs,h,i,a,hi=>by simp at hi
 |x::l,vs,h,i,a,hi=>by
  simp only[aM]at h;obtain⟨v,r,rfl,h2,h3⟩:=h;cases i with
  |zero=>simp at hi;subst hi;exact⟨v,rfl,h2⟩
  |succ i=>simp at hi;obtain⟨v',h4,h5⟩:=aM.get h3 i a hi;exact⟨v',by simpa using h4,h5⟩
theorem aM.append{ι:Im}:∀{l m:List AV} {vs us:List Value},aM ι l vs->aM ι m us->aM ι (l++m) (vs++us)
 | [],m,vs,us,h,k=>by simp only[aM]at h;subst h;simpa using k
 |x::l,m,vs,us,h,k=>by simp only[aM]at h;obtain⟨v,r,rfl,h2,h3⟩:=h;simp only[List.cons_append,aM];exact⟨v,r++us,rfl,h2,aM.append h3 k⟩
theorem aM.drop{ι:Im}:∀{l:List AV} {vs:List Value} (n:Nat),aM ι l vs->aM ι (l.drop n) (vs.drop n)
 |l,vs,0,h=>by simpa using h
 | [],vs,n+1,h=>by simp only[aM]at h;subst h;simp[aM]
 |x::l,vs,n+1,h=>by simp only[aM]at h;obtain⟨v,r,rfl,h2,h3⟩:=h;simpa using aM.drop n h3
theorem aM.take{ι:Im}:∀{l:List AV} {vs:List Value} (n:Nat),aM ι l vs->aM ι (l.take n) (vs.take n)
 |l,vs,0,h=>by simp[aM]
 | [],vs,n+1,h=>by simp only[aM]at h;subst h;simp[aM]
 |x::l,vs,n+1,h=>by simp only[aM]at h;obtain⟨v,r,rfl,h2,h3⟩:=h;simp only[List.take_succ_cons,aM];exact⟨v,r.take n,rfl,h2,aM.take n h3⟩
theorem aM.xQ{ι:Im}:∀{l:List AV} {vs:List Value},vs.length=l.length->(∀(i:Nat) (a:AV),l[i]? =some a->∃ v,vs[i]? =some v/\aP ι a v)->aM ι l vs
 | [],vs,h,_=>by simp only[aM];exact List.length_eq_zero_iff.1 (by simpa using h)
 |x::l,[],h,_=>by simp at h
 |x::l,v::r,h,k=>by
  simp only[aM];refine⟨v,r,rfl,?_,aM.xQ (by simpa using h) fun i a hi=>?_⟩
  ·obtain⟨v',h1,h2⟩:=k 0 x rfl;simp at h1;subst h1;exact h2
  ·obtain⟨v',h1,h2⟩:=k (i+1) a (by simpa using hi);exact⟨v',by simpa using h1,h2⟩
theorem aM.singleton{ι:Im}{a:AV}{v:Value}(h:aP ι a v):aM ι [a] [v]:=by simp only[aM];exact⟨v,[],rfl,h,rfl⟩
def bW(ι:Im):List kH->List MapEntry->Prop
 | [],es=>es=[]
 |x::l,es=>∃ e r,es=e::r/\aP ι x.key e.key/\aP ι x.val e.val/\e.born=x.born/\bW ι l r
theorem bW.mono{ι ι':Im}(h:ι.le ι'):∀(l:List kH) (es:List MapEntry),bW ι l es->bW ι' l es
 | [],es,k=>k
 |x::l,es,k=>by simp only[bW]at *;obtain⟨e,r,h1,h2,h3,h4,h5⟩:=k;exact⟨e,r,h1,aP.mono h _ _ h2,aP.mono h _ _ h3,h4,bW.mono h _ _ h5⟩
structure LR(ι:Im)(d n:Nat)(L:TT AV d)(tmps:Array Value):Prop where
 size:tmps.size=n
 fits:n<8 ^ d
 get:∀ i,i<n->aP ι ((dI d i).f L) (tmps.getD i Go.undef)
theorem LR.fit{ι:Im}{d n:Nat}{L:TT AV d}{tmps:Array Value}(k:LR ι d n L tmps):n<=8 ^ d:=Nat.le_of_lt k.fits
theorem LR.mono{ι ι':Im}{d n:Nat}{L:TT AV d}{tmps:Array Value}(h:ι.le ι')(k:LR ι d n L tmps):LR ι' d n L tmps:=
 ⟨k.size,k.fits,fun i hi=>aP.mono h _ _ (k.get i hi)⟩
theorem LR.set{ι:Im}{d n:Nat}{L:TT AV d}{tmps:Array Value}(k:LR ι d n L tmps){t:Nat}(ht:t<n){v:AV}{V:Value}(hv:aP ι v V):LR ι d n ((setter d t).f L v) (tmps.setIfInBounds t V):=by
 have hs:=k.size;have hf:=k.fits;refine⟨by simp[hs],hf,fun i hi=>?_⟩;rw[qef _ _ _ _ _ (by omega) (by omega)];by_cases h:i=t
 ·subst h;rw[if_pos rfl];simp[hs,ht];exact hv
 ·rw[if_neg h];have:=k.get i hi;simpa [Array.getElem?_setIfInBounds_ne (Ne.symm h)] using this
def BR(ι:Im)(w:World)(b:Nat):bQ->Prop
 | .dead=>True
 | .cells d n c ro z=>∃ l,ι b=some l/\(n<=8 ^ d/\l.z=z) /\
   (∀i,i<n->∃ V,w.cell? ⟨l.blk,l.base+i,none⟩=some V/\aP ι ((dI d i).f c) V/\V.oneCell=true/\(ro=false->w.frozen? ⟨l.blk,l.base+i,none⟩=false)) /\
   (ro=false->∀ j,j<l.ext*l.z->∃ V,w.cell? ⟨l.blk,l.base+(n+j),none⟩=some V/\w.frozen? ⟨l.blk,l.base+(n+j),none⟩=false/\V.oneCell=true)
 | .map es clock=>∃ l ES,ι b=some l/\w.heap[l.blk]? =some (.map ES.toArray clock)/\bW ι es ES
 | .fK m since pos=>∃ l r,ι b=some l/\l.base=0/\w.heap[l.blk]? =some (.mapIter r since (match pos with|0=> #[]|p+1=> #[p]) since) /\
   (match m with|0=>r=none|m'+1=>∃ lm,ι m'=some lm/\r=some lm.blk)
 | .loop ready pending d n L params assign body=>∃ l lp,ι b=some l/\w.heap[l.blk]? =some (.loop lp) /\
   lp.state=(if ready then .ready else if pending.isSome then .done else .busy)/\lp.pending=pending/\lp.params.toList=params/\lp.assign=assign/\lp.body=body/\LR ι d n L lp.tmps/\jZ assign=true/\jZ body=true
def bQ.dG:bQ->Bool
 | .dead=>true
 |_=>false
theorem bQ.bE{b:bQ}(h:b.wr=true):b.dG=false:=by cases b<;>simp_all [bQ.wr,bQ.dG]
def gU(_:Nat):Prop:=True
theorem nR{b:Nat}:gU b:=trivial
structure HR(ι:Im)(H:Hp)(w:World):Prop where
 top:gU (H.nx)
 blk:∀ b,gU (b)->BR ι w b (H.get b)
 low:∀ b l,gU (b)->(H.get b).dG=false->ι b=some l->l.blk<w.heap.size
 inj:∀ b c l m,gU (b)->gU (c)->(H.get b).wr=true->(H.get c).dG=false->ι b=some l->ι c=some m->l.blk=m.blk->b=c
 fresh:∀ b,H.nx<=b->ι b=none
 free:∀ b,H.nx<=b->gU (b)->H.get b=.dead
theorem HR.lt{ι:Im}{H:Hp}{w:World}(_:HR ι H w){b:Nat}{l:Loc}(_:ι b=some l):gU (b):=by exact nR
structure Fr(ι ι':Im)(H H':Hp)(w w':World):Prop where
 le:ι.le ι'
 nx:H.nx<=H'.nx
 dom:∀ b,ι b=none->ι' b≠none->H.nx<=b
 os:w'.os=w.os
 tape:w'.tape=w.tape
 output:w'.output=w.output
 size:w.heap.size<=w'.heap.size
 keep:∀ c,c<w.heap.size->(∀b l,gU (b)->(H.get b).wr=true->ι b=some l->l.blk≠c)->w'.heap[c]? =w.heap[c]?
 new:∀ b l,gU (b)->(H'.get b).wr=true->ι' b=some l->w.heap.size<=l.blk\/∃ b0 l0,gU (b0)/\(H.get b0).wr=true/\ι b0=some l0/\l0.blk=l.blk
 live:∀ b l,gU (b)->(H'.get b).dG=false->ι' b=some l->w.heap.size<=l.blk\/∃ b0 l0,gU (b0)/\(H.get b0).dG=false/\ι b0=some l0/\l0.blk=l.blk
theorem Fr.refl(ι:Im)(H:Hp)(w:World):Fr ι ι H H w w:=
 ⟨Im.le_refl _,Nat.le_refl _,fun _ h k=>absurd h k,rfl,rfl,rfl,Nat.le_refl _,fun _ _ _=>rfl,fun b l hb h1 h2=>.inr ⟨b,l,hb,h1,h2,rfl⟩,fun b l hb h1 h2=>.inr ⟨b,l,hb,h1,h2,rfl⟩⟩
theorem Fr.trans{ι ι' zS:Im}{H H' H'':Hp}{w w' w'':World}(f:Fr ι ι' H H' w w')(g:Fr ι' zS H' H'' w' w''):Fr ι zS H H'' w w'':=by
 refine⟨Im.le_trans f.le g.le,Nat.le_trans f.nx g.nx,fun b h k=>?_,g.os.trans f.os,g.tape.trans f.tape,g.output.trans f.output,Nat.le_trans f.size g.size,fun c hc hk=>?_,fun b l hb h1 h2=>?_,fun b l hb h1 h2=>?_⟩
 ·cases h':ι' b with
  |none=>exact Nat.le_trans f.nx (g.dom b h' k)
  |some l=>exact f.dom b h (by simp[h'])
 ·rw[g.keep c (Nat.lt_of_lt_of_le hc f.size) ?_,f.keep c hc hk];intro b l hb h1 h2 he;rcases f.new b l hb h1 h2 with h3|⟨b0,l0,h3,h4,h5,h6⟩
  ·omega
  ·exact hk b0 l0 h3 h4 h5 (h6.trans he)
 ·rcases g.new b l hb h1 h2 with h3|⟨b0,l0,h3,h4,h5,h6⟩
  ·exact .inl (Nat.le_trans f.size h3)
  ·rcases f.new b0 l0 h3 h4 h5 with h7|⟨b1,l1,h7,h8,h9,h10⟩
   ·exact .inl (by omega)
   ·exact .inr ⟨b1,l1,h7,h8,h9,h10.trans h6⟩
 ·rcases g.live b l hb h1 h2 with h3|⟨b0,l0,h3,h4,h5,h6⟩
  ·exact .inl (Nat.le_trans f.size h3)
  ·rcases f.live b0 l0 h3 h4 h5 with h7|⟨b1,l1,h7,h8,h9,h10⟩
   ·exact .inl (by omega)
   ·exact .inr ⟨b1,l1,h7,h8,h9,h10.trans h6⟩
theorem Fr.below{ι ι':Im}{H H':Hp}{w w':World}(f:Fr ι ι' H H' w w')(B:Nat)(hB:B<=w.heap.size)(h:∀ b l,gU (b)->(H.get b).wr=true->ι b=some l->B<=l.blk):Below B w w':=
 ⟨f.os,f.tape,f.output,f.size,fun k hk=>f.keep k (by omega) fun b l hb h1 h2 he=>by have:=h b l hb h1 h2;omega⟩
end Go.Ev
end
noncomputable section
namespace Go.Ev
open Go.RowKit
theorem qqg{w w':World}{a:Addr}(h:w'.heap[a.block]? =w.heap[a.block]?):w'.cell? a=w.cell? a:=by unfold World.cell?;rw[h]
theorem qj7{w w':World}{a:Addr}(h:w'.heap[a.block]? =w.heap[a.block]?):w'.frozen? a=w.frozen? a:=by unfold World.frozen?;rw[h]
theorem BR.keep{ι:Im}{w w':World}{b:Nat}{k:bQ}(h:BR ι w b k)(hk:∀ l,k.dG=false->ι b=some l->w'.heap[l.blk]? =w.heap[l.blk]?):BR ι w' b k:=by
 cases k with
 |dead=>trivial
 |cells d n c ro z=>
  obtain⟨l,h1,h2,h3,h4⟩:=h;have e:=hk l rfl h1;refine⟨l,h1,h2,fun i hi=>?_,fun hr j hj=>?_⟩
  ·obtain⟨V,a,b,c,d⟩:=h3 i hi;exact⟨V,by rw[qqg (w:=w) e];exact a,b,c,fun hr=>by rw[qj7 (w:=w) e];exact d hr⟩
  ·obtain⟨V,a,b⟩:=h4 hr j hj;exact⟨V,by rw[qqg (w:=w) e];exact a,by rw[qj7 (w:=w) e];exact b⟩
 |map es clock=>obtain⟨l,ES,h1,h2,h3⟩:=h;exact⟨l,ES,h1,by rw[hk l rfl h1];exact h2,h3⟩
 |fK=>obtain⟨l,r,h1,h0,h2,h3⟩:=h;exact⟨l,r,h1,h0,by rw[hk l rfl h1];exact h2,h3⟩
 |loop=>obtain⟨l,lp,h1,h2,h3⟩:=h;exact⟨l,lp,h1,by rw[hk l rfl h1];exact h2,h3⟩
theorem BR.mono{ι ι':Im}{w:World}{b:Nat}{k:bQ}(hle:ι.le ι')(h:BR ι w b k):BR ι' w b k:=by
 cases k with
 |dead=>trivial
 |cells d n c ro z=>obtain⟨l,h1,h2,h3,h4⟩:=h;refine⟨l,hle _ _ h1,h2,fun i hi=>?_,h4⟩;obtain⟨V,a,b,c,d⟩:=h3 i hi;exact⟨V,a,aP.mono hle _ _ b,c,d⟩
 |map es clock=>obtain⟨l,ES,h1,h2,h3⟩:=h;exact⟨l,ES,hle _ _ h1,h2,bW.mono hle _ _ h3⟩
 |fK m=>
  obtain⟨l,r,h1,h0,h2,h3⟩:=h;refine⟨l,r,hle _ _ h1,h0,h2,?_⟩;cases m with
  |zero=>exact h3
  |succ m=>obtain⟨lm,k1,k2⟩:=h3;exact⟨lm,hle _ _ k1,k2⟩
 |loop=>obtain⟨l,lp,h1,h2,h3,h4,h5,h6,h7,h8⟩:=h;exact⟨l,lp,hle _ _ h1,h2,h3,h4,h5,h6,h7,h8.1.mono hle,h8.2⟩
theorem BR.some{ι:Im}{w:World}{b:Nat}{k:bQ}(h:BR ι w b k)(hd:k.dG=false):∃ l,ι b=some l:=by
 cases k with
 |dead=>simp[bQ.dG]at hd
 |cells d n c ro z=>obtain⟨l,h1,_⟩:=h;exact⟨l,h1⟩
 |map es clock=>obtain⟨l,_,h1,_⟩:=h;exact⟨l,h1⟩
 |fK=>obtain⟨l,_,h1,_⟩:=h;exact⟨l,h1⟩
 |loop=>obtain⟨l,_,h1,_⟩:=h;exact⟨l,h1⟩
theorem zz6:8 ^ HD=2097152:=by decide
theorem Mem.get_put(m:Mem)(b c:Nat)(k:bQ):(m.put b k).get c=if c=b then k else m.get c:=by
 unfold Mem.put Mem.get;cases hb:Nat.blt b 2097152 with
 |true=>
  have hb':b<8 ^ HD:=by rw[zz6];simp[Nat.blt]at hb;omega
  cases hc:Nat.blt c 2097152 with
  |true=>
   have hc':c<8 ^ HD:=by rw[zz6];simp[Nat.blt]at hc;omega
   exact qef _ _ _ _ _ hc' hb'
  |false=>
   have:c≠b:=fun e=>by subst e;rw[hb]at hc;cases hc
   simp_all
 |false=>
  cases hc:Nat.blt c 2097152 with
  |true=>
   have:c≠b:=fun e=>by subst e;rw[hb]at hc;cases hc
   simp_all
  |false=>
   show(bif Nat.beq c b then k else m.x c)=if c=b then k else m.x c
   by_cases e:c=b
   ·simp
   ·rw[if_neg e];have:Nat.beq c b=false:=by
     cases h:Nat.beq c b with
     |false=>rfl
     |true=>exact absurd (Nat.eq_of_beq_eq_true h) e
    rw[this];rfl
theorem Hp.get_put(H:Hp)(b c:Nat)(k:bQ)(_:gU (b))(_:gU (c)):(H.put b k).get c=if c=b then k else H.get c:=by exact Mem.get_put H.t b c k
theorem HR.put{ι:Im}{H:Hp}{w w':World}(h:HR ι H w){b:Nat}(hb:gU (b))(hwr:(H.get b).wr=true){l:Loc}(hl:ι b=some l)(k:bQ)(os:w'.os=w.os)(tape:w'.tape=w.tape)(output:w'.output=w.output)(size:w'.heap.size=w.heap.size)(keep:∀ c,c≠l.blk->w'.heap[c]? =w.heap[c]?)(hk:BR ι w' b k):HR ι (H.put b k) w'/\Fr ι ι H (H.put b k) w w':=by
 have live:=bQ.bE hwr;refine⟨⟨h.top,fun c hc=>?_,fun c m hc h1 h2=>?_,fun c c' m m' hc hc' h1 h2 h3 h4 h5=>?_,h.fresh,fun c hc hc'=>?_⟩,
  ⟨Im.le_refl _,Nat.le_refl _,fun c h1 h2=>absurd h1 h2,os,tape,output,by omega,fun c hc h1=>keep c fun e=>h1 b l hb hwr hl e.symm,fun c m hc h1 h2=>?_,fun c m hc h1 h2=>?_⟩⟩
 ·rw[Hp.get_put _ _ _ _ hb hc];by_cases e:c=b
  ·simp_all
  ·rw[if_neg e];exact(h.blk c hc).keep fun m hd hm=>keep _ fun e'=>e (h.inj b c l m hb hc hwr hd hl hm e'.symm).symm
 ·rw[Hp.get_put _ _ _ _ hb hc]at h1;rw[size];by_cases e:c=b
  ·subst e;rw[hl]at h2;cases h2;exact h.low c l hc live hl
  ·rw[if_neg e]at h1;exact h.low c m hc h1 h2
 ·rw[Hp.get_put _ _ _ _ hb hc]at h1;rw[Hp.get_put _ _ _ _ hb hc']at h2;by_cases e:c=b
  ·subst e;by_cases e':c'=c
   ·omega
   ·rw[if_neg e']at h2;exact h.inj c c' m m' hc hc' hwr h2 h3 h4 h5
  ·rw[if_neg e]at h1;by_cases e':c'=b
   ·subst e';exact h.inj c c' m m' hc hc' h1 live h3 h4 h5
   ·rw[if_neg e']at h2;exact h.inj c c' m m' hc hc' h1 h2 h3 h4 h5
 ·have h2:=h.free c hc hc';rw[Hp.get_put _ _ _ _ hb hc'];have:c≠b:=fun e=>by subst e;rw[h2]at hwr;simp[bQ.wr]at hwr
  simp_all
 ·rw[Hp.get_put _ _ _ _ hb hc]at h1;by_cases e:c=b
  ·subst e;exact .inr ⟨c,m,hc,hwr,h2,rfl⟩
  ·rw[if_neg e]at h1;exact .inr ⟨c,m,hc,h1,h2,rfl⟩
 ·rw[Hp.get_put _ _ _ _ hb hc]at h1;by_cases e:c=b
  ·subst e;exact .inr ⟨c,m,hc,live,h2,rfl⟩
  ·rw[if_neg e]at h1;exact .inr ⟨c,m,hc,h1,h2,rfl⟩
theorem HR.kill{ι:Im}{H:Hp}{w:World}(h:HR ι H w){b:Nat}(hb:gU (b))(hwr:(H.get b).wr=true):HR ι (H.put b .dead) w/\Fr ι ι H (H.put b .dead) w w:=by obtain⟨l,hl⟩:=(h.blk b hb).some (bQ.bE hwr);exact h.put hb hwr hl .dead rfl rfl rfl rfl (fun _ _=>rfl) trivial
def Im.set(ι:Im)(b:Nat)(l:Loc):Im:=fun c=>if c=b then some l else ι c
theorem Im.bD(ι:Im)(b:Nat)(l:Loc):(ι.set b l) b=some l:=by simp[Im.set]
theorem Im.dQ(ι:Im){b c:Nat}(l:Loc)(h:c≠b):(ι.set b l) c=ι c:=by simp[Im.set,h]
theorem Im.iL{ι:Im}{b:Nat}(l:Loc)(h:ι b=none):ι.le (ι.set b l):=fun c m hc=>by rw[Im.dQ];exact hc;intro e;subst e;rw[h]at hc;cases hc
theorem HR.add{ι:Im}{H:Hp}{w w':World}(h:HR ι H w){b nx':Nat}(hb:gU (b))(hi:ι b=none)(hd:H.get b=.dead)(hn:H.nx<=nx')(hn':gU (nx'))(hbn:b<nx')(l:Loc)(k:bQ)(size:w.heap.size<=w'.heap.size)(keep:∀ c m,gU (c)->(H.get c).dG=false->ι c=some m->w'.heap[m.blk]? =w.heap[m.blk]?)(hlow:k.dG=false->l.blk<w'.heap.size)(sep:∀ c m,gU (c)->(H.get c).dG=false->ι c=some m->m.blk≠l.blk)(hk:BR (ι.set b l) w' b k):HR (ι.set b l) ⟨H.t.put b k,nx'⟩ w':=by
 have hle:=Im.iL l hi;have hg:∀ c,gU (c)->Hp.get ⟨H.t.put b k,nx'⟩ c=if c=b then k else H.get c:=fun c hc=>by exact Mem.get_put H.t b c k
 refine⟨hn',fun c hc=>?_,fun c m hc h1 h2=>?_,fun c c' m m' hc hc' h1 h2 h3 h4 h5=>?_,fun c hc=>?_,fun c hc hc'=>?_⟩
 ·rw[hg c hc];by_cases e:c=b
  ·simp_all
  ·rw[if_neg e];exact((h.blk c hc).keep fun m h1 h2=>keep c m hc h1 h2).mono hle
 ·rw[hg c hc]at h1;by_cases e:c=b
  ·subst e;rw[if_pos rfl]at h1;rw[Im.bD]at h2;cases h2;exact hlow h1
  ·rw[if_neg e]at h1;rw[Im.dQ _ _ e]at h2;exact Nat.lt_of_lt_of_le (h.low c m hc h1 h2) size
 ·rw[hg c hc]at h1;rw[hg c' hc']at h2;by_cases e:c=b
  ·subst e;by_cases e':c'=c
   ·omega
   ·rw[if_neg e']at h2;rw[Im.bD]at h3;cases h3;rw[Im.dQ _ _ e']at h4;exact absurd h5.symm (sep c' m' hc' h2 h4)
  ·rw[if_neg e]at h1;rw[Im.dQ _ _ e]at h3;by_cases e':c'=b
   ·subst e';rw[Im.bD]at h4;cases h4;exact absurd h5 (sep c m hc (bQ.bE h1) h3)
   ·rw[if_neg e']at h2;rw[Im.dQ _ _ e']at h4;exact h.inj c c' m m' hc hc' h1 h2 h3 h4 h5
 ·have hcb:c≠b:=by simp only at hc;omega
  rw[Im.dQ _ _ hcb];exact h.fresh c (Nat.le_trans hn hc)
 ·have hcb:c≠b:=by simp only at hc;omega
  rw[hg c hc',if_neg hcb];exact h.free c (Nat.le_trans hn hc) hc'
theorem HR.push{ι:Im}{H:Hp}{w w':World}(h:HR ι H w)(hx:gU (H.nx))(l:Loc)(k:bQ)(os:w'.os=w.os)(tape:w'.tape=w.tape)(output:w'.output=w.output)(size:w.heap.size<w'.heap.size)(keep:∀ c,c<w.heap.size->w'.heap[c]? =w.heap[c]?)(hl:l.blk=w.heap.size)(hk:BR (ι.set H.nx l) w' H.nx k):HR (ι.set H.nx l) (aT H k) w'/\Fr ι (ι.set H.nx l) H (aT H k) w w':=by
 have hi:=h.fresh H.nx (Nat.le_refl _);have hd:=h.free H.nx (Nat.le_refl _) hx;refine⟨h.add hx hi hd (Nat.le_succ _) hx (Nat.lt_succ_self _) l k (Nat.le_of_lt size) (fun c m hc h1 h2=>keep _ (h.low c m hc h1 h2)) (fun _=>by omega)
  (fun c m hc h1 h2=>by have:=h.low c m hc h1 h2;omega) hk,
  ⟨Im.iL l hi,Nat.le_succ _,fun c h1 h2=>?_,os,tape,output,Nat.le_of_lt size,fun c hc _=>keep c hc,fun c m hc h1 h2=>?_,fun c m hc h1 h2=>?_⟩⟩
 ·by_cases e:c=H.nx
  ·omega
  ·rw[Im.dQ _ _ e]at h2;exact absurd h1 h2
 ·have hg:(aT H k).get c=if c=H.nx then k else H.get c:=by exact Mem.get_put H.t H.nx c k
  by_cases e:c=H.nx
  ·subst e;rw[Im.bD]at h2;cases h2;exact .inl (by omega)
  ·rw[hg,if_neg e]at h1;rw[Im.dQ _ _ e]at h2;exact .inr ⟨c,m,hc,h1,h2,rfl⟩
 ·have hg:(aT H k).get c=if c=H.nx then k else H.get c:=by exact Mem.get_put H.t H.nx c k
  by_cases e:c=H.nx
  ·subst e;rw[Im.bD]at h2;cases h2;exact .inl (by omega)
  ·rw[hg,if_neg e]at h1;rw[Im.dQ _ _ e]at h2;exact .inr ⟨c,m,hc,h1,h2,rfl⟩
/- stores -/
structure Wrote(w w':World)(blk off:Nat)(vs:List Value):Prop where
 os:w'.os=w.os
 tape:w'.tape=w.tape
 output:w'.output=w.output
 size:w'.heap.size=w.heap.size
 keep:∀ c,c≠blk->w'.heap[c]? =w.heap[c]?
 cell:∀ i,w'.cell? ⟨blk,i,none⟩=if off<=i/\i<off+vs.length then some (vs.getD (i-off) Go.undef)else w.cell? ⟨blk,i,none⟩
 frozen:∀ a,w'.frozen? a=w.frozen? a
theorem addr_add(b o i:Nat):Addr.add ⟨b,o,none⟩ i=⟨b,o+i,none⟩:=by
 unfold Addr.add;split
 ·subst_vars;rfl
 ·rfl
theorem qsx(P:Program)(w:World)(a:Addr)(v:Value){u:Value}(hc:w.cell? a=some u)(hf:w.frozen? a=false)(ho:v.oneCell=true):(Go.store a v).run P w=.ok () (w.setCell a v):=by unfold Go.store;cases v<;>first|(simp[Value.oneCell]at ho;done)|(simp only[Sem.run,hc,hf];rfl)
theorem qgu(P:Program)(blk:Nat):∀(vs:List Value) (w:World) (o i:Nat), (∀j,j<vs.length->∃ u,w.cell? ⟨blk,o+i+j,none⟩=some u/\w.frozen? ⟨blk,o+i+j,none⟩=false)->(∀v∈vs,v.oneCell=true) -> ∃w',(storeCells ⟨blk,o,none⟩ vs i).run P w=.ok () w'/\Wrote w w' blk (o+i) vs:=by
 intro vs
 induction vs with
 |nil=>intro w o i _ _;exact⟨w,rfl,rfl,rfl,rfl,rfl,fun _ _=>rfl,fun j=>by rw[if_neg (by simp)],fun _=>rfl⟩
 |cons v vs ih=>
  intro w o i h1 h2;obtain⟨u,hu,hf⟩:=h1 0 (by simp);simp only[Nat.add_zero]at hu hf;obtain⟨w',hr,hw⟩:=ih (w.setCell ⟨blk,o+i,none⟩ v) o (i+1) (fun j hj=>by obtain⟨u',hu',hf'⟩:=h1 (j+1) (by simpa using hj);rw[show o+(i+1)+j=o+i+(j+1)by omega];refine⟨u',?_,by rw[World.frozen?_setCell];exact hf'⟩;rw[World.cell?_setCell_other];exact hu';intro e;simp at e) (fun x hx=>h2 x (by simp[hx]));refine⟨w',?_,hw.os,hw.tape,hw.output,by rw[hw.size];simp,fun c hc=>?_,fun j=>?_,fun a=>by rw[hw.frozen];simp⟩
  ·unfold storeCells;rw[addr_add,Sem.run_bind,qsx P w _ v hu hf (h2 v (by simp))];exact hr
  ·rw[hw.keep c hc];exact Below.heap_setCell _ _ _ _ hc
  ·rw[hw.cell j];simp only[List.length_cons];by_cases e1:o+(i+1)<=j/\j<o+(i+1)+vs.length
   ·rw[if_pos e1,if_pos (by omega)];obtain⟨q,hq⟩:∃ q,j-(o+i)=q+1:=⟨j-(o+i)-1,by omega⟩;rw[hq,List.getD_cons_succ,show j-(o+(i+1))=q by omega]
   ·rw[if_neg e1];by_cases e2:j=o+i
    ·subst e2;rw[if_pos (by omega),World.cell?_setCell_same w _ v hu];simp
    ·rw[if_neg (by omega),World.cell?_setCell_other];intro e;simp at e;omega
theorem run_loadCellsFrom(P:Program)(w:World)(blk o:Nat):∀(vs:List Value) (i:Nat) (acc:Array Value), (∀j (v:Value),vs[j]? =some v->w.cell? ⟨blk,o+i+j,none⟩=some v) -> (loadCellsFrom ⟨blk,o,none⟩ i vs.length acc).run P w=.ok (acc++vs.toArray) w:=by
 intro vs
 induction vs with
 |nil=>intro i acc _;simp[loadCellsFrom]
 |cons v vs ih=>intro i acc h;have h0:=h 0 v rfl;simp only[Nat.add_zero]at h0;simp only[List.length_cons,loadCellsFrom,Sem.run_bind,addr_add,run_load,h0,Result.andThen_ok];rw[ih (i+1) _ fun j u hj=>by have:=h (j+1) u (by simpa using hj);rw[show o+(i+1)+j=o+i+(j+1)by omega];exact this];simp
theorem run_loadCells(P:Program)(w:World)(blk o:Nat)(vs:List Value)(h:∀ j (v:Value),vs[j]? =some v->w.cell? ⟨blk,o+j,none⟩=some v):(loadCells ⟨blk,o,none⟩ vs.length).run P w=.ok vs.toArray w:=by unfold loadCells;rw[run_loadCellsFrom P w blk o vs 0 #[] (by simpa using h)];simp
end Go.Ev
end
noncomputable section
namespace Go.Ev
open Go.RowKit
variable {P:Program} {w:World} {ι:Im}
theorem rU{a b:Nat}(h:Nat.blt a b=true):a<b:=Nat.le_of_ble_eq_true h
theorem q69{a b:Nat}(h:Nat.blt a b=false):¬ a<b:=fun k=>by have:Nat.blt a b=true:=Nat.ble_eq_true_of_le k;simp_all
theorem nN{a b:Nat}(h:Nat.ble a b=true):a<=b:=Nat.le_of_ble_eq_true h
theorem zzv{a b:Nat}(h:Nat.ble a b=false):¬ a<=b:=fun k=>by have:=Nat.ble_eq_true_of_le k;simp_all
theorem sH{a b:Nat}(h:Nat.beq a b=true):a=b:=Nat.eq_of_beq_eq_true h
theorem qt3{a b:Nat}(h:Nat.beq a b=false):a≠b:=Nat.ne_of_beq_eq_false h
theorem bS{t:TypeId}{d:TypeDesc}(h:P.underlying t=some d):(underlying t).run P w=.ok d w:=by simp[underlying,h]
theorem zd5{t:TypeId}{i:TypeInfo}(h:P.info? t=some i):(typeInfo t).run P w=.ok i w:=by simp[typeInfo,h]
theorem mJ{t:TypeId}{n:Nat}(h:gK P t=some n):(sizeOf t).run P w=.ok n w:=by
 unfold gK at h;cases hi:P.info? t with
 |none=>simp[hi]at h
 |some i=>simp[hi]at h;simp[sizeOf,zd5 hi,h]
theorem qs2{t:TypeId}{n:Nat}(h:qih P t=some n):∃ i,(∀w,(typeInfo t).run P w=.ok i w)/\i.bytes=n:=by
 unfold qih at h;cases hi:P.info? t with
 |none=>simp[hi]at h
 |some i=>simp[hi]at h;exact⟨i,fun _=>zd5 hi,h⟩
theorem qfk{t:TypeId}{b:Bool}(h:oP P t=some b):(isAgg t).run P w=.ok b w:=by
 unfold oP at h;cases hi:P.underlying t with
 |none=>simp[hi]at h
 |some d=>simp only[hi,Option.map_some,Option.some.injEq]at h;unfold isAgg;rw[Sem.run_bind,bS hi];subst h;cases d<;>rfl
theorem yZ{t:TypeId}{z:Value}(h:(P.info? t).bind (·.zero)=some z):(zeroValue t).run P w=.ok z w:=by
 cases hi:P.info? t with
 |none=>simp[hi]at h
 |some i=>simp[hi]at h;simp[zeroValue,zd5 hi,h]
theorem zem(v:Value)(h:zY v=true):v.oneCell=true:=by cases v<;>simp_all [zY,Value.oneCell]
theorem qjf(v:Value):aP ι (qm2 v) v:=by
 unfold qm2;split<;>simp only[aP]
 ·exact⟨_,rfl,rfl,rfl⟩
theorem qje:∀ l:List Value,aM ι (l.map qm2) l
 | []=>by simp[aM]
 |v::l=>by simp only[List.map_cons,aM];exact⟨v,l,rfl,qjf v,qje l⟩
theorem qfl(v:Value):aP ι (qs8 v) v:=by
 unfold qs8;split
 ·rename_i cs;cases h:cs.toList.all zY with
  |false=>simp[aP]
  |true=>exact⟨cs.toList,qje _,by simp,fun v hv=>zem v (List.all_eq_true.1 h v hv)⟩
 ·rfl
 ·exact qjf _
theorem qn8{z:Value}{l:List AV}(h:qjo z=some l):aM ι l z.cells.toList/\∀ v∈z.cells.toList,v.oneCell=true:=by
 unfold qjo at h;split at h
 ·rename_i cs;cases hc:cs.toList.all zY with
  |false=>simp[hc]at h
  |true=>simp[hc]at h;subst h;exact⟨by simpa [Value.cells] using qje cs.toList,fun v hv=>zem v (List.all_eq_true.1 hc v (by simpa [Value.cells] using hv))⟩
 ·simp at h
 ·rename_i h1 h2;simp at h;subst h;have e:z.cells= #[z]:=by unfold Value.cells;split<;>first|rfl|simp_all
  rw[e];refine⟨aM.singleton (qjf z),fun v hv=>?_⟩;simp at hv;subst hv;cases v<;>simp_all [Value.oneCell]
theorem qcn{t:TypeId}{l:List AV}(h:zV P t=some l):∃ z,(P.info? t).bind (·.zero)=some z/\aM ι l z.cells.toList/\∀ v∈z.cells.toList,v.oneCell=true:=by
 unfold zV at h;cases hz:(P.info? t).bind (·.zero)with
 |none=>simp[hz]at h
 |some z=>rw[hz]at h;exact⟨z,rfl,qn8 h⟩
theorem qky{ι':Im}{w':World}{nm:Nat}{l:List AV}{vs:List Value}{loc:Loc}(hi:ι' nm=some loc)(hr:aM ι' l vs)(ho:∀ v∈vs,v.oneCell=true)(hc:∀(i:Nat) (v:Value),vs[i]? =some v->w'.cell? ⟨loc.blk,loc.base+i,none⟩=some v/\w'.frozen? ⟨loc.blk,loc.base+i,none⟩=false)(hx:∀ j,j<loc.ext*loc.z->∃ V,w'.cell? ⟨loc.blk,loc.base+(l.length+j),none⟩=some V/\w'.frozen? ⟨loc.blk,loc.base+(l.length+j),none⟩=false/\V.oneCell=true):BR ι' w' nm (aD loc.z l):=by
 have hle:l.length<=8 ^ iE l.length:=qbx _;refine⟨loc,hi,⟨hle,rfl⟩,fun i hi'=>?_,fun _=>hx⟩;rw[qg4 _ _ _ _ (by omega) (by omega),if_pos (by omega)];have hg:l[i]? =some (l.getD i .undef):=by simp[hi']
 obtain⟨v,h1,h2⟩:=hr.get i _ hg;obtain⟨h3,h4⟩:=hc i v h1;exact⟨v,h3,by simpa using h2,ho v (List.mem_of_getElem? h1),fun _=>h4⟩
structure New(w w':World)(l:Loc):Prop where
 os:w'.os=w.os
 tape:w'.tape=w.tape
 output:w'.output=w.output
 size:w'.heap.size=w.heap.size+1
 keep:∀ c,c<w.heap.size->w'.heap[c]? =w.heap[c]?
 blk:l.blk=w.heap.size
theorem New.alloc(w:World)(o:Obj)(e z:Nat):New w (w.alloc o) ⟨w.heap.size,0,e,z⟩:=
 ⟨rfl,rfl,rfl,by simp,fun c hc=>Below.heap_alloc w o c hc,rfl⟩
def gT(P:Program)(o:Oper)(ρ:Operand->Value)(ι:Im)(w:World)(nm:Nat):R0->Prop
 | .bad=>True
 | .val v=>∃ V,(execOp ρ o).run P w=.ok (.value V) w/\aP ι v V
 | .new v k=>∃ V w' l,(execOp ρ o).run P w=.ok (.value V) w'/\New w w' l/\∀ ι',ι.le ι'->ι' nm=some l->aP ι' v V/\BR ι' w' nm k
theorem qfp{l:List AV}{vs:List Value}(hr:aM ι l vs)(ho:∀ v∈vs,v.oneCell=true)(t:TypeId)(nm z:Nat):∀ι',ι.le ι'->ι' nm=some ⟨w.heap.size,0,0,z⟩->BR ι' (w.alloc (.cells vs.toArray t)) nm (aD z l):=by intro ι' hle hi;refine qky (loc:=⟨w.heap.size,0,0,z⟩) hi (aM.mono hle _ _ hr) ho (fun i v hv=>?_) (fun j hj=>by simp at hj);simp[hv]
theorem dN{d n:Nat}{L:TT AV d}{a:Act}(h:LR ι d n L a.tmps)(x:Operand):aP ι ((aH d n x).f L) (a.eval x):=by
 cases x with
 |tmp t=>
  simp only[aH];cases ht:Nat.blt t n with
  |true=>have ht':=rU ht;have:=h.get t ht';trivial
  |false=>
   have ht':=q69 ht;simp only[cond_false,aP,Act.eval];have:a.tmps.size<=t:=by rw[h.size];omega
   simp[Array.getElem?_eq_none this,Go.undef]
 |const v=>exact qfl v
 |global g=>simp[aH,aP,Act.eval]
 |func f=>simp only[aH,aP,Act.eval];exact⟨[],[],by simp[aM],by simp[aM],rfl⟩
theorem qco{d n:Nat}{L:TT AV d}{a:Act}(h:LR ι d n L a.tmps):∀ l:List Operand,aM ι ((rO d n l).f L) (l.map a.eval)
 | []=>by simp[rO,aM]
 |x::l=>by exact⟨_,_,rfl,dN h x,qco h l⟩
theorem zp6{o:Oper}{a:Act}{x:Operand}{nm:Nat}(ho:o.op=.move x\/o.op=.assign x){d n:Nat}{L:TT AV d}(h:LR ι d n L a.tmps):gT P o a.eval ι w nm (.val ((aH d n x).f L)):=by refine⟨a.eval x,?_,dN h x⟩;rcases ho with ho|ho<;>simp[execOp,ho]
theorem zxu{o:Oper}{a:Act}{c x y:Operand}{nm:Nat}(ho:o.op=.pick c x y){d n:Nat}{L:TT AV d}(h:LR ι d n L a.tmps):gT P o a.eval ι w nm (dX ((aH d n c).f L) ((aH d n x).f L) ((aH d n y).f L)):=by
 have hc:=dN h c;unfold dX;split
 ·rename_i e;rw[e]at hc;simp only[aP]at hc;exact⟨_,by simp[execOp,ho,asBool,hc],dN h x⟩
 ·rename_i e;rw[e]at hc;simp only[aP]at hc;exact⟨_,by simp[execOp,ho,asBool,hc],dN h y⟩
 ·trivial
theorem zuh{o:Oper}{ρ:Operand->Value}{t:TypeId}{nm:Nat}(ho:o.op=.alloc t){z:List AV}(hz:zV P t=some z):gT P o ρ ι w nm (.new (.ptr nm 0) (aD 0 z)):=by
 obtain⟨zv,h1,h2,h3⟩:=qcn (ι:=ι) hz;refine⟨.pointer (some ⟨w.heap.size,0,none⟩),_,⟨w.heap.size,0,0,0⟩,?_,New.alloc w (.cells zv.cells.toList.toArray t) 0 0,fun ι' hle hi=>⟨?_,qfp h2 h3 t nm 0 ι' hle hi⟩⟩
 ·simp only[execOp,ho,Instr.alloc,Sem.run_bind,yZ h1,Result.andThen_ok,newVar,newRow];simp
 ·simp only[aP];exact⟨_,hi,rfl⟩
def AV.plain:AV->Bool
 | .agg _| .bG _| .undef| .lit _=>false
 |_=>true
theorem aP.one{v:AV}{V:Value}(h:aP ι v V)(hv:v.plain=true):V.oneCell=true/\V.cells= #[V]:=by
 cases v<;>first|(simp[AV.plain]at hv;done)|skip
 all_goals simp only[aP]at h
 all_goals first
  |(subst h;exact⟨rfl,rfl⟩)
  |(obtain⟨_,rfl,_⟩:=h;exact⟨rfl,rfl⟩)
  |(obtain⟨_,_,rfl⟩:=h;exact⟨rfl,rfl⟩)
  |(obtain⟨_,_,_,rfl⟩:=h;exact⟨rfl,rfl⟩)
  |(obtain⟨_,_,_,_,rfl⟩:=h;exact⟨rfl,rfl⟩)
theorem zx0{o:Oper}{a:Act}{t:TypeId}{x:Operand}{nm:Nat}(ho:o.op=.box t x){d n:Nat}{L:TT AV d}(h:LR ι d n L a.tmps):gT P o a.eval ι w nm (lQ nm ((aH d n x).f L)):=by
 have hx:=dN h x;unfold lQ;split<;>first|trivial|skip
 rename_i hn1 hn2 wF hn4;have hp:((aH d n x).f L).plain=true:=by
  unfold AV.plain;split
  ·simp_all
  ·simp_all
  ·trivial
  ·simp_all
  ·rfl
 obtain⟨h1,hc⟩:=hx.one hp;refine⟨.pointer (some ⟨w.heap.size,0,none⟩),_,⟨w.heap.size,0,0,0⟩,?_,New.alloc w (.cells [a.eval x].toArray t) 0 0,fun ι' hle hi=>⟨?_,qfp (aM.singleton hx) (by simpa using h1) t nm 0 ι' hle hi⟩⟩
 ·simp[execOp,ho,Instr.box,newVar,newRow,hc]
 ·simp only[aP];exact⟨_,hi,rfl⟩
end Go.Ev
end
noncomputable section
namespace Go.Ev
open Go.RowKit
variable {P:Program} {w:World} {ι:Im} {o:Oper} {a:Act} {nm:Nat} {d n:Nat} {L:TT AV d} {H:Hp}
theorem zxz{t:TypeId}{x:Operand}(ho:o.op=.box t x)(k:Nat)(h:LR ι d n L a.tmps):gT P o a.eval ι w nm (bB k nm ((aH d n x).f L)):=by
 have hx:=dN h x;unfold bB;split
 ·rename_i l e;rw[e]at hx;simp only[aP]at hx;obtain⟨vs,h1,h2,h3⟩:=hx;cases Nat.beq l.length k with
  |false=>trivial
  |true=>
   refine⟨.pointer (some ⟨w.heap.size,0,none⟩),_,⟨w.heap.size,0,0,0⟩,?_,New.alloc w (.cells vs.toArray t) 0 0,fun ι' hle hi=>⟨?_,qfp h1 h3 t nm 0 ι' hle hi⟩⟩
   ·simp[execOp,ho,Instr.box,newVar,newRow,h2,Value.cells]
   ·simp only[aP];exact⟨_,hi,rfl⟩
 ·trivial
/- loads -/
theorem qvl{b:Nat}{k:bQ}(hb:BR ι w b k){i:Nat}{v:AV}(h:dO k i=.val v):∃ l V,ι b=some l/\w.cell? ⟨l.blk,l.base+i,none⟩=some V/\aP ι v V/\V.oneCell=true:=by
 cases k with
 |cells d n c ro z=>
  obtain⟨l,h1,h2,h3,_⟩:=hb;simp only[dO]at h;cases hi:Nat.blt i n with
  |false=>rw[hi]at h;cases h
  |true=>rw[hi]at h;simp only[cond_true,R0.val.injEq]at h;subst h;obtain⟨V,h4,h5,h6,_⟩:=h3 i (rU hi);simp_all
 |_=>simp[dO]at h
theorem q0k(k:bQ)(i:Nat):dO k i=.bad\/∃ v,dO k i=.val v:=by
 cases k with
 |cells d n c ro z=>
  cases hi:Nat.blt i n with
  |false=>left;simp[dO,hi]
  |true=>right;exact⟨_,by simp[dO,hi];rfl⟩
 |_=>left;rfl
theorem qel{b:Nat}{k:bQ}(hb:BR ι w b k){i m:Nat}{l:List AV}(h:gN k i m=some l):l.length=m/\(m=0\/∃ loc vs,ι b=some loc/\aM ι l vs/\vs.length=m/\(∀v∈vs,v.oneCell=true)/\∀(j:Nat) (v:Value),vs[j]? =some v->w.cell? ⟨loc.blk,loc.base+i+j,none⟩=some v):=by
 cases k with
 |cells d n c ro z=>
  obtain⟨loc,h1,h2,h3,_⟩:=hb;simp only[gN]at h;cases hi:Nat.ble (i+m) n with
  |false=>rw[hi]at h;cases h
  |true=>
   rw[hi]at h;simp only[cond_true,Option.some.injEq]at h;subst h;refine⟨qf8 _ _ _,.inr ?_⟩;have hle:=nN hi;have hex:∀ j,j<m->∃ V,w.cell? ⟨loc.blk,loc.base+(i+j),none⟩=some V/\aP ι ((dI d (i+j)).f c) V/\V.oneCell=true:=fun j hj=>by obtain⟨V,h4,h5,h6,_⟩:=h3 (i+j) (by omega);exact⟨V,h4,h5,h6⟩
   obtain⟨f,hf⟩:∃ f:Nat->Value,∀j,j<m->w.cell? ⟨loc.blk,loc.base+(i+j),none⟩=some (f j)/\aP ι ((dI d (i+j)).f c) (f j)/\(f j).oneCell=true:=by refine⟨fun j=>if hj:j<m then Classical.choose (hex j hj)else .nilFunc,fun j hj=>?_⟩;simp only[hj,dif_pos];exact Classical.choose_spec (hex j hj)
   refine⟨loc,(List.range m).map f,h1,aM.xQ (by simp[qf8]) fun j x hx=>?_,by simp,fun v hv=>?_,fun j v hv=>?_⟩
   ·have hj:j<m:=by
     rcases Nat.lt_or_ge j m with h'|h'
     ·exact h'
     ·rw[List.getElem?_eq_none (by rw[qf8];exact h')]at hx;cases hx
    rw[zd0 _ _ _ _ hj]at hx;cases hx;simp_all
   ·simp at hv;obtain⟨j,hj,rfl⟩:=hv;exact(hf j hj).2.2
   ·have hj:j<m:=by
     rcases Nat.lt_or_ge j m with h'|h'
     ·exact h'
     ·simp_all
    simp[hj]at hv;subst hv;rw[Nat.add_assoc];exact(hf j hj).1
 |_=>simp[gN]at h
theorem zt7{t:TypeId}{x:Operand}(ho:o.op=.load t x)(ht:oP P t=some false)(hH:HR ι H w)(h:LR ι d n L a.tmps):gT P o a.eval ι w nm (aI H ((aH d n x).f L)):=by
 have hx:=dN h x;unfold aI;split
 ·rename_i b i e;rw[e]at hx;simp only[aP]at hx;obtain⟨l,h1,h2⟩:=hx;rcases q0k (H.get b) i with hb|⟨v,hb⟩
  ·rw[hb];trivial
  ·rw[hb];obtain⟨l',V,h3,h4,h5,_⟩:=qvl (hH.blk b (hH.lt h1)) hb;rw[h1]at h3;cases h3;exact⟨V,by simp[execOp,ho,Instr.loadAt,h2,Instr.sureAddr,loadVar,qfk ht,h4],h5⟩
 ·trivial
theorem zt6{t:TypeId}{x:Operand}(ho:o.op=.load t x)(ht:oP P t=some true){k:Nat}(hk:gK P t=some k)(hH:HR ι H w)(h:LR ι d n L a.tmps):gT P o a.eval ι w nm (aV k H ((aH d n x).f L)):=by
 have hx:=dN h x;unfold aV;split
 ·rename_i b i e;rw[e]at hx;simp only[aP]at hx;obtain⟨l,h1,h2⟩:=hx;cases hb:gN (H.get b) i k with
  |none=>trivial
  |some cs=>
   obtain⟨hlen,hr⟩:=qel (hH.blk b (hH.lt h1)) hb;have run:∀ vs:List Value,vs.length=k->(∀(j:Nat) (v:Value),vs[j]? =some v->w.cell? ⟨l.blk,l.base+i+j,none⟩=some v)->(execOp a.eval o).run P w=.ok (.value (.agg vs.toArray)) w:=fun vs h3 h4=>by have:=run_loadCells P w l.blk (l.base+i) vs h4;rw[h3]at this;simp[execOp,ho,Instr.loadAt,h2,Instr.sureAddr,loadVar,qfk ht,mJ hk,this]
   rcases hr with rfl|⟨loc,vs,h3,h4,h5,h6,h7⟩
   ·have:cs=[]:=List.length_eq_zero_iff.1 hlen;subst this;exact⟨_,run [] rfl (by simp),by simp only[aP];exact⟨[],by simp[aM],rfl,by simp⟩⟩
   ·rw[h1]at h3;cases h3;exact⟨_,run vs h5 h7,by simp only[aP];exact⟨vs,h4,rfl,h6⟩⟩
 ·trivial
theorem q5y{x:Operand}(ho:o.op=.nilCheck x)(h:LR ι d n L a.tmps):gT P o a.eval ι w nm (match(aH d n x).f L with| .ptr b o=>.val (.ptr b o)| .fn a b c=>.val (.fn a b c)| .yield l=>.val (.yield l)|_=>.bad):=by
 have hx:=dN h x;split
 ·rename_i e;rw[e]at hx;refine⟨a.eval x,?_,hx⟩;simp only[aP]at hx;obtain⟨l,_,h2⟩:=hx;simp[execOp,ho,h2]
 ·rename_i e;rw[e]at hx;refine⟨a.eval x,?_,hx⟩;simp only[aP]at hx;obtain⟨F,C,_,_,h2⟩:=hx;simp[execOp,ho,h2]
 ·rename_i e;rw[e]at hx;refine⟨a.eval x,?_,hx⟩;simp only[aP]at hx;obtain⟨l,_,h2⟩:=hx;simp[execOp,ho,h2]
 ·trivial
theorem q0m{s:TypeId}{x:Operand}{f:Nat}(ho:o.op=.fieldAddr s x f){fs:Array Field}(hs:P.underlying s=some (.struct fs)){fl:Field}(hf:fs[f]? =some fl){z:Nat}(hz:gK P fl.type=some (z+1))(h:LR ι d n L a.tmps):gT P o a.eval ι w nm (aK fl.offset ((aH d n x).f L)):=by
 have hx:=dN h x;unfold aK;split
 ·rename_i b i e;rw[e]at hx;simp only[aP]at hx;obtain⟨l,h1,h2⟩:=hx;refine⟨.pointer (some ⟨l.blk,l.base+(i+fl.offset),none⟩),?_,by simp only[aP];exact⟨l,h1,rfl⟩⟩;simp[execOp,ho,Instr.fieldAt,bS hs,hf,h2,Instr.sureAddr,fieldPlace,mJ hz,addr_add,Nat.add_assoc]
 ·trivial
theorem zxx{t e:TypeId}{x y:Operand}(ho:o.op=.indexAddr t x y)(ht:P.underlying t=some (.slice e)){z:Nat}(hz:gK P e=some z)(h:LR ι d n L a.tmps):gT P o a.eval ι w nm (aN z ((aH d n x).f L) ((aH d n y).f L)):=by
 have hx:=dN h x;have hy:=dN h y;unfold aN;split
 ·rename_i b i len cap ex k j e1 e2;rw[e1]at hx;rw[e2]at hy;simp only[aP]at hx hy;obtain⟨_,l,h1,h2⟩:=hx;cases hj:Nat.blt j len with
  |false=>trivial
  |true=>have hj':=rU hj;refine⟨.pointer (some ⟨l.blk,l.base+(i+j*z),none⟩),?_,by simp only[aP];exact⟨l,h1,rfl⟩⟩;simp[execOp,ho,Instr.indexAt,hy,h2,asIntOf,bS ht,mJ hz,hj',addr_add,Nat.add_assoc]
 ·trivial
theorem zxy{t e:TypeId}{x y:Operand}(ho:o.op=.indexAddr t x y){len:Nat}(ht:P.underlying t=some (.array len e)){z:Nat}(hz:gK P e=some z)(h:LR ι d n L a.tmps):gT P o a.eval ι w nm (fJ len z ((aH d n x).f L) ((aH d n y).f L)):=by
 have hx:=dN h x;have hy:=dN h y;unfold fJ;split
 ·rename_i b i k j e1 e2;rw[e1]at hx;rw[e2]at hy;simp only[aP]at hx hy;obtain⟨l,h1,h2⟩:=hx;cases hj:Nat.blt j len with
  |false=>trivial
  |true=>have hj':=rU hj;refine⟨.pointer (some ⟨l.blk,l.base+(i+j*z),none⟩),?_,by simp only[aP];exact⟨l,h1,rfl⟩⟩;simp[execOp,ho,Instr.indexAt,hy,h2,asIntOf,bS ht,mJ hz,hj',addr_add,Nat.add_assoc,Instr.sureAddr]
 ·trivial
theorem zm8{a b:IntKind}(h:uK a b=true):a=b:=by cases a<;>cases b<;>first|rfl|(simp[uK,zfg]at h)
theorem zO(a b:Int):qB a b=(a==b):=by rw[Bool.eq_iff_iff];cases a<;>cases b<;>simp[qB,Nat.beq_eq];omega
theorem rX(k:IntKind)(n:Int):aP ι (.int k n) (.int k n):=by simp only[aP]
theorem qs0(b:Bool):aP ι (.bool b) (.bool b):=by simp only[aP]
theorem yA(a b:Int):oM a b=decide (a<b):=by
 have hb:∀ m n:Nat,Nat.blt m n=decide (m<n):=fun m n=>by
  cases h:Nat.blt m n with
  |true=>simp[rU h]
  |false=>simp[q69 h]
 cases a with
 |ofNat m=>cases b with
  |ofNat n=>simp[oM,hb]
  |negSucc n=>simp[oM];omega
 |negSucc m=>cases b with
  |ofNat n=>simp[oM];omega
  |negSucc n=>simp only[oM,hb];congr 1;simp;omega
theorem zfs{k:IntKind}{n:Int}(h:qtt k n=true):k.wrap n=n:=by
 cases n with
 |ofNat m=>
  cases k<;>simp only[qtt]at h<;>have h:=rU h
  ·exact IntWalk.i8_in _ (by simp only[Int.ofNat_eq_natCast];omega)
  ·exact IntWalk.i16_in _ (by simp only[Int.ofNat_eq_natCast];omega)
  ·exact IntWalk.i32_in _ (by simp only[Int.ofNat_eq_natCast];omega)
  ·exact IntWalk.i64_in _ (by simp only[Int.ofNat_eq_natCast];omega)
  ·exact IntWalk.u8_in _ (by simp only[Int.ofNat_eq_natCast];omega)
  ·exact IntWalk.u16_in _ (by simp only[Int.ofNat_eq_natCast];omega)
  ·exact IntWalk.u32_in _ (by simp only[Int.ofNat_eq_natCast];omega)
  ·exact IntWalk.u64_in _ (by simp only[Int.ofNat_eq_natCast];omega)
 |negSucc m=>
  cases k<;>simp only[qtt]at h<;>first|(cases h;done)|have h:=rU h
  ·exact IntWalk.i8_in _ (by omega)
  ·exact IntWalk.i16_in _ (by omega)
  ·exact IntWalk.i32_in _ (by omega)
  ·exact IntWalk.i64_in _ (by omega)
theorem qij(k:IntKind)(n:Int):sW k n=k.wrap n:=by
 unfold sW;cases h:qtt k n with
 |true=>simp[zfs h]
 |false=>rfl
theorem q0g{op:BinOp}{t ty:TypeId}{x y:Operand}(ho:o.op=.binOp op t x y ty){k:IntKind}{m p:Int}(hx:a.eval x=.int k m)(hy:a.eval y=.int k p):(execOp a.eval o).run P w=((binOp op t (.int k m) (.int k p)).run P w).andThen fun v w=>.ok (.value v) w:=by simp only[execOp,ho,hx,hy,eqGuard];simp
theorem zfk{op:BinOp}{t ty:TypeId}{x y:Operand}(ho:o.op=.binOp op t x y ty)(hop:op≠ .shl/\op≠ .shr){k:IntKind}{m p:Int}(hx:a.eval x=.int k m)(hy:a.eval y=.int k p):gT P o a.eval ι w nm ((aJ op).f k m p):=by
 have hr:=q0g (P:=P) (w:=w) ho hx hy;cases op<;>simp only[aJ]
 case shl=>exact absurd rfl hop.1
 case shr=>exact absurd rfl hop.2
 case quo|rem=>
  cases hz:qB p 0 with
  |true=>trivial
  |false=>
   have hz':p≠0:=by rw[zO]at hz;simpa using hz
   refine⟨_,?_,rX _ _⟩;rw[hr];simp[binOp,Op.intDiv,hz',qij]
 all_goals
  refine⟨_,?_,by first|exact rX _ _|exact qs0 _⟩;rw[hr];simp[binOp,Op.intArith,Op.intBits,Op.intCmp,qij,zO,yA]
 all_goals first|rfl|(rw[<-decide_not];congr 1;simp)
theorem aIv{op:BinOp}{t ty:TypeId}{x y:Operand}(ho:o.op=.binOp op t x y ty)(hop:op≠ .shl/\op≠ .shr)(h:LR ι d n L a.tmps):gT P o a.eval ι w nm (aB (aJ op).f ((aH d n x).f L) ((aH d n y).f L)):=by
 have hx:=dN h x;have hy:=dN h y;unfold aB;split
 ·rename_i k m k' p e1 e2;rw[e1]at hx;rw[e2]at hy;simp only[aP]at hx hy;cases hk:uK k k' with
  |false=>trivial
  |true=>have:=zm8 hk;subst this;exact zfk ho hop hx hy
 ·trivial
theorem zea{op:BinOp}{t ty:TypeId}{x y:Operand}(ho:o.op=.binOp op t x y ty)(hop:op=.shl\/op=.shr)(h:LR ι d n L a.tmps):gT P o a.eval ι w nm (qu6 (qhx op).f ((aH d n x).f L) ((aH d n y).f L)):=by
 have hx:=dN h x;have hy:=dN h y;unfold qu6;split
 ·rename_i k m k' p e1 e2;rw[e1]at hx;rw[e2]at hy;simp only[aP]at hx hy;have hr:(execOp a.eval o).run P w=((binOp op t (.int k m) (.int k' p)).run P w).andThen fun v w=>.ok (.value v) w:=by
   simp only[execOp,ho,hx,hy,eqGuard];simp
  rcases hop with rfl|rfl<;>simp only[qhx]
  all_goals
   cases hz:oM p 0 with
   |true=>trivial
   |false=>
    have hz':¬ p<0:=by rw[yA]at hz;simpa using hz
    refine⟨_,?_,rX _ _⟩;rw[hr];simp[binOp,Op.shift,hz',qij]
 ·trivial
theorem aPA{op:UnOp}{t:TypeId}{x:Operand}(ho:o.op=.unOp op t x)(h:LR ι d n L a.tmps):gT P o a.eval ι w nm ((mR op).f ((aH d n x).f L)):=by
 have hx:=dN h x;cases op<;>simp only[mR]<;>first|trivial|skip
 ·split
  ·rename_i e;rw[e]at hx;simp only[aP]at hx;exact⟨_,by simp[execOp,ho,hx,Op.unary,Op.intArith,qij],rX _ _⟩
  ·trivial
 ·split
  ·rename_i e;rw[e]at hx;simp only[aP]at hx;exact⟨_,by simp[execOp,ho,hx,Op.unary],qs0 _⟩
  ·trivial
theorem zuf{s t:TypeId}{x:Operand}(ho:o.op=.convert s t x){ds:TypeDesc}(hs:P.underlying s=some ds){k:IntKind}(ht:P.underlying t=some (.int k))(h:LR ι d n L a.tmps):gT P o a.eval ι w nm (qtz k ((aH d n x).f L)):=by
 have hx:=dN h x;unfold qtz;split
 ·rename_i e;rw[e]at hx;simp only[aP]at hx;exact⟨_,by simp[execOp,ho,hx,convert,bS hs,bS ht,Conv.intToInt,qij],rX _ _⟩
 ·trivial
theorem zue{s t:TypeId}{x:Operand}(ho:o.op=.convert s t x)(hs:P.underlying s=some .string)(ht:P.underlying t=some .string)(h:LR ι d n L a.tmps):gT P o a.eval ι w nm (match(aH d n x).f L with| .str n a=>.val (.str n a)|_=>.bad):=by
 have hx:=dN h x;split
 ·rename_i e;rw[e]at hx;refine⟨a.eval x,?_,hx⟩;obtain⟨z,h1,_⟩:=hx;simp[execOp,ho,h1,convert,bS hs,bS ht]
 ·trivial
theorem qmq{t:TypeId}{x:Operand}(ho:o.op=.makeInterface t x){dt:TypeDesc}(ht:P.underlying t=some dt)(hn:∀ ms,dt≠ .interface ms)(h:LR ι d n L a.tmps):gT P o a.eval ι w nm (.val (.iface t ((aH d n x).f L))):=by refine⟨.iface t (a.eval x),?_,by simp only[aP];exact⟨_,dN h x,rfl⟩⟩;simp only[execOp,ho,Instr.makeInterface,Sem.run_bind,bS ht,Result.andThen_ok];rfl
theorem q50{f:FuncId}{first cap:Array Operand}(ho:o.op=.makeFunc (.func f) first cap)(h:LR ι d n L a.tmps):gT P o a.eval ι w nm (.val (.fn f ((rO d n first.toList).f L) ((rO d n cap.toList).f L))):=by refine⟨.func (.func f) (first.map a.eval) (cap.map a.eval),by simp[execOp,ho,Instr.makeFunc],?_⟩;exact⟨_,_,qco h _,qco h _,by rw[<-Array.toList_map,<-Array.toList_map]⟩
theorem zeb{t:TypeId}(ho:o.op=.makeMap t none):gT P o a.eval ι w nm (.new (.map nm) (.map [] 0)):=by
 refine⟨.map (some w.heap.size),w.alloc (.map #[] 0),⟨w.heap.size,0,0,0⟩,?_,New.alloc w _ 0 0,fun ι' hle hi=>⟨by simp only[aP];exact⟨_,hi,rfl⟩,⟨_,[],hi,?_,by simp[bW]⟩⟩⟩
 ·simp[execOp,ho,Instr.makeMap]
 ·show(w.heap.push _)[w.heap.size]? =_;simp
theorem zec{x:Operand}{i:Nat}(ho:o.op=.extract x i)(h:LR ι d n L a.tmps):gT P o a.eval ι w nm (match(aH d n x).f L with
   | .bG l=>match l[i]? with|some v=>.val v|none=>.bad
   |_=>.bad):=by
 have hx:=dN h x;split
 ·rename_i l e;rw[e]at hx;simp only[aP]at hx;obtain⟨vs,h1,h2⟩:=hx;split
  ·rename_i v hv;obtain⟨V,h3,h4⟩:=h1.get i v hv;exact⟨V,by simp[execOp,ho,h2,Instr.extract,h3],h4⟩
  ·trivial
 ·trivial
theorem qf3(s:ByteArray):s.toList=s.data.toList:=ByteArray.toList_eq s
theorem qbv(b:UInt8)(l:List UInt8):jV (b::l)=jV l*256+b.toNat:=rfl
theorem qkv:jV []=0:=rfl
theorem qjr(b:UInt8):b.toNat<256:=b.toNat_lt
theorem pack_inj:∀{l m:List UInt8},l.length=m.length->jV l=jV m->l=m
 | [],[],_,_=>rfl
 | [],_::_,h,_=>by simp at h
 |_::_,[],h,_=>by simp at h
 |b::l,c::m,h,k=>by
  rw[qbv,qbv]at k;have h1:=qjr b;have h2:=qjr c;have e1:b.toNat=c.toNat:=by omega
  have e2:jV l=jV m:=by omega
  rw[UInt8.toNat_inj.1 e1,pack_inj (by simpa using h) e2]
theorem qm0:∀ l m:List UInt8,jV (l++m)=jV l+256 ^ l.length*jV m
 | [],m=>by simp[qkv]
 |b::l,m=>by rw[List.cons_append,qbv,qbv,qm0 l m,List.length_cons,Nat.pow_succ,Nat.add_mul,Nat.mul_assoc,Nat.mul_assoc,Nat.mul_comm (jV m) 256];omega
theorem qmz:∀(l:List UInt8) (k:Nat),jV (l.drop k)=jV l / 256 ^ k
 |l,0=>by simp
 | [],k+1=>by simp[qkv]
 |b::l,k+1=>by have:=qjr b;rw[List.drop_succ_cons,qmz l k,qbv,Nat.pow_succ,Nat.mul_comm (256 ^ k) 256,<-Nat.div_div_eq_div_mul];congr 1;omega
theorem qvr:∀(l:List UInt8) (k:Nat),jV (l.take k)=jV l%256 ^ k
 |l,0=>by simp[qkv,Nat.mod_one]
 | [],k+1=>by simp[qkv]
 |b::l,k+1=>by have:=qjr b;rw[List.take_succ_cons,qbv,qbv,qvr l k,Nat.pow_succ,Nat.mul_comm (256 ^ k) 256,Nat.mod_mul,show(jV l*256+b.toNat) / 256=jV l by omega,show(jV l*256+b.toNat)%256=b.toNat by omega];omega
theorem zef(k:Nat):256 ^ k=2 ^ (8*k):=by rw[Nat.pow_mul]
theorem qtk(x:Nat):Nat.land x 255=x%256:=by have:=Nat.and_two_pow_sub_one_eq_mod x 8;omega
theorem aB8(x k:Nat):Nat.shiftRight x (Nat.mul 8 k)=x / 256 ^ k:=by have:=Nat.shiftRight_eq_div_pow x (8*k);rw[zef];exact this
theorem aJu(x k:Nat):Nat.shiftLeft x (Nat.mul 8 k)=256 ^ k*x:=by have:=Nat.shiftLeft_eq x (8*k);rw[zef,Nat.mul_comm];exact this
theorem aJV(x k:Nat):Nat.land x (Nat.sub (Nat.shiftLeft 1 (Nat.mul 8 k)) 1)=x%256 ^ k:=by rw[aJu,Nat.mul_one,zef];simp
theorem qwt(l:List UInt8)(i:Nat)(h:i<l.length):rW (jV l) i=(l[i]).toNat:=by unfold rW;rw[qtk,aB8,<-qmz,List.drop_eq_getElem_cons h,qbv];simp
theorem xV.eq{n a m b:Nat}{s t:ByteArray}(h:xV n a s)(k:xV m b t):eqS n a m b=(s.data.toList==t.data.toList):=by obtain⟨rfl,rfl⟩:=h;obtain⟨rfl,rfl⟩:=k;unfold eqS;rw[Bool.eq_iff_iff];simp only[Bool.and_eq_true,Nat.beq_eq,beq_iff_eq];exact⟨fun⟨h1,h2⟩=>pack_inj h1 h2,fun h=>by rw[h];exact⟨rfl,rfl⟩⟩
theorem xV.append{n a m b:Nat}{s t:ByteArray}(h:xV n a s)(k:xV m b t):xV (n+m) (Nat.add a (Nat.shiftLeft b (Nat.mul 8 n))) (s++t):=by
 obtain⟨rfl,rfl⟩:=h;obtain⟨rfl,rfl⟩:=k;have e:(s++t).data.toList=s.data.toList++t.data.toList:=by simp
 exact⟨by rw[e,List.length_append],by rw[e,qm0,aJu];rfl⟩
theorem zfa:∀(l m:List UInt8),qeb l.length l.length (jV l) m.length (jV m)=Op.bytesLess l m
 | [],[]=>rfl
 | [],c::m=>by simp[qeb,Op.bytesLess];rfl
 |b::l,[]=>by simp[qeb,Op.bytesLess]
 |b::l,c::m=>by
  have ih:=zfa l m;have hb:=qjr b;have hc:=qjr c;have e1:Nat.land (jV (b::l)) 255=b.toNat:=by rw[qtk,qbv];omega
  have e2:Nat.land (jV (c::m)) 255=c.toNat:=by rw[qtk,qbv];omega
  have e3:Nat.shiftRight (jV (b::l)) 8=jV l:=by have:=aB8 (jV (b::l)) 1;rw[this,qbv];omega
  have e4:Nat.shiftRight (jV (c::m)) 8=jV m:=by have:=aB8 (jV (c::m)) 1;rw[this,qbv];omega
  show(bif Nat.beq (m.length+1) 0 then false else bif Nat.beq (l.length+1) 0 then true else
   bif Nat.beq (Nat.land (jV (b::l)) 255) (Nat.land (jV (c::m)) 255)then qeb l.length (Nat.pred (l.length+1)) (Nat.shiftRight (jV (b::l)) 8) (Nat.pred (m.length+1)) (Nat.shiftRight (jV (c::m)) 8)
   else Nat.blt (Nat.land (jV (b::l)) 255) (Nat.land (jV (c::m)) 255))=_
  rw[e1,e2,e3,e4];simp only[Nat.pred_succ,Op.bytesLess,ih];have h0:∀ k,Nat.beq (k+1) 0=false:=fun _=>rfl;rw[h0,h0,cond_false,cond_false];cases hbc:Nat.beq b.toNat c.toNat with
  |true=>have e:=UInt8.toNat_inj.1 (sH hbc);subst e;simp
  |false=>
   have e:b≠c:=fun e=>qt3 hbc (by rw[e]);cases hl:Nat.blt b.toNat c.toNat with
   |true=>have:=rU hl;simp[UInt8.lt_iff_toNat_lt,this]
   |false=>have:=q69 hl;simp[UInt8.lt_iff_toNat_lt,this,e]
theorem xV.less{n a m b:Nat}{s t:ByteArray}(h:xV n a s)(k:xV m b t):qeb n n a m b=Op.bytesLess s.data.toList t.data.toList:=by obtain⟨rfl,rfl⟩:=h;obtain⟨rfl,rfl⟩:=k;exact zfa _ _
theorem qmm{n a:Nat}{s:ByteArray}(h:xV n a s):aP ι (.str n a) (.string s):=by simp only[aP];exact⟨s,rfl,h⟩
theorem zlx{op:BinOp}{t ty:TypeId}{x y:Operand}(ho:o.op=.binOp op t x y ty)(h:LR ι d n L a.tmps):gT P o a.eval ι w nm (iU (qJ op).f ((aH d n x).f L) ((aH d n y).f L)):=by
 have hx:=dN h x;have hy:=dN h y;unfold iU;split
 ·rename_i n1 a1 m1 b1 e1 e2;rw[e1]at hx;rw[e2]at hy;simp only[aP]at hx hy;obtain⟨s,hs,h1⟩:=hx;obtain⟨u,hu,h2⟩:=hy;have hr:(execOp a.eval o).run P w=((binOp op t (.string s) (.string u)).run P w).andThen fun v w=>.ok (.value v) w:=by
   simp only[execOp,ho,hs,hu,eqGuard];simp
  cases op<;>simp only[qJ]<;>first|trivial|skip
  case add=>
   cases hle:Nat.ble (n1+m1) 1099511627776 with
   |false=>trivial
   |true=>
    have hle:=nN hle;refine⟨_,?_,qmm (h1.append h2)⟩;rw[hr];have e1:s.size=n1:=h1.1;have e2:u.size=m1:=h2.1;have:¬(((s.size+u.size:Nat):Int)>IntKind.i64.max):=by
     have:IntKind.i64.max=9223372036854775807:=by decide
     omega
    simp only[binOp,Op.stringOp,if_neg this,Sem.run_pure,Result.andThen_ok]
  all_goals
   refine⟨_,?_,qs0 _⟩;rw[hr];simp[binOp,Op.stringOp,qf3,h1.eq h2,h1.less h2]
 ·trivial
theorem zl1{t:TypeId}{x y:Operand}(ho:o.op=.index t x y)(ht:P.underlying t=some .string)(h:LR ι d n L a.tmps):gT P o a.eval ι w nm (tF ((aH d n x).f L) ((aH d n y).f L)):=by
 have hx:=dN h x;have hy:=dN h y;unfold tF;split
 ·rename_i n1 a1 k j e1 e2;rw[e1]at hx;rw[e2]at hy;simp only[aP]at hx hy;obtain⟨s,hs,h1,h2⟩:=hx;cases hj:Nat.blt j n1 with
  |false=>trivial
  |true=>
   have hj':=rU hj;have hlt:j<s.data.toList.length:=by omega
   refine⟨_,?_,rX _ _⟩;have hsz:s.size=n1:=h1;have hg:s[j]? =some (s.data.toList[j]):=by
    have:j<s.size:=by omega
    rw[getElem?_pos s j this];simp;rfl
   rw[<-h2,qwt _ _ hlt];simp[execOp,ho,Instr.index,hs,hy,asIntOf,bS ht,hg]
 ·trivial
def wE(ι:Im):Option AV->Option Value->Prop
 |none,none=>True
 |some a,some v=>aP ι a v
 |_,_=>False
theorem qc9(h:LR ι d n L a.tmps)(x:Option Operand):wE ι ((wC d n x).f L) (x.map a.eval):=by
 cases x with
 |none=>simp[wC,wE]
 |some x=>simp only[wC,Option.map_some,wE];exact dN h x
theorem qwx{x:AV}{X:Value}(hx:aP ι x X){df y k Y:Nat}(h:bnd (some x) df y=some k)(hY:y<=Y)(c:BoundsCode):(Instr.sliceBound X Y c).run P w=.ok k w/\k<=y:=by
 unfold bnd at h;split at h
 ·simp_all
 ·rename_i kk m e;cases e;cases hm:Nat.ble m y with
  |false=>rw[hm]at h;cases h
  |true=>
   rw[hm]at h;simp only[cond_true,Option.some.injEq]at h;subst h;have:=nN hm;have hle:(m:Int)<=Y:=by omega
   subst hx;exact⟨by simp[Instr.sliceBound,asIntOf,hle],this⟩
 ·cases h
theorem qii{lo hi mx:Option AV}{LO HI MX:Option Value}(hl:wE ι lo LO)(hh:wE ι hi HI)(hm:wE ι mx MX){len cap C:Nat}{bd:Bd}(h:bounds len cap lo hi mx=some bd)(hC:cap<=C)(hlc:len<=cap)(isS:Bool):(Instr.sliceBounds isS len C LO HI MX).run P w=.ok (bd.l,bd.h,if mx.isSome then bd.m else C) w/\bd.l<=bd.h/\bd.h<=bd.m/\bd.m<=cap/\(mx=none->bd.m=cap):=by
 cases mx with
 |none=>
  cases MX with
  |some _=>exact hm.elim
  |none=>
   unfold bounds at h;have e0:bnd none cap cap=some cap:=rfl;rw[e0]at h;simp only at h;cases h2:bnd hi len cap with
   |none=>rw[h2]at h;cases h
   |some hh'=>
    rw[h2]at h;simp only at h;cases h3:bnd lo 0 hh' with
    |none=>rw[h3]at h;cases h
    |some ll=>
     rw[h3]at h;simp only[Option.some.injEq]at h;subst h;have aTI:hh'<=cap/\(Instr.sliceBounds isS len C LO HI none).run P w=((match LO with|some v=>Instr.sliceBound v hh' .sliceB|none=>pure 0).run P w).andThen fun l w=>.ok (l,hh',C) w:=by
      cases hi with
      |none=>
       cases HI with
       |some _=>exact hh.elim
       |none=>simp only[bnd,Option.some.injEq]at h2;subst h2;refine⟨hlc,?_⟩;cases LO<;>simp[Instr.sliceBounds]
      |some hi=>
       cases HI with
       |none=>exact hh.elim
       |some HI=>obtain⟨r1,r2⟩:=qwx (P:=P) (w:=w) (ι:=ι) hh h2 hC (if isS then .sliceAcap else .sliceAlen);refine⟨r2,?_⟩;cases LO<;>simp[Instr.sliceBounds,r1]
     rw[aTI.2];cases lo with
     |none=>
      cases LO with
      |some _=>exact hl.elim
      |none=>simp only[bnd,Option.some.injEq]at h3;subst h3;simp;omega
     |some lo=>
      cases LO with
      |none=>exact hl.elim
      |some LO=>obtain⟨r1,r2⟩:=qwx (P:=P) (w:=w) (ι:=ι) hl h3 (Nat.le_refl _) .sliceB;simp_all
 |some mx=>
  cases MX with
  |none=>exact hm.elim
  |some MX=>
   cases hi with
   |none=>simp[bounds]at h
   |some hi=>
    cases HI with
    |none=>exact hh.elim
    |some HI=>
     unfold bounds at h;cases h1:bnd (some mx) cap cap with
     |none=>rw[h1]at h;cases h
     |some mm=>
      rw[h1]at h;simp only at h;cases h2:bnd (some hi) len mm with
      |none=>rw[h2]at h;cases h
      |some hh'=>
       rw[h2]at h;simp only at h;cases h3:bnd lo 0 hh' with
       |none=>rw[h3]at h;cases h
       |some ll=>
        rw[h3]at h;simp only[Option.some.injEq]at h;subst h;obtain⟨m1,m2⟩:=qwx (P:=P) (w:=w) (ι:=ι) hm h1 hC (if isS then .slice3Acap else .slice3Alen);obtain⟨r1,r2⟩:=qwx (P:=P) (w:=w) (ι:=ι) hh h2 (Nat.le_refl _) .slice3B;cases lo with
        |none=>
         cases LO with
         |some _=>exact hl.elim
         |none=>simp only[bnd,Option.some.injEq]at h3;subst h3;simp[Instr.sliceBounds,m1,r1];omega
        |some lo=>
         cases LO with
         |none=>exact hl.elim
         |some LO=>obtain⟨l1,l2⟩:=qwx (P:=P) (w:=w) (ι:=ι) hl h3 (Nat.le_refl _) .slice3C;simp[Instr.sliceBounds,m1,r1,l1];omega
theorem q5x{t:TypeId}{x:Operand}{lo hi:Option Operand}(ho:o.op=.slice t x lo hi none)(ht:P.underlying t=some .string)(h:LR ι d n L a.tmps):gT P o a.eval ι w nm (qss ((aH d n x).f L) ((wC d n lo).f L) ((wC d n hi).f L)):=by
 have hx:=dN h x;unfold qss;split
 ·rename_i m bits e;rw[e]at hx;simp only[aP]at hx;obtain⟨s,h1,h2,h3⟩:=hx;split
  ·rename_i bd hb;obtain⟨r,r1,r2,r3,r4⟩:=qii (P:=P) (w:=w) (ι:=ι) (qc9 h lo) (qc9 h hi) (show wE ι none none from trivial) hb (Nat.le_refl _) (Nat.le_refl _) false;have hsz:s.size=m:=h2;refine⟨.string (s.extract bd.l bd.h),?_,qmm ⟨?_,?_⟩⟩
   ·simp only[execOp,ho,Instr.sliceAt,Sem.run_bind,bS ht,Result.andThen_ok,Instr.slice,h1,Option.map_none,hsz];simp[r]
   ·have:(s.extract bd.l bd.h).size=min bd.h s.size-bd.l:=by simp
    show(s.extract bd.l bd.h).size=_;omega
   ·have:(s.extract bd.l bd.h).data.toList=(s.data.toList.drop bd.l).take (bd.h-bd.l):=by simp
    rw[this,qvr,qmz,aJV,aB8,h3]
  ·trivial
 ·trivial
theorem zd9{t e:TypeId}{x:Operand}{lo hi mx:Option Operand}(ho:o.op=.slice t x lo hi mx)(ht:P.underlying t=some (.slice e)){z:Nat}(hz:gK P e=some z)(h:LR ι d n L a.tmps):gT P o a.eval ι w nm (lC z ((aH d n x).f L) ((wC d n lo).f L) ((wC d n hi).f L) ((wC d n mx).f L)):=by
 have hx:=dN h x;have hl:=qc9 h lo;have hh:=qc9 h hi;have hm:=qc9 h mx;have run:∀(b:Option Addr) (len C l hh m:Nat),a.eval x=.slice b len C->(Instr.sliceBounds true len C (lo.map a.eval) (hi.map a.eval) (mx.map a.eval)).run P w=.ok (l,hh,m) w ->
   (execOp a.eval o).run P w=.ok (.value (.slice (if m=l then b else b.map (·.add (l*z))) (hh-l) (m-l))) w:=fun b len C l hh m h1 h2=>by
  simp[execOp,ho,Instr.sliceAt,bS ht,Instr.slice,h1,h2,mJ hz]
 unfold lC;split
 ·rename_i e1;rw[e1]at hx;simp only[aP]at hx;split
  ·rename_i bd hb;obtain⟨r,r1,r2,r3,r4⟩:=qii (P:=P) (w:=w) (ι:=ι) hl hh hm hb (Nat.le_refl _) (Nat.le_refl _) true;refine⟨.slice none 0 0,?_,by simp only[aP]⟩;rw[run _ _ _ _ _ _ hx r];simp_all
  ·trivial
 ·rename_i b i len cap ex e1;rw[e1]at hx;simp only[aP]at hx;obtain⟨hlc,l,h1,h2⟩:=hx;split
  ·rename_i bd hb;have hC:cap<=(if ex=true then cap else cap+l.ext):=by split<;>omega
   obtain⟨r,r1,r2,r3,r4⟩:=qii (P:=P) (w:=w) (ι:=ι) hl hh hm hb hC hlc true;have hr:=run _ _ _ _ _ _ h2 r;simp only[Option.map_some,addr_add]at hr;unfold gY;cases hmx:(wC d n mx).f L with
   |some mv=>
    simp only[hmx,Option.isSome_some,if_true]at hr;cases hml:Nat.beq bd.m bd.l with
    |true=>have:=sH hml;refine⟨_,hr,?_⟩;simp only[aP];refine⟨Nat.le_refl _,l,h1,?_⟩;rw[if_pos this,show bd.h-bd.l=0 by omega,show bd.m-bd.l=0 by omega];simp
    |false=>have:=qt3 hml;refine⟨_,hr,?_⟩;refine⟨Nat.sub_le_sub_right r2 _,l,h1,?_⟩;rw[if_neg this];simp[Nat.add_assoc]
   |none=>
    have hbm:=r4 hmx;simp only[hmx,Option.isSome_none,Bool.false_eq_true,if_false]at hr;cases ex with
    |true=>
     simp only[if_true]at hr;cases hml:Nat.beq bd.m bd.l with
     |true=>have:=sH hml;refine⟨_,hr,?_⟩;simp only[aP];simp_all
     |false=>have:=qt3 hml;refine⟨_,hr,?_⟩;refine⟨Nat.sub_le_sub_right r2 _,l,h1,?_⟩;rw[if_neg (by omega)];simp[Nat.add_assoc,hbm]
    |false=>
     simp only[Bool.false_eq_true,if_false]at hr;cases hml:Nat.beq bd.m bd.l with
     |true=>
      have:=sH hml;refine⟨_,hr,?_⟩;rw[show bd.h-bd.l=0 by omega];split
      ·exact⟨_,_,rfl⟩
      ·exact⟨_,_,rfl⟩
     |false=>
      have:=qt3 hml;refine⟨_,hr,?_⟩;refine⟨Nat.sub_le_sub_right r2 _,l,h1,?_⟩;rw[if_neg (by omega)];have e2:cap+l.ext-bd.l=bd.m-bd.l+l.ext:=by omega
      simp[Nat.add_assoc,e2]
  ·trivial
 ·trivial
end Go.Ev
end
noncomputable section
namespace Go.Ev
open Go.RowKit
variable {P:Program} {ι:Im} {o:Oper} {a:Act} {nm:Nat} {d n:Nat} {L:TT AV d} {H:Hp}
theorem qjd{t:TypeId}{xs:List AV}{XS:List Value}(hr:aM ι xs XS)(h1:∀ v∈XS,v.oneCell=true){off:Nat}{v:AV}(h:(qka P t).f xs off=some v):∃V,(∀w,(part t XS.toArray off).run P w=.ok V w)/\aP ι v V:=by
 unfold qka at h;split at h
 ·rename_i k e1 e2;simp only[Option.some.injEq]at h;subst h;refine⟨.agg (XS.toArray.extract off (off+k)),fun w=>?_,?_⟩
  ·simp[part,qfk e1,mJ e2]
  ·simp only[aP];refine⟨(XS.drop off).take k,(hr.drop off).take k,?_,fun v hv=>h1 v (List.mem_of_mem_drop (List.mem_of_mem_take hv))⟩;simp
 ·rename_i e1;obtain⟨V,h2,h3⟩:=hr.get off v h;exact⟨V,fun w=>by simp[part,qfk e1,h2],h3⟩
 ·cases h
def aE4(P:Program)(ι:Im)(D:Nat)(t:TypeId)(e:E2):Prop:=
 ∀x y X Y b,e.f x y=some b->aP ι x X->aP ι y Y->∀ D',D<=D'->∀ w,(Op.equalIn D' t X Y).run P w=.ok b w
theorem xK{l:List AV}{X:Value}(h:aP ι (.agg l) X):∃ vs,aM ι l vs/\X=.agg vs.toArray/\∀ v∈vs,v.oneCell=true:=by simpa only[aP] using h
theorem q6n{D D':Nat}(hD:D<=D'){e:TypeId}{p:P1}{q:E2}(hp:p=qka P e)(hq:aE4 P ι D e q){xs ys:List AV}{XS YS:List Value}(hx:aM ι xs XS)(hy:aM ι ys YS)(h1:∀ v∈XS,v.oneCell=true)(h2:∀ v∈YS,v.oneCell=true)(z:Nat):∀(k i:Nat) (b:Bool),xX p q z xs ys k i=some b->∀ w, ∃r:Option Bool×Unit,(forIn (List.range' i k) ((none,()):Option Bool×Unit) fun j _=>do
    let a<-part e XS.toArray (j*z)
    let c<-part e YS.toArray (j*z)
    let t<-Op.equalIn D' e a c
    if(!t)=true then pure (ForInStep.done (some false,()))else pure (ForInStep.yield (none,()))).run P w=.ok r w/\(b=true->r.fst=none)/\(b=false->r.fst=some false):=by
 intro k
 induction k with
 |zero=>intro i b h w;simp only[xX,Option.some.injEq]at h;subst h;exact⟨(none,()),by simp,by simp,by simp⟩
 |succ k ih=>
  intro i b h w;simp only[xX]at h;unfold andThen at h;have key:∀ t:Bool,qqd p q xs ys (i*z)=some t->∃ A B,(∀w,(part e XS.toArray (i*z)).run P w=.ok A w)/\(∀w,(part e YS.toArray (i*z)).run P w=.ok B w)/\∀ w,(Op.equalIn D' e A B).run P w=.ok t w:=by
   intro t ht;unfold qqd at ht;split at ht
   ·rename_i a c e1 e2;rw[hp]at e1 e2;obtain⟨A,a1,a2⟩:=qjd hx h1 e1;obtain⟨B,b1,b2⟩:=qjd hy h2 e2;exact⟨A,B,a1,b1,hq _ _ _ _ _ ht a2 b2 D' hD⟩
   ·cases ht
  split at h
  ·rename_i e1;obtain⟨A,B,r1,r2,r3⟩:=key _ e1;obtain⟨r,hr,hb⟩:=ih (i+1) b h w;refine⟨r,?_,hb⟩;rw[List.range'_succ,List.forIn_cons];simp_all
  ·rename_i e1;simp only[Option.some.injEq]at h;subst h;obtain⟨A,B,r1,r2,r3⟩:=key _ e1;refine⟨(some false,()),?_,by simp,by simp⟩;rw[List.range'_succ,List.forIn_cons];simp_all
  ·cases h
theorem q06{D D':Nat}(hD:D<=D'){xs ys:List AV}{XS YS:List Value}(hx:aM ι xs XS)(hy:aM ι ys YS)(h1:∀ v∈XS,v.oneCell=true)(h2:∀ v∈YS,v.oneCell=true)(q:TypeId->E2):∀(fs:List Field),(∀f∈fs,aE4 P ι D f.type (q f.type))->∀ b,
  eqFields ((fs.filter fun f=>f.name != "_").map fun f=>(qka P f.type,q f.type,f.offset)) xs ys=some b->∀ w,
  (Op.eqFields D' XS.toArray YS.toArray fs).run P w=.ok b w:=by
 intro fs
 induction fs with
 |nil=>intro _ b h w;simp[eqFields]at h;subst h;simp[Op.eqFields]
 |cons f fs ih=>
  intro hq b h w;have ihf:=ih (fun g hg=>hq g (by simp[hg]));unfold Op.eqFields
  by_cases hn:f.name = "_"
  ·simp_all
  ·have hb:(f.name != "_")=true:=by simp[hn]
   rw[List.filter_cons_of_pos (by simpa using hb),List.map_cons]at h;rw[if_pos hn];unfold eqFields at h;rw[List.foldr_cons]at h;unfold andThen at h;have key:∀ t:Bool,qqd (qka P f.type) (q f.type) xs ys f.offset=some t->∃ A B,(∀w,(part f.type XS.toArray f.offset).run P w=.ok A w)/\(∀w,(part f.type YS.toArray f.offset).run P w=.ok B w)/\∀ w,(Op.equalIn D' f.type A B).run P w=.ok t w:=by
    intro t ht;unfold qqd at ht;split at ht
    ·rename_i a c e1 e2;obtain⟨A,a1,a2⟩:=qjd hx h1 e1;obtain⟨B,b1,b2⟩:=qjd hy h2 e2;exact⟨A,B,a1,b1,hq f (by simp) _ _ _ _ _ ht a2 b2 D' hD⟩
    ·cases ht
   split at h
   ·rename_i e1;obtain⟨A,B,r1,r2,r3⟩:=key _ e1;simp only[Sem.run_bind,r1,r2,r3,Result.andThen_ok,Bool.not_true,Bool.false_eq_true,if_false];exact ihf b h w
   ·rename_i e1;obtain⟨A,B,r1,r2,r3⟩:=key _ e1;simp only[Option.some.injEq]at h;subst h;simp only[Sem.run_bind,r1,r2,r3,Result.andThen_ok,Bool.not_false,if_true,Sem.run_pure]
   ·cases h
theorem zqf:∀(D:Nat) (t:TypeId),aE4 P ι D t (uO P D t):=by
 intro D
 induction D with
 |zero=>intro t x y X Y b h;simp[uO]at h
 |succ D ih=>
  intro t x y X Y b h hx hy D' hD w;obtain⟨E,rfl⟩:∃ E,D'=E+1:=⟨D'-1,by omega⟩;rw[uO]at h;split at h
  ·rename_i ht;change qfw x y=some b at h;unfold qfw at h;split at h
   ·simp only[aP]at hx hy;subst hx hy;simp only[Option.some.injEq]at h;subst h;simp[Op.equalIn,bS ht]
   ·cases h
  ·rename_i ht;change qkc x y=some b at h;unfold qkc at h;split at h
   ·rename_i k m k' p;simp only[aP]at hx hy;subst hx hy;cases hk:uK k k' with
    |false=>rw[hk]at h;cases h
    |true=>rw[hk]at h;simp only[cond_true,Option.some.injEq]at h;subst h;have:=zm8 hk;subst this;simp[Op.equalIn,bS ht,zO]
   ·cases h
  ·rename_i ht;change bX x y=some b at h;unfold bX at h;split at h
   ·simp only[aP]at hx hy;obtain⟨s,rfl,h1⟩:=hx;obtain⟨u,rfl,h2⟩:=hy;simp only[Option.some.injEq]at h;subst h;rw[run_equalIn_string w E t s u ht,qf3,qf3,h1.eq h2]
   ·cases h
  ·rename_i fs ht;split at h
   ·cases h
   ·rename_i hs;have hs':P.stoodInHeld t=false:=by simpa using hs
    simp only at h;unfold fI at h;split at h
    ·rename_i xs ys;obtain⟨XS,x1,rfl,x3⟩:=xK hx;obtain⟨YS,y1,rfl,y3⟩:=xK hy;have hf:P.fieldsOf t=fs:=by simp[Program.fieldsOf,ht]
     rw[run_equalIn_struct w E t _ _ (by rw[hf];exact ht) hs',hf];exact q06 (by omega) x1 y1 x3 y3 (uO P D) _ (fun f _=>ih f.type) b h w
    ·cases h
  ·rename_i len e ht;split at h
   ·rename_i z hz;simp only at h;unfold fI at h;split at h
    ·rename_i xs ys;obtain⟨XS,x1,rfl,x3⟩:=xK hx;obtain⟨YS,y1,rfl,y3⟩:=xK hy;obtain⟨r,hr,hb1,hb2⟩:=q6n (P:=P) (show D<=E by omega) rfl (ih e) x1 y1 x3 y3 z len 0 b h w;simp only[Op.equalIn,Sem.run_bind,bS ht,Result.andThen_ok,mJ hz,Std.Legacy.Range.forIn_eq_forIn_range',Std.Legacy.Range.size];simp only[Nat.sub_zero,Nat.add_sub_cancel,Nat.div_one];rw[hr];cases b with
     |true=>rw[Result.andThen_ok,hb1 rfl];rfl
     |false=>rw[Result.andThen_ok,hb2 rfl];rfl
    ·cases h
   ·cases h
  ·rename_i ht;change qnm x y=some b at h;unfold qnm at h;split at h<;>first|(cases h;done)|skip
   all_goals (simp only[Option.some.injEq]at h;subst h;simp only[aP]at hx hy)
   ·subst hx hy;simp[Op.equalIn,bS ht]
   ·obtain⟨l,_,rfl⟩:=hy;subst hx;simp[Op.equalIn,bS ht]
   ·obtain⟨l,_,rfl⟩:=hx;subst hy;simp[Op.equalIn,bS ht]
  ·rename_i ht;change aCx x y=some b at h;unfold aCx at h;split at h<;>first|(cases h;done)|skip
   all_goals (simp only[Option.some.injEq]at h;subst h;simp only[aP]at hx hy)
   ·subst hx hy;simp[Op.equalIn,bS ht]
   ·obtain⟨_,l,_,rfl⟩:=hy;subst hx;simp[Op.equalIn,bS ht]
   ·obtain⟨_,l,rfl⟩:=hy;subst hx;simp[Op.equalIn,bS ht]
   ·obtain⟨_,l,_,rfl⟩:=hx;subst hy;simp[Op.equalIn,bS ht]
   ·obtain⟨_,l,rfl⟩:=hx;subst hy;simp[Op.equalIn,bS ht]
  ·rename_i ht;change zm7 x y=some b at h;unfold zm7 at h;split at h<;>first|(cases h;done)|skip
   all_goals (simp only[Option.some.injEq]at h;subst h;simp only[aP]at hx hy)
   ·subst hx hy;simp[Op.equalIn,bS ht]
   ·obtain⟨l,_,rfl⟩:=hy;subst hx;simp[Op.equalIn,bS ht]
   ·obtain⟨l,_,rfl⟩:=hx;subst hy;simp[Op.equalIn,bS ht]
  ·rename_i ht;change eqFn x y=some b at h;unfold eqFn at h;split at h<;>first|(cases h;done)|skip
   all_goals (simp only[Option.some.injEq]at h;subst h;simp only[aP]at hx hy)
   ·subst hx hy;simp[Op.equalIn,bS ht]
   ·obtain⟨_,_,_,_,rfl⟩:=hy;subst hx;simp[Op.equalIn,bS ht]
   ·obtain⟨_,_,_,_,rfl⟩:=hx;subst hy;simp[Op.equalIn,bS ht]
  ·rename_i ht;change aCG x y=some b at h;unfold aCG at h;split at h<;>first|(cases h;done)|skip
   all_goals (simp only[Option.some.injEq]at h;subst h;simp only[aP]at hx hy)
   ·obtain⟨_,_,rfl⟩:=hy;subst hx;simp[Op.equalIn,bS ht]
   ·obtain⟨_,_,rfl⟩:=hx;subst hy;simp[Op.equalIn,bS ht]
  ·cases h
end Go.Ev
end
noncomputable section
namespace Go.Ev
open Go.RowKit
variable {P:Program} {w:World} {ι:Im} {o:Oper} {a:Act} {nm:Nat} {d n:Nat} {L:TT AV d} {H:Hp}
theorem qpq{t e:TypeId}{x:Operand}{lo hi mx:Option Operand}(ho:o.op=.slice t x lo hi mx){len:Nat}(ht:P.underlying t=some (.array len e)\/∃ arr,P.underlying t=some (.pointer arr)/\P.underlying arr=some (.array len e)){z:Nat}(hz:gK P e=some z)(h:LR ι d n L a.tmps):gT P o a.eval ι w nm (qkp len z ((aH d n x).f L) ((wC d n lo).f L) ((wC d n hi).f L) ((wC d n mx).f L)):=by
 have hx:=dN h x;have hl:=qc9 h lo;have hh:=qc9 h hi;have hm:=qc9 h mx;unfold qkp;split
 ·rename_i b i e1;rw[e1]at hx;simp only[aP]at hx;obtain⟨l,h1,h2⟩:=hx;split
  ·rename_i bd hb;obtain⟨r,r1,r2,r3,r4⟩:=qii (P:=P) (w:=w) (ι:=ι) hl hh hm hb (Nat.le_refl _) (Nat.le_refl _) false;have hmm:(if((wC d n mx).f L).isSome then bd.m else len)=bd.m:=by
    simp_all
   rw[hmm]at r;have run:(execOp a.eval o).run P w=.ok (.value (.slice (some (if bd.m=bd.l then⟨l.blk,l.base+i,none⟩else⟨l.blk,l.base+i+bd.l*z,none⟩)) (bd.h-bd.l) (bd.m-bd.l))) w:=by
    rcases ht with ht|⟨arr,ht,ha⟩
    ·simp[execOp,ho,Instr.sliceAt,bS ht,h2,Instr.sureAddr,r,mJ hz,addr_add]
    ·simp[execOp,ho,Instr.sliceAt,bS ht,bS ha,Instr.slice,h2,asAddr,r,mJ hz,addr_add]
   unfold gY;cases hml:Nat.beq bd.m bd.l with
   |true=>have:=sH hml;refine⟨_,run,?_⟩;simp only[aP];simp_all
   |false=>have:=qt3 hml;refine⟨_,run,?_⟩;refine⟨Nat.sub_le_sub_right r2 _,l,h1,?_⟩;rw[if_neg this];simp[Nat.add_assoc]
  ·trivial
 ·trivial
/- copies of a zero value -/
theorem zdv(l:List AV):bC l 0=[]:=rfl
theorem zdw(l:List AV)(k:Nat):bC l (k+1)=l++bC l k:=rfl
def gD(l:List Value):Nat->List Value
 |0=>[]
 |k+1=>l++gD l k
theorem qhz{l:List AV}{vs:List Value}(h:aM ι l vs):∀ k,aM ι (bC l k) (gD vs k)
 |0=>by simp[zdv,gD,aM]
 |k+1=>by rw[zdw,gD];exact h.append (qhz h k)
theorem qb4(l:List Value):∀ k,(gD l k).length=k*l.length
 |0=>by simp[gD]
 |k+1=>by rw[gD,List.length_append,qb4 l k,Nat.add_mul];omega
theorem qf6{l:List Value}:∀{k:Nat} {v:Value},v∈gD l k->v∈l
 |0,v,h=>by simp[gD]at h
 |k+1,v,h=>by
  rw[gD,List.mem_append]at h;rcases h with h|h
  ·exact h
  ·exact qf6 h
theorem q3m(l:List Value):∀(k i:Nat),i<k*l.length->(gD l k)[i]? =l[i%l.length]?
 |0,i,h=>by simp at h
 |k+1,i,h=>by
  rw[Nat.add_mul,Nat.one_mul]at h;rw[gD];by_cases hi:i<l.length
  ·rw[List.getElem?_append_left hi,Nat.mod_eq_of_lt hi]
  ·rw[List.getElem?_append_right (by omega),q3m l k (i-l.length) (by omega)];congr 1;rw[<-Nat.mod_eq_sub_mod (by omega)]
theorem range_zero(Z:Array Value)(k s:Nat)(hs:Z.size=s):(Array.range (k*s)).map (fun i=>Z[i%Z.size]!)=(gD Z.toList k).toArray:=by
 apply Array.ext';apply List.ext_getElem?;intro i;have ee:(gD Z.toList k).toArray.toList=gD Z.toList k:=by simp
 by_cases hi:i<k*s
 ·have hZ:Z.toList.length=s:=by simpa using hs
  rw[ee,q3m _ _ _ (by rw[hZ];exact hi),hZ];have hs0:0<s:=by
   rcases Nat.eq_zero_or_pos s with h|h
   ·simp[h]at hi
   ·exact h
  have hlt:i%s<Z.size:=by rw[hs];exact Nat.mod_lt _ hs0
  simp_all
 ·rw[List.getElem?_eq_none (by simpa using hi),List.getElem?_eq_none (by rw[ee,qb4];simp[hs];omega)]
theorem zd6(b:Nat):(askRoom b).run P w=.ok () w:=by simp
theorem zly{t e:TypeId}{x y:Operand}(ho:o.op=.makeSlice t x y)(ht:P.underlying t=some (.slice e)){z:List AV}(hz:zV P e=some z){b s:Nat}(hb:qih P e=some b)(hs:gK P e=some s)(hzs:z.length=s)(h:LR ι d n L a.tmps):gT P o a.eval ι w nm (qib z b nm ((aH d n x).f L) ((aH d n y).f L)):=by
 have hx:=dN h x;have hy:=dN h y;unfold qib;split
 ·rename_i k1 p k2 q e1 e2;rw[e1]at hx;rw[e2]at hy;simp only[aP]at hx hy;cases hc:(Nat.ble p q&&Nat.ble (Nat.mul q b) fD&&Nat.ble q fD)with
  |false=>trivial
  |true=>
   simp only[Bool.and_eq_true]at hc;obtain⟨⟨c1,c2⟩,c3⟩:=hc;have c1:=nN c1;have c2:q*b<=1099511627776:=nN c2;have c3:q<=1099511627776:=nN c3;obtain⟨zv,z1,z2,z3⟩:=qcn (ι:=ι) hz;obtain⟨ti,ti1,ti2⟩:=qs2 (P:=P) hb;have hzl:zv.cells.toList.length=s:=by rw[z2.length,hzs]
   have w1:IntKind.i64.wrap (p:Int)=p:=IntWalk.i64_in _ (by omega);have w2:IntKind.i64.wrap (q:Int)=q:=IntWalk.i64_in _ (by omega);have hmul:(ti.bytes:Int)*(q:Int)<=281474976710656:=by
    rw[ti2];have:((b*q:Nat):Int)<=281474976710656:=by rw[Nat.mul_comm];omega
    omega
   refine⟨.slice (some ⟨w.heap.size,0,none⟩) p q,w.alloc (.cells (gD zv.cells.toList q).toArray e),⟨w.heap.size,0,0,0⟩,?_,New.alloc w _ 0 0,fun ι' hle hi=>⟨?_,qfp (qhz z2 q) (fun v hv=>z3 v (qf6 hv)) e nm 0 ι' hle hi⟩⟩
   ·have hlt:¬((p:Int)<0):=by omega
    have hlt2:¬((q:Int)<0):=by omega
    have hle:¬((q:Int)<p):=by omega
    have hbig:¬((ti.bytes:Int)*(q:Int)>2 ^ 48):=by omega
    simp only[execOp,ho,Instr.makeSlice,Sem.run_bind,bS ht,Result.andThen_ok,hx,hy,asInt,asIntOf,Sem.run_pure,ti1,Int.ofNat_eq_natCast,w1,w2];simp only[hlt,hlt2,hle,hbig,decide_false,Bool.or_false,Bool.false_eq_true,if_false,gt_iff_lt,Sem.run_pure,Result.andThen_ok,Int.toNat_natCast,Sem.run_bind,zd6,mJ hs,Sem.run_ite];by_cases h0:q*s=0
    ·have hr:(gD zv.cells.toList q)=[]:=List.length_eq_zero_iff.1 (by rw[qb4,hzl,h0]);have e0:Array.map (fun _:Nat=>(default:Value)) (Array.range 0)= #[]:=by apply Array.ext';simp
     simp[h0,hr,newRow,e0]
    ·simp only[h0,if_false,yZ z1,Result.andThen_ok];rw[range_zero zv.cells q s (by simpa using hzl)];rfl
   ·simp only[aP];exact⟨c1,_,hi,by simp⟩
 ·trivial
/- aggregates: parts laid in -/
theorem q60{v:AV}{V:Value}(h:aP ι v V){l:List AV}(hl:xA v=some l):aM ι l V.cells.toList/\∀ x∈V.cells.toList,x.oneCell=true:=by
 unfold xA at hl;split at hl
 ·simp only[Option.some.injEq]at hl;subst hl;obtain⟨vs,h1,rfl,h3⟩:=xK h;trivial
 ·cases hl
 ·cases hl
 ·cases hl
 ·rename_i hn1 hn2 wF hn4;simp only[Option.some.injEq]at hl;subst hl;have hp:v.plain=true:=by
   unfold AV.plain;split
   ·simp_all
   ·simp_all
   ·trivial
   ·simp_all
   ·rfl
  obtain⟨h1,h2⟩:=h.one hp;rw[h2];exact⟨aM.singleton h,by simpa using h1⟩
theorem zm2:∀(l:List Value) (C:Array Value) (off k:Nat),off+k+l.length<=C.size -> ((l.zipIdx k).foldl (fun cs (x:Value×Nat)=>cs.setIfInBounds (off+x.2) x.1) C).toList=C.toList.take (off+k)++l++C.toList.drop (off+k+l.length):=by
 intro l
 induction l with
 |nil=>intro C off k h;simp
 |cons v l ih=>
  intro C off k h;rw[List.length_cons]at h;rw[List.zipIdx_cons,List.foldl_cons,ih _ _ _ (by simp;omega)];simp only[Array.toList_setIfInBounds,List.length_cons];have hlt:off+k<C.toList.length:=by simp;omega
  rw[List.drop_set_of_lt (by omega),show off+(k+1)=(off+k)+1 by omega,List.take_succ_eq_append_getElem (by simpa using hlt)];rw[List.take_set_of_le (Nat.le_refl _)];simp only[List.getElem_set_self,List.append_assoc,List.cons_append,List.nil_append];rw[show off+k+1+l.length=off+k+(l.length+1)by omega]
theorem q5o{c:List AV}{C:Array Value}(hc:aM ι c C.toList)(h1:∀ v∈C.toList,v.oneCell=true){v:AV}{V:Value}(hv:aP ι v V){l c':List AV}(hl:xA v=some l){off size:Nat}(h:qmg c off size l=some c'):V.cells.size=size/\off+V.cells.size<=C.size/\aM ι c' (V.cells.zipIdx.foldl (fun cs (x:Value×Nat)=>cs.setIfInBounds (off+x.2) x.1) C).toList /\ (∀x∈(V.cells.zipIdx.foldl (fun cs (x:Value×Nat)=>cs.setIfInBounds (off+x.2) x.1) C).toList,x.oneCell=true):=by
 obtain⟨v1,v2⟩:=q60 hv hl;unfold qmg at h;cases hb:(Nat.beq l.length size&&Nat.ble (off+size) c.length)with
 |false=>rw[hb]at h;cases h
 |true=>
  rw[hb]at h;simp only[cond_true,Option.some.injEq]at h;subst h;simp only[Bool.and_eq_true]at hb;have b1:=sH hb.1;have b2:=nN hb.2;have e1:V.cells.size=size:=by have:=v1.length;simpa [b1] using this
  have e2:C.size=c.length:=by simpa using hc.length
  have hf:(V.cells.zipIdx.foldl (fun cs (x:Value×Nat)=>cs.setIfInBounds (off+x.2) x.1) C).toList=C.toList.take off++V.cells.toList++C.toList.drop (off+size):=by rw[<-Array.foldl_toList,Array.toList_zipIdx,zm2 _ _ _ _ (by simp;omega)];simp[e1]
  rw[hf];refine⟨e1,by omega,(((hc.take off).append v1).append (hc.drop (off+size))),fun x hx=>?_⟩;simp only[List.mem_append]at hx;rcases hx with(hx|hx)|hx
  ·exact h1 x (List.mem_of_mem_take hx)
  ·exact v2 x hx
  ·exact h1 x (List.mem_of_mem_drop hx)
def aA4(ι:Im)(place:Nat->Option (Nat×Nat)):List (Nat×Nat×AV)->List (Nat×Value)->Prop
 | [],ps=>ps=[]
 |(off,size,v)::l,ps=>∃ i V r,ps=(i,V)::r/\place i=some (off,size)/\aP ι v V/\aA4 ι place l r
theorem qh6(h:LR ι d n L a.tmps)(place:Nat->Option (Nat×Nat)):∀(ps:List (Nat×Operand)) (r:RdP d),qn4 d n place ps=some r->aA4 ι place (r.f L) (ps.map fun(i,x)=>(i,a.eval x))
 | [],r,hr=>by simp only[qn4,Option.some.injEq]at hr;subst hr;simp[aA4]
 |(i,x)::ps,r,hr=>by
  simp only[qn4]at hr;split at hr
  ·rename_i off size g h' e1 e2 e3;simp only[Option.some.injEq]at hr;subst hr;refine⟨i,a.eval x,_,rfl,e1,?_,?_⟩
   ·have:=dN h x;rw[e2]at this;exact this
   ·exact qh6 h place ps _ e3
  ·cases hr
theorem qet{place:Nat->Option (Nat×Nat)}:∀{l:List (Nat×Nat×AV)} {ps:List (Nat×Value)} {c c':List AV} {C:Array Value},aA4 ι place l ps->aM ι c C.toList->(∀v∈C.toList,v.oneCell=true)->bT c l=some c' -> ∃C',Instr.fill place C ps=some C'/\aM ι c' C'.toList/\∀ v∈C'.toList,v.oneCell=true
 | [],ps,c,c',C,hp,hc,h1,h=>by simp only[aA4]at hp;subst hp;simp only[bT,Option.some.injEq]at h;subst h;exact⟨C,rfl,hc,h1⟩
 |(off,size,v)::l,ps,c,c',C,hp,hc,h1,h=>by
  obtain⟨i,V,r,rfl,hpl,hv,hr⟩:=hp;simp only[bT]at h;split at h
  ·rename_i lv hlv;split at h
   ·rename_i c1 hc1;obtain⟨a1,a2,a3,a4⟩:=q5o hc h1 hv hlv hc1;obtain⟨C',b1,b2,b3⟩:=qet hr a3 a4 h;refine⟨C',?_,b2,b3⟩;simp only[Instr.fill,hpl];simp_all
   ·cases h
  ·cases h
theorem zl3{t e:TypeId}{ps:Array (Nat×Operand)}(ho:o.op=.build t ps){len:Nat}(ht:P.underlying t=some (.array len e)){z:List AV}(hz:zV P t=some z){s:Nat}(hs:gK P e=some s){r:RdP d}(hr:qn4 d n (fun i=>some (i*s,s)) ps.toList=some r)(h:LR ι d n L a.tmps):gT P o a.eval ι w nm (cO (bT z (r.f L))):=by
 obtain⟨zv,z1,z2,z3⟩:=qcn (ι:=ι) hz;cases hp:bT z (r.f L)with
 |none=>trivial
 |some c=>obtain⟨C',b1,b2,b3⟩:=qet (qh6 h _ _ _ hr) z2 z3 hp;refine⟨.agg C',?_,by simp only[aP];exact⟨_,b2,by simp,b3⟩⟩;simp only[execOp,ho,Instr.build,Sem.run_bind,yZ z1,Result.andThen_ok,bS ht,mJ hs,Array.toList_map,b1];rfl
theorem qmk(fs:List Field)(h:∀ f∈fs,(gK P f.type).isSome=true):∀(acc:Array (Nat×Nat)), (List.foldlM (fun(bs:Array (Nat×Nat)) (f:Field)=>do let y<-(do pure (f.offset,<-sizeOf f.type):Sem (Nat×Nat));pure (bs.push y)) acc fs).run P w =
   .ok (acc++(fs.map fun f=>(f.offset,(gK P f.type).getD 0)).toArray) w:=by
 induction fs with
 |nil=>intro acc;simp
 |cons f fs ih=>intro acc;obtain⟨s,hs⟩:=Option.isSome_iff_exists.1 (h f (by simp));rw[List.foldlM_cons];simp only[Sem.run_bind,mJ hs,Result.andThen_ok,Sem.run_pure];simp_all
theorem zl2{t:TypeId}{ps:Array (Nat×Operand)}(ho:o.op=.build t ps){fs:Array Field}(ht:P.underlying t=some (.struct fs)){z:List AV}(hz:zV P t=some z)(hfs:fs.toList.all (fun f=>(gK P f.type).isSome)=true){r:RdP d}(hr:qn4 d n (qe4 P fs) ps.toList=some r)(h:LR ι d n L a.tmps):gT P o a.eval ι w nm (cO (bT z (r.f L))):=by
 obtain⟨zv,z1,z2,z3⟩:=qcn (ι:=ι) hz;cases hp:bT z (r.f L)with
 |none=>trivial
 |some c=>
  have hall:∀ f∈fs.toList,(gK P f.type).isSome=true:=fun f hf=>List.all_eq_true.1 hfs f hf;obtain⟨C',b1,b2,b3⟩:=qet (qh6 h _ _ _ hr) z2 z3 hp;refine⟨.agg C',?_,by simp only[aP];exact⟨_,b2,by simp,b3⟩⟩;have hpl:(fun i=>(fs.map fun f=>(f.offset,(gK P f.type).getD 0))[i]?)=qe4 P fs:=by
   funext i;unfold qe4;rw[Array.getElem?_map];cases hf:fs[i]? with
   |none=>rfl
   |some f=>
    have hm:f∈fs.toList:=by simpa using Array.mem_of_getElem? hf
    obtain⟨s,hs⟩:=Option.isSome_iff_exists.1 (hall f hm);simp[hs]
  have hmap:(fs.mapM fun f=>(do pure (f.offset,<-sizeOf f.type):Sem (Nat×Nat))).run P w=.ok (fs.map fun f=>(f.offset,(gK P f.type).getD 0)) w:=by rw[Array.mapM_eq_foldlM,<-Array.foldlM_toList];have:=qmk (P:=P) (w:=w) fs.toList hall #[];simp only[bind_pure_comp]at this ⊢;rw[this];congr 1;apply Array.ext';simp
  simp only[execOp,ho,Instr.build,Sem.run_bind,yZ z1,Result.andThen_ok,bS ht,hmap,Array.toList_map];simp_all
end Go.Ev
end
