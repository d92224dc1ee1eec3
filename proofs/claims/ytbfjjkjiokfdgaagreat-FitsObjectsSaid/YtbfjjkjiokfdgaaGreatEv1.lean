/-
 For FitsObjects: the evaluator and its soundness, part 1 of 4: what a run of the abstract evaluator answers, the model's run answers, in every world and on every schedule. No conditions beyond those that each theorem states.
-/
import GoSem.Step
import Derived.Below
import Derived.Calls
import Derived.Wp
import Derived.IntWalk
import Derived.Laws.Strings
import Derived.Laws.StructEq
noncomputable section
namespace Go.Ev
structure Q(α:Type) where
 (c0 c1 c2 c3 c4 c5 c6 c7:α)
def TT(α:Type):Nat->Type
 |0=>α
 |d+1=>Q (TT α d)
structure uN(α:Type)(d:Nat) where f:TT α d->α
structure uT(α:Type)(d:Nat) where f:TT α d->α->TT α d
structure kD(α:Type) where f:Q α->α
structure kH(α:Type) where f:(α->α)->Q α->Q α
def aU2(α:Type):kD α:=⟨fun t=>Q.rec (motive:=fun _=>α) (fun c0 _ _ _ _ _ _ _=>c0) t⟩
def aSI(α:Type):kD α:=⟨fun t=>Q.rec (motive:=fun _=>α) (fun _ c1 _ _ _ _ _ _=>c1) t⟩
def aQ8(α:Type):kD α:=⟨fun t=>Q.rec (motive:=fun _=>α) (fun _ _ c2 _ _ _ _ _=>c2) t⟩
def aYE(α:Type):kD α:=⟨fun t=>Q.rec (motive:=fun _=>α) (fun _ _ _ c3 _ _ _ _=>c3) t⟩
def bAu(α:Type):kD α:=⟨fun t=>Q.rec (motive:=fun _=>α) (fun _ _ _ _ c4 _ _ _=>c4) t⟩
def aW0(α:Type):kD α:=⟨fun t=>Q.rec (motive:=fun _=>α) (fun _ _ _ _ _ c5 _ _=>c5) t⟩
def aWW(α:Type):kD α:=⟨fun t=>Q.rec (motive:=fun _=>α) (fun _ _ _ _ _ _ c6 _=>c6) t⟩
def aVg(α:Type):kD α:=⟨fun t=>Q.rec (motive:=fun _=>α) (fun _ _ _ _ _ _ _ c7=>c7) t⟩
def aRa(α:Type):kH α:=⟨fun f t=>Q.rec (motive:=fun _=>Q α) (fun c0 c1 c2 c3 c4 c5 c6 c7=>⟨f c0,c1,c2,c3,c4,c5,c6,c7⟩) t⟩
def aRE(α:Type):kH α:=⟨fun f t=>Q.rec (motive:=fun _=>Q α) (fun c0 c1 c2 c3 c4 c5 c6 c7=>⟨c0,f c1,c2,c3,c4,c5,c6,c7⟩) t⟩
def aUS(α:Type):kH α:=⟨fun f t=>Q.rec (motive:=fun _=>Q α) (fun c0 c1 c2 c3 c4 c5 c6 c7=>⟨c0,c1,f c2,c3,c4,c5,c6,c7⟩) t⟩
def bAA(α:Type):kH α:=⟨fun f t=>Q.rec (motive:=fun _=>Q α) (fun c0 c1 c2 c3 c4 c5 c6 c7=>⟨c0,c1,c2,f c3,c4,c5,c6,c7⟩) t⟩
def aVi(α:Type):kH α:=⟨fun f t=>Q.rec (motive:=fun _=>Q α) (fun c0 c1 c2 c3 c4 c5 c6 c7=>⟨c0,c1,c2,c3,f c4,c5,c6,c7⟩) t⟩
def aWj(α:Type):kH α:=⟨fun f t=>Q.rec (motive:=fun _=>Q α) (fun c0 c1 c2 c3 c4 c5 c6 c7=>⟨c0,c1,c2,c3,c4,f c5,c6,c7⟩) t⟩
def aYd(α:Type):kH α:=⟨fun f t=>Q.rec (motive:=fun _=>Q α) (fun c0 c1 c2 c3 c4 c5 c6 c7=>⟨c0,c1,c2,c3,c4,c5,f c6,c7⟩) t⟩
def aQw(α:Type):kH α:=⟨fun f t=>Q.rec (motive:=fun _=>Q α) (fun c0 c1 c2 c3 c4 c5 c6 c7=>⟨c0,c1,c2,c3,c4,c5,c6,f c7⟩) t⟩
def sel(α:Type)(k:Nat):kD α:=Nat.rec (motive:=fun _=>kD α) (aU2 α) (fun k _=>Nat.rec (motive:=fun _=>kD α) (aSI α) (fun k _=>Nat.rec (motive:=fun _=>kD α) (aQ8 α) (fun k _=>Nat.rec (motive:=fun _=>kD α) (aYE α) (fun k _=>Nat.rec (motive:=fun _=>kD α) (bAu α) (fun k _=>Nat.rec (motive:=fun _=>kD α) (aW0 α) (fun k _=>Nat.rec (motive:=fun _=>kD α) (aWW α) (fun _ _=>aVg α) k) k) k) k) k) k) k
def aKE(α:Type)(k:Nat):kH α:=Nat.rec (motive:=fun _=>kH α) (aRa α) (fun k _=>Nat.rec (motive:=fun _=>kH α) (aRE α) (fun k _=>Nat.rec (motive:=fun _=>kH α) (aUS α) (fun k _=>Nat.rec (motive:=fun _=>kH α) (bAA α) (fun k _=>Nat.rec (motive:=fun _=>kH α) (aVi α) (fun k _=>Nat.rec (motive:=fun _=>kH α) (aWj α) (fun k _=>Nat.rec (motive:=fun _=>kH α) (aYd α) (fun _ _=>aQw α) k) k) k) k) k) k) k
def dG{α:Type}(d:Nat):Nat->uN α d:=
 Nat.rec (motive:=fun d=>Nat->uN α d) (fun _=>⟨fun t=>t⟩)
  (fun d ih i=>uN.rec (motive:=fun _=>uN α (d+1)) (fun g=>kD.rec (motive:=fun _=>uN α (d+1)) (fun s=>⟨fun t=>g (s t)⟩) (sel (TT α d) (Nat.land i 7))) (ih (Nat.shiftRight i 3))) d
def setter{α:Type}(d:Nat):Nat->uT α d:=
 Nat.rec (motive:=fun d=>Nat->uT α d) (fun _=>⟨fun _ v=>v⟩)
  (fun d ih i=>uT.rec (motive:=fun _=>uT α (d+1)) (fun g=>kH.rec (motive:=fun _=>uT α (d+1)) (fun s=>⟨fun t v=>s (fun c=>g c v) t⟩) (aKE (TT α d) (Nat.land i 7))) (ih (Nat.shiftRight i 3))) d
def same{α:Type}(a:α):(d:Nat)->TT α d
 |0=>a
 |d+1=>(⟨same a d,same a d,same a d,same a d,same a d,same a d,same a d,same a d⟩:Q (TT α d))
inductive AV where
 |undef
 |lit (v:Value)
 |bool (b:Bool)
 |int (k:IntKind) (n:Int)
 |str (len bits:Nat)
 |ptr (b o:Nat)
 |bX
 |sl (b o len cap:Nat) (ex:Bool)
 |aA
 |sle
 |map (m:Nat)
 |dS
 |fn (f:FuncId) (first cap:List AV)
 |yield (l:Nat)
 |jF
 |iface (t:TypeId) (v:AV)
 |nH
 |agg (l:List AV)
 |aY (l:List AV)
structure lS where
 (key val:AV)
 born:Nat
inductive bM where
 |dead
 |cells (d n:Nat) (c:TT AV d) (ro:Bool) (z:Nat)
 |map (es:List lS) (clock:Nat)
 |fI (len bits pos:Nat)
 |loop (ready:Bool) (pending:Option Code) (d n:Nat) (L:TT AV d) (params:List Tmp) (assign body:Code)
def bM.wr:bM->Bool
 | .dead=>false
 | .cells _ _ _ ro _=> !ro
 |_=>true
def HD:Nat:=7
structure Mem where
 t:TT bM HD
 x:Nat->bM
def Mem.get(m:Mem)(i:Nat):bM:=bif Nat.blt i 2097152 then(dG HD i).f m.t else m.x i
def Mem.put(m:Mem)(i:Nat)(b:bM):Mem:=bif Nat.blt i 2097152 then⟨(setter HD i).f m.t b,m.x⟩else⟨m.t,fun c=>bif Nat.beq c i then b else m.x c⟩
structure Hp where
 t:Mem
 nx:Nat
def Hp.get(H:Hp)(i:Nat):bM:=H.t.get i
def Hp.put(H:Hp)(i:Nat)(b:bM):Hp:=⟨H.t.put i b,H.nx⟩
def Hp.empty:Hp:=⟨⟨same .dead HD,fun _=>.dead⟩,0⟩
inductive Ex where
 |normal|exit (id:Nat)|goto (l:Nat)|ret
inductive R0 where
 |bad
 |val (v:AV)
 |new (v:AV) (b:bM)
inductive R1 where
 |bad
 |ok (v:AV) (H:Hp)
inductive Rc(d:Nat) where
 |bad
 |ok (e:Ex) (L:TT AV d) (H:Hp)
inductive Cl where
 |f (id:FuncId)
 |y (l:Nat)
 |d (id:FuncId)
abbrev Call:=Cl->List AV->Hp->R1
def iJ(n:Nat):Nat:=
 bif Nat.ble n 8 then 1 else bif Nat.ble n 64 then 2 else bif Nat.ble n 512 then 3 else bif Nat.ble n 4096 then 4 else bif Nat.ble n 32768 then 5 else bif Nat.ble n 262144 then 6 else n
def q8{d:Nat}(c:TT AV d)(k:Nat):Nat->List AV:=
 Nat.rec (motive:=fun _=>Nat->List AV) (fun _=>[]) (fun _ ih o=>(dG d o).f c::ih (Nat.succ o)) k
def mU{d:Nat}(l:List AV):Nat->TT AV d->TT AV d:=
 List.rec (motive:=fun _=>Nat->TT AV d->TT AV d) (fun _ c=>c) (fun v _ ih o c=>ih (Nat.succ o) ((setter d o).f c v)) l
def aB(z:Nat)(l:List AV):bM:=.cells (iJ l.length) l.length (mU l 0 (same .undef _)) false z
def jI(l:List UInt8):Nat:=l.foldr (fun b acc=>acc*256+b.toNat) 0
def qmu:Value->AV
 | .bool b=>.bool b
 | .int k n=>.int k n
 | .string s=>.str s.data.toList.length (jI s.data.toList)
 | .pointer none=>.bX
 | .slice none 0 0=>.aA
 | .map none=>.dS
 | .nilFunc=>.jF
 | .nilIface=>.nH
 |v=>.lit v
def zX:Value->Bool
 | .agg _| .tuple _=>false
 |_=>true
def qtc:Value->AV
 | .agg cs=>bif cs.toList.all zX then .agg (cs.toList.map qmu)else .lit (.agg cs)
 | .tuple ⟨[]⟩=>.undef
 |v=>qmu v
def AV.cells:AV->List AV
 | .agg l=>l
 |v=>[v]
def oZ(P:Program)(t:TypeId):Option Bool:=(P.underlying t).map fun| .struct _| .array _ _=>true|_=>false
def gU(P:Program)(t:TypeId):Option Nat:=(P.info? t).map (·.size)
def qij(P:Program)(t:TypeId):Option Nat:=(P.info? t).map (·.bytes)
def qjp:Value->Option (List AV)
 | .agg cs=>bif cs.toList.all zX then some (cs.toList.map qmu)else none
 | .tuple _=>none
 |v=>some [qmu v]
def qio(P:Program)(t:TypeId):Option (List AV):=((P.info? t).bind (·.zero)).bind qjp
/- numbers -/
def qty(k:IntKind)(n:Int):Bool:=
 match n with
 | .ofNat m=>Nat.blt m (match k with| .i8=>128| .i16=>32768| .i32=>2147483648| .i64=>9223372036854775808| .u8=>256| .u16=>65536| .u32=>4294967296| .u64=>18446744073709551616)
 | .negSucc m=>match k with| .i8=>Nat.blt m 128| .i16=>Nat.blt m 32768| .i32=>Nat.blt m 2147483648| .i64=>Nat.blt m 9223372036854775808|_=>false
def sZ(k:IntKind)(n:Int):Int:=bif qty k n then n else k.wrap n
def oL(a b:Int):Bool:=
 match a,b with
 | .ofNat m,.ofNat n=>Nat.blt m n
 | .negSucc m,.negSucc n=>Nat.blt n m
 | .negSucc _,.ofNat _=>true
 | .ofNat _,.negSucc _=>false
def pY(a b:Int):Bool:=
 match a,b with
 | .ofNat m,.ofNat n=>Nat.beq m n
 | .negSucc m,.negSucc n=>Nat.beq m n
 |_,_=>false
def zgt:IntKind->Nat
 | .i8=>0| .i16=>1| .i32=>2| .i64=>3| .u8=>4| .u16=>5| .u32=>6| .u64=>7
def uL(a b:IntKind):Bool:=Nat.beq (zgt a) (zgt b)
structure B2 where f:IntKind->Int->Int->R0
def aO:BinOp->B2
 | .add=>⟨fun k a b=>.val (.int k (sZ k (a+b)))⟩
 | .sub=>⟨fun k a b=>.val (.int k (sZ k (a-b)))⟩
 | .mul=>⟨fun k a b=>.val (.int k (sZ k (a*b)))⟩
 | .quo=>⟨fun k a b=>bif pY b 0 then .bad else .val (.int k (sZ k (a.tdiv b)))⟩
 | .rem=>⟨fun k a b=>bif pY b 0 then .bad else .val (.int k (a.tmod b))⟩
 | .and=>⟨fun k a b=>.val (.int k (k.wrap (BitVec.ofInt k.bits a &&& BitVec.ofInt k.bits b).toNat))⟩
 | .or=>⟨fun k a b=>.val (.int k (k.wrap (BitVec.ofInt k.bits a ||| BitVec.ofInt k.bits b).toNat))⟩
 | .xor=>⟨fun k a b=>.val (.int k (k.wrap (BitVec.ofInt k.bits a ^^^ BitVec.ofInt k.bits b).toNat))⟩
 | .andNot=>⟨fun k a b=>.val (.int k (k.wrap (BitVec.ofInt k.bits a &&& ~~~ BitVec.ofInt k.bits b).toNat))⟩
 | .eql=>⟨fun _ a b=>.val (.bool (pY a b))⟩
 | .neq=>⟨fun _ a b=>.val (.bool (!pY a b))⟩
 | .lss=>⟨fun _ a b=>.val (.bool (oL a b))⟩
 | .leq=>⟨fun _ a b=>.val (.bool (!oL b a))⟩
 | .gtr=>⟨fun _ a b=>.val (.bool (oL b a))⟩
 | .geq=>⟨fun _ a b=>.val (.bool (!oL a b))⟩
 |_=>⟨fun _ _ _=>.bad⟩
def qh0:BinOp->B2
 | .shl=>⟨fun k a b=>bif oL b 0 then .bad else .val (.int k (sZ k (a*2 ^ (min b.toNat k.bits))))⟩
 | .shr=>⟨fun k a b=>bif oL b 0 then .bad else .val (.int k (a.fdiv (2 ^ (min b.toNat k.bits))))⟩
 |_=>⟨fun _ _ _=>.bad⟩
/- strings: length, and the bytes packed from the first on -/
def qfi(bits i:Nat):Nat:=Nat.land (Nat.shiftRight bits (Nat.mul 8 i)) 255
def qdl(f:Nat):(n a m b:Nat)->Bool:=
 Nat.rec (motive:=fun _=>Nat->Nat->Nat->Nat->Bool) (fun n _ m _=>Nat.blt n m)
  (fun _ ih n a m b=>bif Nat.beq m 0 then false else bif Nat.beq n 0 then true else
   bif Nat.beq (Nat.land a 255) (Nat.land b 255)then ih (Nat.pred n) (Nat.shiftRight a 8) (Nat.pred m) (Nat.shiftRight b 8)
   else Nat.blt (Nat.land a 255) (Nat.land b 255)) f
def eqS(n a m b:Nat):Bool:=Nat.beq n m&&Nat.beq a b
structure S2 where f:Nat->Nat->Nat->Nat->R0
def mP:BinOp->S2
 | .add=>⟨fun n a m b=>bif Nat.ble (n+m) 1099511627776 then .val (.str (n+m) (Nat.add a (Nat.shiftLeft b (Nat.mul 8 n))))else .bad⟩
 | .eql=>⟨fun n a m b=>.val (.bool (eqS n a m b))⟩
 | .neq=>⟨fun n a m b=>.val (.bool (!eqS n a m b))⟩
 | .lss=>⟨fun n a m b=>.val (.bool (qdl n n a m b))⟩
 | .leq=>⟨fun n a m b=>.val (.bool (qdl n n a m b||eqS n a m b))⟩
 | .gtr=>⟨fun n a m b=>.val (.bool (!(qdl n n a m b||eqS n a m b)))⟩
 | .geq=>⟨fun n a m b=>.val (.bool (!qdl n n a m b))⟩
 |_=>⟨fun _ _ _ _=>.bad⟩
/- parts of aggregates -/
structure P1 where f:List AV->Nat->Option AV
def qkc(P:Program)(t:TypeId):P1:=
 match oZ P t,gU P t with
 |some true,some k=>⟨fun cs off=>some (.agg ((cs.drop off).take k))⟩
 |some false,_=>⟨fun cs off=>cs[off]?⟩
 |_,_=>⟨fun _ _=>none⟩
/- equality at a type -/
structure E2 where f:AV->AV->Option Bool
def andThen(a b:Option Bool):Option Bool:=
 match a with|some true=>b|some false=>some false|none=>none
def qqk(p:P1)(e:E2)(xs ys:List AV)(off:Nat):Option Bool:=
 match p.f xs off,p.f ys off with
 |some a,some b=>e.f a b
 |_,_=>none
def qg0:AV->AV->Option Bool
 | .bool a,.bool b=>some (a==b)
 |_,_=>none
def qn1:AV->AV->Option Bool
 | .int k a,.int k' b=>bif uL k k' then some (pY a b)else none
 |_,_=>none
def bZ:AV->AV->Option Bool
 | .str n a,.str m b=>some (eqS n a m b)
 |_,_=>none
def qnd:AV->AV->Option Bool
 | .bX,.bX=>some true
 | .bX,.ptr _ _=>some false
 | .ptr _ _,.bX=>some false
 |_,_=>none
def aDd:AV->AV->Option Bool
 | .aA,.aA=>some true
 | .aA,.sl .. =>some false
 | .aA,.sle=>some false
 | .sl ..,.aA=>some false
 | .sle,.aA=>some false
 |_,_=>none
def zov:AV->AV->Option Bool
 | .dS,.dS=>some true
 | .dS,.map _=>some false
 | .map _,.dS=>some false
 |_,_=>none
def eqFn:AV->AV->Option Bool
 | .jF,.jF=>some true
 | .jF,.fn .. =>some false
 | .fn ..,.jF=>some false
 |_,_=>none
def aCG:AV->AV->Option Bool
 | .nH,.iface .. =>some false
 | .iface ..,.nH=>some false
 |_,_=>none
def gW(f:List AV->List AV->Option Bool):AV->AV->Option Bool
 | .agg xs,.agg ys=>f xs ys
 |_,_=>none
def eqFields(fs:List (P1×E2×Nat))(xs ys:List AV):Option Bool:=
 fs.foldr (fun f r=>andThen (qqk f.1 f.2.1 xs ys f.2.2) r) (some true)
def yF(p:P1)(e:E2)(z:Nat)(xs ys:List AV):Nat->Nat->Option Bool
 |0,_=>some true
 |k+1,i=>andThen (qqk p e xs ys (i*z)) (yF p e z xs ys k (i+1))
def wC(P:Program):Nat->TypeId->E2
 |0,_=>⟨fun _ _=>none⟩
 |d+1,t=>
  match P.underlying t with
  |some .bool=>⟨qg0⟩
  |some (.int _)=>⟨qn1⟩
  |some .string=>⟨bZ⟩
  |some (.struct fs)=>
   if P.stoodInHeld t then⟨fun _ _=>none⟩else
   let l:=(fs.toList.filter fun f=>f.name != "_").map fun f=>(qkc P f.type,wC P d f.type,f.offset)
   ⟨gW (eqFields l)⟩
  |some (.array len e)=>
   match gU P e with
   |some z=>let p:=qkc P e;let q:=wC P d e;⟨gW fun xs ys=>yF p q z xs ys len 0⟩
   |none=>⟨fun _ _=>none⟩
  |some (.pointer _)=>⟨qnd⟩
  |some (.slice _)=>⟨aDd⟩
  |some (.map ..)=>⟨zov⟩
  |some (.func ..)=>⟨eqFn⟩
  |some (.interface _)=>⟨aCG⟩
  |_=>⟨fun _ _=>none⟩
def zY:Nat:=20
/- operations on values -/
def fO(c a b:AV):R0:=
 match c with
 | .bool true=>.val a
 | .bool false=>.val b
 |_=>.bad
def aD(g:IntKind->Int->Int->R0)(x y:AV):R0:=
 match x,y with
 | .int k a,.int k' b=>bif uL k k' then g k a b else .bad
 |_,_=>.bad
def qvh(g:IntKind->Int->Int->R0)(x y:AV):R0:=
 match x,y with
 | .int k a,.int _ b=>g k a b
 |_,_=>.bad
def gH(g:Nat->Nat->Nat->Nat->R0)(x y:AV):R0:=
 match x,y with
 | .str n a,.str m b=>g n a m b
 |_,_=>.bad
def mQ(neg:Bool)(r:Option Bool):R0:=
 match r with
 |some b=>.val (.bool (bif neg then !b else b))
 |none=>.bad
structure V2 where f:AV->AV->R0
def vO(P:Program)(op:BinOp)(t:TypeId):V2:=
 match P.underlying t with
 |some (.int _)=>
  match op with
  | .shl| .shr=>match qh0 op with|⟨g⟩=>⟨qvh g⟩
  |_=>match aO op with|⟨g⟩=>⟨aD g⟩
 |some .string=>match mP op with|⟨g⟩=>⟨gH g⟩
 |some .bool|some (.pointer _)|some (.slice _)|some (.map ..)|some (.func ..)|some (.interface _)=>
  match op,wC P zY t with
  | .eql,⟨e⟩=>⟨fun x y=>mQ false (e x y)⟩
  | .neq,⟨e⟩=>⟨fun x y=>mQ true (e x y)⟩
  |_,_=>⟨fun _ _=>.bad⟩
 |some (.struct _)|some (.array ..)=>
  if P.eqGuardType P.depth t then⟨fun _ _=>.bad⟩else
  match op,wC P zY t with
  | .eql,⟨e⟩=>⟨fun x y=>mQ false (e x y)⟩
  | .neq,⟨e⟩=>⟨fun x y=>mQ true (e x y)⟩
  |_,_=>⟨fun _ _=>.bad⟩
 |_=>⟨fun _ _=>.bad⟩
structure V1 where f:AV->R0
def lY:UnOp->V1
 | .not=>⟨fun x=>match x with| .bool b=>.val (.bool !b)|_=>.bad⟩
 | .neg=>⟨fun x=>match x with| .int k n=>.val (.int k (sZ k (0-n)))|_=>.bad⟩
 |_=>⟨fun _=>.bad⟩
/- memory -/
def dI(b:bM)(o:Nat):R0:=
 match b with
 | .cells d n c _ _=>bif Nat.blt o n then .val ((dG d o).f c)else .bad
 |_=>.bad
def aQ(H:Hp)(a:AV):R0:=
 match a with
 | .ptr b o=>dI (H.get b) o
 |_=>.bad
def fU(b:bM)(o k:Nat):Option (List AV):=
 match b with
 | .cells _ n c _ _=>bif Nat.ble (o+k) n then some (q8 c k o)else none
 |_=>none
def aBe(r:Option (List AV)):R0:=match r with|some l=>.val (.agg l)|none=>.bad
def aV(k:Nat)(H:Hp)(a:AV):R0:=
 match a with
 | .ptr b o=>aBe (fU (H.get b) o k)
 |_=>.bad
def vZ(b:bM)(o:Nat)(l:List AV):Option bM:=
 match b with
 | .cells d n c false z=>bif Nat.ble (o+l.length) n then some (.cells d n (mU l o c) false z)else none
 |_=>none
def storeAt(H:Hp)(b o:Nat)(l:List AV)(v:AV):R1:=
 match vZ (H.get b) o l with
 |some blk=>.ok v (H.put b blk)
 |none=>.bad
def fQ(H:Hp)(a x:AV):R1:=
 match a,x with
 | .ptr _ _,.agg _=>.bad
 | .ptr _ _,.aY _=>.bad
 | .ptr _ _,.undef=>.bad
 | .ptr _ _,.lit _=>.bad
 | .ptr b o,v=>storeAt H b o [v] .undef
 |_,_=>.bad
def eB(k:Nat)(H:Hp)(a x:AV):R1:=
 match a,x with
 | .ptr b o,.agg l=>bif Nat.beq l.length k then storeAt H b o l .undef else .bad
 |_,_=>.bad
def iY(nm:Nat)(x:AV):R0:=
 match x with
 | .agg _| .aY _| .undef| .lit _=>.bad
 |v=>.new (.ptr nm 0) (aB 0 [v])
def bJ(k:Nat)(nm:Nat)(x:AV):R0:=
 match x with
 | .agg l=>bif Nat.beq l.length k then .new (.ptr nm 0) (aB 0 l)else .bad
 |_=>.bad
def aU(off:Nat)(x:AV):R0:=match x with| .ptr b o=>.val (.ptr b (Nat.add o off))|_=>.bad
def q5n(p:P1)(off:Nat)(x:AV):R0:=
 match x with
 | .agg l=>match p.f l off with|some v=>.val v|none=>.bad
 |_=>.bad
def aJ(z:Nat)(x i:AV):R0:=
 match x,i with
 | .sl b o len _ _,.int _ (.ofNat i)=>bif Nat.blt i len then .val (.ptr b (Nat.add o (Nat.mul i z)))else .bad
 |_,_=>.bad
def fD(len z:Nat)(x i:AV):R0:=
 match x,i with
 | .ptr b o,.int _ (.ofNat i)=>bif Nat.blt i len then .val (.ptr b (Nat.add o (Nat.mul i z)))else .bad
 |_,_=>.bad
def qgy(x i:AV):R0:=
 match x,i with
 | .str n a,.int _ (.ofNat i)=>bif Nat.blt i n then .val (.int .u8 (.ofNat (qfi a i)))else .bad
 |_,_=>.bad
def aEV(p:P1)(len z:Nat)(x i:AV):R0:=
 match x,i with
 | .agg l,.int _ (.ofNat i)=>bif Nat.blt i len then(match p.f l (Nat.mul i z)with|some v=>.val v|none=>.bad)else .bad
 |_,_=>.bad
/- slices -/
def bnd(x:Option AV)(dflt y:Nat):Option Nat:=
 match x with
 |none=>some dflt
 |some (.int _ (.ofNat n))=>bif Nat.ble n y then some n else none
 |some _=>none
structure Bd where
 (l h m:Nat)
def bounds(len cap:Nat)(lo hi mx:Option AV):Option Bd:=
 match mx,hi with
 |some _,none=>none
 |_,_=>
  match bnd mx cap cap with
  |none=>none
  |some m=>match bnd hi len m with
   |none=>none
   |some h=>match bnd lo 0 h with
    |none=>none
    |some l=>some ⟨l,h,m⟩
def qst(x:AV)(lo hi:Option AV):R0:=
 match x with
 | .str n a=>match bounds n n lo hi none with
  |some b=>.val (.str (b.h-b.l) (Nat.land (Nat.shiftRight a (Nat.mul 8 b.l)) (Nat.sub (Nat.shiftLeft 1 (Nat.mul 8 (b.h-b.l))) 1)))
  |none=>.bad
 |_=>.bad
def gZ(b o z:Nat)(bd:Bd)(ex:Bool):R0:=
 bif Nat.beq bd.m bd.l then(bif ex then .val (.sl b o 0 0 true)else .val .sle)
 else .val (.sl b (Nat.add o (Nat.mul bd.l z)) (Nat.sub bd.h bd.l) (Nat.sub bd.m bd.l) ex)
def jX(z:Nat)(x:AV)(lo hi mx:Option AV):R0:=
 match x with
 | .aA=>match bounds 0 0 lo hi mx with|some _=>.val .aA|none=>.bad
 | .sl b o len cap ex=>match bounds len cap lo hi mx with
  |some bd=>gZ b o z bd (match mx with|some _=>true|none=>ex)
  |none=>.bad
 |_=>.bad
def qkr(len z:Nat)(x:AV)(lo hi mx:Option AV):R0:=
 match x with
 | .ptr b o=>match bounds len len lo hi mx with|some bd=>gZ b o z bd true|none=>.bad
 |_=>.bad
def bE(l:List AV)(n:Nat):List AV:=Nat.rec (motive:=fun _=>List AV) [] (fun _ r=>l++r) n
def eY:Nat:=1099511627776
def qie(z:List AV)(bytes:Nat)(nm:Nat)(l c:AV):R0:=
 match l,c with
 | .int _ (.ofNat n),.int _ (.ofNat m)=>bif Nat.ble n m&&Nat.ble (Nat.mul m bytes) eY&&Nat.ble m eY then .new (.sl nm 0 n m true) (aB 0 (bE z m))else .bad
 |_,_=>.bad
/- building aggregates: parts in the order of their offsets -/
def qma(c:List AV)(off size:Nat)(v:List AV):Option (List AV):=
 bif Nat.beq v.length size&&Nat.ble (off+size) c.length then some (c.take off++v++c.drop (off+size))else none
def xP:AV->Option (List AV)
 | .agg l=>some l
 | .aY _| .undef| .lit _=>none
 |v=>some [v]
def bU(c:List AV):List (Nat×Nat×AV)->Option (List AV)
 | []=>some c
 |(off,size,v)::r=>match xP v with
  |some l=>match qma c off size l with|some c'=>bU c' r|none=>none
  |none=>none
/- maps -/
structure xD where
 i:Nat
 x:lS
def yY(e:AV->AV->Option Bool)(k:AV)(es:List lS):Nat->Option (Option xD):=
 List.rec (motive:=fun _=>Nat->Option (Option xD)) (fun _=>some none)
  (fun x _ ih i=>match e k x.key with|some true=>some (some ⟨i,x⟩)|some false=>ih (Nat.succ i)|none=>none) es
def zm8:AV->AV->Bool
 | .int k a,.int k' b=>uL k k'&&pY a b
 | .str n a,.str m b=>eqS n a m b
 | .bool a,.bool b=>a==b
 |_,_=>false
def q6q:List AV->List AV->Bool
 | [],[]=>true
 |a::l,b::m=>zm8 a b&&q6q l m
 |_,_=>false
def sameKey:AV->AV->Bool
 | .agg l,.agg m=>q6q l m
 |a,b=>zm8 a b
def qhi(s:Option Nat)(k:AV):Bool:=
 match s,k with
 |none,.agg _=>false
 |none,_=>true
 |some n,.agg l=>Nat.beq l.length n
 |some _,_=>false
def qto(P:Program):Nat->TypeId->Bool
 |0,_=>false
 |d+1,t=>
  match P.underlying t,gU P t with
  |some (.int _),some _|some .string,some _|some .bool,some _=>true
  |some (.struct fs),some n=>fs.toList.all fun f=>match gU P f.type with
   |some m=>Nat.ble (f.offset+m) n&&qto P d f.type&&Nat.blt 0 m
   |none=>false
  |some (.array len e),some n=>match gU P e with
   |some m=>Nat.ble (len*m) n&&qto P d e&&Nat.blt 0 m
   |none=>false
  |_,_=>false
structure Ky where
 e:AV->AV->Option Bool
 s:Option Nat
def qU(P:Program)(kt:TypeId):Option Ky:=
 match qto P zY kt,wC P zY kt,oZ P kt,gU P kt with
 |true,⟨e⟩,some true,some n=>some ⟨e,some n⟩
 |true,⟨e⟩,some false,some _=>some ⟨e,none⟩
 |_,_,_,_=>none
def qt0(ky:Ky)(k:AV)(es:List lS):Option (Option xD):=
 bif qhi ky.s k then yY ky.e k es 0 else none
def zr7(H:Hp):AV->Option (List lS)
 | .dS=>some []
 | .map m=>match H.get m with| .map es _=>some es|_=>none
 |_=>none
def zw0(ok:Bool)(z:AV)(r:Option (Option xD)):R0:=
 match r with
 |some (some h)=>.val (bif ok then .aY [h.x.val,.bool true]else h.x.val)
 |some none=>.val (bif ok then .aY [z,.bool false]else z)
 |none=>.bad
def qT(ky:Ky)(z:AV)(ok:Bool)(H:Hp)(m k:AV):R0:=
 match zr7 H m with
 |some es=>zw0 ok z (qt0 ky k es)
 |none=>.bad
def pR(ky:Ky)(H:Hp)(m k v:AV):R1:=
 match m with
 | .map b=>match H.get b with
  | .map es clock=>match qt0 ky k es with
   |some (some h)=>bif sameKey h.x.key k then .ok .undef (H.put b (.map (es.set h.i ⟨k,v,h.x.born⟩) clock))else .bad
   |some none=>.ok .undef (H.put b (.map (es++[⟨k,v,clock⟩]) (Nat.succ clock)))
   |none=>.bad
  |_=>.bad
 |_=>.bad
def zhk(ky:Ky)(z:AV)(H:Hp)(m k:AV):R1:=
 match m with
 | .map b=>match H.get b with
  | .map es clock=>match qt0 ky k es with
   |some (some h)=>bif sameKey h.x.key k then .ok (.aY [h.x.val,.int .i64 (.ofNat h.x.born)]) (H.put b (.map (es.set h.i ⟨k,h.x.val,h.x.born⟩) clock))else .bad
   |some none=>.ok (.aY [z,.int .i64 (.ofNat clock)]) (H.put b (.map (es++[⟨k,z,clock⟩]) (Nat.succ clock)))
   |none=>.bad
  |_=>.bad
 |_=>.bad
def zer(n:Nat)(es:List lS):Nat->Option xD:=
 List.rec (motive:=fun _=>Nat->Option xD) (fun _=>none) (fun x _ ih i=>bif Nat.beq x.born n then some ⟨i,x⟩else ih (Nat.succ i)) es
def qt2(H:Hp)(m s v:AV):R1:=
 match m,s with
 | .map b,.int _ (.ofNat n)=>match H.get b with
  | .map es clock=>match zer n es 0 with
   |some h=>.ok .undef (H.put b (.map (es.set h.i ⟨h.x.key,v,h.x.born⟩) clock))
   |none=>.bad
  |_=>.bad
 |_,_=>.bad
/- builtins -/
def i64(n:Nat):AV:=.int .i64 (.ofNat n)
def p8(x:AV):R0:=match x with| .str n _=>.val (i64 n)|_=>.bad
def aF(x:AV):R0:=
 match x with
 | .sl _ _ n _ _=>.val (i64 n)
 | .aA=>.val (i64 0)
 | .sle=>.val (i64 0)
 |_=>.bad
def xJ(H:Hp)(x:AV):R0:=
 match x with
 | .dS=>.val (i64 0)
 | .map m=>match H.get m with| .map es _=>.val (i64 es.length)|_=>.bad
 |_=>.bad
def iC(x:AV):R0:=
 match x with
 | .sl _ _ _ c true=>.val (i64 c)
 | .aA=>.val (i64 0)
 |_=>.bad
def nJ(x y:AV):R0:=
 match x,y with
 | .int k a,.int _ b=>.val (.int k (bif oL b a then b else a))
 |_,_=>.bad
def oO(x y:AV):R0:=
 match x,y with
 | .int k a,.int _ b=>.val (.int k (bif oL a b then b else a))
 |_,_=>.bad
def o8(g:AV->AV->R0)(x:AV)(l:List AV):R0:=
 List.rec (motive:=fun _=>AV->R0) (fun x=>.val x) (fun y _ ih x=>match g x y with| .val z=>ih z|_=>.bad) l x
def qw3(bits n:Nat):List AV:=Nat.rec (motive:=fun _=>Nat->List AV) (fun _=>[]) (fun _ ih i=>.int .u8 (.ofNat (qfi bits i))::ih (Nat.succ i)) n 0
structure Src where
 n:Nat
 l:List AV
def zm0(z:Nat)(H:Hp)(x:AV):Option Src:=
 match x with
 | .aA| .sle=>some ⟨0,[]⟩
 | .sl b o n _ _=>match fU (H.get b) o (Nat.mul n z)with|some l=>some ⟨n,l⟩|none=>none
 | .str n a=>some ⟨n,qw3 a n⟩
 |_=>none
def jE(z:Nat)(H:Hp)(x:AV):Option Src:=
 match x with
 | .str _ _=>bif Nat.beq z 1 then zm0 z H x else none
 |_=>zm0 z H x
def qqv(w:Nat)(zl:List AV)(x:AV):Option Src:=
 match x with
 | .int _ (.ofNat n)=>bif Nat.ble n eY&&Nat.ble (Nat.mul n w) eY then some ⟨n,bE zl n⟩else none
 |_=>none
def aS(H:Hp)(b:bM):Hp:=⟨H.t.put H.nx b,Nat.succ H.nx⟩
def grow(z:Nat)(H:Hp)(old:List AV)(s:Src)(n:Nat):R1:=.ok (.sl H.nx 0 n n false) (aS H (aB z (old++s.l)))
def qg1(b:bM)(e z:Nat):Bool:=match b with| .cells _ n _ false z'=>Nat.beq n e&&Nat.beq z' z|_=>false
def iD(z bytes:Nat)(H:Hp)(s:AV)(src:Option Src):R1:=
 match src with
 |none=>.bad
 |some x=>
  match s with
  | .aA=>bif Nat.beq x.n 0 then .ok .aA H else bif Nat.ble (Nat.mul x.n bytes) eY&&Nat.ble x.n eY then grow z H [] x x.n else .bad
  | .sl b o len cap ex=>
   bif Nat.ble (len+x.n) cap then storeAt H b (o+len*z) x.l (.sl b o (len+x.n) cap ex)
   else bif Nat.ble (Nat.mul (len+x.n) bytes) eY&&Nat.ble (len+x.n) eY then
    match fU (H.get b) o (Nat.mul len z)with
    |none=>.bad
    |some old=>bif ex then grow z H old x (len+x.n)else
     bif qg1 (H.get b) (o+cap*z) z then grow z (H.put b .dead) old x (len+x.n)else .bad
   else .bad
  |_=>.bad
def copyV(z:Nat)(H:Hp)(d:AV)(src:Option Src):R1:=
 match src,d with
 |some x,.sl b o n _ _=>storeAt H b o (x.l.take (Nat.mul (min x.n n) z)) (i64 (min x.n n))
 |some _,.aA=>.ok (i64 0) H
 |some _,.sle=>.ok (i64 0) H
 |_,_=>.bad
def aE7(ky:Ky)(H:Hp)(m k:AV):R1:=
 match m with
 | .map b=>match H.get b with
  | .map es clock=>match qt0 ky k es with
   |some (some h)=>.ok .undef (H.put b (.map (es.eraseIdx h.i) clock))
   |some none=>.ok .undef (H.put b (.map es clock))
   |none=>.bad
  |_=>.bad
 |_=>.bad
def qhm(zl:List AV)(H:Hp)(x:AV):R1:=
 match x with
 | .aA=>.ok .undef H
 | .sl b o n _ _=>bif Nat.beq n 0 then .ok .undef H else storeAt H b o (bE zl n) .undef
 |_=>.bad
def zh8(H:Hp)(x:AV):R1:=
 match x with
 | .dS=>.ok .undef H
 | .map b=>match H.get b with| .map _ clock=>.ok .undef (H.put b (.map [] clock))|_=>.bad
 |_=>.bad
def zwn(x:AV)(r:Option Src):Option Src:=
 match x,r with
 | .int .u8 (.ofNat _),some s=>some ⟨s.n+1,x::s.l⟩
 |_,_=>none
def zwm(l:List AV):Option Src:=
 List.rec (motive:=fun _=>Option Src) (some ⟨0,[]⟩) (fun x _ ih=>zwn x ih) l
def zfu(l:List AV):Nat:=
 List.rec (motive:=fun _=>Nat) 0 (fun x _ ih=>match x with
  | .int _ (.ofNat b)=>Nat.add (Nat.land b 255) (Nat.mul 256 ih)
  |_=>0) l
def zvo(H:Hp)(x:AV):R0:=
 match x with
 | .aA| .sle=>.val (.str 0 0)
 | .sl b o n _ _=>match fU (H.get b) o n with
  |some l=>match zwm l with|some _=>.val (.str n (zfu l))|none=>.bad
  |none=>.bad
 |_=>.bad
def q0c(nm:Nat)(x:AV):R0:=
 match x with
 | .str n a=>.new (.sl nm 0 n n false) (aB 1 (qw3 a n))
 |_=>.bad
def qt6(k:IntKind)(x:AV):R0:=match x with| .int _ n=>.val (.int k (sZ k n))|_=>.bad
/- an operation, made ready once: quiet (it looks at the heap, or not), or with effects -/
inductive jD(d:Nat) where
 |q (looks:Bool) (f:Nat->TT AV d->Hp->R0)
 |e (f:Call->TT AV d->Hp->R1)
structure Rd(d:Nat) where f:TT AV d->AV
def aH(d n:Nat):Operand->Rd d
 | .tmp t=>bif Nat.blt t n then(match dG (α:=AV) d t with|⟨g⟩=>⟨g⟩)else⟨fun _=>.undef⟩
 | .const v=>⟨fun _=>qtc v⟩
 | .global g=>⟨fun _=>.lit (.pointer (some ⟨g,0,none⟩))⟩
 | .func f=>⟨fun _=>.fn f [] []⟩
structure RdL(d:Nat) where f:TT AV d->List AV
def rX(d n:Nat):List Operand->RdL d
 | []=>⟨fun _=>[]⟩
 |x::r=>match aH d n x,rX d n r with|⟨g⟩,⟨h⟩=>⟨fun L=>g L::h L⟩
structure RdO(d:Nat) where f:TT AV d->Option AV
def wB(d n:Nat):Option Operand->RdO d
 |none=>⟨fun _=>none⟩
 |some x=>match aH d n x with|⟨g⟩=>⟨fun L=>some (g L)⟩
structure RdP(d:Nat) where f:TT AV d->List (Nat×Nat×AV)
def qny(d n:Nat)(place:Nat->Option (Nat×Nat)):List (Nat×Operand)->Option (RdP d)
 | []=>some ⟨fun _=>[]⟩
 |(i,x)::r=>
  match place i,aH d n x,qny d n place r with
  |some (off,size),⟨g⟩,some ⟨h⟩=>some ⟨fun L=>(off,size,g L)::h L⟩
  |_,_,_=>none
def dX(d:Nat):jD d:=.e fun _ _ _=>.bad
def cO(r:Option (List AV)):R0:=match r with|some l=>.val (.agg l)|none=>.bad
def iL(len:Nat)(nm:Nat)(r:Option (List AV)):R0:=match r with|some l=>.new (.sl nm 0 len len true) (aB 0 l)|none=>.bad
def qe9(P:Program)(fs:Array Field)(i:Nat):Option (Nat×Nat):=
 match fs[i]? with
 |some f=>(gU P f.type).map fun s=>(f.offset,s)
 |none=>none
def sD(call:Call)(f:AV)(args:List AV)(H:Hp):R1:=
 match f with
 | .fn g first cap=>call (.f g) (first++args++cap) H
 | .yield l=>call (.y l) args H
 |_=>.bad
def qf4(call:Call)(f:AV)(args:List AV)(H:Hp):R1:=
 match f with
 | .fn g first cap=>call (.f g) (first++args++cap) H
 |_=>.bad
def sH(P:Program)(d n:Nat)(args:List Operand)(types:List TypeId):jD d:=
 match args,types with
 | [x],[t]=>
  match P.underlying t with
  |some (.array n _)=>.q false fun _ _ _=>.val (i64 n)
  |some (.pointer arr)=>match P.underlying arr with|some (.array n _)=>.q false fun _ _ _=>.val (i64 n)|_=>dX d
  |some .string=>match aH d n x with|⟨g⟩=>.q false fun _ L _=>p8 (g L)
  |some (.slice _)=>match aH d n x with|⟨g⟩=>.q false fun _ L _=>aF (g L)
  |some (.map ..)=>match aH d n x with|⟨g⟩=>.q true fun _ L H=>xJ H (g L)
  |_=>dX d
 |_,_=>dX d
def xW(P:Program)(d n:Nat)(args:List Operand)(types:List TypeId):jD d:=
 match args,types with
 | [x],[t]=>
  match P.underlying t with
  |some (.array n _)=>.q false fun _ _ _=>.val (i64 n)
  |some (.slice _)=>match aH d n x with|⟨g⟩=>.q false fun _ L _=>iC (g L)
  |_=>dX d
 |_,_=>dX d
def xO(d n:Nat)(args:List Operand):jD d:=
 match args with
 |x::r=>match aH d n x,rX d n r with|⟨g⟩,⟨h⟩=>.q false fun _ L _=>o8 nJ (g L) (h L)
 |_=>dX d
def xY(d n:Nat)(args:List Operand):jD d:=
 match args with
 |x::r=>match aH d n x,rX d n r with|⟨g⟩,⟨h⟩=>.q false fun _ L _=>o8 oO (g L) (h L)
 |_=>dX d
structure Ap where
 (z w:Nat)
 zl:List AV
def apS(P:Program)(e:TypeId):Option Ap:=
 match gU P e,qij P e,qio P e with
 |some z,some w,some zl=>bif Nat.beq zl.length z then some ⟨z,w,zl⟩else none
 |_,_,_=>none
def xV(P:Program)(d n:Nat)(args:List Operand)(types:List TypeId):jD d:=
 match args,types with
 | [x,y],[t,u]=>
  match P.underlying t with
  |some (.slice e)=>
   match apS P e,P.underlying u with
   |some ap,some (.int _)=>match aH d n x,aH d n y with|⟨g⟩,⟨h⟩=>.e fun _ L H=>iD ap.z ap.w H (g L) (qqv ap.w ap.zl (h L))
   |some ap,some (.slice _)=>match aH d n x,aH d n y with|⟨g⟩,⟨h⟩=>.e fun _ L H=>iD ap.z ap.w H (g L) (jE ap.z H (h L))
   |some ap,some .string=>match aH d n x,aH d n y with|⟨g⟩,⟨h⟩=>.e fun _ L H=>iD ap.z ap.w H (g L) (jE ap.z H (h L))
   |_,_=>dX d
  |_=>dX d
 |_,_=>dX d
def q1q(P:Program)(d n:Nat)(args:List Operand)(types:List TypeId):jD d:=
 match args,types with
 | [x,y],[t,_]=>
  match P.underlying t with
  |some (.slice e)=>match gU P e with
   |some z=>match aH d n x,aH d n y with|⟨g⟩,⟨h⟩=>.e fun _ L H=>copyV z H (g L) (jE z H (h L))
   |none=>dX d
  |_=>dX d
 |_,_=>dX d
def yD(P:Program)(d n:Nat)(args:List Operand)(types:List TypeId):jD d:=
 match args,types with
 | [x,y],t::_=>
  match P.underlying t with
  |some (.map kt _)=>match qU P kt with
   |some ky=>match aH d n x,aH d n y with|⟨g⟩,⟨h⟩=>.e fun _ L H=>aE7 ky H (g L) (h L)
   |none=>dX d
  |_=>dX d
 |_,_=>dX d
def yB(P:Program)(d n:Nat)(args:List Operand)(types:List TypeId):jD d:=
 match args,types with
 | [x],[t]=>
  match P.underlying t with
  |some (.slice e)=>match apS P e with
   |some ap=>match aH d n x with|⟨g⟩=>.e fun _ L H=>qhm ap.zl H (g L)
   |none=>dX d
  |some (.map ..)=>match aH d n x with|⟨g⟩=>.e fun _ L H=>zh8 H (g L)
  |_=>dX d
 |_,_=>dX d
def qd6(P:Program)(d n:Nat)(b:Builtin)(args:List Operand)(types:List TypeId):jD d:=
 match b with
 | .len=>sH P d n args types
 | .cap=>xW P d n args types
 | .min=>xO d n args
 | .max=>xY d n args
 | .append=>xV P d n args types
 | .copy=>q1q P d n args types
 | .delete=>yD P d n args types
 | .clear=>yB P d n args types
 |_=>dX d
def zzk(d n:Nat)(x:Operand):jD d:=
 match aH d n x with|⟨g⟩=>.q false fun _ L _=>.val (g L)
def zvz(d n:Nat)(c a b:Operand):jD d:=
 match aH d n c,aH d n a,aH d n b with|⟨gc⟩,⟨ga⟩,⟨gb⟩=>.q false fun _ L _=>fO (gc L) (ga L) (gb L)
def q39(P:Program)(d:Nat)(t:TypeId):jD d:=
 match qio P t with
 |some z=>.q false fun nm _ _=>.new (.ptr nm 0) (aB 0 z)
 |none=>dX d
def aAX(P:Program)(d n:Nat)(t:TypeId)(x:Operand):jD d:=
 match oZ P t,gU P t,aH d n x with
 |some true,some k,⟨g⟩=>.q false fun nm L _=>bJ k nm (g L)
 |some false,some _,⟨g⟩=>.q false fun nm L _=>iY nm (g L)
 |_,_,_=>dX d
def q38(P:Program)(d n:Nat)(t:TypeId)(ps:Array (Nat×Operand)):jD d:=
 match P.underlying t,qio P t with
 |some (.struct fs),some z=>if fs.toList.all fun f=>(gU P f.type).isSome then match qny d n (qe9 P fs) ps.toList with
  |some ⟨h⟩=>.q false fun _ L _=>cO (bU z (h L))
  |none=>dX d
  else dX d
 |some (.array _ e),some z=>match gU P e with
  |some s=>match qny d n (fun i=>some (i*s,s)) ps.toList with
   |some ⟨h⟩=>.q false fun _ L _=>cO (bU z (h L))
   |none=>dX d
  |none=>dX d
 |_,_=>dX d
def qez(P:Program)(d n:Nat)(t:TypeId)(len:Nat)(ps:Array (Nat×Operand)):jD d:=
 match P.underlying t with
 |some (.slice e)=>match gU P e,qio P e with
  |some s,some z=>bif Nat.ble (len*s) 65536&&Nat.beq z.length s then match qny d n (fun i=>some (i*s,s)) ps.toList with
   |some ⟨h⟩=>.q false fun nm L _=>iL len nm (bU (bE z len) (h L))
   |none=>dX d
   else dX d
  |_,_=>dX d
 |_=>dX d
def ze3(P:Program)(d n:Nat)(t:TypeId)(a:Operand):jD d:=
 match oZ P t,gU P t,aH d n a with
 |some true,some k,⟨g⟩=>.q true fun _ L H=>aV k H (g L)
 |some false,some _,⟨g⟩=>.q true fun _ L H=>aQ H (g L)
 |_,_,_=>dX d
def qvl(P:Program)(d n:Nat)(t:TypeId)(a x:Operand):jD d:=
 match oZ P t,gU P t,aH d n a,aH d n x with
 |some true,some k,⟨g⟩,⟨h⟩=>.e fun _ L H=>eB k H (g L) (h L)
 |some false,some 1,⟨g⟩,⟨h⟩=>.e fun _ L H=>fQ H (g L) (h L)
 |_,_,_,_=>dX d
def qmc(d n:Nat)(x:Operand):jD d:=
 match aH d n x with
 |⟨g⟩=>.q false fun _ L _=>match g L with| .ptr b o=>.val (.ptr b o)| .fn a b c=>.val (.fn a b c)| .yield l=>.val (.yield l)|_=>.bad
def ze4(P:Program)(d n:Nat)(op:BinOp)(t:TypeId)(x y:Operand):jD d:=
 match vO P op t,aH d n x,aH d n y with
 |⟨e⟩,⟨g⟩,⟨h⟩=>.q false fun _ L _=>e (g L) (h L)
def zzi(d n:Nat)(op:UnOp)(x:Operand):jD d:=
 match lY op,aH d n x with|⟨e⟩,⟨g⟩=>.q false fun _ L _=>e (g L)
def qks(P:Program)(d n:Nat)(s t:TypeId)(x:Operand):jD d:=
 match P.underlying s,P.underlying t,aH d n x with
 |some (.int _),some (.int k),⟨g⟩=>.q false fun _ L _=>qt6 k (g L)
 |some .string,some .string,⟨g⟩=>.q false fun _ L _=>match g L with| .str n a=>.val (.str n a)|_=>.bad
 |some .string,some (.slice e),⟨g⟩=>match P.underlying e with
  |some (.int .u8)=>.q false fun nm L _=>q0c nm (g L)
  |_=>dX d
 |some (.slice e),some .string,⟨g⟩=>match P.underlying e with
  |some (.int .u8)=>match gU P e with|some 1=>.q true fun _ L H=>zvo H (g L)|_=>dX d
  |_=>dX d
 |_,_,_=>dX d
def qcu(P:Program)(d n:Nat)(t:TypeId)(x:Operand):jD d:=
 match P.underlying t,aH d n x with
 |some (.interface _),_=>dX d
 |some _,⟨g⟩=>.q false fun _ L _=>.val (.iface t (g L))
 |none,_=>dX d
def qvm(d n:Nat)(f:FuncId)(first cap:Array Operand):jD d:=
 match rX d n first.toList,rX d n cap.toList with
 |⟨g⟩,⟨h⟩=>.q false fun _ L _=>.val (.fn f (g L) (h L))
def q36(d:Nat)  :jD d:=
 .q false fun nm _ _=>.new (.map nm) (.map [] 0)
def qgc(P:Program)(d n:Nat)(t:TypeId)(l c:Operand):jD d:=
 match P.underlying t,aH d n l,aH d n c with
 |some (.slice e),⟨g⟩,⟨h⟩=>match qio P e,qij P e,gU P e with
  |some z,some w,some s=>bif Nat.beq z.length s then .q false fun nm L _=>qie z w nm (g L) (h L)else dX d
  |_,_,_=>dX d
 |_,_,_=>dX d
def q34(P:Program)(d n:Nat)(t:TypeId)(x:Operand)(lo hi mx:Option Operand):jD d:=
 match P.underlying t,aH d n x,wB d n lo,wB d n hi,wB d n mx with
 |some .string,⟨g⟩,⟨l⟩,⟨h⟩,_=>match mx with
  |none=>.q false fun _ L _=>qst (g L) (l L) (h L)
  |some _=>dX d
 |some (.slice e),⟨g⟩,⟨l⟩,⟨h⟩,⟨m⟩=>match gU P e with
  |some z=>.q false fun _ L _=>jX z (g L) (l L) (h L) (m L)
  |none=>dX d
 |some (.array n e),⟨g⟩,⟨l⟩,⟨h⟩,⟨m⟩=>match gU P e with
  |some z=>.q false fun _ L _=>qkr n z (g L) (l L) (h L) (m L)
  |none=>dX d
 |some (.pointer arr),⟨g⟩,⟨l⟩,⟨h⟩,⟨m⟩=>match P.underlying arr with
  |some (.array n e)=>match gU P e with
   |some z=>.q false fun _ L _=>qkr n z (g L) (l L) (h L) (m L)
   |none=>dX d
  |_=>dX d
 |_,_,_,_,_=>dX d
def qel(P:Program)(d n:Nat)(s:TypeId)(x:Operand)(f:Nat):jD d:=
 match P.underlying s,aH d n x with
 |some (.struct fs),⟨g⟩=>match fs[f]? with
  |some fl=>match gU P fl.type with
   |some (_+1)=>.q false fun _ L _=>aU fl.offset (g L)
   |_=>dX d
  |none=>dX d
 |_,_=>dX d
def qvo(P:Program)(d n:Nat)(t:TypeId)(x:Operand)(f:Nat):jD d:=
 match P.underlying t,aH d n x with
 |some (.struct fs),⟨g⟩=>match fs[f]? with
  |some fl=>match qkc P fl.type with|p=>.q false fun _ L _=>q5n p fl.offset (g L)
  |none=>dX d
 |_,_=>dX d
def qek(P:Program)(d n:Nat)(t:TypeId)(x i:Operand):jD d:=
 match P.underlying t,aH d n x,aH d n i with
 |some (.slice e),⟨g⟩,⟨h⟩=>match gU P e with
  |some z=>.q false fun _ L _=>aJ z (g L) (h L)
  |none=>dX d
 |some (.array n e),⟨g⟩,⟨h⟩=>match gU P e with
  |some z=>.q false fun _ L _=>fD n z (g L) (h L)
  |none=>dX d
 |_,_,_=>dX d
def qvn(P:Program)(d n:Nat)(t:TypeId)(x i:Operand):jD d:=
 match P.underlying t,aH d n x,aH d n i with
 |some .string,⟨g⟩,⟨h⟩=>.q false fun _ L _=>qgy (g L) (h L)
 |some (.array n e),⟨g⟩,⟨h⟩=>match gU P e,qkc P e with
  |some z,p=>.q false fun _ L _=>aEV p n z (g L) (h L)
  |none,_=>dX d
 |_,_,_=>dX d
def qsw(P:Program)(d n:Nat)(t:TypeId)(m k:Operand)(ok:Bool):jD d:=
 match P.underlying t,aH d n m,aH d n k with
 |some (.map kt et),⟨g⟩,⟨h⟩=>match qU P kt,(P.info? et).bind (·.zero)with
  |some ky,some z=>.q true fun _ L H=>qT ky (qtc z) ok H (g L) (h L)
  |_,_=>dX d
 |_,_,_=>dX d
def qdi(P:Program)(d n:Nat)(t:TypeId)(m k x:Operand):jD d:=
 match P.underlying t,aH d n m,aH d n k,aH d n x with
 |some (.map kt _),⟨g⟩,⟨h⟩,⟨i⟩=>match qU P kt with
  |some ky=>.e fun _ L H=>pR ky H (g L) (h L) (i L)
  |none=>dX d
 |_,_,_,_=>dX d
def qh1(P:Program)(d n:Nat)(t:TypeId)(m k:Operand):jD d:=
 match P.underlying t,aH d n m,aH d n k with
 |some (.map kt et),⟨g⟩,⟨h⟩=>match qU P kt,(P.info? et).bind (·.zero)with
  |some ky,some z=>.e fun _ L H=>zhk ky (qtc z) H (g L) (h L)
  |_,_=>dX d
 |_,_,_=>dX d
def qmd(d n:Nat)(m s x:Operand):jD d:=
 match aH d n m,aH d n s,aH d n x with
 |⟨g⟩,⟨h⟩,⟨i⟩=>.e fun _ L H=>qt2 H (g L) (h L) (i L)
/- ranges over maps of at most one entry: an iterator is a block; its map's name and one more (0: no map), the map's clock, and what was seen -/
def zfg(H:Hp)(x:AV):R1:=
 match x with
 | .dS=>.ok (.ptr H.nx 0) (aS H (.fI 0 0 0))
 | .map b=>match H.get b with
  | .map _ clock=>.ok (.ptr H.nx 0) (aS H (.fI (Nat.succ b) clock 0))
  |_=>.bad
 |_=>.bad
def z0d(H:Hp)(b m since pos:Nat)(es:List lS):R1:=
 match es with
 | []=>.ok (.aY [.bool false]) H
 | [e]=>bif Nat.blt e.born since then
   (bif Nat.beq pos 0 then .ok (.aY [.bool true,e.key,e.val]) (H.put b (.fI m since (Nat.succ e.born)))
    else bif Nat.beq pos (Nat.succ e.born)then .ok (.aY [.bool false]) H else .bad)else .bad
 |_=>.bad
def zwv(H:Hp)(x:AV):R1:=
 match x with
 | .ptr b o=>bif Nat.beq o 0 then(match H.get b with
  | .fI m since pos=>match m with
   |0=>.ok (.aY [.bool false]) H
   |m'+1=>match H.get m' with
    | .map es clock=>bif Nat.beq clock since then z0d H b (Nat.succ m') since pos es else .bad
    |_=>.bad
  |_=>.bad)else .bad
 |_=>.bad
def aFZ(H:Hp)(x:AV):R0:=
 match x with
 | .ptr b o=>bif Nat.beq o 0 then(match H.get b with
  | .fI m since pos=>match m,pos with
   |m'+1,p+1=>match H.get m' with
    | .map es clock=>bif Nat.beq clock since then(match es with
     | [e]=>bif Nat.beq e.born p then .val (.aY [e.key,e.val])else .bad
     |_=>.bad)else .bad
    |_=>.bad
   |_,_=>.bad
  |_=>.bad)else .bad
 |_=>.bad
def zrs(d n:Nat)(x:Operand):jD d:=
 match aH d n x with
 |⟨g⟩=>.q true fun _ L H=>aFZ H (g L)
def q35(P:Program)(d n:Nat)(t:TypeId)(x:Operand):jD d:=
 match P.underlying t,aH d n x with
 |some (.map _ _),⟨g⟩=>.e fun _ L H=>zfg H (g L)
 |_,_=>dX d
def zm9(d n:Nat)(x:Operand)(s:Bool):jD d:=
 match s,aH d n x with
 |false,⟨g⟩=>.e fun _ L H=>zwv H (g L)
 |true,_=>dX d
def qsx(d n:Nat)(x:Operand)(i:Nat):jD d:=
 match aH d n x with
 |⟨g⟩=>.q false fun _ L _=>match g L with
  | .aY l=>match l[i]? with|some v=>.val v|none=>.bad
  |_=>.bad
/- the one function without a body that is known: the comparison of two strings -/
def qnl:String := "internal".push (Char.ofNat 47) ++ "bytealg.abigen_runtime_cmpstring"
def zog(P:Program)(f:FuncId):Bool:=
 match P.funcs[f]? with
 |some fn=>fn.body.isNone&&fn.name==qnl&&fn.origin == ""
 |none=>false
def aF9(l:List AV):R0:=
 match l with
 | [.str n a,.str m b]=>.val (.int .i64 (bif qdl n n a m b then .negSucc 0 else bif eqS n a m b then .ofNat 0 else .ofNat 1))
 |_=>.bad
def q37(P:Program)(d n:Nat)(f:FuncId)(args:List Operand):jD d:=
 match rX d n args,zog P f with
 |⟨g⟩,true=>.q false fun _ L _=>aF9 (g L)
 |⟨g⟩,false=>.e fun call L H=>call (.f f) (g L) H
def gV(P:Program)(d n:Nat)(o:Oper):jD d:=
 match o.op with
 | .move x| .assign x=>zzk d n x
 | .pick c a b=>zvz d n c a b
 | .alloc t=>q39 P d t
 | .box t x=>aAX P d n t x
 | .build t ps=>q38 P d n t ps
 | .buildSlice t len ps=>qez P d n t len ps
 | .load t a=>ze3 P d n t a
 | .store t a x=>qvl P d n t a x
 | .nilCheck x=>qmc d n x
 | .binOp op t x y _=>ze4 P d n op t x y
 | .unOp op _ x=>zzi d n op x
 | .convert s t x=>qks P d n s t x
 | .makeInterface t x=>qcu P d n t x
 | .makeFunc (.func f) first cap=>qvm d n f first cap
 | .makeMap _ none=>q36 d
 | .makeSlice t l c=>qgc P d n t l c
 | .slice t x lo hi mx=>q34 P d n t x lo hi mx
 | .fieldAddr s x f=>qel P d n s x f
 | .field t x f=>qvo P d n t x f
 | .indexAddr t x i=>qek P d n t x i
 | .index t x i=>qvn P d n t x i
 | .lookup t m k ok=>qsw P d n t m k ok
 | .mapUpdate t m k x| .insert t m k x=>qdi P d n t m k x
 | .mapEntry t m k=>qh1 P d n t m k
 | .entryStore _ m s x=>qmd d n m s x
 | .extract x i=>qsx d n x i
 | .range t x=>q35 P d n t x
 | .next x s=>zm9 d n x s
 | .entry x=>zrs d n x
 | .call {callee:=.builtin b,args,argTypes}=>qd6 P d n b args.toList argTypes.toList
 | .call {callee:=.value (.func f),args,..}=>q37 P d n f args.toList
 | .call {callee:=.value x,args,..}=>match aH d n x,rX d n args.toList with
  |⟨h⟩,⟨g⟩=>.e fun call L H=>sD call (h L) (g L) H
 |_=>dX d
/- running operations one behind the other -/
inductive Rs(d:Nat) where
 |bad
 |ok (L:TT AV d) (H:Hp)
structure Wd(d:Nat) where f:TT AV d->Option Bool
def qW(d n:Nat)(ops:Array Oper)(o:Oper):Wd d:=
 match o.guard with
 |none=>⟨fun _=>some true⟩
 |some (j,want)=>match(ops[j]?).bind (·.dst)with
  |some t=>bif Nat.blt t n then(match dG (α:=AV) d t with
   |⟨g⟩=>⟨fun L=>match g L with| .bool b=>some (b==want)| .undef=>some false|_=>none⟩)else⟨fun _=>none⟩
  |none=>⟨fun _=>none⟩
structure Pt(d:Nat) where f:TT AV d->AV->TT AV d
def dR(d n:Nat):Option Tmp->Pt d
 |some t=>bif Nat.blt t n then(match setter (α:=AV) d t with|⟨s⟩=>⟨s⟩)else⟨fun L _=>L⟩
 |none=>⟨fun L _=>L⟩
structure St(d:Nat) where f:Call->TT AV d->Hp->Rs d
def doQ{d:Nat}(put:TT AV d->AV->TT AV d)(L:TT AV d)(H:Hp)(r:R0):Rs d:=
 match r with
 | .bad=>.bad
 | .val v=>.ok (put L v) H
 | .new v b=>.ok (put L v) (aS H b)
def doE{d:Nat}(put:TT AV d->AV->TT AV d)(L:TT AV d)(r:R1):Rs d:=
 match r with
 | .bad=>.bad
 | .ok v H=>.ok (put L v) H
def ifW{d:Nat}(w:Option Bool)(a b:Rs d):Rs d:=
 match w with
 |some true=>a
 |some false=>b
 |none=>.bad
def vV(P:Program)(d n:Nat)(ops:Array Oper)(o:Oper):St d:=
 match gV P d n o,o.guard,qW d n ops o,dR d n o.dst with
 | .q _ f,none,_,⟨put⟩=>⟨fun _ L H=>doQ put L H (f H.nx L H)⟩
 | .e f,none,_,⟨put⟩=>⟨fun call L H=>doE put L (f call L H)⟩
 | .q _ f,some _,⟨w⟩,⟨put⟩=>⟨fun _ L H=>ifW (w L) (doQ put L H (f H.nx L H)) (.ok (put L .undef) H)⟩
 | .e f,some _,⟨w⟩,⟨put⟩=>⟨fun call L H=>ifW (w L) (doE put L (f call L H)) (.ok (put L .undef) H)⟩
def q78{d:Nat}(r:Rs d)(k:TT AV d->Hp->Rs d):Rs d:=match r with| .bad=>.bad| .ok L H=>k L H
/- deferred calls wait in the slot behind the temporaries -/
def pN(o:Oper):Bool:=match o.op with| .defer _=>true|_=>false
structure DfC where
 x:Operand
 args:List Operand
def xB(o:Oper):Option DfC:=
 match o.op,o.guard with
 | .defer {callee:=.value x,args,..},none=>some ⟨x,args.toList⟩
 |_,_=>none
def dl:AV->List AV
 | .aY l=>l
 |_=>[]
def doD{d:Nat}(n:Nat)(put:TT AV d->AV->TT AV d)(L:TT AV d)(H:Hp)(x:AV)(as:List AV):Rs d:=
 match x with
 | .fn f first cap=>.ok (put ((setter d n).f L (.aY (.fn f (first++as++cap) []::dl ((dG d n).f L)))) .undef) H
 |_=>.bad
def yM(P:Program)(d n:Nat)(ops:Array Oper)(o:Oper):St d:=
 match xB o with
 |none=>vV P d n ops o
 |some c=>match aH d n c.x,rX d n c.args,dR d n o.dst with
  |⟨g⟩,⟨h⟩,⟨put⟩=>⟨fun _ L H=>doD n put L H (g L) (h L)⟩
def oU(P:Program)(d n:Nat)(ops:Array Oper):List Oper->St d
 | []=>⟨fun _ L H=>.ok L H⟩
 |o::r=>⟨fun call L H=>q78 ((yM P d n ops o).f call L H) ((oU P d n ops r).f call)⟩
/- regions that draw their order -/
def hasB(m i:Nat):Bool:=Nat.beq (Nat.land (Nat.shiftRight m i) 1) 1
def rF(m i:Nat):Nat:=Nat.lor m (Nat.shiftLeft 1 i)
def aAr(m k:Nat):Bool:=Nat.beq (Nat.lor m k) k
def tV(o:Oper):List Nat:=(o.after.toList.filter (Region.binds .any)).map (·.on)
def qqb(ms:List Nat)(o:Oper):Nat:=(tV o).foldl (fun s j=>Nat.lor (rF s j) (ms.getD j 0)) 0
def wU(ms:List Nat):List Oper->List Nat
 | []=>ms
 |o::r=>wU (ms++[qqb ms o]) r
def zy9:Operand->Option Tmp
 | .tmp t=>some t
 |_=>none
def kL(ops:Array Oper)(o:Oper):List Tmp:=
 o.op.operands.toList.filterMap zy9++(match o.guard with|some (j,_)=>((ops[j]?).bind (·.dst)).toList|none=>[])
def qg2:Op->Bool
 | .alloc _| .box .. | .buildSlice .. | .convert .. | .makeMap .. | .makeSlice .. =>true
 |_=>false
structure Pj(d:Nat) where f:TT AV d->TT AV d
def lX(d n:Nat):List Tmp->Pj d
 | []=>⟨fun _=>same .undef d⟩
 |t::r=>bif Nat.blt t n then(match dG (α:=AV) d t,setter (α:=AV) d t,lX d n r with|⟨g⟩,⟨s⟩,⟨p⟩=>⟨fun L=>s (p L) (g L)⟩)else lX d n r
mutual
def nV:Nat->AV->AV->Bool
 |0,_,_=>false
 |k+1,x,y=>match x,y with
  | .undef,.undef| .bX,.bX| .aA,.aA| .sle,.sle| .dS,.dS| .jF,.jF| .nH,.nH=>true
  | .bool a,.bool b=>a==b
  | .int i a,.int j b=>decide (i=j)&&decide (a=b)
  | .str a b,.str c e=>Nat.beq a c&&Nat.beq b e
  | .ptr a b,.ptr c e=>Nat.beq a c&&Nat.beq b e
  | .sl a b c e f,.sl a' b' c' e' f'=>Nat.beq a a'&&Nat.beq b b'&&Nat.beq c c'&&Nat.beq e e'&&f==f'
  | .map a,.map b=>Nat.beq a b
  | .yield a,.yield b=>Nat.beq a b
  | .fn f a b,.fn g c e=>Nat.beq f g&&pV k a c&&pV k b e
  | .iface t a,.iface u b=>Nat.beq t u&&nV k a b
  | .agg a,.agg b=>pV k a b
  | .aY a,.aY b=>pV k a b
  |_,_=>false
def pV:Nat->List AV->List AV->Bool
 |0,_,_=>false
 |_,[],[]=>true
 |k+1,x::l,y::m=>nV k x y&&pV k l m
 |_,_,_=>false
end
structure Pd where
 (i nm:Nat)
 b:bM
structure Wt where
 (i A:Nat)
 f:Hp->R0
 v:AV
inductive Rx(d:Nat) where
 |bad
 |ok (L:TT AV d) (H:Hp) (pend:List Pd) (iV:List Wt)
structure Sx(d:Nat) where f:Call->Nat->TT AV d->Hp->List Pd->List Wt->Rx d
def bQ(A:Nat)(pend:List Pd)(H:Hp):Hp:=
 List.rec (motive:=fun _=>Hp) H (fun p _ ih=>bif hasB A p.i then ih.put p.nm p.b else ih) pend
def lW(pend:List Pd)(H:Hp):Hp:=
 List.rec (motive:=fun _=>Hp) H (fun p _ ih=>ih.put p.nm p.b) pend
def pM(A:Nat)(pend:List Pd):List Pd:=
 List.rec (motive:=fun _=>List Pd) [] (fun p _ ih=>bif hasB A p.i then ih else p::ih) pend
def pK(A:Nat)(iV:List Wt):List Wt:=
 List.rec (motive:=fun _=>List Wt) [] (fun p _ ih=>bif hasB A p.i then ih else p::ih) iV
def ze2(r:R0)(v:AV):Bool:=match r with| .val u=>nV 64 u v|_=>false
def yO(pend:List Pd)(H:Hp)(iV:List Wt):Bool:=
 List.rec (motive:=fun _=>Bool) true (fun x _ ih=>ze2 (x.f (bQ x.A pend H)) x.v&&ih) iV
def qX{d:Nat}(put:TT AV d->AV->TT AV d)(lk al:Bool)(i A nm:Nat)(L:TT AV d)(H:Hp)(pend:List Pd)(iV:List Wt)(f:Hp->R0)(w:Option Bool):Rx d:=
 match w with
 |none=>.bad
 |some false=>.ok (put L .undef) H pend iV
 |some true=>match f (bQ A pend H)with
  | .bad=>.bad
  | .val v=>.ok (put L v) H pend (bif lk then⟨i,A,f,v⟩::iV else iV)
  | .new v b=>bif al&&b.wr then .ok (put L v) H (⟨i,nm,b⟩::pend) iV else .bad
def eX{d:Nat}(put:TT AV d->AV->TT AV d)(A:Nat)(L:TT AV d)(H:Hp)(pend:List Pd)(iV:List Wt)(r:R1)(w:Option Bool):Rx d:=
 match w with
 |none=>.bad
 |some false=>.ok (put L .undef) H pend iV
 |some true=>match r with
  | .bad=>.bad
  | .ok v H'=>bif yO (pM A pend) H' (pK A iV)then .ok (put L v) H' (pM A pend) (pK A iV)else .bad
def qu9(P:Program)(d n:Nat)(ops:Array Oper)(i A:Nat)(o:Oper):Sx d:=
 match gV P d n o,lX d n (kL ops o),qW d n ops o,dR d n o.dst with
 | .q lk f,⟨pj⟩,⟨w⟩,⟨put⟩=>⟨fun _ base L H pend iV=>qX put lk (qg2 o.op&& !lk) i A (base+i) L H pend iV (f (base+i) (pj L)) (w (pj L))⟩
 | .e f,⟨pj⟩,⟨w⟩,⟨put⟩=>⟨fun call _ L H pend iV=>eX put A L H pend iV (f call (pj L) (bQ A pend H)) (w (pj L))⟩
def zya{d:Nat}(r:Rx d)(k:TT AV d->Hp->List Pd->List Wt->Rx d):Rx d:=match r with| .bad=>.bad| .ok L H p w=>k L H p w
def rG(P:Program)(d n:Nat)(ops:Array Oper)(ms:List Nat):List Nat->Sx d
 | []=>⟨fun _ _ L H p w=>.ok L H p w⟩
 |i::r=>match ops[i]? with
  |some o=>⟨fun call base L H p w=>zya ((qu9 P d n ops i (ms.getD i 0) o).f call base L H p w) ((rG P d n ops ms r).f call base)⟩
  |none=>⟨fun _ _ _ _ _ _=>.bad⟩
def isE{d:Nat}:jD d->Bool
 | .e _=>true
 | .q .. =>false
def aDb{d:Nat}:jD d->Bool
 | .q lk _=>lk
 | .e _=>false
structure Kd where
 (i A:Nat)
 (lF lk:Bool)
def qqc(P:Program)(d n:Nat)(ms:List Nat):Nat->List Oper->List Kd
 |_,[]=>[]
 |i,o::r=>⟨i,ms.getD i 0,isE (gV P d n o),aDb (gV P d n o)⟩::qqc P d n ms (i+1) r
def zhr(ks:List Kd):Nat:=ks.foldl (fun s k=>bif k.lF then rF s k.i else s) 0
def zfs(EM:Nat):Nat->Nat->List Kd->List Nat
 |0,_,ks=>ks.map (·.i)
 |k+1,E,ks=>
  match ks.filter (fun x=> !x.lF&&aAr (Nat.land x.A EM) E),ks.filter (fun x=>x.lF|| !aAr (Nat.land x.A EM) E)with
  |now,rest=>now.map (·.i) ++
   match rest.filter (fun x=>x.lF&&aAr (Nat.land x.A EM) E)with
   |e::_=>e.i::zfs EM k (rF E e.i) (rest.filter fun x=> !(Nat.beq x.i e.i))
   | []=>rest.map (·.i)
def qv2(ops:Array Oper)(ks:List Kd):Nat->Nat->List Nat->Bool
 |_,_,[]=>true
 |D,E,i::r=>match ops[i]?,ks[i]? with
  |some o,some k=>(tV o).all (hasB D)&& !hasB D i&&(!(k.lF||k.lk)||aAr E k.A)&&qv2 ops ks (rF D i) (bif k.lF then rF E i else E) r
  |_,_=>false
def qqq:Nat->List Oper->Bool
 |_,[]=>true
 |i,o::r=>(tV o).all (fun j=>Nat.blt j i)&&qqq (i+1) r
def q3m(ops:Array Oper)(ms:List Nat):Bool:=
 (List.range ops.size).all fun k=>match ops[k]? with
  |none=>false
  |some o=>(List.range ops.size).all fun i=>match ops[i]? with
   |none=>false
   |some o'=>match o'.dst with
    |none=>true
    |some t=>Nat.beq i k||hasB (ms.getD k 0) i||hasB (ms.getD i 0) k|| !((kL ops o).contains t||o.dst==some t)
structure Pln where
 ms:List Nat
 ord:List Nat
 up:Nat
def q00(P:Program)(d n:Nat)(ops:Array Oper):Option Pln:=
 match wU [] ops.toList with
 |ms=>match qqc P d n ms 0 ops.toList with
  |ks=>match zfs (zhr ks) ks.length 0 ks with
   |ord=>bif qqq 0 ops.toList&&q3m ops ms&&Nat.beq ord.length ops.size&&qv2 ops ks 0 0 ord then
     some ⟨ms,ord,bif ops.toList.any (fun o=>qg2 o.op)then ops.size else 0⟩else none
def qke(P:Program)(d n:Nat)(ops:Array Oper):St d:=
 match q00 P d n ops with
 |none=>⟨fun _ _ _=>.bad⟩
 |some pl=>match rG P d n ops pl.ms pl.ord with
  |⟨g⟩=>⟨fun call L H=>match g call H.nx L ⟨H.t,H.nx+pl.up⟩ [] []with| .bad=>.bad| .ok L' H' pend _=>.ok L' (lW pend H')⟩
/- code -/
structure Dn(d:Nat) where f:Call->TT AV d->Hp->Rc d
def lZ{d:Nat}:Rs d->Rc d
 | .bad=>.bad
 | .ok L H=>.ok .normal L H
def qE{d:Nat}(r:Rc d)(k:TT AV d->Hp->Rc d):Rc d:=
 match r with
 | .ok .normal L H=>k L H
 |r=>r
def qqp{d:Nat}(id:Nat)(r:Rc d):Rc d:=
 match r with
 | .ok (.exit id') L H=>bif Nat.beq id' id then .ok .normal L H else .ok (.exit id') L H
 |r=>r
def condC{d:Nat}(c:AV)(a b:Rc d):Rc d:=
 match c with
 | .bool true=>a
 | .bool false=>b
 |_=>.bad
def qn0{d:Nat}(b:TT AV d->Hp->Rc d)(n:Nat):TT AV d->Hp->Rc d:=
 Nat.rec (motive:=fun _=>TT AV d->Hp->Rc d) (fun _ _=>.bad) (fun _ ih L H=>qE (b L H) ih) n
def cK:Nat:=1000000
def endLoop{d:Nat}(l:Nat)(r:R1)(L:TT AV d):Rc d:=
 match r with
 | .bad=>.bad
 | .ok _ H=>match H.get l with
  | .loop true none .. =>.ok .normal L (H.put l .dead)
  | .loop false (some .ret) .. =>.ok .ret L (H.put l .dead)
  | .loop false (some (.exit id)) .. =>.ok (.exit id) L (H.put l .dead)
  |_=>.bad
def j5:Code->Bool
 | .region _ ops _=> !(ops.toList.any pN)
 | .seq a b=>j5 a&&j5 b
 | .cond _ a b=>j5 a&&j5 b
 | .block _ b=>j5 b
 | .loop b=>j5 b
 | .scope _=>false
 | .rangeFunc .. =>false
 |_=>true
def den(P:Program)(d n:Nat):Code->Dn d
 | .skip| .label _=>⟨fun _ L H=>.ok .normal L H⟩
 | .region _ ops false=>⟨fun call L H=>lZ ((oU P d n ops ops.toList).f call L H)⟩
 | .region _ ops true=>match qke P d n ops with|⟨g⟩=>⟨fun call L H=>lZ (g call L H)⟩
 | .seq a b=>⟨fun call L H=>qE ((den P d n a).f call L H) ((den P d n b).f call)⟩
 | .cond x a b=>match aH d n x with|⟨g⟩=>⟨fun call L H=>condC (g L) ((den P d n a).f call L H) ((den P d n b).f call L H)⟩
 | .block id b=>⟨fun call L H=>qqp id ((den P d n b).f call L H)⟩
 | .loop b=>⟨fun call L H=>qn0 ((den P d n b).f call) cK L H⟩
 | .scope b=>den P d n b
 | .exit id=>⟨fun _ L H=>.ok (.exit id) L H⟩
 | .goto _=>⟨fun _ _ _=>.bad⟩
 | .ret=>⟨fun _ L H=>.ok .ret L H⟩
 | .rangeFunc f ps assign body=>match aH d n f,j5 assign&&j5 body with
  |_,false=>⟨fun _ _ _=>.bad⟩
  |⟨g⟩,true=>⟨fun call L H=>endLoop H.nx (qf4 call (g L) [.yield H.nx] (aS H (.loop true none d n L ps.toList assign body))) L⟩
 | .refuse _=>⟨fun _ _ _=>.bad⟩
/- functions -/
structure Rv(d:Nat) where f:TT AV d->Hp->Option AV
def aAj(P:Program)(d n:Nat):ResultVar->Rv d
 | .tmp t=>match aH d n (.tmp t)with|⟨g⟩=>⟨fun L _=>some (g L)⟩
 | .cell a t=>match aH d n (.tmp a),oZ P t,gU P t with
  |⟨g⟩,some true,some k=>⟨fun L H=>match aV k H (g L)with| .val v=>some v|_=>none⟩
  |⟨g⟩,some false,some _=>⟨fun L H=>match aQ H (g L)with| .val v=>some v|_=>none⟩
  |_,_,_=>⟨fun _ _=>none⟩
structure RvL(d:Nat) where f:TT AV d->Hp->Option (List AV)
def q6t(P:Program)(d n:Nat):List ResultVar->RvL d
 | []=>⟨fun _ _=>some []⟩
 |x::r=>match aAj P d n x,q6t P d n r with
  |⟨g⟩,⟨h⟩=>⟨fun L H=>match g L H,h L H with|some v,some l=>some (v::l)|_,_=>none⟩
def zU(P:Program)(d n:Nat)(rs:List ResultVar):Rv d:=
 match rs with
 | [x]=>aAj P d n x
 |l=>match q6t P d n l with|⟨h⟩=>⟨fun L H=>match h L H with|some l=>some (.aY l)|none=>none⟩
def aAl(call:Call)(l:List AV):Hp->Option Hp:=
 List.rec (motive:=fun _=>Hp->Option Hp) (fun H=>some H) (fun x _ ih H=>match x with
  | .fn g all []=>match call (.d g) all H with| .ok _ H'=>ih H'| .bad=>none
  |_=>none) l
def eO(v:Option AV)(H:Hp):R1:=match v with|some v=>.ok v H|none=>.bad
def iB{d:Nat}(n:Nat)(call:Call)(res:TT AV d->Hp->Option AV)(L:TT AV d)(H:Hp):R1:=
 match aAl call (dl ((dG d n).f L)) H with
 |some H'=>eO (res L H') H'
 |none=>.bad
def aBx{d:Nat}(n:Nat)(call:Call)(res:TT AV d->Hp->Option AV)(r:Rc d):R1:=
 match r with
 | .ok .normal L H=>iB n call res L H
 | .ok .ret L H=>iB n call res L H
 |_=>.bad
structure Fd where f:Call->List AV->Hp->R1
def aP(P:Program)(f:FuncId):Fd:=
 match P.funcs[f]? with
 |none=>⟨fun _ _ _=>.bad⟩
 |some fn=>if fn.name == "runtime.NumGoroutine" then⟨fun _ _ _=> .bad⟩else match fn.body with
  |none=>⟨fun _ _ _=>.bad⟩
  |some c=>
   match zU P (iJ (fn.ntmps+1)) fn.ntmps fn.results.toList with
   |⟨res⟩=>⟨fun call args H=>bif Nat.ble args.length fn.ntmps&&Nat.ble (fn.ntmps+1) 262144 then aBx fn.ntmps call res ((den P (iJ (fn.ntmps+1)) fn.ntmps c).f call (mU args 0 (same .undef _)) H)else .bad⟩
def qmn(P:Program)(f:FuncId):Bool:=
 match P.funcs[f]? with
 |some fn=>(match fn.body with|some c=>j5 c|none=>false)
 |none=>false
def yH{d:Nat}(L:TT AV d)(ps:List Tmp)(args:List AV):TT AV d:=
 match ps,args with
 |p::ps,a::as=>yH ((setter d p).f L a) ps as
 |_,_=>L
def zr3:Ex->Option (Option Code)
 | .normal=>some none
 | .ret=>some (some .ret)
 | .exit id=>some (some (.exit id))
 | .goto _=>none
def endRound{d:Nat}(l:Nat)(r:Rc d):R1:=
 match r with
 | .bad=>.bad
 | .ok e _ H=>match zr3 e with
  |none=>.bad
  |some j=>match H.get l with
   | .loop false none d n L ps assign body=>.ok (.bool j.isNone) (H.put l (.loop j.isNone j d n L ps assign body))
   |_=>.bad
def zV(P:Program)(call:Call)(l:Nat)(args:List AV)(H:Hp):R1:=
 match H.get l with
 | .loop true none d n L ps assign body=>
  bif Nat.beq ps.length args.length&&ps.all (fun p=>Nat.blt p n)then
   match(den P d n assign).f call (yH ((setter d n).f L .undef) ps args) H with
   | .ok .normal L1 H1=>match H1.get l with
    | .loop true none d' n' L' ps' nE body'=>endRound l ((den P d n body).f call L1 (H1.put l (.loop false none d' n' L' ps' nE body')))
    |_=>.bad
   |_=>.bad
  else .bad
 |_=>.bad
def qqd:R1->Bool
 | .ok (.bool b) _=>b
 |_=>false
end Go.Ev
end
noncomputable section
namespace Go.Ev
variable {α:Type}
def qmo(k:Nat)(t:Q α):α:=
 match k with
 |0=>t.c0|1=>t.c1|2=>t.c2|3=>t.c3|4=>t.c4|5=>t.c5|6=>t.c6|_=>t.c7
def aGp(k:Nat)(t:Q α)(v:α):Q α:=
 match k with
 |0=>{t with c0:=v}|1=>{t with c1:=v}|2=>{t with c2:=v}|3=>{t with c3:=v}
 |4=>{t with c4:=v}|5=>{t with c5:=v}|6=>{t with c6:=v}|_=>{t with c7:=v}
theorem z0x(i:Nat):Nat.land i 7=i%8:=by have:=Nat.and_two_pow_sub_one_eq_mod i 3;omega
theorem aIF(i:Nat):Nat.shiftRight i 3=i / 8:=by have:=Nat.shiftRight_eq_div_pow i 3;omega
theorem lt8{k:Nat}(h:k<8):k=0\/k=1\/k=2\/k=3\/k=4\/k=5\/k=6\/k=7:=by omega
theorem qdo(d i:Nat)(t:TT α (d+1)):(dG (d+1) i).f t=(dG d (i / 8)).f (qmo (i%8) t):=by have e:dG (α:=α) (d+1) i=uN.rec (motive:=fun _=>uN α (d+1)) (fun g=>kD.rec (motive:=fun _=>uN α (d+1)) (fun s=>⟨fun t=>g (s t)⟩) (sel (TT α d) (Nat.land i 7))) (dG d (Nat.shiftRight i 3)):=rfl;rw[e,z0x,aIF];generalize dG (α:=α) d (i / 8)=g;cases g;cases t;rcases lt8 (Nat.mod_lt i (by decide:8>0))with h|h|h|h|h|h|h|h<;>rw[h]<;>rfl
theorem q0m(d i:Nat)(t:TT α (d+1))(v:α):(setter (d+1) i).f t v=aGp (i%8) t ((setter d (i / 8)).f (qmo (i%8) t) v):=by have e:setter (α:=α) (d+1) i=uT.rec (motive:=fun _=>uT α (d+1)) (fun g=>kH.rec (motive:=fun _=>uT α (d+1)) (fun s=>⟨fun t v=>s (fun c=>g c v) t⟩) (aKE (TT α d) (Nat.land i 7))) (setter d (Nat.shiftRight i 3)):=rfl;rw[e,z0x,aIF];generalize setter (α:=α) d (i / 8)=g;cases g;cases t;rcases lt8 (Nat.mod_lt i (by decide:8>0))with h|h|h|h|h|h|h|h<;>rw[h]<;>rfl
theorem zns(k j:Nat)(hk:k<8)(hj:j<8)(t:Q α)(v:α):qmo k (aGp j t v)=if k=j then v else qmo k t:=by
 rcases lt8 hk with rfl|rfl|rfl|rfl|rfl|rfl|rfl|rfl <;>
  rcases lt8 hj with rfl|rfl|rfl|rfl|rfl|rfl|rfl|rfl<;>simp[qmo,aGp]
theorem qee(d:Nat):∀(i j:Nat) (t:TT α d) (v:α),i<8 ^ d->j<8 ^ d -> (dG d i).f ((setter d j).f t v)=if i=j then v else(dG d i).f t:=by
 induction d with
 |zero=>
  intro i j t v hi hj;have:i=j:=by simp at hi hj;omega
  subst this;rw[if_pos rfl];rfl
 |succ d ih=>
  intro i j t v hi hj;have e:(dG (d+1) i).f ((setter (d+1) j).f t v)=(dG d (i / 8)).f (if i%8=j%8 then(setter d (j / 8)).f (qmo (j%8) (t:Q (TT α d))) v else qmo (i%8) (t:Q (TT α d))):=by rw[qdo,q0m];exact congrArg _ (zns _ _ (Nat.mod_lt _ (by decide)) (Nat.mod_lt _ (by decide)) _ _)
  rw[e,qdo];by_cases hm:i%8=j%8
  ·rw[if_pos hm,ih _ _ _ _ (by omega) (by omega)];by_cases hq:i / 8=j / 8
   ·rw[if_pos hq,if_pos (by omega)]
   ·rw[if_neg hq,if_neg (by omega),hm]
  ·rw[if_neg hm,if_neg (by omega)]
theorem qgj(a:α)(d:Nat):∀ i,(dG d i).f (same a d)=a:=by
 induction d with
 |zero=>intro i;rfl
 |succ d ih=>
  intro i;rw[qdo];have:qmo (i%8) (same a (d+1):Q (TT α d))=same a d:=by rcases lt8 (Nat.mod_lt i (by decide:8>0))with h|h|h|h|h|h|h|h<;>rw[h]<;>rfl
  rw[this,ih]
theorem qbz(n:Nat):n<=8 ^ iJ n:=by
 unfold iJ;simp only[cond_eq_ite,Nat.ble_eq];split
 ·omega
 split
 ·omega
 split
 ·omega
 split
 ·omega
 split
 ·omega
 split
 ·omega
 ·exact Nat.le_of_lt (Nat.lt_pow_self (by decide))
theorem q5u(n:Nat)(_:n<=262144):n<=8 ^ iJ n:=qbz n
theorem znf{d:Nat}(c:TT AV d)(o:Nat):q8 c 0 o=[]:=rfl
theorem qs4{d:Nat}(c:TT AV d)(k o:Nat):q8 c (k+1) o=(dG d o).f c::q8 c k (o+1):=rfl
theorem qgf{d:Nat}(c:TT AV d)(k:Nat):∀ o,(q8 c k o).length=k:=by
 induction k with
 |zero=>intro o;rfl
 |succ k ih=>intro o;rw[qs4,List.length_cons,ih]
theorem zfd{d:Nat}(c:TT AV d)(k:Nat):∀ o i,i<k->(q8 c k o)[i]? =some ((dG d (o+i)).f c):=by
 induction k with
 |zero=>intro o i h;omega
 |succ k ih=>
  intro o i h;rw[qs4];cases i with
  |zero=>rfl
  |succ i=>rw[List.getElem?_cons_succ,ih _ _ (by omega),show o+1+i=o+(i+1)by omega]
theorem zvg{d:Nat}(o:Nat)(c:TT AV d):mU [] o c=c:=rfl
theorem zmm{d:Nat}(v:AV)(l:List AV)(o:Nat)(c:TT AV d):mU (v::l) o c=mU l (o+1) ((setter d o).f c v):=rfl
theorem qg8{d:Nat}(l:List AV):∀(o:Nat) (c:TT AV d) (i:Nat),o+l.length<=8 ^ d->i<8 ^ d -> (dG d i).f (mU l o c)=if o<=i/\i<o+l.length then l.getD (i-o) .undef else(dG d i).f c:=by
 induction l with
 |nil=>intro o c i _ _;rw[zvg,if_neg (by simp)]
 |cons v l ih=>
  intro o c i h hi;rw[List.length_cons]at h;rw[zmm,ih _ _ _ (by omega) hi,qee _ _ _ _ _ hi (by omega)];simp only[List.length_cons];by_cases h1:o+1<=i/\i<o+1+l.length
  ·rw[if_pos h1,if_pos (by omega)];obtain⟨j,hj⟩:∃ j,i-o=j+1:=⟨i-o-1,by omega⟩;rw[hj,List.getD_cons_succ];congr 1;omega
  ·rw[if_neg h1];by_cases h2:i=o
   ·simp_all
   ·rw[if_neg h2,if_neg (by omega)]
end Go.Ev
end
noncomputable section
namespace Go.Ev
open Go.RowKit
structure Loc where
 (blk base ext z:Nat)
abbrev Im:=Nat->Option Loc
def wV(n a:Nat)(s:ByteArray):Prop:=s.data.toList.length=n/\jI s.data.toList=a
mutual
def aL(ι:Im):AV->Value->Prop
 | .undef,V=>V=.tuple #[]
 | .lit v,V=>V=v
 | .bool b,V=>V=.bool b
 | .int k n,V=>V=.int k n
 | .str n a,V=>∃ s,V=.string s/\wV n a s
 | .ptr b o,V=>∃ l,ι b=some l/\V=.pointer (some ⟨l.blk,l.base+o,none⟩)
 | .bX,V=>V=.pointer none
 | .sl b o len cap ex,V=>len<=cap/\∃ l,ι b=some l/\V=.slice (some ⟨l.blk,l.base+o,none⟩) len (if ex then cap else cap+l.ext)
 | .aA,V=>V=.slice none 0 0
 | .sle,V=>∃ a c,V=.slice (some a) 0 c
 | .map b,V=>∃ l,ι b=some l/\V=.map (some l.blk)
 | .dS,V=>V=.map none
 | .fn f first cap,V=>∃ F C,aI ι first F/\aI ι cap C/\V=.func (.func f) F.toArray C.toArray
 | .yield b,V=>∃ l,ι b=some l/\V=.func (.yield l.blk) #[] #[]
 | .jF,V=>V=.nilFunc
 | .iface t v,V=>∃ X,aL ι v X/\V=.iface t X
 | .nH,V=>V=.nilIface
 | .agg l,V=>∃ vs,aI ι l vs/\V=.agg vs.toArray/\∀ v∈vs,v.oneCell=true
 | .aY l,V=>∃ vs,aI ι l vs/\V=.tuple vs.toArray
def aI(ι:Im):List AV->List Value->Prop
 | [],vs=>vs=[]
 |a::l,vs=>∃ v r,vs=v::r/\aL ι a v/\aI ι l r
end
def Im.le(ι ι':Im):Prop:=∀ b l,ι b=some l->ι' b=some l
theorem Im.le_refl(ι:Im):ι.le ι:=fun _ _ h=>h
theorem Im.le_trans{a b c:Im}(h:a.le b)(k:b.le c):a.le c:=fun x l e=>k x l (h x l e)
mutual
theorem aL.mono{ι ι':Im}(h:ι.le ι'):(v:AV)->(V:Value)->aL ι v V->aL ι' v V
 | .undef,V,hr| .lit _,V,hr| .bool _,V,hr| .int _ _,V,hr| .str _ _,V,hr| .bX,V,hr| .aA,V,hr| .sle,V,hr
 | .dS,V,hr| .jF,V,hr| .nH,V,hr=>by simpa only[aL] using hr
 | .ptr b o,V,hr=>by simp only[aL]at *;obtain⟨l,h1,h2⟩:=hr;exact⟨l,h _ _ h1,h2⟩
 | .sl b o len cap ex,V,hr=>by simp only[aL]at *;obtain⟨h0,l,h1,h2⟩:=hr;exact⟨h0,l,h _ _ h1,h2⟩
 | .map b,V,hr=>by simp only[aL]at *;obtain⟨l,h1,h2⟩:=hr;exact⟨l,h _ _ h1,h2⟩
 | .yield b,V,hr=>by simp only[aL]at *;obtain⟨l,h1,h2⟩:=hr;exact⟨l,h _ _ h1,h2⟩
 | .fn f first cap,V,hr=>by simp only[aL]at *;obtain⟨F,C,h1,h2,h3⟩:=hr;exact⟨F,C,aI.mono h first F h1,aI.mono h cap C h2,h3⟩
 | .iface t v,V,hr=>by simp only[aL]at *;obtain⟨X,h1,h2⟩:=hr;exact⟨X,aL.mono h v X h1,h2⟩
 | .agg l,V,hr=>by simp only[aL]at *;obtain⟨vs,h1,h2⟩:=hr;exact⟨vs,aI.mono h l vs h1,h2⟩
 | .aY l,V,hr=>by simp only[aL]at *;obtain⟨vs,h1,h2⟩:=hr;exact⟨vs,aI.mono h l vs h1,h2⟩
theorem aI.mono{ι ι':Im}(h:ι.le ι'):(l:List AV)->(vs:List Value)->aI ι l vs->aI ι' l vs
 | [],vs,hr=>by simpa only[aI] using hr
 |a::l,vs,hr=>by simp only[aI]at *;obtain⟨v,r,h1,h2,h3⟩:=hr;exact⟨v,r,h1,aL.mono h a v h2,aI.mono h l r h3⟩
end
theorem aI.length{ι:Im}:∀{l:List AV} {vs:List Value},aI ι l vs->vs.length=l.length
 | [],vs,h=>by simp only[aI]at h;simp[h]
 |a::l,vs,h=>by simp only[aI]at h;obtain⟨v,r,rfl,_,h3⟩:=h;simp[aI.length h3]
theorem aI.get{ι:Im}:∀{l:List AV} {vs:List Value},aI ι l vs->∀(i:Nat) (a:AV),l[i]? =some a->∃ v,vs[i]? =some v/\aL ι a v
 | [],vs,h,i,a,hi=>by simp at hi
 |x::l,vs,h,i,a,hi=>by
  simp only[aI]at h;obtain⟨v,r,rfl,h2,h3⟩:=h;cases i with
  |zero=>simp at hi;subst hi;exact⟨v,rfl,h2⟩
  |succ i=>simp at hi;obtain⟨v',h4,h5⟩:=aI.get h3 i a hi;exact⟨v',by simpa using h4,h5⟩
theorem aI.append{ι:Im}:∀{l m:List AV} {vs us:List Value},aI ι l vs->aI ι m us->aI ι (l++m) (vs++us)
 | [],m,vs,us,h,k=>by simp only[aI]at h;subst h;simpa using k
 |x::l,m,vs,us,h,k=>by simp only[aI]at h;obtain⟨v,r,rfl,h2,h3⟩:=h;simp only[List.cons_append,aI];exact⟨v,r++us,rfl,h2,aI.append h3 k⟩
theorem aI.drop{ι:Im}:∀{l:List AV} {vs:List Value} (n:Nat),aI ι l vs->aI ι (l.drop n) (vs.drop n)
 |l,vs,0,h=>by simpa using h
 | [],vs,n+1,h=>by simp only[aI]at h;subst h;simp[aI]
 |x::l,vs,n+1,h=>by simp only[aI]at h;obtain⟨v,r,rfl,h2,h3⟩:=h;simpa using aI.drop n h3
theorem aI.take{ι:Im}:∀{l:List AV} {vs:List Value} (n:Nat),aI ι l vs->aI ι (l.take n) (vs.take n)
 |l,vs,0,h=>by simp[aI]
 | [],vs,n+1,h=>by simp only[aI]at h;subst h;simp[aI]
 |x::l,vs,n+1,h=>by simp only[aI]at h;obtain⟨v,r,rfl,h2,h3⟩:=h;simp only[List.take_succ_cons,aI];exact⟨v,r.take n,rfl,h2,aI.take n h3⟩
theorem aI.xM{ι:Im}:∀{l:List AV} {vs:List Value},vs.length=l.length->(∀(i:Nat) (a:AV),l[i]? =some a->∃ v,vs[i]? =some v/\aL ι a v)->aI ι l vs
 | [],vs,h,_=>by simp only[aI];exact List.length_eq_zero_iff.1 (by simpa using h)
 |x::l,[],h,_=>by simp at h
 |x::l,v::r,h,k=>by
  simp only[aI];refine⟨v,r,rfl,?_,aI.xM (by simpa using h) fun i a hi=>?_⟩
  ·obtain⟨v',h1,h2⟩:=k 0 x rfl;simp at h1;subst h1;exact h2
  ·obtain⟨v',h1,h2⟩:=k (i+1) a (by simpa using hi);exact⟨v',by simpa using h1,h2⟩
theorem aI.singleton{ι:Im}{a:AV}{v:Value}(h:aL ι a v):aI ι [a] [v]:=by simp only[aI];exact⟨v,[],rfl,h,rfl⟩
def bT(ι:Im):List lS->List MapEntry->Prop
 | [],es=>es=[]
 |x::l,es=>∃ e r,es=e::r/\aL ι x.key e.key/\aL ι x.val e.val/\e.born=x.born/\bT ι l r
theorem bT.mono{ι ι':Im}(h:ι.le ι'):∀(l:List lS) (es:List MapEntry),bT ι l es->bT ι' l es
 | [],es,k=>k
 |x::l,es,k=>by simp only[bT]at *;obtain⟨e,r,h1,h2,h3,h4,h5⟩:=k;exact⟨e,r,h1,aL.mono h _ _ h2,aL.mono h _ _ h3,h4,bT.mono h _ _ h5⟩
structure LR(ι:Im)(d n:Nat)(L:TT AV d)(tmps:Array Value):Prop where
 size:tmps.size=n
 fits:n<8 ^ d
 get:∀ i,i<n->aL ι ((dG d i).f L) (tmps.getD i Go.undef)
theorem LR.fit{ι:Im}{d n:Nat}{L:TT AV d}{tmps:Array Value}(k:LR ι d n L tmps):n<=8 ^ d:=Nat.le_of_lt k.fits
theorem LR.mono{ι ι':Im}{d n:Nat}{L:TT AV d}{tmps:Array Value}(h:ι.le ι')(k:LR ι d n L tmps):LR ι' d n L tmps:=
 ⟨k.size,k.fits,fun i hi=>aL.mono h _ _ (k.get i hi)⟩
theorem LR.set{ι:Im}{d n:Nat}{L:TT AV d}{tmps:Array Value}(k:LR ι d n L tmps){t:Nat}(ht:t<n){v:AV}{V:Value}(hv:aL ι v V):LR ι d n ((setter d t).f L v) (tmps.setIfInBounds t V):=by
 have hs:=k.size;have hf:=k.fits;refine⟨by simp[hs],hf,fun i hi=>?_⟩;rw[qee _ _ _ _ _ (by omega) (by omega)];by_cases h:i=t
 ·subst h;rw[if_pos rfl];simp[hs,ht];exact hv
 ·rw[if_neg h];have:=k.get i hi;simpa [Array.getElem?_setIfInBounds_ne (Ne.symm h)] using this
def BR(ι:Im)(w:World)(b:Nat):bM->Prop
 | .dead=>True
 | .cells d n c ro z=>∃ l,ι b=some l/\(n<=8 ^ d/\l.z=z) /\
   (∀i,i<n->∃ V,w.cell? ⟨l.blk,l.base+i,none⟩=some V/\aL ι ((dG d i).f c) V/\V.oneCell=true/\(ro=false->w.frozen? ⟨l.blk,l.base+i,none⟩=false)) /\
   (ro=false->∀ j,j<l.ext*l.z->∃ V,w.cell? ⟨l.blk,l.base+(n+j),none⟩=some V/\w.frozen? ⟨l.blk,l.base+(n+j),none⟩=false/\V.oneCell=true)
 | .map es clock=>∃ l ES,ι b=some l/\w.heap[l.blk]? =some (.map ES.toArray clock)/\bT ι es ES
 | .fI m since pos=>∃ l r,ι b=some l/\l.base=0/\w.heap[l.blk]? =some (.mapIter r since (match pos with|0=> #[]|p+1=> #[p]) since) /\
   (match m with|0=>r=none|m'+1=>∃ lm,ι m'=some lm/\r=some lm.blk)
 | .loop ready pending d n L params assign body=>∃ l lp,ι b=some l/\w.heap[l.blk]? =some (.loop lp) /\
   lp.state=(if ready then .ready else if pending.isSome then .done else .busy)/\lp.pending=pending/\lp.params.toList=params/\lp.assign=assign/\lp.body=body/\LR ι d n L lp.tmps/\j5 assign=true/\j5 body=true
def bM.dF:bM->Bool
 | .dead=>true
 |_=>false
theorem bM.bF{b:bM}(h:b.wr=true):b.dF=false:=by cases b<;>simp_all [bM.wr,bM.dF]
def gY(_:Nat):Prop:=True
theorem oG{b:Nat}:gY b:=trivial
structure HR(ι:Im)(H:Hp)(w:World):Prop where
 top:gY (H.nx)
 blk:∀ b,gY (b)->BR ι w b (H.get b)
 low:∀ b l,gY (b)->(H.get b).dF=false->ι b=some l->l.blk<w.heap.size
 inj:∀ b c l m,gY (b)->gY (c)->(H.get b).wr=true->(H.get c).dF=false->ι b=some l->ι c=some m->l.blk=m.blk->b=c
 fresh:∀ b,H.nx<=b->ι b=none
 free:∀ b,H.nx<=b->gY (b)->H.get b=.dead
theorem HR.lt{ι:Im}{H:Hp}{w:World}(_:HR ι H w){b:Nat}{l:Loc}(_:ι b=some l):gY (b):=by exact oG
structure Fr(ι ι':Im)(H H':Hp)(w w':World):Prop where
 le:ι.le ι'
 nx:H.nx<=H'.nx
 dom:∀ b,ι b=none->ι' b≠none->H.nx<=b
 os:w'.os=w.os
 tape:w'.tape=w.tape
 output:w'.output=w.output
 size:w.heap.size<=w'.heap.size
 keep:∀ c,c<w.heap.size->(∀b l,gY (b)->(H.get b).wr=true->ι b=some l->l.blk≠c)->w'.heap[c]? =w.heap[c]?
 new:∀ b l,gY (b)->(H'.get b).wr=true->ι' b=some l->w.heap.size<=l.blk\/∃ b0 l0,gY (b0)/\(H.get b0).wr=true/\ι b0=some l0/\l0.blk=l.blk
 live:∀ b l,gY (b)->(H'.get b).dF=false->ι' b=some l->w.heap.size<=l.blk\/∃ b0 l0,gY (b0)/\(H.get b0).dF=false/\ι b0=some l0/\l0.blk=l.blk
theorem Fr.refl(ι:Im)(H:Hp)(w:World):Fr ι ι H H w w:=
 ⟨Im.le_refl _,Nat.le_refl _,fun _ h k=>absurd h k,rfl,rfl,rfl,Nat.le_refl _,fun _ _ _=>rfl,fun b l hb h1 h2=>.inr ⟨b,l,hb,h1,h2,rfl⟩,fun b l hb h1 h2=>.inr ⟨b,l,hb,h1,h2,rfl⟩⟩
theorem Fr.trans{ι ι' aAd:Im}{H H' H'':Hp}{w w' w'':World}(f:Fr ι ι' H H' w w')(g:Fr ι' aAd H' H'' w' w''):Fr ι aAd H H'' w w'':=by
 refine⟨Im.le_trans f.le g.le,Nat.le_trans f.nx g.nx,fun b h k=>?_,g.os.trans f.os,g.tape.trans f.tape,g.output.trans f.output,Nat.le_trans f.size g.size,fun c hc hk=>?_,fun b l hb h1 h2=>?_,fun b l hb h1 h2=>?_⟩
 ·cases h':ι' b with
  |none=>exact Nat.le_trans f.nx (g.dom b h' k)
  |some l=>exact f.dom b h (by simp[h'])
 ·rw[g.keep c (Nat.lt_of_lt_of_le hc f.size) ?_,f.keep c hc hk];intro b l hb h1 h2 he;rcases f.new b l hb h1 h2 with h3|⟨b0,l0,h3,h4,h5,h6⟩
  ·omega
  ·exact hk b0 l0 h3 h4 h5 (h6.trans he)
 ·rcases g.new b l hb h1 h2 with h3|⟨b0,l0,h3,h4,h5,h6⟩
  ·exact .inl (Nat.le_trans f.size h3)
  ·rcases f.new b0 l0 h3 h4 h5 with h7|⟨b1,l1,h7,h8,h9,h10⟩
   ·exact .inl (by omega)
   ·exact .inr ⟨b1,l1,h7,h8,h9,h10.trans h6⟩
 ·rcases g.live b l hb h1 h2 with h3|⟨b0,l0,h3,h4,h5,h6⟩
  ·exact .inl (Nat.le_trans f.size h3)
  ·rcases f.live b0 l0 h3 h4 h5 with h7|⟨b1,l1,h7,h8,h9,h10⟩
   ·exact .inl (by omega)
   ·exact .inr ⟨b1,l1,h7,h8,h9,h10.trans h6⟩
theorem Fr.below{ι ι':Im}{H H':Hp}{w w':World}(f:Fr ι ι' H H' w w')(B:Nat)(hB:B<=w.heap.size)(h:∀ b l,gY (b)->(H.get b).wr=true->ι b=some l->B<=l.blk):Below B w w':=
 ⟨f.os,f.tape,f.output,f.size,fun k hk=>f.keep k (by omega) fun b l hb h1 h2 he=>by have:=h b l hb h1 h2;omega⟩
end Go.Ev
end
noncomputable section
namespace Go.Ev
open Go.RowKit
theorem qqn{w w':World}{a:Addr}(h:w'.heap[a.block]? =w.heap[a.block]?):w'.cell? a=w.cell? a:=by unfold World.cell?;rw[h]
theorem qka{w w':World}{a:Addr}(h:w'.heap[a.block]? =w.heap[a.block]?):w'.frozen? a=w.frozen? a:=by unfold World.frozen?;rw[h]
theorem BR.keep{ι:Im}{w w':World}{b:Nat}{k:bM}(h:BR ι w b k)(hk:∀ l,k.dF=false->ι b=some l->w'.heap[l.blk]? =w.heap[l.blk]?):BR ι w' b k:=by
 cases k with
 |dead=>trivial
 |cells d n c ro z=>
  obtain⟨l,h1,h2,h3,h4⟩:=h;have e:=hk l rfl h1;refine⟨l,h1,h2,fun i hi=>?_,fun hr j hj=>?_⟩
  ·obtain⟨V,a,b,c,d⟩:=h3 i hi;exact⟨V,by rw[qqn (w:=w) e];exact a,b,c,fun hr=>by rw[qka (w:=w) e];exact d hr⟩
  ·obtain⟨V,a,b⟩:=h4 hr j hj;exact⟨V,by rw[qqn (w:=w) e];exact a,by rw[qka (w:=w) e];exact b⟩
 |map es clock=>obtain⟨l,ES,h1,h2,h3⟩:=h;exact⟨l,ES,h1,by rw[hk l rfl h1];exact h2,h3⟩
 |fI=>obtain⟨l,r,h1,h0,h2,h3⟩:=h;exact⟨l,r,h1,h0,by rw[hk l rfl h1];exact h2,h3⟩
 |loop=>obtain⟨l,lp,h1,h2,h3⟩:=h;exact⟨l,lp,h1,by rw[hk l rfl h1];exact h2,h3⟩
theorem BR.mono{ι ι':Im}{w:World}{b:Nat}{k:bM}(hle:ι.le ι')(h:BR ι w b k):BR ι' w b k:=by
 cases k with
 |dead=>trivial
 |cells d n c ro z=>obtain⟨l,h1,h2,h3,h4⟩:=h;refine⟨l,hle _ _ h1,h2,fun i hi=>?_,h4⟩;obtain⟨V,a,b,c,d⟩:=h3 i hi;exact⟨V,a,aL.mono hle _ _ b,c,d⟩
 |map es clock=>obtain⟨l,ES,h1,h2,h3⟩:=h;exact⟨l,ES,hle _ _ h1,h2,bT.mono hle _ _ h3⟩
 |fI m=>
  obtain⟨l,r,h1,h0,h2,h3⟩:=h;refine⟨l,r,hle _ _ h1,h0,h2,?_⟩;cases m with
  |zero=>exact h3
  |succ m=>obtain⟨lm,k1,k2⟩:=h3;exact⟨lm,hle _ _ k1,k2⟩
 |loop=>obtain⟨l,lp,h1,h2,h3,h4,h5,h6,h7,h8⟩:=h;exact⟨l,lp,hle _ _ h1,h2,h3,h4,h5,h6,h7,h8.1.mono hle,h8.2⟩
theorem BR.some{ι:Im}{w:World}{b:Nat}{k:bM}(h:BR ι w b k)(hd:k.dF=false):∃ l,ι b=some l:=by
 cases k with
 |dead=>simp[bM.dF]at hd
 |cells d n c ro z=>obtain⟨l,h1,_⟩:=h;exact⟨l,h1⟩
 |map es clock=>obtain⟨l,_,h1,_⟩:=h;exact⟨l,h1⟩
 |fI=>obtain⟨l,_,h1,_⟩:=h;exact⟨l,h1⟩
 |loop=>obtain⟨l,_,h1,_⟩:=h;exact⟨l,h1⟩
theorem z2i:8 ^ HD=2097152:=by decide
theorem Mem.get_put(m:Mem)(b c:Nat)(k:bM):(m.put b k).get c=if c=b then k else m.get c:=by
 unfold Mem.put Mem.get;cases hb:Nat.blt b 2097152 with
 |true=>
  have hb':b<8 ^ HD:=by rw[z2i];simp[Nat.blt]at hb;omega
  cases hc:Nat.blt c 2097152 with
  |true=>
   have hc':c<8 ^ HD:=by rw[z2i];simp[Nat.blt]at hc;omega
   exact qee _ _ _ _ _ hc' hb'
  |false=>
   have:c≠b:=fun e=>by subst e;rw[hb]at hc;cases hc
   simp_all
 |false=>
  cases hc:Nat.blt c 2097152 with
  |true=>
   have:c≠b:=fun e=>by subst e;rw[hb]at hc;cases hc
   simp_all
  |false=>
   show(bif Nat.beq c b then k else m.x c)=if c=b then k else m.x c
   by_cases e:c=b
   ·simp
   ·rw[if_neg e];have:Nat.beq c b=false:=by
     cases h:Nat.beq c b with
     |false=>rfl
     |true=>exact absurd (Nat.eq_of_beq_eq_true h) e
    rw[this];rfl
theorem Hp.get_put(H:Hp)(b c:Nat)(k:bM)(_:gY (b))(_:gY (c)):(H.put b k).get c=if c=b then k else H.get c:=by exact Mem.get_put H.t b c k
theorem HR.put{ι:Im}{H:Hp}{w w':World}(h:HR ι H w){b:Nat}(hb:gY (b))(hwr:(H.get b).wr=true){l:Loc}(hl:ι b=some l)(k:bM)(os:w'.os=w.os)(tape:w'.tape=w.tape)(output:w'.output=w.output)(size:w'.heap.size=w.heap.size)(keep:∀ c,c≠l.blk->w'.heap[c]? =w.heap[c]?)(hk:BR ι w' b k):HR ι (H.put b k) w'/\Fr ι ι H (H.put b k) w w':=by
 have live:=bM.bF hwr;refine⟨⟨h.top,fun c hc=>?_,fun c m hc h1 h2=>?_,fun c c' m m' hc hc' h1 h2 h3 h4 h5=>?_,h.fresh,fun c hc hc'=>?_⟩,
  ⟨Im.le_refl _,Nat.le_refl _,fun c h1 h2=>absurd h1 h2,os,tape,output,by omega,fun c hc h1=>keep c fun e=>h1 b l hb hwr hl e.symm,fun c m hc h1 h2=>?_,fun c m hc h1 h2=>?_⟩⟩
 ·rw[Hp.get_put _ _ _ _ hb hc];by_cases e:c=b
  ·simp_all
  ·rw[if_neg e];exact(h.blk c hc).keep fun m hd hm=>keep _ fun e'=>e (h.inj b c l m hb hc hwr hd hl hm e'.symm).symm
 ·rw[Hp.get_put _ _ _ _ hb hc]at h1;rw[size];by_cases e:c=b
  ·subst e;rw[hl]at h2;cases h2;exact h.low c l hc live hl
  ·rw[if_neg e]at h1;exact h.low c m hc h1 h2
 ·rw[Hp.get_put _ _ _ _ hb hc]at h1;rw[Hp.get_put _ _ _ _ hb hc']at h2;by_cases e:c=b
  ·subst e;by_cases e':c'=c
   ·omega
   ·rw[if_neg e']at h2;exact h.inj c c' m m' hc hc' hwr h2 h3 h4 h5
  ·rw[if_neg e]at h1;by_cases e':c'=b
   ·subst e';exact h.inj c c' m m' hc hc' h1 live h3 h4 h5
   ·rw[if_neg e']at h2;exact h.inj c c' m m' hc hc' h1 h2 h3 h4 h5
 ·have h2:=h.free c hc hc';rw[Hp.get_put _ _ _ _ hb hc'];have:c≠b:=fun e=>by subst e;rw[h2]at hwr;simp[bM.wr]at hwr
  simp_all
 ·rw[Hp.get_put _ _ _ _ hb hc]at h1;by_cases e:c=b
  ·subst e;exact .inr ⟨c,m,hc,hwr,h2,rfl⟩
  ·rw[if_neg e]at h1;exact .inr ⟨c,m,hc,h1,h2,rfl⟩
 ·rw[Hp.get_put _ _ _ _ hb hc]at h1;by_cases e:c=b
  ·subst e;exact .inr ⟨c,m,hc,live,h2,rfl⟩
  ·rw[if_neg e]at h1;exact .inr ⟨c,m,hc,h1,h2,rfl⟩
theorem HR.kill{ι:Im}{H:Hp}{w:World}(h:HR ι H w){b:Nat}(hb:gY (b))(hwr:(H.get b).wr=true):HR ι (H.put b .dead) w/\Fr ι ι H (H.put b .dead) w w:=by obtain⟨l,hl⟩:=(h.blk b hb).some (bM.bF hwr);exact h.put hb hwr hl .dead rfl rfl rfl rfl (fun _ _=>rfl) trivial
def Im.set(ι:Im)(b:Nat)(l:Loc):Im:=fun c=>if c=b then some l else ι c
theorem Im.bD(ι:Im)(b:Nat)(l:Loc):(ι.set b l) b=some l:=by simp[Im.set]
theorem Im.dU(ι:Im){b c:Nat}(l:Loc)(h:c≠b):(ι.set b l) c=ι c:=by simp[Im.set,h]
theorem Im.iU{ι:Im}{b:Nat}(l:Loc)(h:ι b=none):ι.le (ι.set b l):=fun c m hc=>by rw[Im.dU];exact hc;intro e;subst e;rw[h]at hc;cases hc
theorem HR.add{ι:Im}{H:Hp}{w w':World}(h:HR ι H w){b nx':Nat}(hb:gY (b))(hi:ι b=none)(hd:H.get b=.dead)(hn:H.nx<=nx')(hn':gY (nx'))(hbn:b<nx')(l:Loc)(k:bM)(size:w.heap.size<=w'.heap.size)(keep:∀ c m,gY (c)->(H.get c).dF=false->ι c=some m->w'.heap[m.blk]? =w.heap[m.blk]?)(hlow:k.dF=false->l.blk<w'.heap.size)(sep:∀ c m,gY (c)->(H.get c).dF=false->ι c=some m->m.blk≠l.blk)(hk:BR (ι.set b l) w' b k):HR (ι.set b l) ⟨H.t.put b k,nx'⟩ w':=by
 have hle:=Im.iU l hi;have hg:∀ c,gY (c)->Hp.get ⟨H.t.put b k,nx'⟩ c=if c=b then k else H.get c:=fun c hc=>by exact Mem.get_put H.t b c k
 refine⟨hn',fun c hc=>?_,fun c m hc h1 h2=>?_,fun c c' m m' hc hc' h1 h2 h3 h4 h5=>?_,fun c hc=>?_,fun c hc hc'=>?_⟩
 ·rw[hg c hc];by_cases e:c=b
  ·simp_all
  ·rw[if_neg e];exact((h.blk c hc).keep fun m h1 h2=>keep c m hc h1 h2).mono hle
 ·rw[hg c hc]at h1;by_cases e:c=b
  ·subst e;rw[if_pos rfl]at h1;rw[Im.bD]at h2;cases h2;exact hlow h1
  ·rw[if_neg e]at h1;rw[Im.dU _ _ e]at h2;exact Nat.lt_of_lt_of_le (h.low c m hc h1 h2) size
 ·rw[hg c hc]at h1;rw[hg c' hc']at h2;by_cases e:c=b
  ·subst e;by_cases e':c'=c
   ·omega
   ·rw[if_neg e']at h2;rw[Im.bD]at h3;cases h3;rw[Im.dU _ _ e']at h4;exact absurd h5.symm (sep c' m' hc' h2 h4)
  ·rw[if_neg e]at h1;rw[Im.dU _ _ e]at h3;by_cases e':c'=b
   ·subst e';rw[Im.bD]at h4;cases h4;exact absurd h5 (sep c m hc (bM.bF h1) h3)
   ·rw[if_neg e']at h2;rw[Im.dU _ _ e']at h4;exact h.inj c c' m m' hc hc' h1 h2 h3 h4 h5
 ·have hcb:c≠b:=by simp only at hc;omega
  rw[Im.dU _ _ hcb];exact h.fresh c (Nat.le_trans hn hc)
 ·have hcb:c≠b:=by simp only at hc;omega
  rw[hg c hc',if_neg hcb];exact h.free c (Nat.le_trans hn hc) hc'
theorem HR.push{ι:Im}{H:Hp}{w w':World}(h:HR ι H w)(hx:gY (H.nx))(l:Loc)(k:bM)(os:w'.os=w.os)(tape:w'.tape=w.tape)(output:w'.output=w.output)(size:w.heap.size<w'.heap.size)(keep:∀ c,c<w.heap.size->w'.heap[c]? =w.heap[c]?)(hl:l.blk=w.heap.size)(hk:BR (ι.set H.nx l) w' H.nx k):HR (ι.set H.nx l) (aS H k) w'/\Fr ι (ι.set H.nx l) H (aS H k) w w':=by
 have hi:=h.fresh H.nx (Nat.le_refl _);have hd:=h.free H.nx (Nat.le_refl _) hx;refine⟨h.add hx hi hd (Nat.le_succ _) hx (Nat.lt_succ_self _) l k (Nat.le_of_lt size) (fun c m hc h1 h2=>keep _ (h.low c m hc h1 h2)) (fun _=>by omega)
  (fun c m hc h1 h2=>by have:=h.low c m hc h1 h2;omega) hk,
  ⟨Im.iU l hi,Nat.le_succ _,fun c h1 h2=>?_,os,tape,output,Nat.le_of_lt size,fun c hc _=>keep c hc,fun c m hc h1 h2=>?_,fun c m hc h1 h2=>?_⟩⟩
 ·by_cases e:c=H.nx
  ·omega
  ·rw[Im.dU _ _ e]at h2;exact absurd h1 h2
 ·have hg:(aS H k).get c=if c=H.nx then k else H.get c:=by exact Mem.get_put H.t H.nx c k
  by_cases e:c=H.nx
  ·subst e;rw[Im.bD]at h2;cases h2;exact .inl (by omega)
  ·rw[hg,if_neg e]at h1;rw[Im.dU _ _ e]at h2;exact .inr ⟨c,m,hc,h1,h2,rfl⟩
 ·have hg:(aS H k).get c=if c=H.nx then k else H.get c:=by exact Mem.get_put H.t H.nx c k
  by_cases e:c=H.nx
  ·subst e;rw[Im.bD]at h2;cases h2;exact .inl (by omega)
  ·rw[hg,if_neg e]at h1;rw[Im.dU _ _ e]at h2;exact .inr ⟨c,m,hc,h1,h2,rfl⟩
/- stores -/
structure Wrote(w w':World)(blk off:Nat)(vs:List Value):Prop where
 os:w'.os=w.os
 tape:w'.tape=w.tape
 output:w'.output=w.output
 size:w'.heap.size=w.heap.size
 keep:∀ c,c≠blk->w'.heap[c]? =w.heap[c]?
 cell:∀ i,w'.cell? ⟨blk,i,none⟩=if off<=i/\i<off+vs.length then some (vs.getD (i-off) Go.undef)else w.cell? ⟨blk,i,none⟩
 frozen:∀ a,w'.frozen? a=w.frozen? a
theorem addr_add(b o i:Nat):Addr.add ⟨b,o,none⟩ i=⟨b,o+i,none⟩:=by
 unfold Addr.add;split
 ·subst_vars;rfl
 ·rfl
theorem qsy(P:Program)(w:World)(a:Addr)(v:Value){u:Value}(hc:w.cell? a=some u)(hf:w.frozen? a=false)(ho:v.oneCell=true):(Go.store a v).run P w=.ok () (w.setCell a v):=by unfold Go.store;cases v<;>first|(simp[Value.oneCell]at ho;done)|(simp only[Sem.run,hc,hf];rfl)
theorem qgw(P:Program)(blk:Nat):∀(vs:List Value) (w:World) (o i:Nat), (∀j,j<vs.length->∃ u,w.cell? ⟨blk,o+i+j,none⟩=some u/\w.frozen? ⟨blk,o+i+j,none⟩=false)->(∀v∈vs,v.oneCell=true) -> ∃w',(storeCells ⟨blk,o,none⟩ vs i).run P w=.ok () w'/\Wrote w w' blk (o+i) vs:=by
 intro vs
 induction vs with
 |nil=>intro w o i _ _;exact⟨w,rfl,rfl,rfl,rfl,rfl,fun _ _=>rfl,fun j=>by rw[if_neg (by simp)],fun _=>rfl⟩
 |cons v vs ih=>
  intro w o i h1 h2;obtain⟨u,hu,hf⟩:=h1 0 (by simp);simp only[Nat.add_zero]at hu hf;obtain⟨w',hr,hw⟩:=ih (w.setCell ⟨blk,o+i,none⟩ v) o (i+1) (fun j hj=>by obtain⟨u',hu',hf'⟩:=h1 (j+1) (by simpa using hj);rw[show o+(i+1)+j=o+i+(j+1)by omega];refine⟨u',?_,by rw[World.frozen?_setCell];exact hf'⟩;rw[World.cell?_setCell_other];exact hu';intro e;simp at e) (fun x hx=>h2 x (by simp[hx]));refine⟨w',?_,hw.os,hw.tape,hw.output,by rw[hw.size];simp,fun c hc=>?_,fun j=>?_,fun a=>by rw[hw.frozen];simp⟩
  ·unfold storeCells;rw[addr_add,Sem.run_bind,qsy P w _ v hu hf (h2 v (by simp))];exact hr
  ·rw[hw.keep c hc];exact Below.heap_setCell _ _ _ _ hc
  ·rw[hw.cell j];simp only[List.length_cons];by_cases e1:o+(i+1)<=j/\j<o+(i+1)+vs.length
   ·rw[if_pos e1,if_pos (by omega)];obtain⟨q,hq⟩:∃ q,j-(o+i)=q+1:=⟨j-(o+i)-1,by omega⟩;rw[hq,List.getD_cons_succ,show j-(o+(i+1))=q by omega]
   ·rw[if_neg e1];by_cases e2:j=o+i
    ·subst e2;rw[if_pos (by omega),World.cell?_setCell_same w _ v hu];simp
    ·rw[if_neg (by omega),World.cell?_setCell_other];intro e;simp at e;omega
theorem run_loadCellsFrom(P:Program)(w:World)(blk o:Nat):∀(vs:List Value) (i:Nat) (acc:Array Value), (∀j (v:Value),vs[j]? =some v->w.cell? ⟨blk,o+i+j,none⟩=some v) -> (loadCellsFrom ⟨blk,o,none⟩ i vs.length acc).run P w=.ok (acc++vs.toArray) w:=by
 intro vs
 induction vs with
 |nil=>intro i acc _;simp[loadCellsFrom]
 |cons v vs ih=>intro i acc h;have h0:=h 0 v rfl;simp only[Nat.add_zero]at h0;simp only[List.length_cons,loadCellsFrom,Sem.run_bind,addr_add,run_load,h0,Result.andThen_ok];rw[ih (i+1) _ fun j u hj=>by have:=h (j+1) u (by simpa using hj);rw[show o+(i+1)+j=o+i+(j+1)by omega];exact this];simp
theorem run_loadCells(P:Program)(w:World)(blk o:Nat)(vs:List Value)(h:∀ j (v:Value),vs[j]? =some v->w.cell? ⟨blk,o+j,none⟩=some v):(loadCells ⟨blk,o,none⟩ vs.length).run P w=.ok vs.toArray w:=by unfold loadCells;rw[run_loadCellsFrom P w blk o vs 0 #[] (by simpa using h)];simp
end Go.Ev
end
noncomputable section
namespace Go.Ev
open Go.RowKit
variable {P:Program} {w:World} {ι:Im}
theorem sF{a b:Nat}(h:Nat.blt a b=true):a<b:=Nat.le_of_ble_eq_true h
theorem q76{a b:Nat}(h:Nat.blt a b=false):¬ a<b:=fun k=>by have:Nat.blt a b=true:=Nat.ble_eq_true_of_le k;simp_all
theorem mX{a b:Nat}(h:Nat.ble a b=true):a<=b:=Nat.le_of_ble_eq_true h
theorem z15{a b:Nat}(h:Nat.ble a b=false):¬ a<=b:=fun k=>by have:=Nat.ble_eq_true_of_le k;simp_all
theorem sJ{a b:Nat}(h:Nat.beq a b=true):a=b:=Nat.eq_of_beq_eq_true h
theorem qub{a b:Nat}(h:Nat.beq a b=false):a≠b:=Nat.ne_of_beq_eq_false h
theorem bP{t:TypeId}{d:TypeDesc}(h:P.underlying t=some d):(underlying t).run P w=.ok d w:=by simp[underlying,h]
theorem zfh{t:TypeId}{i:TypeInfo}(h:P.info? t=some i):(typeInfo t).run P w=.ok i w:=by simp[typeInfo,h]
theorem mI{t:TypeId}{n:Nat}(h:gU P t=some n):(sizeOf t).run P w=.ok n w:=by
 unfold gU at h;cases hi:P.info? t with
 |none=>simp[hi]at h
 |some i=>simp[hi]at h;simp[sizeOf,zfh hi,h]
theorem qs5{t:TypeId}{n:Nat}(h:qij P t=some n):∃ i,(∀w,(typeInfo t).run P w=.ok i w)/\i.bytes=n:=by
 unfold qij at h;cases hi:P.info? t with
 |none=>simp[hi]at h
 |some i=>simp[hi]at h;exact⟨i,fun _=>zfh hi,h⟩
theorem qfp{t:TypeId}{b:Bool}(h:oZ P t=some b):(isAgg t).run P w=.ok b w:=by
 unfold oZ at h;cases hi:P.underlying t with
 |none=>simp[hi]at h
 |some d=>simp only[hi,Option.map_some,Option.some.injEq]at h;unfold isAgg;rw[Sem.run_bind,bP hi];subst h;cases d<;>rfl
theorem qcr{t:TypeId}{z:Value}(h:(P.info? t).bind (·.zero)=some z):(zeroValue t).run P w=.ok z w:=by
 cases hi:P.info? t with
 |none=>simp[hi]at h
 |some i=>simp[hi]at h;simp[zeroValue,zfh hi,h]
theorem zfy(v:Value)(h:zX v=true):v.oneCell=true:=by cases v<;>simp_all [zX,Value.oneCell]
theorem qjg(v:Value):aL ι (qmu v) v:=by
 unfold qmu;split<;>simp only[aL]
 ·exact⟨_,rfl,rfl,rfl⟩
theorem qjf:∀ l:List Value,aI ι (l.map qmu) l
 | []=>by simp[aI]
 |v::l=>by simp only[List.map_cons,aI];exact⟨v,l,rfl,qjg v,qjf l⟩
theorem qfq(v:Value):aL ι (qtc v) v:=by
 unfold qtc;split
 ·rename_i cs;cases h:cs.toList.all zX with
  |false=>simp[aL]
  |true=>exact⟨cs.toList,qjf _,by simp,fun v hv=>zfy v (List.all_eq_true.1 h v hv)⟩
 ·rfl
 ·exact qjg _
theorem qn3{z:Value}{l:List AV}(h:qjp z=some l):aI ι l z.cells.toList/\∀ v∈z.cells.toList,v.oneCell=true:=by
 unfold qjp at h;split at h
 ·rename_i cs;cases hc:cs.toList.all zX with
  |false=>simp[hc]at h
  |true=>simp[hc]at h;subst h;exact⟨by simpa [Value.cells] using qjf cs.toList,fun v hv=>zfy v (List.all_eq_true.1 hc v (by simpa [Value.cells] using hv))⟩
 ·simp at h
 ·rename_i h1 h2;simp at h;subst h;have e:z.cells= #[z]:=by unfold Value.cells;split<;>first|rfl|simp_all
  rw[e];refine⟨aI.singleton (qjg z),fun v hv=>?_⟩;simp at hv;subst hv;cases v<;>simp_all [Value.oneCell]
theorem qcl{t:TypeId}{l:List AV}(h:qio P t=some l):∃ z,(P.info? t).bind (·.zero)=some z/\aI ι l z.cells.toList/\∀ v∈z.cells.toList,v.oneCell=true:=by
 unfold qio at h;cases hz:(P.info? t).bind (·.zero)with
 |none=>simp[hz]at h
 |some z=>rw[hz]at h;exact⟨z,rfl,qn3 h⟩
theorem qk0{ι':Im}{w':World}{nm:Nat}{l:List AV}{vs:List Value}{loc:Loc}(hi:ι' nm=some loc)(hr:aI ι' l vs)(ho:∀ v∈vs,v.oneCell=true)(hc:∀(i:Nat) (v:Value),vs[i]? =some v->w'.cell? ⟨loc.blk,loc.base+i,none⟩=some v/\w'.frozen? ⟨loc.blk,loc.base+i,none⟩=false)(hx:∀ j,j<loc.ext*loc.z->∃ V,w'.cell? ⟨loc.blk,loc.base+(l.length+j),none⟩=some V/\w'.frozen? ⟨loc.blk,loc.base+(l.length+j),none⟩=false/\V.oneCell=true):BR ι' w' nm (aB loc.z l):=by
 have hle:l.length<=8 ^ iJ l.length:=qbz _;refine⟨loc,hi,⟨hle,rfl⟩,fun i hi'=>?_,fun _=>hx⟩;rw[qg8 _ _ _ _ (by omega) (by omega),if_pos (by omega)];have hg:l[i]? =some (l.getD i .undef):=by simp[hi']
 obtain⟨v,h1,h2⟩:=hr.get i _ hg;obtain⟨h3,h4⟩:=hc i v h1;exact⟨v,h3,by simpa using h2,ho v (List.mem_of_getElem? h1),fun _=>h4⟩
structure New(w w':World)(l:Loc):Prop where
 os:w'.os=w.os
 tape:w'.tape=w.tape
 output:w'.output=w.output
 size:w'.heap.size=w.heap.size+1
 keep:∀ c,c<w.heap.size->w'.heap[c]? =w.heap[c]?
 blk:l.blk=w.heap.size
theorem New.alloc(w:World)(o:Obj)(e z:Nat):New w (w.alloc o) ⟨w.heap.size,0,e,z⟩:=
 ⟨rfl,rfl,rfl,by simp,fun c hc=>Below.heap_alloc w o c hc,rfl⟩
def gX(P:Program)(o:Oper)(ρ:Operand->Value)(ι:Im)(w:World)(nm:Nat):R0->Prop
 | .bad=>True
 | .val v=>∃ V,(execOp ρ o).run P w=.ok (.value V) w/\aL ι v V
 | .new v k=>∃ V w' l,(execOp ρ o).run P w=.ok (.value V) w'/\New w w' l/\∀ ι',ι.le ι'->ι' nm=some l->aL ι' v V/\BR ι' w' nm k
theorem qft{l:List AV}{vs:List Value}(hr:aI ι l vs)(ho:∀ v∈vs,v.oneCell=true)(t:TypeId)(nm z:Nat):∀ι',ι.le ι'->ι' nm=some ⟨w.heap.size,0,0,z⟩->BR ι' (w.alloc (.cells vs.toArray t)) nm (aB z l):=by intro ι' hle hi;refine qk0 (loc:=⟨w.heap.size,0,0,z⟩) hi (aI.mono hle _ _ hr) ho (fun i v hv=>?_) (fun j hj=>by simp at hj);simp[hv]
theorem dQ{d n:Nat}{L:TT AV d}{a:Act}(h:LR ι d n L a.tmps)(x:Operand):aL ι ((aH d n x).f L) (a.eval x):=by
 cases x with
 |tmp t=>
  simp only[aH];cases ht:Nat.blt t n with
  |true=>have ht':=sF ht;have:=h.get t ht';trivial
  |false=>
   have ht':=q76 ht;simp only[cond_false,aL,Act.eval];have:a.tmps.size<=t:=by rw[h.size];omega
   simp[Array.getElem?_eq_none this,Go.undef]
 |const v=>exact qfq v
 |global g=>simp[aH,aL,Act.eval]
 |func f=>simp only[aH,aL,Act.eval];exact⟨[],[],by simp[aI],by simp[aI],rfl⟩
theorem qcm{d n:Nat}{L:TT AV d}{a:Act}(h:LR ι d n L a.tmps):∀ l:List Operand,aI ι ((rX d n l).f L) (l.map a.eval)
 | []=>by simp[rX,aI]
 |x::l=>by exact⟨_,_,rfl,dQ h x,qcm h l⟩
theorem zrw{o:Oper}{a:Act}{x:Operand}{nm:Nat}(ho:o.op=.move x\/o.op=.assign x){d n:Nat}{L:TT AV d}(h:LR ι d n L a.tmps):gX P o a.eval ι w nm (.val ((aH d n x).f L)):=by refine⟨a.eval x,?_,dQ h x⟩;rcases ho with ho|ho<;>simp[execOp,ho]
theorem zzz{o:Oper}{a:Act}{c x y:Operand}{nm:Nat}(ho:o.op=.pick c x y){d n:Nat}{L:TT AV d}(h:LR ι d n L a.tmps):gX P o a.eval ι w nm (fO ((aH d n c).f L) ((aH d n x).f L) ((aH d n y).f L)):=by
 have hc:=dQ h c;unfold fO;split
 ·rename_i e;rw[e]at hc;simp only[aL]at hc;exact⟨_,by simp[execOp,ho,asBool,hc],dQ h x⟩
 ·rename_i e;rw[e]at hc;simp only[aL]at hc;exact⟨_,by simp[execOp,ho,asBool,hc],dQ h y⟩
 ·trivial
theorem zwi{o:Oper}{ρ:Operand->Value}{t:TypeId}{nm:Nat}(ho:o.op=.alloc t){z:List AV}(hz:qio P t=some z):gX P o ρ ι w nm (.new (.ptr nm 0) (aB 0 z)):=by
 obtain⟨zv,h1,h2,h3⟩:=qcl (ι:=ι) hz;refine⟨.pointer (some ⟨w.heap.size,0,none⟩),_,⟨w.heap.size,0,0,0⟩,?_,New.alloc w (.cells zv.cells.toList.toArray t) 0 0,fun ι' hle hi=>⟨?_,qft h2 h3 t nm 0 ι' hle hi⟩⟩
 ·simp only[execOp,ho,Instr.alloc,Sem.run_bind,qcr h1,Result.andThen_ok,newVar,newRow];simp
 ·simp only[aL];exact⟨_,hi,rfl⟩
def AV.plain:AV->Bool
 | .agg _| .aY _| .undef| .lit _=>false
 |_=>true
theorem aL.one{v:AV}{V:Value}(h:aL ι v V)(hv:v.plain=true):V.oneCell=true/\V.cells= #[V]:=by
 cases v<;>first|(simp[AV.plain]at hv;done)|skip
 all_goals simp only[aL]at h
 all_goals first
  |(subst h;exact⟨rfl,rfl⟩)
  |(obtain⟨_,rfl,_⟩:=h;exact⟨rfl,rfl⟩)
  |(obtain⟨_,_,rfl⟩:=h;exact⟨rfl,rfl⟩)
  |(obtain⟨_,_,_,rfl⟩:=h;exact⟨rfl,rfl⟩)
  |(obtain⟨_,_,_,_,rfl⟩:=h;exact⟨rfl,rfl⟩)
theorem zz5{o:Oper}{a:Act}{t:TypeId}{x:Operand}{nm:Nat}(ho:o.op=.box t x){d n:Nat}{L:TT AV d}(h:LR ι d n L a.tmps):gX P o a.eval ι w nm (iY nm ((aH d n x).f L)):=by
 have hx:=dQ h x;unfold iY;split<;>first|trivial|skip
 rename_i hn1 hn2 w9 hn4;have hp:((aH d n x).f L).plain=true:=by
  unfold AV.plain;split
  ·simp_all
  ·simp_all
  ·trivial
  ·simp_all
  ·rfl
 obtain⟨h1,hc⟩:=hx.one hp;refine⟨.pointer (some ⟨w.heap.size,0,none⟩),_,⟨w.heap.size,0,0,0⟩,?_,New.alloc w (.cells [a.eval x].toArray t) 0 0,fun ι' hle hi=>⟨?_,qft (aI.singleton hx) (by simpa using h1) t nm 0 ι' hle hi⟩⟩
 ·simp[execOp,ho,Instr.box,newVar,newRow,hc]
 ·simp only[aL];exact⟨_,hi,rfl⟩
end Go.Ev
end
noncomputable section
namespace Go.Ev
open Go.RowKit
variable {P:Program} {w:World} {ι:Im} {o:Oper} {a:Act} {nm:Nat} {d n:Nat} {L:TT AV d} {H:Hp}
theorem zz4{t:TypeId}{x:Operand}(ho:o.op=.box t x)(k:Nat)(h:LR ι d n L a.tmps):gX P o a.eval ι w nm (bJ k nm ((aH d n x).f L)):=by
 have hx:=dQ h x;unfold bJ;split
 ·rename_i l e;rw[e]at hx;simp only[aL]at hx;obtain⟨vs,h1,h2,h3⟩:=hx;cases Nat.beq l.length k with
  |false=>trivial
  |true=>
   refine⟨.pointer (some ⟨w.heap.size,0,none⟩),_,⟨w.heap.size,0,0,0⟩,?_,New.alloc w (.cells vs.toArray t) 0 0,fun ι' hle hi=>⟨?_,qft h1 h3 t nm 0 ι' hle hi⟩⟩
   ·simp[execOp,ho,Instr.box,newVar,newRow,h2,Value.cells]
   ·simp only[aL];exact⟨_,hi,rfl⟩
 ·trivial
/- loads -/
theorem qvw{b:Nat}{k:bM}(hb:BR ι w b k){i:Nat}{v:AV}(h:dI k i=.val v):∃ l V,ι b=some l/\w.cell? ⟨l.blk,l.base+i,none⟩=some V/\aL ι v V/\V.oneCell=true:=by
 cases k with
 |cells d n c ro z=>
  obtain⟨l,h1,h2,h3,_⟩:=hb;simp only[dI]at h;cases hi:Nat.blt i n with
  |false=>rw[hi]at h;cases h
  |true=>rw[hi]at h;simp only[cond_true,R0.val.injEq]at h;subst h;obtain⟨V,h4,h5,h6,_⟩:=h3 i (sF hi);simp_all
 |_=>simp[dI]at h
theorem q0t(k:bM)(i:Nat):dI k i=.bad\/∃ v,dI k i=.val v:=by
 cases k with
 |cells d n c ro z=>
  cases hi:Nat.blt i n with
  |false=>left;simp[dI,hi]
  |true=>right;exact⟨_,by simp[dI,hi];rfl⟩
 |_=>left;rfl
theorem qem{b:Nat}{k:bM}(hb:BR ι w b k){i m:Nat}{l:List AV}(h:fU k i m=some l):l.length=m/\(m=0\/∃ loc vs,ι b=some loc/\aI ι l vs/\vs.length=m/\(∀v∈vs,v.oneCell=true)/\∀(j:Nat) (v:Value),vs[j]? =some v->w.cell? ⟨loc.blk,loc.base+i+j,none⟩=some v):=by
 cases k with
 |cells d n c ro z=>
  obtain⟨loc,h1,h2,h3,_⟩:=hb;simp only[fU]at h;cases hi:Nat.ble (i+m) n with
  |false=>rw[hi]at h;cases h
  |true=>
   rw[hi]at h;simp only[cond_true,Option.some.injEq]at h;subst h;refine⟨qgf _ _ _,.inr ?_⟩;have hle:=mX hi;have hex:∀ j,j<m->∃ V,w.cell? ⟨loc.blk,loc.base+(i+j),none⟩=some V/\aL ι ((dG d (i+j)).f c) V/\V.oneCell=true:=fun j hj=>by obtain⟨V,h4,h5,h6,_⟩:=h3 (i+j) (by omega);exact⟨V,h4,h5,h6⟩
   obtain⟨f,hf⟩:∃ f:Nat->Value,∀j,j<m->w.cell? ⟨loc.blk,loc.base+(i+j),none⟩=some (f j)/\aL ι ((dG d (i+j)).f c) (f j)/\(f j).oneCell=true:=by refine⟨fun j=>if hj:j<m then Classical.choose (hex j hj)else .nilFunc,fun j hj=>?_⟩;simp only[hj,dif_pos];exact Classical.choose_spec (hex j hj)
   refine⟨loc,(List.range m).map f,h1,aI.xM (by simp[qgf]) fun j x hx=>?_,by simp,fun v hv=>?_,fun j v hv=>?_⟩
   ·have hj:j<m:=by
     rcases Nat.lt_or_ge j m with h'|h'
     ·exact h'
     ·rw[List.getElem?_eq_none (by rw[qgf];exact h')]at hx;cases hx
    rw[zfd _ _ _ _ hj]at hx;cases hx;simp_all
   ·simp at hv;obtain⟨j,hj,rfl⟩:=hv;exact(hf j hj).2.2
   ·have hj:j<m:=by
     rcases Nat.lt_or_ge j m with h'|h'
     ·exact h'
     ·simp_all
    simp[hj]at hv;subst hv;rw[Nat.add_assoc];exact(hf j hj).1
 |_=>simp[fU]at h
theorem zwb{t:TypeId}{x:Operand}(ho:o.op=.load t x)(ht:oZ P t=some false)(hH:HR ι H w)(h:LR ι d n L a.tmps):gX P o a.eval ι w nm (aQ H ((aH d n x).f L)):=by
 have hx:=dQ h x;unfold aQ;split
 ·rename_i b i e;rw[e]at hx;simp only[aL]at hx;obtain⟨l,h1,h2⟩:=hx;rcases q0t (H.get b) i with hb|⟨v,hb⟩
  ·rw[hb];trivial
  ·rw[hb];obtain⟨l',V,h3,h4,h5,_⟩:=qvw (hH.blk b (hH.lt h1)) hb;rw[h1]at h3;cases h3;exact⟨V,by simp[execOp,ho,Instr.loadAt,h2,Instr.sureAddr,loadVar,qfp ht,h4],h5⟩
 ·trivial
theorem zwa{t:TypeId}{x:Operand}(ho:o.op=.load t x)(ht:oZ P t=some true){k:Nat}(hk:gU P t=some k)(hH:HR ι H w)(h:LR ι d n L a.tmps):gX P o a.eval ι w nm (aV k H ((aH d n x).f L)):=by
 have hx:=dQ h x;unfold aV;split
 ·rename_i b i e;rw[e]at hx;simp only[aL]at hx;obtain⟨l,h1,h2⟩:=hx;cases hb:fU (H.get b) i k with
  |none=>trivial
  |some cs=>
   obtain⟨hlen,hr⟩:=qem (hH.blk b (hH.lt h1)) hb;have run:∀ vs:List Value,vs.length=k->(∀(j:Nat) (v:Value),vs[j]? =some v->w.cell? ⟨l.blk,l.base+i+j,none⟩=some v)->(execOp a.eval o).run P w=.ok (.value (.agg vs.toArray)) w:=fun vs h3 h4=>by have:=run_loadCells P w l.blk (l.base+i) vs h4;rw[h3]at this;simp[execOp,ho,Instr.loadAt,h2,Instr.sureAddr,loadVar,qfp ht,mI hk,this]
   rcases hr with rfl|⟨loc,vs,h3,h4,h5,h6,h7⟩
   ·have:cs=[]:=List.length_eq_zero_iff.1 hlen;subst this;exact⟨_,run [] rfl (by simp),by simp only[aL];exact⟨[],by simp[aI],rfl,by simp⟩⟩
   ·rw[h1]at h3;cases h3;exact⟨_,run vs h5 h7,by simp only[aL];exact⟨vs,h4,rfl,h6⟩⟩
 ·trivial
theorem q6v{x:Operand}(ho:o.op=.nilCheck x)(h:LR ι d n L a.tmps):gX P o a.eval ι w nm (match(aH d n x).f L with| .ptr b o=>.val (.ptr b o)| .fn a b c=>.val (.fn a b c)| .yield l=>.val (.yield l)|_=>.bad):=by
 have hx:=dQ h x;split
 ·rename_i e;rw[e]at hx;refine⟨a.eval x,?_,hx⟩;simp only[aL]at hx;obtain⟨l,_,h2⟩:=hx;simp[execOp,ho,h2]
 ·rename_i e;rw[e]at hx;refine⟨a.eval x,?_,hx⟩;simp only[aL]at hx;obtain⟨F,C,_,_,h2⟩:=hx;simp[execOp,ho,h2]
 ·rename_i e;rw[e]at hx;refine⟨a.eval x,?_,hx⟩;simp only[aL]at hx;obtain⟨l,_,h2⟩:=hx;simp[execOp,ho,h2]
 ·trivial
theorem q0v{s:TypeId}{x:Operand}{f:Nat}(ho:o.op=.fieldAddr s x f){fs:Array Field}(hs:P.underlying s=some (.struct fs)){fl:Field}(hf:fs[f]? =some fl){z:Nat}(hz:gU P fl.type=some (z+1))(h:LR ι d n L a.tmps):gX P o a.eval ι w nm (aU fl.offset ((aH d n x).f L)):=by
 have hx:=dQ h x;unfold aU;split
 ·rename_i b i e;rw[e]at hx;simp only[aL]at hx;obtain⟨l,h1,h2⟩:=hx;refine⟨.pointer (some ⟨l.blk,l.base+(i+fl.offset),none⟩),?_,by simp only[aL];exact⟨l,h1,rfl⟩⟩;simp[execOp,ho,Instr.fieldAt,bP hs,hf,h2,Instr.sureAddr,fieldPlace,mI hz,addr_add,Nat.add_assoc]
 ·trivial
theorem zz2{t e:TypeId}{x y:Operand}(ho:o.op=.indexAddr t x y)(ht:P.underlying t=some (.slice e)){z:Nat}(hz:gU P e=some z)(h:LR ι d n L a.tmps):gX P o a.eval ι w nm (aJ z ((aH d n x).f L) ((aH d n y).f L)):=by
 have hx:=dQ h x;have hy:=dQ h y;unfold aJ;split
 ·rename_i b i len cap ex k j e1 e2;rw[e1]at hx;rw[e2]at hy;simp only[aL]at hx hy;obtain⟨_,l,h1,h2⟩:=hx;cases hj:Nat.blt j len with
  |false=>trivial
  |true=>have hj':=sF hj;refine⟨.pointer (some ⟨l.blk,l.base+(i+j*z),none⟩),?_,by simp only[aL];exact⟨l,h1,rfl⟩⟩;simp[execOp,ho,Instr.indexAt,hy,h2,asIntOf,bP ht,mI hz,hj',addr_add,Nat.add_assoc]
 ·trivial
theorem zz3{t e:TypeId}{x y:Operand}(ho:o.op=.indexAddr t x y){len:Nat}(ht:P.underlying t=some (.array len e)){z:Nat}(hz:gU P e=some z)(h:LR ι d n L a.tmps):gX P o a.eval ι w nm (fD len z ((aH d n x).f L) ((aH d n y).f L)):=by
 have hx:=dQ h x;have hy:=dQ h y;unfold fD;split
 ·rename_i b i k j e1 e2;rw[e1]at hx;rw[e2]at hy;simp only[aL]at hx hy;obtain⟨l,h1,h2⟩:=hx;cases hj:Nat.blt j len with
  |false=>trivial
  |true=>have hj':=sF hj;refine⟨.pointer (some ⟨l.blk,l.base+(i+j*z),none⟩),?_,by simp only[aL];exact⟨l,h1,rfl⟩⟩;simp[execOp,ho,Instr.indexAt,hy,h2,asIntOf,bP ht,mI hz,hj',addr_add,Nat.add_assoc,Instr.sureAddr]
 ·trivial
theorem zow{a b:IntKind}(h:uL a b=true):a=b:=by cases a<;>cases b<;>first|rfl|(simp[uL,zgt]at h)
theorem zN(a b:Int):pY a b=(a==b):=by rw[Bool.eq_iff_iff];cases a<;>cases b<;>simp[pY,Nat.beq_eq];omega
theorem sI(k:IntKind)(n:Int):aL ι (.int k n) (.int k n):=by simp only[aL]
theorem qs2(b:Bool):aL ι (.bool b) (.bool b):=by simp only[aL]
theorem yT(a b:Int):oL a b=decide (a<b):=by
 have hb:∀ m n:Nat,Nat.blt m n=decide (m<n):=fun m n=>by
  cases h:Nat.blt m n with
  |true=>simp[sF h]
  |false=>simp[q76 h]
 cases a with
 |ofNat m=>cases b with
  |ofNat n=>simp[oL,hb]
  |negSucc n=>simp[oL];omega
 |negSucc m=>cases b with
  |ofNat n=>simp[oL];omega
  |negSucc n=>simp only[oL,hb];congr 1;simp;omega
theorem zg5{k:IntKind}{n:Int}(h:qty k n=true):k.wrap n=n:=by
 cases n with
 |ofNat m=>
  cases k<;>simp only[qty]at h<;>have h:=sF h
  ·exact IntWalk.i8_in _ (by simp only[Int.ofNat_eq_natCast];omega)
  ·exact IntWalk.i16_in _ (by simp only[Int.ofNat_eq_natCast];omega)
  ·exact IntWalk.i32_in _ (by simp only[Int.ofNat_eq_natCast];omega)
  ·exact IntWalk.i64_in _ (by simp only[Int.ofNat_eq_natCast];omega)
  ·exact IntWalk.u8_in _ (by simp only[Int.ofNat_eq_natCast];omega)
  ·exact IntWalk.u16_in _ (by simp only[Int.ofNat_eq_natCast];omega)
  ·exact IntWalk.u32_in _ (by simp only[Int.ofNat_eq_natCast];omega)
  ·exact IntWalk.u64_in _ (by simp only[Int.ofNat_eq_natCast];omega)
 |negSucc m=>
  cases k<;>simp only[qty]at h<;>first|(cases h;done)|have h:=sF h
  ·exact IntWalk.i8_in _ (by omega)
  ·exact IntWalk.i16_in _ (by omega)
  ·exact IntWalk.i32_in _ (by omega)
  ·exact IntWalk.i64_in _ (by omega)
theorem qil(k:IntKind)(n:Int):sZ k n=k.wrap n:=by
 unfold sZ;cases h:qty k n with
 |true=>simp[zg5 h]
 |false=>rfl
theorem q0o{op:BinOp}{t ty:TypeId}{x y:Operand}(ho:o.op=.binOp op t x y ty){k:IntKind}{m p:Int}(hx:a.eval x=.int k m)(hy:a.eval y=.int k p):(execOp a.eval o).run P w=((binOp op t (.int k m) (.int k p)).run P w).andThen fun v w=>.ok (.value v) w:=by simp only[execOp,ho,hx,hy,eqGuard];simp
theorem zgx{op:BinOp}{t ty:TypeId}{x y:Operand}(ho:o.op=.binOp op t x y ty)(hop:op≠ .shl/\op≠ .shr){k:IntKind}{m p:Int}(hx:a.eval x=.int k m)(hy:a.eval y=.int k p):gX P o a.eval ι w nm ((aO op).f k m p):=by
 have hr:=q0o (P:=P) (w:=w) ho hx hy;cases op<;>simp only[aO]
 case shl=>exact absurd rfl hop.1
 case shr=>exact absurd rfl hop.2
 case quo|rem=>
  cases hz:pY p 0 with
  |true=>trivial
  |false=>
   have hz':p≠0:=by rw[zN]at hz;simpa using hz
   refine⟨_,?_,sI _ _⟩;rw[hr];simp[binOp,Op.intDiv,hz',qil]
 all_goals
  refine⟨_,?_,by first|exact sI _ _|exact qs2 _⟩;rw[hr];simp[binOp,Op.intArith,Op.intBits,Op.intCmp,qil,zN,yT]
 all_goals first|rfl|(rw[<-decide_not];congr 1;simp)
theorem aL2{op:BinOp}{t ty:TypeId}{x y:Operand}(ho:o.op=.binOp op t x y ty)(hop:op≠ .shl/\op≠ .shr)(h:LR ι d n L a.tmps):gX P o a.eval ι w nm (aD (aO op).f ((aH d n x).f L) ((aH d n y).f L)):=by
 have hx:=dQ h x;have hy:=dQ h y;unfold aD;split
 ·rename_i k m k' p e1 e2;rw[e1]at hx;rw[e2]at hy;simp only[aL]at hx hy;cases hk:uL k k' with
  |false=>trivial
  |true=>have:=zow hk;subst this;exact zgx ho hop hx hy
 ·trivial
theorem zfm{op:BinOp}{t ty:TypeId}{x y:Operand}(ho:o.op=.binOp op t x y ty)(hop:op=.shl\/op=.shr)(h:LR ι d n L a.tmps):gX P o a.eval ι w nm (qvh (qh0 op).f ((aH d n x).f L) ((aH d n y).f L)):=by
 have hx:=dQ h x;have hy:=dQ h y;unfold qvh;split
 ·rename_i k m k' p e1 e2;rw[e1]at hx;rw[e2]at hy;simp only[aL]at hx hy;have hr:(execOp a.eval o).run P w=((binOp op t (.int k m) (.int k' p)).run P w).andThen fun v w=>.ok (.value v) w:=by
   simp only[execOp,ho,hx,hy,eqGuard];simp
  rcases hop with rfl|rfl<;>simp only[qh0]
  all_goals
   cases hz:oL p 0 with
   |true=>trivial
   |false=>
    have hz':¬ p<0:=by rw[yT]at hz;simpa using hz
    refine⟨_,?_,sI _ _⟩;rw[hr];simp[binOp,Op.shift,hz',qil]
 ·trivial
theorem aWH{op:UnOp}{t:TypeId}{x:Operand}(ho:o.op=.unOp op t x)(h:LR ι d n L a.tmps):gX P o a.eval ι w nm ((lY op).f ((aH d n x).f L)):=by
 have hx:=dQ h x;cases op<;>simp only[lY]<;>first|trivial|skip
 ·split
  ·rename_i e;rw[e]at hx;simp only[aL]at hx;exact⟨_,by simp[execOp,ho,hx,Op.unary,Op.intArith,qil],sI _ _⟩
  ·trivial
 ·split
  ·rename_i e;rw[e]at hx;simp only[aL]at hx;exact⟨_,by simp[execOp,ho,hx,Op.unary],qs2 _⟩
  ·trivial
theorem zwg{s t:TypeId}{x:Operand}(ho:o.op=.convert s t x){ds:TypeDesc}(hs:P.underlying s=some ds){k:IntKind}(ht:P.underlying t=some (.int k))(h:LR ι d n L a.tmps):gX P o a.eval ι w nm (qt6 k ((aH d n x).f L)):=by
 have hx:=dQ h x;unfold qt6;split
 ·rename_i e;rw[e]at hx;simp only[aL]at hx;exact⟨_,by simp[execOp,ho,hx,convert,bP hs,bP ht,Conv.intToInt,qil],sI _ _⟩
 ·trivial
theorem zwf{s t:TypeId}{x:Operand}(ho:o.op=.convert s t x)(hs:P.underlying s=some .string)(ht:P.underlying t=some .string)(h:LR ι d n L a.tmps):gX P o a.eval ι w nm (match(aH d n x).f L with| .str n a=>.val (.str n a)|_=>.bad):=by
 have hx:=dQ h x;split
 ·rename_i e;rw[e]at hx;refine⟨a.eval x,?_,hx⟩;obtain⟨z,h1,_⟩:=hx;simp[execOp,ho,h1,convert,bP hs,bP ht]
 ·trivial
theorem qmi{t:TypeId}{x:Operand}(ho:o.op=.makeInterface t x){dt:TypeDesc}(ht:P.underlying t=some dt)(hn:∀ ms,dt≠ .interface ms)(h:LR ι d n L a.tmps):gX P o a.eval ι w nm (.val (.iface t ((aH d n x).f L))):=by refine⟨.iface t (a.eval x),?_,by simp only[aL];exact⟨_,dQ h x,rfl⟩⟩;simp only[execOp,ho,Instr.makeInterface,Sem.run_bind,bP ht,Result.andThen_ok];rfl
theorem q6w{f:FuncId}{first cap:Array Operand}(ho:o.op=.makeFunc (.func f) first cap)(h:LR ι d n L a.tmps):gX P o a.eval ι w nm (.val (.fn f ((rX d n first.toList).f L) ((rX d n cap.toList).f L))):=by refine⟨.func (.func f) (first.map a.eval) (cap.map a.eval),by simp[execOp,ho,Instr.makeFunc],?_⟩;exact⟨_,_,qcm h _,qcm h _,by rw[<-Array.toList_map,<-Array.toList_map]⟩
theorem zfn{t:TypeId}(ho:o.op=.makeMap t none):gX P o a.eval ι w nm (.new (.map nm) (.map [] 0)):=by
 refine⟨.map (some w.heap.size),w.alloc (.map #[] 0),⟨w.heap.size,0,0,0⟩,?_,New.alloc w _ 0 0,fun ι' hle hi=>⟨by simp only[aL];exact⟨_,hi,rfl⟩,⟨_,[],hi,?_,by simp[bT]⟩⟩⟩
 ·simp[execOp,ho,Instr.makeMap]
 ·show(w.heap.push _)[w.heap.size]? =_;simp
theorem zfo{x:Operand}{i:Nat}(ho:o.op=.extract x i)(h:LR ι d n L a.tmps):gX P o a.eval ι w nm (match(aH d n x).f L with
   | .aY l=>match l[i]? with|some v=>.val v|none=>.bad
   |_=>.bad):=by
 have hx:=dQ h x;split
 ·rename_i l e;rw[e]at hx;simp only[aL]at hx;obtain⟨vs,h1,h2⟩:=hx;split
  ·rename_i v hv;obtain⟨V,h3,h4⟩:=h1.get i v hv;exact⟨V,by simp[execOp,ho,h2,Instr.extract,h3],h4⟩
  ·trivial
 ·trivial
theorem qga(s:ByteArray):s.toList=s.data.toList:=ByteArray.toList_eq s
theorem zL(b:UInt8)(l:List UInt8):jI (b::l)=jI l*256+b.toNat:=rfl
theorem qky:jI []=0:=rfl
theorem qjt(b:UInt8):b.toNat<256:=b.toNat_lt
theorem pack_inj:∀{l m:List UInt8},l.length=m.length->jI l=jI m->l=m
 | [],[],_,_=>rfl
 | [],_::_,h,_=>by simp at h
 |_::_,[],h,_=>by simp at h
 |b::l,c::m,h,k=>by
  rw[zL,zL]at k;have h1:=qjt b;have h2:=qjt c;have e1:b.toNat=c.toNat:=by omega
  have e2:jI l=jI m:=by omega
  rw[UInt8.toNat_inj.1 e1,pack_inj (by simpa using h) e2]
theorem qms:∀ l m:List UInt8,jI (l++m)=jI l+256 ^ l.length*jI m
 | [],m=>by simp[qky]
 |b::l,m=>by rw[List.cons_append,zL,zL,qms l m,List.length_cons,Nat.pow_succ,Nat.add_mul,Nat.mul_assoc,Nat.mul_assoc,Nat.mul_comm (jI m) 256];omega
theorem qmr:∀(l:List UInt8) (k:Nat),jI (l.drop k)=jI l / 256 ^ k
 |l,0=>by simp
 | [],k+1=>by simp[qky]
 |b::l,k+1=>by have:=qjt b;rw[List.drop_succ_cons,qmr l k,zL,Nat.pow_succ,Nat.mul_comm (256 ^ k) 256,<-Nat.div_div_eq_div_mul];congr 1;omega
theorem qv3:∀(l:List UInt8) (k:Nat),jI (l.take k)=jI l%256 ^ k
 |l,0=>by simp[qky,Nat.mod_one]
 | [],k+1=>by simp[qky]
 |b::l,k+1=>by have:=qjt b;rw[List.take_succ_cons,zL,zL,qv3 l k,Nat.pow_succ,Nat.mul_comm (256 ^ k) 256,Nat.mod_mul,show(jI l*256+b.toNat) / 256=jI l by omega,show(jI l*256+b.toNat)%256=b.toNat by omega];omega
theorem zfr(k:Nat):256 ^ k=2 ^ (8*k):=by rw[Nat.pow_mul]
theorem qtn(x:Nat):Nat.land x 255=x%256:=by have:=Nat.and_two_pow_sub_one_eq_mod x 8;omega
theorem aCR(x k:Nat):Nat.shiftRight x (Nat.mul 8 k)=x / 256 ^ k:=by have:=Nat.shiftRight_eq_div_pow x (8*k);rw[zfr];exact this
theorem aLx(x k:Nat):Nat.shiftLeft x (Nat.mul 8 k)=256 ^ k*x:=by have:=Nat.shiftLeft_eq x (8*k);rw[zfr,Nat.mul_comm];exact this
theorem aLa(x k:Nat):Nat.land x (Nat.sub (Nat.shiftLeft 1 (Nat.mul 8 k)) 1)=x%256 ^ k:=by rw[aLx,Nat.mul_one,zfr];simp
theorem qw4(l:List UInt8)(i:Nat)(h:i<l.length):qfi (jI l) i=(l[i]).toNat:=by unfold qfi;rw[qtn,aCR,<-qmr,List.drop_eq_getElem_cons h,zL];simp
theorem wV.eq{n a m b:Nat}{s t:ByteArray}(h:wV n a s)(k:wV m b t):eqS n a m b=(s.data.toList==t.data.toList):=by obtain⟨rfl,rfl⟩:=h;obtain⟨rfl,rfl⟩:=k;unfold eqS;rw[Bool.eq_iff_iff];simp only[Bool.and_eq_true,Nat.beq_eq,beq_iff_eq];exact⟨fun⟨h1,h2⟩=>pack_inj h1 h2,fun h=>by rw[h];exact⟨rfl,rfl⟩⟩
theorem wV.append{n a m b:Nat}{s t:ByteArray}(h:wV n a s)(k:wV m b t):wV (n+m) (Nat.add a (Nat.shiftLeft b (Nat.mul 8 n))) (s++t):=by
 obtain⟨rfl,rfl⟩:=h;obtain⟨rfl,rfl⟩:=k;have e:(s++t).data.toList=s.data.toList++t.data.toList:=by simp
 exact⟨by rw[e,List.length_append],by rw[e,qms,aLx];rfl⟩
theorem q08:∀(l m:List UInt8),qdl l.length l.length (jI l) m.length (jI m)=Op.bytesLess l m
 | [],[]=>rfl
 | [],c::m=>by simp[qdl,Op.bytesLess];rfl
 |b::l,[]=>by simp[qdl,Op.bytesLess]
 |b::l,c::m=>by
  have ih:=q08 l m;have hb:=qjt b;have hc:=qjt c;have e1:Nat.land (jI (b::l)) 255=b.toNat:=by rw[qtn,zL];omega
  have e2:Nat.land (jI (c::m)) 255=c.toNat:=by rw[qtn,zL];omega
  have e3:Nat.shiftRight (jI (b::l)) 8=jI l:=by have:=aCR (jI (b::l)) 1;rw[this,zL];omega
  have e4:Nat.shiftRight (jI (c::m)) 8=jI m:=by have:=aCR (jI (c::m)) 1;rw[this,zL];omega
  show(bif Nat.beq (m.length+1) 0 then false else bif Nat.beq (l.length+1) 0 then true else
   bif Nat.beq (Nat.land (jI (b::l)) 255) (Nat.land (jI (c::m)) 255)then qdl l.length (Nat.pred (l.length+1)) (Nat.shiftRight (jI (b::l)) 8) (Nat.pred (m.length+1)) (Nat.shiftRight (jI (c::m)) 8)
   else Nat.blt (Nat.land (jI (b::l)) 255) (Nat.land (jI (c::m)) 255))=_
  rw[e1,e2,e3,e4];simp only[Nat.pred_succ,Op.bytesLess,ih];have h0:∀ k,Nat.beq (k+1) 0=false:=fun _=>rfl;rw[h0,h0,cond_false,cond_false];cases hbc:Nat.beq b.toNat c.toNat with
  |true=>have e:=UInt8.toNat_inj.1 (sJ hbc);subst e;simp
  |false=>
   have e:b≠c:=fun e=>qub hbc (by rw[e]);cases hl:Nat.blt b.toNat c.toNat with
   |true=>have:=sF hl;simp[UInt8.lt_iff_toNat_lt,this]
   |false=>have:=q76 hl;simp[UInt8.lt_iff_toNat_lt,this,e]
theorem wV.less{n a m b:Nat}{s t:ByteArray}(h:wV n a s)(k:wV m b t):qdl n n a m b=Op.bytesLess s.data.toList t.data.toList:=by obtain⟨rfl,rfl⟩:=h;obtain⟨rfl,rfl⟩:=k;exact q08 _ _
theorem qmg{n a:Nat}{s:ByteArray}(h:wV n a s):aL ι (.str n a) (.string s):=by simp only[aL];exact⟨s,rfl,h⟩
theorem zng{op:BinOp}{t ty:TypeId}{x y:Operand}(ho:o.op=.binOp op t x y ty)(h:LR ι d n L a.tmps):gX P o a.eval ι w nm (gH (mP op).f ((aH d n x).f L) ((aH d n y).f L)):=by
 have hx:=dQ h x;have hy:=dQ h y;unfold gH;split
 ·rename_i n1 a1 m1 b1 e1 e2;rw[e1]at hx;rw[e2]at hy;simp only[aL]at hx hy;obtain⟨s,hs,h1⟩:=hx;obtain⟨u,hu,h2⟩:=hy;have hr:(execOp a.eval o).run P w=((binOp op t (.string s) (.string u)).run P w).andThen fun v w=>.ok (.value v) w:=by
   simp only[execOp,ho,hs,hu,eqGuard];simp
  cases op<;>simp only[mP]<;>first|trivial|skip
  case add=>
   cases hle:Nat.ble (n1+m1) 1099511627776 with
   |false=>trivial
   |true=>
    have hle:=mX hle;refine⟨_,?_,qmg (h1.append h2)⟩;rw[hr];have e1:s.size=n1:=h1.1;have e2:u.size=m1:=h2.1;have:¬(((s.size+u.size:Nat):Int)>IntKind.i64.max):=by
     have:IntKind.i64.max=9223372036854775807:=by decide
     omega
    simp only[binOp,Op.stringOp,if_neg this,Sem.run_pure,Result.andThen_ok]
  all_goals
   refine⟨_,?_,qs2 _⟩;rw[hr];simp[binOp,Op.stringOp,qga,h1.eq h2,h1.less h2]
 ·trivial
theorem znk{t:TypeId}{x y:Operand}(ho:o.op=.index t x y)(ht:P.underlying t=some .string)(h:LR ι d n L a.tmps):gX P o a.eval ι w nm (qgy ((aH d n x).f L) ((aH d n y).f L)):=by
 have hx:=dQ h x;have hy:=dQ h y;unfold qgy;split
 ·rename_i n1 a1 k j e1 e2;rw[e1]at hx;rw[e2]at hy;simp only[aL]at hx hy;obtain⟨s,hs,h1,h2⟩:=hx;cases hj:Nat.blt j n1 with
  |false=>trivial
  |true=>
   have hj':=sF hj;have hlt:j<s.data.toList.length:=by omega
   refine⟨_,?_,sI _ _⟩;have hsz:s.size=n1:=h1;have hg:s[j]? =some (s.data.toList[j]):=by
    have:j<s.size:=by omega
    rw[getElem?_pos s j this];simp;rfl
   rw[<-h2,qw4 _ _ hlt];simp[execOp,ho,Instr.index,hs,hy,asIntOf,bP ht,hg]
 ·trivial
def xQ(ι:Im):Option AV->Option Value->Prop
 |none,none=>True
 |some a,some v=>aL ι a v
 |_,_=>False
theorem qc7(h:LR ι d n L a.tmps)(x:Option Operand):xQ ι ((wB d n x).f L) (x.map a.eval):=by
 cases x with
 |none=>simp[wB,xQ]
 |some x=>simp only[wB,Option.map_some,xQ];exact dQ h x
theorem qw8{x:AV}{X:Value}(hx:aL ι x X){df y k Y:Nat}(h:bnd (some x) df y=some k)(hY:y<=Y)(c:BoundsCode):(Instr.sliceBound X Y c).run P w=.ok k w/\k<=y:=by
 unfold bnd at h;split at h
 ·simp_all
 ·rename_i kk m e;cases e;cases hm:Nat.ble m y with
  |false=>rw[hm]at h;cases h
  |true=>
   rw[hm]at h;simp only[cond_true,Option.some.injEq]at h;subst h;have:=mX hm;have hle:(m:Int)<=Y:=by omega
   subst hx;exact⟨by simp[Instr.sliceBound,asIntOf,hle],this⟩
 ·cases h
theorem qik{lo hi mx:Option AV}{LO HI MX:Option Value}(hl:xQ ι lo LO)(hh:xQ ι hi HI)(hm:xQ ι mx MX){len cap C:Nat}{bd:Bd}(h:bounds len cap lo hi mx=some bd)(hC:cap<=C)(hlc:len<=cap)(isS:Bool):(Instr.sliceBounds isS len C LO HI MX).run P w=.ok (bd.l,bd.h,if mx.isSome then bd.m else C) w/\bd.l<=bd.h/\bd.h<=bd.m/\bd.m<=cap/\(mx=none->bd.m=cap):=by
 cases mx with
 |none=>
  cases MX with
  |some _=>exact hm.elim
  |none=>
   unfold bounds at h;have e0:bnd none cap cap=some cap:=rfl;rw[e0]at h;simp only at h;cases h2:bnd hi len cap with
   |none=>rw[h2]at h;cases h
   |some hh'=>
    rw[h2]at h;simp only at h;cases h3:bnd lo 0 hh' with
    |none=>rw[h3]at h;cases h
    |some ll=>
     rw[h3]at h;simp only[Option.some.injEq]at h;subst h;have aTQ:hh'<=cap/\(Instr.sliceBounds isS len C LO HI none).run P w=((match LO with|some v=>Instr.sliceBound v hh' .sliceB|none=>pure 0).run P w).andThen fun l w=>.ok (l,hh',C) w:=by
      cases hi with
      |none=>
       cases HI with
       |some _=>exact hh.elim
       |none=>simp only[bnd,Option.some.injEq]at h2;subst h2;refine⟨hlc,?_⟩;cases LO<;>simp[Instr.sliceBounds]
      |some hi=>
       cases HI with
       |none=>exact hh.elim
       |some HI=>obtain⟨r1,r2⟩:=qw8 (P:=P) (w:=w) (ι:=ι) hh h2 hC (if isS then .sliceAcap else .sliceAlen);refine⟨r2,?_⟩;cases LO<;>simp[Instr.sliceBounds,r1]
     rw[aTQ.2];cases lo with
     |none=>
      cases LO with
      |some _=>exact hl.elim
      |none=>simp only[bnd,Option.some.injEq]at h3;subst h3;simp;omega
     |some lo=>
      cases LO with
      |none=>exact hl.elim
      |some LO=>obtain⟨r1,r2⟩:=qw8 (P:=P) (w:=w) (ι:=ι) hl h3 (Nat.le_refl _) .sliceB;simp_all
 |some mx=>
  cases MX with
  |none=>exact hm.elim
  |some MX=>
   cases hi with
   |none=>simp[bounds]at h
   |some hi=>
    cases HI with
    |none=>exact hh.elim
    |some HI=>
     unfold bounds at h;cases h1:bnd (some mx) cap cap with
     |none=>rw[h1]at h;cases h
     |some mm=>
      rw[h1]at h;simp only at h;cases h2:bnd (some hi) len mm with
      |none=>rw[h2]at h;cases h
      |some hh'=>
       rw[h2]at h;simp only at h;cases h3:bnd lo 0 hh' with
       |none=>rw[h3]at h;cases h
       |some ll=>
        rw[h3]at h;simp only[Option.some.injEq]at h;subst h;obtain⟨m1,m2⟩:=qw8 (P:=P) (w:=w) (ι:=ι) hm h1 hC (if isS then .slice3Acap else .slice3Alen);obtain⟨r1,r2⟩:=qw8 (P:=P) (w:=w) (ι:=ι) hh h2 (Nat.le_refl _) .slice3B;cases lo with
        |none=>
         cases LO with
         |some _=>exact hl.elim
         |none=>simp only[bnd,Option.some.injEq]at h3;subst h3;simp[Instr.sliceBounds,m1,r1];omega
        |some lo=>
         cases LO with
         |none=>exact hl.elim
         |some LO=>obtain⟨l1,l2⟩:=qw8 (P:=P) (w:=w) (ι:=ι) hl h3 (Nat.le_refl _) .slice3C;simp[Instr.sliceBounds,m1,r1,l1];omega
theorem q6u{t:TypeId}{x:Operand}{lo hi:Option Operand}(ho:o.op=.slice t x lo hi none)(ht:P.underlying t=some .string)(h:LR ι d n L a.tmps):gX P o a.eval ι w nm (qst ((aH d n x).f L) ((wB d n lo).f L) ((wB d n hi).f L)):=by
 have hx:=dQ h x;unfold qst;split
 ·rename_i m bits e;rw[e]at hx;simp only[aL]at hx;obtain⟨s,h1,h2,h3⟩:=hx;split
  ·rename_i bd hb;obtain⟨r,r1,r2,r3,r4⟩:=qik (P:=P) (w:=w) (ι:=ι) (qc7 h lo) (qc7 h hi) (show xQ ι none none from trivial) hb (Nat.le_refl _) (Nat.le_refl _) false;have hsz:s.size=m:=h2;refine⟨.string (s.extract bd.l bd.h),?_,qmg ⟨?_,?_⟩⟩
   ·simp only[execOp,ho,Instr.sliceAt,Sem.run_bind,bP ht,Result.andThen_ok,Instr.slice,h1,Option.map_none,hsz];simp[r]
   ·have:(s.extract bd.l bd.h).size=min bd.h s.size-bd.l:=by simp
    show(s.extract bd.l bd.h).size=_;omega
   ·have:(s.extract bd.l bd.h).data.toList=(s.data.toList.drop bd.l).take (bd.h-bd.l):=by simp
    rw[this,qv3,qmr,aLa,aCR,h3]
  ·trivial
 ·trivial
theorem zfl{t e:TypeId}{x:Operand}{lo hi mx:Option Operand}(ho:o.op=.slice t x lo hi mx)(ht:P.underlying t=some (.slice e)){z:Nat}(hz:gU P e=some z)(h:LR ι d n L a.tmps):gX P o a.eval ι w nm (jX z ((aH d n x).f L) ((wB d n lo).f L) ((wB d n hi).f L) ((wB d n mx).f L)):=by
 have hx:=dQ h x;have hl:=qc7 h lo;have hh:=qc7 h hi;have hm:=qc7 h mx;have run:∀(b:Option Addr) (len C l hh m:Nat),a.eval x=.slice b len C->(Instr.sliceBounds true len C (lo.map a.eval) (hi.map a.eval) (mx.map a.eval)).run P w=.ok (l,hh,m) w ->
   (execOp a.eval o).run P w=.ok (.value (.slice (if m=l then b else b.map (·.add (l*z))) (hh-l) (m-l))) w:=fun b len C l hh m h1 h2=>by
  simp[execOp,ho,Instr.sliceAt,bP ht,Instr.slice,h1,h2,mI hz]
 unfold jX;split
 ·rename_i e1;rw[e1]at hx;simp only[aL]at hx;split
  ·rename_i bd hb;obtain⟨r,r1,r2,r3,r4⟩:=qik (P:=P) (w:=w) (ι:=ι) hl hh hm hb (Nat.le_refl _) (Nat.le_refl _) true;refine⟨.slice none 0 0,?_,by simp only[aL]⟩;rw[run _ _ _ _ _ _ hx r];simp_all
  ·trivial
 ·rename_i b i len cap ex e1;rw[e1]at hx;simp only[aL]at hx;obtain⟨hlc,l,h1,h2⟩:=hx;split
  ·rename_i bd hb;have hC:cap<=(if ex=true then cap else cap+l.ext):=by split<;>omega
   obtain⟨r,r1,r2,r3,r4⟩:=qik (P:=P) (w:=w) (ι:=ι) hl hh hm hb hC hlc true;have hr:=run _ _ _ _ _ _ h2 r;simp only[Option.map_some,addr_add]at hr;unfold gZ;cases hmx:(wB d n mx).f L with
   |some mv=>
    simp only[hmx,Option.isSome_some,if_true]at hr;cases hml:Nat.beq bd.m bd.l with
    |true=>have:=sJ hml;refine⟨_,hr,?_⟩;simp only[aL];refine⟨Nat.le_refl _,l,h1,?_⟩;rw[if_pos this,show bd.h-bd.l=0 by omega,show bd.m-bd.l=0 by omega];simp
    |false=>have:=qub hml;refine⟨_,hr,?_⟩;refine⟨Nat.sub_le_sub_right r2 _,l,h1,?_⟩;rw[if_neg this];simp[Nat.add_assoc]
   |none=>
    have hbm:=r4 hmx;simp only[hmx,Option.isSome_none,Bool.false_eq_true,if_false]at hr;cases ex with
    |true=>
     simp only[if_true]at hr;cases hml:Nat.beq bd.m bd.l with
     |true=>have:=sJ hml;refine⟨_,hr,?_⟩;simp only[aL];simp_all
     |false=>have:=qub hml;refine⟨_,hr,?_⟩;refine⟨Nat.sub_le_sub_right r2 _,l,h1,?_⟩;rw[if_neg (by omega)];simp[Nat.add_assoc,hbm]
    |false=>
     simp only[Bool.false_eq_true,if_false]at hr;cases hml:Nat.beq bd.m bd.l with
     |true=>
      have:=sJ hml;refine⟨_,hr,?_⟩;rw[show bd.h-bd.l=0 by omega];split
      ·exact⟨_,_,rfl⟩
      ·exact⟨_,_,rfl⟩
     |false=>
      have:=qub hml;refine⟨_,hr,?_⟩;refine⟨Nat.sub_le_sub_right r2 _,l,h1,?_⟩;rw[if_neg (by omega)];have e2:cap+l.ext-bd.l=bd.m-bd.l+l.ext:=by omega
      simp[Nat.add_assoc,e2]
  ·trivial
 ·trivial
end Go.Ev
end
noncomputable section
namespace Go.Ev
open Go.RowKit
variable {P:Program} {ι:Im} {o:Oper} {a:Act} {nm:Nat} {d n:Nat} {L:TT AV d} {H:Hp}
theorem qje{t:TypeId}{xs:List AV}{XS:List Value}(hr:aI ι xs XS)(h1:∀ v∈XS,v.oneCell=true){off:Nat}{v:AV}(h:(qkc P t).f xs off=some v):∃V,(∀w,(part t XS.toArray off).run P w=.ok V w)/\aL ι v V:=by
 unfold qkc at h;split at h
 ·rename_i k e1 e2;simp only[Option.some.injEq]at h;subst h;refine⟨.agg (XS.toArray.extract off (off+k)),fun w=>?_,?_⟩
  ·simp[part,qfp e1,mI e2]
  ·simp only[aL];refine⟨(XS.drop off).take k,(hr.drop off).take k,?_,fun v hv=>h1 v (List.mem_of_mem_drop (List.mem_of_mem_take hv))⟩;simp
 ·rename_i e1;obtain⟨V,h2,h3⟩:=hr.get off v h;exact⟨V,fun w=>by simp[part,qfp e1,h2],h3⟩
 ·cases h
def aE8(P:Program)(ι:Im)(D:Nat)(t:TypeId)(e:E2):Prop:=
 ∀x y X Y b,e.f x y=some b->aL ι x X->aL ι y Y->∀ D',D<=D'->∀ w,(Op.equalIn D' t X Y).run P w=.ok b w
theorem xK{l:List AV}{X:Value}(h:aL ι (.agg l) X):∃ vs,aI ι l vs/\X=.agg vs.toArray/\∀ v∈vs,v.oneCell=true:=by simpa only[aL] using h
theorem q7l{D D':Nat}(hD:D<=D'){e:TypeId}{p:P1}{q:E2}(hp:p=qkc P e)(hq:aE8 P ι D e q){xs ys:List AV}{XS YS:List Value}(hx:aI ι xs XS)(hy:aI ι ys YS)(h1:∀ v∈XS,v.oneCell=true)(h2:∀ v∈YS,v.oneCell=true)(z:Nat):∀(k i:Nat) (b:Bool),yF p q z xs ys k i=some b->∀ w, ∃r:Option Bool×Unit,(forIn (List.range' i k) ((none,()):Option Bool×Unit) fun j _=>do
    let a<-part e XS.toArray (j*z)
    let c<-part e YS.toArray (j*z)
    let t<-Op.equalIn D' e a c
    if(!t)=true then pure (ForInStep.done (some false,()))else pure (ForInStep.yield (none,()))).run P w=.ok r w/\(b=true->r.fst=none)/\(b=false->r.fst=some false):=by
 intro k
 induction k with
 |zero=>intro i b h w;simp only[yF,Option.some.injEq]at h;subst h;exact⟨(none,()),by simp,by simp,by simp⟩
 |succ k ih=>
  intro i b h w;simp only[yF]at h;unfold andThen at h;have key:∀ t:Bool,qqk p q xs ys (i*z)=some t->∃ A B,(∀w,(part e XS.toArray (i*z)).run P w=.ok A w)/\(∀w,(part e YS.toArray (i*z)).run P w=.ok B w)/\∀ w,(Op.equalIn D' e A B).run P w=.ok t w:=by
   intro t ht;unfold qqk at ht;split at ht
   ·rename_i a c e1 e2;rw[hp]at e1 e2;obtain⟨A,a1,a2⟩:=qje hx h1 e1;obtain⟨B,b1,b2⟩:=qje hy h2 e2;exact⟨A,B,a1,b1,hq _ _ _ _ _ ht a2 b2 D' hD⟩
   ·cases ht
  split at h
  ·rename_i e1;obtain⟨A,B,r1,r2,r3⟩:=key _ e1;obtain⟨r,hr,hb⟩:=ih (i+1) b h w;refine⟨r,?_,hb⟩;rw[List.range'_succ,List.forIn_cons];simp_all
  ·rename_i e1;simp only[Option.some.injEq]at h;subst h;obtain⟨A,B,r1,r2,r3⟩:=key _ e1;refine⟨(some false,()),?_,by simp,by simp⟩;rw[List.range'_succ,List.forIn_cons];simp_all
  ·cases h
theorem q1h{D D':Nat}(hD:D<=D'){xs ys:List AV}{XS YS:List Value}(hx:aI ι xs XS)(hy:aI ι ys YS)(h1:∀ v∈XS,v.oneCell=true)(h2:∀ v∈YS,v.oneCell=true)(q:TypeId->E2):∀(fs:List Field),(∀f∈fs,aE8 P ι D f.type (q f.type))->∀ b,
  eqFields ((fs.filter fun f=>f.name != "_").map fun f=>(qkc P f.type,q f.type,f.offset)) xs ys=some b->∀ w,
  (Op.eqFields D' XS.toArray YS.toArray fs).run P w=.ok b w:=by
 intro fs
 induction fs with
 |nil=>intro _ b h w;simp[eqFields]at h;subst h;simp[Op.eqFields]
 |cons f fs ih=>
  intro hq b h w;have ihf:=ih (fun g hg=>hq g (by simp[hg]));unfold Op.eqFields
  by_cases hn:f.name = "_"
  ·simp_all
  ·have hb:(f.name != "_")=true:=by simp[hn]
   rw[List.filter_cons_of_pos (by simpa using hb),List.map_cons]at h;rw[if_pos hn];unfold eqFields at h;rw[List.foldr_cons]at h;unfold andThen at h;have key:∀ t:Bool,qqk (qkc P f.type) (q f.type) xs ys f.offset=some t->∃ A B,(∀w,(part f.type XS.toArray f.offset).run P w=.ok A w)/\(∀w,(part f.type YS.toArray f.offset).run P w=.ok B w)/\∀ w,(Op.equalIn D' f.type A B).run P w=.ok t w:=by
    intro t ht;unfold qqk at ht;split at ht
    ·rename_i a c e1 e2;obtain⟨A,a1,a2⟩:=qje hx h1 e1;obtain⟨B,b1,b2⟩:=qje hy h2 e2;exact⟨A,B,a1,b1,hq f (by simp) _ _ _ _ _ ht a2 b2 D' hD⟩
    ·cases ht
   split at h
   ·rename_i e1;obtain⟨A,B,r1,r2,r3⟩:=key _ e1;simp only[Sem.run_bind,r1,r2,r3,Result.andThen_ok,Bool.not_true,Bool.false_eq_true,if_false];exact ihf b h w
   ·rename_i e1;obtain⟨A,B,r1,r2,r3⟩:=key _ e1;simp only[Option.some.injEq]at h;subst h;simp only[Sem.run_bind,r1,r2,r3,Result.andThen_ok,Bool.not_false,if_true,Sem.run_pure]
   ·cases h
theorem zr6:∀(D:Nat) (t:TypeId),aE8 P ι D t (wC P D t):=by
 intro D
 induction D with
 |zero=>intro t x y X Y b h;simp[wC]at h
 |succ D ih=>
  intro t x y X Y b h hx hy D' hD w;obtain⟨E,rfl⟩:∃ E,D'=E+1:=⟨D'-1,by omega⟩;rw[wC]at h;split at h
  ·rename_i ht;change qg0 x y=some b at h;unfold qg0 at h;split at h
   ·simp only[aL]at hx hy;subst hx hy;simp only[Option.some.injEq]at h;subst h;simp[Op.equalIn,bP ht]
   ·cases h
  ·rename_i ht;change qn1 x y=some b at h;unfold qn1 at h;split at h
   ·rename_i k m k' p;simp only[aL]at hx hy;subst hx hy;cases hk:uL k k' with
    |false=>rw[hk]at h;cases h
    |true=>rw[hk]at h;simp only[cond_true,Option.some.injEq]at h;subst h;have:=zow hk;subst this;simp[Op.equalIn,bP ht,zN]
   ·cases h
  ·rename_i ht;change bZ x y=some b at h;unfold bZ at h;split at h
   ·simp only[aL]at hx hy;obtain⟨s,rfl,h1⟩:=hx;obtain⟨u,rfl,h2⟩:=hy;simp only[Option.some.injEq]at h;subst h;rw[run_equalIn_string w E t s u ht,qga,qga,h1.eq h2]
   ·cases h
  ·rename_i fs ht;split at h
   ·cases h
   ·rename_i hs;have hs':P.stoodInHeld t=false:=by simpa using hs
    simp only at h;unfold gW at h;split at h
    ·rename_i xs ys;obtain⟨XS,x1,rfl,x3⟩:=xK hx;obtain⟨YS,y1,rfl,y3⟩:=xK hy;have hf:P.fieldsOf t=fs:=by simp[Program.fieldsOf,ht]
     rw[run_equalIn_struct w E t _ _ (by rw[hf];exact ht) hs',hf];exact q1h (by omega) x1 y1 x3 y3 (wC P D) _ (fun f _=>ih f.type) b h w
    ·cases h
  ·rename_i len e ht;split at h
   ·rename_i z hz;simp only at h;unfold gW at h;split at h
    ·rename_i xs ys;obtain⟨XS,x1,rfl,x3⟩:=xK hx;obtain⟨YS,y1,rfl,y3⟩:=xK hy;obtain⟨r,hr,hb1,hb2⟩:=q7l (P:=P) (show D<=E by omega) rfl (ih e) x1 y1 x3 y3 z len 0 b h w;simp only[Op.equalIn,Sem.run_bind,bP ht,Result.andThen_ok,mI hz,Std.Legacy.Range.forIn_eq_forIn_range',Std.Legacy.Range.size];simp only[Nat.sub_zero,Nat.add_sub_cancel,Nat.div_one];rw[hr];cases b with
     |true=>rw[Result.andThen_ok,hb1 rfl];rfl
     |false=>rw[Result.andThen_ok,hb2 rfl];rfl
    ·cases h
   ·cases h
  ·rename_i ht;change qnd x y=some b at h;unfold qnd at h;split at h<;>first|(cases h;done)|skip
   all_goals (simp only[Option.some.injEq]at h;subst h;simp only[aL]at hx hy)
   ·subst hx hy;simp[Op.equalIn,bP ht]
   ·obtain⟨l,_,rfl⟩:=hy;subst hx;simp[Op.equalIn,bP ht]
   ·obtain⟨l,_,rfl⟩:=hx;subst hy;simp[Op.equalIn,bP ht]
  ·rename_i ht;change aDd x y=some b at h;unfold aDd at h;split at h<;>first|(cases h;done)|skip
   all_goals (simp only[Option.some.injEq]at h;subst h;simp only[aL]at hx hy)
   ·subst hx hy;simp[Op.equalIn,bP ht]
   ·obtain⟨_,l,_,rfl⟩:=hy;subst hx;simp[Op.equalIn,bP ht]
   ·obtain⟨_,l,rfl⟩:=hy;subst hx;simp[Op.equalIn,bP ht]
   ·obtain⟨_,l,_,rfl⟩:=hx;subst hy;simp[Op.equalIn,bP ht]
   ·obtain⟨_,l,rfl⟩:=hx;subst hy;simp[Op.equalIn,bP ht]
  ·rename_i ht;change zov x y=some b at h;unfold zov at h;split at h<;>first|(cases h;done)|skip
   all_goals (simp only[Option.some.injEq]at h;subst h;simp only[aL]at hx hy)
   ·subst hx hy;simp[Op.equalIn,bP ht]
   ·obtain⟨l,_,rfl⟩:=hy;subst hx;simp[Op.equalIn,bP ht]
   ·obtain⟨l,_,rfl⟩:=hx;subst hy;simp[Op.equalIn,bP ht]
  ·rename_i ht;change eqFn x y=some b at h;unfold eqFn at h;split at h<;>first|(cases h;done)|skip
   all_goals (simp only[Option.some.injEq]at h;subst h;simp only[aL]at hx hy)
   ·subst hx hy;simp[Op.equalIn,bP ht]
   ·obtain⟨_,_,_,_,rfl⟩:=hy;subst hx;simp[Op.equalIn,bP ht]
   ·obtain⟨_,_,_,_,rfl⟩:=hx;subst hy;simp[Op.equalIn,bP ht]
  ·rename_i ht;change aCG x y=some b at h;unfold aCG at h;split at h<;>first|(cases h;done)|skip
   all_goals (simp only[Option.some.injEq]at h;subst h;simp only[aL]at hx hy)
   ·obtain⟨_,_,rfl⟩:=hy;subst hx;simp[Op.equalIn,bP ht]
   ·obtain⟨_,_,rfl⟩:=hx;subst hy;simp[Op.equalIn,bP ht]
  ·cases h
end Go.Ev
end
noncomputable section
namespace Go.Ev
open Go.RowKit
variable {P:Program} {w:World} {ι:Im} {o:Oper} {a:Act} {nm:Nat} {d n:Nat} {L:TT AV d} {H:Hp}
theorem qpy{t e:TypeId}{x:Operand}{lo hi mx:Option Operand}(ho:o.op=.slice t x lo hi mx){len:Nat}(ht:P.underlying t=some (.array len e)\/∃ arr,P.underlying t=some (.pointer arr)/\P.underlying arr=some (.array len e)){z:Nat}(hz:gU P e=some z)(h:LR ι d n L a.tmps):gX P o a.eval ι w nm (qkr len z ((aH d n x).f L) ((wB d n lo).f L) ((wB d n hi).f L) ((wB d n mx).f L)):=by
 have hx:=dQ h x;have hl:=qc7 h lo;have hh:=qc7 h hi;have hm:=qc7 h mx;unfold qkr;split
 ·rename_i b i e1;rw[e1]at hx;simp only[aL]at hx;obtain⟨l,h1,h2⟩:=hx;split
  ·rename_i bd hb;obtain⟨r,r1,r2,r3,r4⟩:=qik (P:=P) (w:=w) (ι:=ι) hl hh hm hb (Nat.le_refl _) (Nat.le_refl _) false;have hmm:(if((wB d n mx).f L).isSome then bd.m else len)=bd.m:=by
    simp_all
   rw[hmm]at r;have run:(execOp a.eval o).run P w=.ok (.value (.slice (some (if bd.m=bd.l then⟨l.blk,l.base+i,none⟩else⟨l.blk,l.base+i+bd.l*z,none⟩)) (bd.h-bd.l) (bd.m-bd.l))) w:=by
    rcases ht with ht|⟨arr,ht,ha⟩
    ·simp[execOp,ho,Instr.sliceAt,bP ht,h2,Instr.sureAddr,r,mI hz,addr_add]
    ·simp[execOp,ho,Instr.sliceAt,bP ht,bP ha,Instr.slice,h2,asAddr,r,mI hz,addr_add]
   unfold gZ;cases hml:Nat.beq bd.m bd.l with
   |true=>have:=sJ hml;refine⟨_,run,?_⟩;simp only[aL];simp_all
   |false=>have:=qub hml;refine⟨_,run,?_⟩;refine⟨Nat.sub_le_sub_right r2 _,l,h1,?_⟩;rw[if_neg this];simp[Nat.add_assoc]
  ·trivial
 ·trivial
/- copies of a zero value -/
theorem ze8(l:List AV):bE l 0=[]:=rfl
theorem ze9(l:List AV)(k:Nat):bE l (k+1)=l++bE l k:=rfl
def gJ(l:List Value):Nat->List Value
 |0=>[]
 |k+1=>l++gJ l k
theorem qh2{l:List AV}{vs:List Value}(h:aI ι l vs):∀ k,aI ι (bE l k) (gJ vs k)
 |0=>by simp[ze8,gJ,aI]
 |k+1=>by rw[ze9,gJ];exact h.append (qh2 h k)
theorem qb5(l:List Value):∀ k,(gJ l k).length=k*l.length
 |0=>by simp[gJ]
 |k+1=>by rw[gJ,List.length_append,qb5 l k,Nat.add_mul];omega
theorem qgd{l:List Value}:∀{k:Nat} {v:Value},v∈gJ l k->v∈l
 |0,v,h=>by simp[gJ]at h
 |k+1,v,h=>by
  rw[gJ,List.mem_append]at h;rcases h with h|h
  ·exact h
  ·exact qgd h
theorem q4g(l:List Value):∀(k i:Nat),i<k*l.length->(gJ l k)[i]? =l[i%l.length]?
 |0,i,h=>by simp at h
 |k+1,i,h=>by
  rw[Nat.add_mul,Nat.one_mul]at h;rw[gJ];by_cases hi:i<l.length
  ·rw[List.getElem?_append_left hi,Nat.mod_eq_of_lt hi]
  ·rw[List.getElem?_append_right (by omega),q4g l k (i-l.length) (by omega)];congr 1;rw[<-Nat.mod_eq_sub_mod (by omega)]
theorem range_zero(Z:Array Value)(k s:Nat)(hs:Z.size=s):(Array.range (k*s)).map (fun i=>Z[i%Z.size]!)=(gJ Z.toList k).toArray:=by
 apply Array.ext';apply List.ext_getElem?;intro i;have ee:(gJ Z.toList k).toArray.toList=gJ Z.toList k:=by simp
 by_cases hi:i<k*s
 ·have hZ:Z.toList.length=s:=by simpa using hs
  rw[ee,q4g _ _ _ (by rw[hZ];exact hi),hZ];have hs0:0<s:=by
   rcases Nat.eq_zero_or_pos s with h|h
   ·simp[h]at hi
   ·exact h
  have hlt:i%s<Z.size:=by rw[hs];exact Nat.mod_lt _ hs0
  simp_all
 ·rw[List.getElem?_eq_none (by simpa using hi),List.getElem?_eq_none (by rw[ee,qb5];simp[hs];omega)]
theorem zfi(b:Nat):(askRoom b).run P w=.ok () w:=by simp
theorem znh{t e:TypeId}{x y:Operand}(ho:o.op=.makeSlice t x y)(ht:P.underlying t=some (.slice e)){z:List AV}(hz:qio P e=some z){b s:Nat}(hb:qij P e=some b)(hs:gU P e=some s)(hzs:z.length=s)(h:LR ι d n L a.tmps):gX P o a.eval ι w nm (qie z b nm ((aH d n x).f L) ((aH d n y).f L)):=by
 have hx:=dQ h x;have hy:=dQ h y;unfold qie;split
 ·rename_i k1 p k2 q e1 e2;rw[e1]at hx;rw[e2]at hy;simp only[aL]at hx hy;cases hc:(Nat.ble p q&&Nat.ble (Nat.mul q b) eY&&Nat.ble q eY)with
  |false=>trivial
  |true=>
   simp only[Bool.and_eq_true]at hc;obtain⟨⟨c1,c2⟩,c3⟩:=hc;have c1:=mX c1;have c2:q*b<=1099511627776:=mX c2;have c3:q<=1099511627776:=mX c3;obtain⟨zv,z1,z2,z3⟩:=qcl (ι:=ι) hz;obtain⟨ti,ti1,ti2⟩:=qs5 (P:=P) hb;have hzl:zv.cells.toList.length=s:=by rw[z2.length,hzs]
   have w1:IntKind.i64.wrap (p:Int)=p:=IntWalk.i64_in _ (by omega);have w2:IntKind.i64.wrap (q:Int)=q:=IntWalk.i64_in _ (by omega);have hmul:(ti.bytes:Int)*(q:Int)<=281474976710656:=by
    rw[ti2];have:((b*q:Nat):Int)<=281474976710656:=by rw[Nat.mul_comm];omega
    omega
   refine⟨.slice (some ⟨w.heap.size,0,none⟩) p q,w.alloc (.cells (gJ zv.cells.toList q).toArray e),⟨w.heap.size,0,0,0⟩,?_,New.alloc w _ 0 0,fun ι' hle hi=>⟨?_,qft (qh2 z2 q) (fun v hv=>z3 v (qgd hv)) e nm 0 ι' hle hi⟩⟩
   ·have hlt:¬((p:Int)<0):=by omega
    have hlt2:¬((q:Int)<0):=by omega
    have hle:¬((q:Int)<p):=by omega
    have hbig:¬((ti.bytes:Int)*(q:Int)>2 ^ 48):=by omega
    simp only[execOp,ho,Instr.makeSlice,Sem.run_bind,bP ht,Result.andThen_ok,hx,hy,asInt,asIntOf,Sem.run_pure,ti1,Int.ofNat_eq_natCast,w1,w2];simp only[hlt,hlt2,hle,hbig,decide_false,Bool.or_false,Bool.false_eq_true,if_false,gt_iff_lt,Sem.run_pure,Result.andThen_ok,Int.toNat_natCast,Sem.run_bind,zfi,mI hs,Sem.run_ite];by_cases h0:q*s=0
    ·have hr:(gJ zv.cells.toList q)=[]:=List.length_eq_zero_iff.1 (by rw[qb5,hzl,h0]);have e0:Array.map (fun _:Nat=>(default:Value)) (Array.range 0)= #[]:=by apply Array.ext';simp
     simp[h0,hr,newRow,e0]
    ·simp only[h0,if_false,qcr z1,Result.andThen_ok];rw[range_zero zv.cells q s (by simpa using hzl)];rfl
   ·simp only[aL];exact⟨c1,_,hi,by simp⟩
 ·trivial
/- aggregates: parts laid in -/
theorem q7x{v:AV}{V:Value}(h:aL ι v V){l:List AV}(hl:xP v=some l):aI ι l V.cells.toList/\∀ x∈V.cells.toList,x.oneCell=true:=by
 unfold xP at hl;split at hl
 ·simp only[Option.some.injEq]at hl;subst hl;obtain⟨vs,h1,rfl,h3⟩:=xK h;trivial
 ·cases hl
 ·cases hl
 ·cases hl
 ·rename_i hn1 hn2 w9 hn4;simp only[Option.some.injEq]at hl;subst hl;have hp:v.plain=true:=by
   unfold AV.plain;split
   ·simp_all
   ·simp_all
   ·trivial
   ·simp_all
   ·rfl
  obtain⟨h1,h2⟩:=h.one hp;rw[h2];exact⟨aI.singleton h,by simpa using h1⟩
theorem zoq:∀(l:List Value) (C:Array Value) (off k:Nat),off+k+l.length<=C.size -> ((l.zipIdx k).foldl (fun cs (x:Value×Nat)=>cs.setIfInBounds (off+x.2) x.1) C).toList=C.toList.take (off+k)++l++C.toList.drop (off+k+l.length):=by
 intro l
 induction l with
 |nil=>intro C off k h;simp
 |cons v l ih=>
  intro C off k h;rw[List.length_cons]at h;rw[List.zipIdx_cons,List.foldl_cons,ih _ _ _ (by simp;omega)];simp only[Array.toList_setIfInBounds,List.length_cons];have hlt:off+k<C.toList.length:=by simp;omega
  rw[List.drop_set_of_lt (by omega),show off+(k+1)=(off+k)+1 by omega,List.take_succ_eq_append_getElem (by simpa using hlt)];rw[List.take_set_of_le (Nat.le_refl _)];simp only[List.getElem_set_self,List.append_assoc,List.cons_append,List.nil_append];rw[show off+k+1+l.length=off+k+(l.length+1)by omega]
theorem q6o{c:List AV}{C:Array Value}(hc:aI ι c C.toList)(h1:∀ v∈C.toList,v.oneCell=true){v:AV}{V:Value}(hv:aL ι v V){l c':List AV}(hl:xP v=some l){off size:Nat}(h:qma c off size l=some c'):V.cells.size=size/\off+V.cells.size<=C.size/\aI ι c' (V.cells.zipIdx.foldl (fun cs (x:Value×Nat)=>cs.setIfInBounds (off+x.2) x.1) C).toList /\ (∀x∈(V.cells.zipIdx.foldl (fun cs (x:Value×Nat)=>cs.setIfInBounds (off+x.2) x.1) C).toList,x.oneCell=true):=by
 obtain⟨v1,v2⟩:=q7x hv hl;unfold qma at h;cases hb:(Nat.beq l.length size&&Nat.ble (off+size) c.length)with
 |false=>rw[hb]at h;cases h
 |true=>
  rw[hb]at h;simp only[cond_true,Option.some.injEq]at h;subst h;simp only[Bool.and_eq_true]at hb;have b1:=sJ hb.1;have b2:=mX hb.2;have e1:V.cells.size=size:=by have:=v1.length;simpa [b1] using this
  have e2:C.size=c.length:=by simpa using hc.length
  have hf:(V.cells.zipIdx.foldl (fun cs (x:Value×Nat)=>cs.setIfInBounds (off+x.2) x.1) C).toList=C.toList.take off++V.cells.toList++C.toList.drop (off+size):=by rw[<-Array.foldl_toList,Array.toList_zipIdx,zoq _ _ _ _ (by simp;omega)];simp[e1]
  rw[hf];refine⟨e1,by omega,(((hc.take off).append v1).append (hc.drop (off+size))),fun x hx=>?_⟩;simp only[List.mem_append]at hx;rcases hx with(hx|hx)|hx
  ·exact h1 x (List.mem_of_mem_take hx)
  ·exact v2 x hx
  ·exact h1 x (List.mem_of_mem_drop hx)
def aBt(ι:Im)(place:Nat->Option (Nat×Nat)):List (Nat×Nat×AV)->List (Nat×Value)->Prop
 | [],ps=>ps=[]
 |(off,size,v)::l,ps=>∃ i V r,ps=(i,V)::r/\place i=some (off,size)/\aL ι v V/\aBt ι place l r
theorem qh8(h:LR ι d n L a.tmps)(place:Nat->Option (Nat×Nat)):∀(ps:List (Nat×Operand)) (r:RdP d),qny d n place ps=some r->aBt ι place (r.f L) (ps.map fun(i,x)=>(i,a.eval x))
 | [],r,hr=>by simp only[qny,Option.some.injEq]at hr;subst hr;simp[aBt]
 |(i,x)::ps,r,hr=>by
  simp only[qny]at hr;split at hr
  ·rename_i off size g h' e1 e2 e3;simp only[Option.some.injEq]at hr;subst hr;refine⟨i,a.eval x,_,rfl,e1,?_,?_⟩
   ·have:=dQ h x;rw[e2]at this;exact this
   ·exact qh8 h place ps _ e3
  ·cases hr
theorem qey{place:Nat->Option (Nat×Nat)}:∀{l:List (Nat×Nat×AV)} {ps:List (Nat×Value)} {c c':List AV} {C:Array Value},aBt ι place l ps->aI ι c C.toList->(∀v∈C.toList,v.oneCell=true)->bU c l=some c' -> ∃C',Instr.fill place C ps=some C'/\aI ι c' C'.toList/\∀ v∈C'.toList,v.oneCell=true
 | [],ps,c,c',C,hp,hc,h1,h=>by simp only[aBt]at hp;subst hp;simp only[bU,Option.some.injEq]at h;subst h;exact⟨C,rfl,hc,h1⟩
 |(off,size,v)::l,ps,c,c',C,hp,hc,h1,h=>by
  obtain⟨i,V,r,rfl,hpl,hv,hr⟩:=hp;simp only[bU]at h;split at h
  ·rename_i lv hlv;split at h
   ·rename_i c1 hc1;obtain⟨a1,a2,a3,a4⟩:=q6o hc h1 hv hlv hc1;obtain⟨C',b1,b2,b3⟩:=qey hr a3 a4 h;refine⟨C',?_,b2,b3⟩;simp only[Instr.fill,hpl];simp_all
   ·cases h
  ·cases h
theorem znm{t e:TypeId}{ps:Array (Nat×Operand)}(ho:o.op=.build t ps){len:Nat}(ht:P.underlying t=some (.array len e)){z:List AV}(hz:qio P t=some z){s:Nat}(hs:gU P e=some s){r:RdP d}(hr:qny d n (fun i=>some (i*s,s)) ps.toList=some r)(h:LR ι d n L a.tmps):gX P o a.eval ι w nm (cO (bU z (r.f L))):=by
 obtain⟨zv,z1,z2,z3⟩:=qcl (ι:=ι) hz;cases hp:bU z (r.f L)with
 |none=>trivial
 |some c=>obtain⟨C',b1,b2,b3⟩:=qey (qh8 h _ _ _ hr) z2 z3 hp;refine⟨.agg C',?_,by simp only[aL];exact⟨_,b2,by simp,b3⟩⟩;simp only[execOp,ho,Instr.build,Sem.run_bind,qcr z1,Result.andThen_ok,bP ht,mI hs,Array.toList_map,b1];rfl
theorem qme(fs:List Field)(h:∀ f∈fs,(gU P f.type).isSome=true):∀(acc:Array (Nat×Nat)), (List.foldlM (fun(bs:Array (Nat×Nat)) (f:Field)=>do let y<-(do pure (f.offset,<-sizeOf f.type):Sem (Nat×Nat));pure (bs.push y)) acc fs).run P w =
   .ok (acc++(fs.map fun f=>(f.offset,(gU P f.type).getD 0)).toArray) w:=by
 induction fs with
 |nil=>intro acc;simp
 |cons f fs ih=>intro acc;obtain⟨s,hs⟩:=Option.isSome_iff_exists.1 (h f (by simp));rw[List.foldlM_cons];simp only[Sem.run_bind,mI hs,Result.andThen_ok,Sem.run_pure];simp_all
theorem znl{t:TypeId}{ps:Array (Nat×Operand)}(ho:o.op=.build t ps){fs:Array Field}(ht:P.underlying t=some (.struct fs)){z:List AV}(hz:qio P t=some z)(hfs:fs.toList.all (fun f=>(gU P f.type).isSome)=true){r:RdP d}(hr:qny d n (qe9 P fs) ps.toList=some r)(h:LR ι d n L a.tmps):gX P o a.eval ι w nm (cO (bU z (r.f L))):=by
 obtain⟨zv,z1,z2,z3⟩:=qcl (ι:=ι) hz;cases hp:bU z (r.f L)with
 |none=>trivial
 |some c=>
  have hall:∀ f∈fs.toList,(gU P f.type).isSome=true:=fun f hf=>List.all_eq_true.1 hfs f hf;obtain⟨C',b1,b2,b3⟩:=qey (qh8 h _ _ _ hr) z2 z3 hp;refine⟨.agg C',?_,by simp only[aL];exact⟨_,b2,by simp,b3⟩⟩;have hpl:(fun i=>(fs.map fun f=>(f.offset,(gU P f.type).getD 0))[i]?)=qe9 P fs:=by
   funext i;unfold qe9;rw[Array.getElem?_map];cases hf:fs[i]? with
   |none=>rfl
   |some f=>
    have hm:f∈fs.toList:=by simpa using Array.mem_of_getElem? hf
    obtain⟨s,hs⟩:=Option.isSome_iff_exists.1 (hall f hm);simp[hs]
  have hmap:(fs.mapM fun f=>(do pure (f.offset,<-sizeOf f.type):Sem (Nat×Nat))).run P w=.ok (fs.map fun f=>(f.offset,(gU P f.type).getD 0)) w:=by rw[Array.mapM_eq_foldlM,<-Array.foldlM_toList];have:=qme (P:=P) (w:=w) fs.toList hall #[];simp only[bind_pure_comp]at this ⊢;rw[this];congr 1;apply Array.ext';simp
  simp only[execOp,ho,Instr.build,Sem.run_bind,qcr z1,Result.andThen_ok,bP ht,hmap,Array.toList_map];simp_all
end Go.Ev
end
