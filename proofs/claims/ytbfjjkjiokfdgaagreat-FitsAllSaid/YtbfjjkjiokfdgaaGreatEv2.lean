/-
 For countersign/countersignlaw20.FitsAll: the evaluator and its soundness, part 2 of 4: what a run of the abstract evaluator answers, the model's run answers, in every world and on every schedule. No conditions beyond those that each theorem states.
-/
import Derived.Test.YtbfjjkjiokfdgaaGreatEv1
import Derived.Laws.NewFold
import Derived.Lib.Bytealg
import Derived.KernelRfl
import Derived.CallsIn
import Derived.OrdersIn
import Derived.TacticsIn
import Derived.RangeFuncLeaves
section
namespace Go.Ev
open Go.RowKit
variable {P:Program} {w:World} {ι:Im} {o:Oper} {a:Act} {nm:Nat} {d n:Nat} {L:TT AV d} {H:Hp}
theorem qyz{t e:TypeId}{len:Nat}{ps:Array (Nat×Operand)}(ho:o.op=.buildSlice t len ps)(ht:P.underlying t=some (.slice e)){z:List AV}(hz:qj1 P e=some z){s:Nat}(hs:gX P e=some s)(hzs:z.length=s)(hls:len*s<=65536){r:RdP d}(hr:qqb d n (fun i=>some (i*s,s)) ps.toList=some r)(h:LR ι d n L a.tmps):iA P o a.eval ι w nm (sZ len nm (bK (aV z len) (r.f L))):=by
 obtain⟨zv,z1,z2,z3⟩:=qcs (ι:=ι) hz;have hzl:zv.cells.toList.length=s:=by rw[z2.length,hzs]
 cases hp:bK (aV z len) (r.f L)with
 |none=>trivial
 |some c=>
  obtain⟨C',b1,b2,b3⟩:=qfj (C:=(gT zv.cells.toList len).toArray) (qjl h _ _ _ hr) (by simpa using qjg z2 len) (fun v hv=>z3 v (qg6 (by simpa using hv))) hp;refine⟨.slice (some ⟨w.heap.size,0,none⟩) len len,w.alloc (.cells C'.toList.toArray e),⟨w.heap.size,0,0,0⟩,?_,New.alloc w _ 0 0,fun ι' hle hi=>⟨?_,qgl b2 b3 e nm 0 ι' hle hi⟩⟩
  ·have hbig:¬(len*s>2 ^ 24):=by omega
   simp only[execOp,ho,Instr.buildSlice,Sem.run_bind,bU ht,Result.andThen_ok,nJ hs,kz hbig,Sem.run_pure,og,Sem.run_ite];by_cases h0:len*s=0
   ·have hr0:(gT zv.cells.toList len)=[]:=ry.1 (by rw[qcd,hzl,h0]);rw[hr0]at b1;have e0:Array.map (fun x=>(#[]:Array Value)[x%(#[]:Array Value).size]!) (Array.range 0)= #[]:=by apply Array.ext';simp
    simp only[h0,ik];rw[e0,b1];rfl
   ·simp only[h0,lA4,qcz z1,Result.andThen_ok];rw[range_zero zv.cells len s (by simpa using hzl),b1];rfl
  ·simp only[aL];exact⟨lg _,_,hi,by simp⟩
theorem z1a{t:TypeId}{x:Operand}{f:Nat}(ho:o.op=.field t x f){fs:Array Field}(ht:P.underlying t=some (.struct fs)){fl:Field}(hf:fs[f]? =some fl)(h:LR ι d n L a.tmps):iA P o a.eval ι w nm (q9l (qlq P fl.type) fl.offset ((aG d n x).f L)):=by
 have hx:=dU h x;unfold q9l;split
 ·rename_i l e;rw[e]at hx;obtain⟨vs,h1,h2,h3⟩:=y7 hx;split
  ·rename_i v hv;obtain⟨V,r,hV⟩:=qku h1 h3 hv;exact⟨V,by simp[execOp,ho,Instr.field,bU ht,hf,h2,asAgg,r],hV⟩
  ·trivial
 ·trivial
theorem z6b{t e:TypeId}{x y:Operand}(ho:o.op=.index t x y){len:Nat}(ht:P.underlying t=some (.array len e)){z:Nat}(hz:gX P e=some z)(h:LR ι d n L a.tmps):iA P o a.eval ι w nm (aGJ (qlq P e) len z ((aG d n x).f L) ((aG d n y).f L)):=by
 have hx:=dU h x;have hy:=dU h y;unfold aGJ;split
 ·rename_i l k i e1 e2;rw[e1]at hx;rw[e2]at hy;simp only[aL]at hy;obtain⟨vs,h1,h2,h3⟩:=y7 hx;cases hi:Nat.blt i len with
  |false=>trivial
  |true=>
   have hi':=uL hi;split
   ·rename_i v hv;obtain⟨V,r,hV⟩:=qku h1 h3 hv;refine⟨V,?_,hV⟩;have r':∀ w,(part e vs.toArray (i*z)).run P w=.ok V w:=r;simp[execOp,ho,Instr.index,bU ht,h2,hy,asIntOf,nJ hz,hi',r']
   ·trivial
 ·trivial
/- len, cap, min, max -/
theorem qsj{x:Operand}{t:TypeId}{m:Nat}(ho:o.op=.call {callee:=.builtin .len,args:= #[x],argTypes:= #[t]})(ht:(∃e,P.underlying t=some (.array m e))\/∃ arr e,P.underlying t=some (.pointer arr)/\P.underlying arr=some (.array m e)):iA P o a.eval ι w nm (.val (i64 m)):=by
 refine⟨_,?_,uT _ _⟩;rcases ht with⟨e,ht⟩|⟨arr,e,ht,ha⟩
 ·simp[execOp,ho,resolve,invoke,builtin,Builtin.len_,bU ht,goInt]
 ·simp[execOp,ho,resolve,invoke,builtin,Builtin.len_,bU ht,bU ha,goInt]
theorem za3{x:Operand}{t:TypeId}{m:Nat}(ho:o.op=.call {callee:=.builtin .cap,args:= #[x],argTypes:= #[t]})(ht:∃ e,P.underlying t=some (.array m e)):iA P o a.eval ι w nm (.val (i64 m)):=by refine⟨_,?_,uT _ _⟩;obtain⟨e,ht⟩:=ht;simp[execOp,ho,resolve,invoke,builtin,Builtin.cap_,bU ht,goInt]
theorem zr9{x:Operand}{t:TypeId}(ho:o.op=.call {callee:=.builtin .len,args:= #[x],argTypes:= #[t]})(ht:P.underlying t=some .string)(h:LR ι d n L a.tmps):iA P o a.eval ι w nm (oL ((aG d n x).f L)):=by
 have hx:=dU h x;unfold oL;split
 ·rename_i e;rw[e]at hx;simp only[aL]at hx;obtain⟨s,h1,h2,_⟩:=hx;refine⟨_,?_,uT _ _⟩;have:s.size=_:=h2;simp[execOp,ho,resolve,invoke,builtin,Builtin.len_,bU ht,goInt,h1,this]
 ·trivial
theorem z09{x:Operand}{t e:TypeId}(ho:o.op=.call {callee:=.builtin .len,args:= #[x],argTypes:= #[t]})(ht:P.underlying t=some (.slice e))(h:LR ι d n L a.tmps):iA P o a.eval ι w nm (aD ((aG d n x).f L)):=by
 have hx:=dU h x;unfold aD;split
 ·rename_i e;rw[e]at hx;simp only[aL]at hx;obtain⟨_,l,_,h1⟩:=hx;exact⟨_,by simp[execOp,ho,resolve,invoke,builtin,Builtin.len_,bU ht,goInt,h1],uT _ _⟩
 ·rename_i e;rw[e]at hx;simp only[aL]at hx;exact⟨_,by simp[execOp,ho,resolve,invoke,builtin,Builtin.len_,bU ht,goInt,hx],uT _ _⟩
 ·rename_i e;rw[e]at hx;simp only[aL]at hx;obtain⟨_,_,h1⟩:=hx;exact⟨_,by simp[execOp,ho,resolve,invoke,builtin,Builtin.len_,bU ht,goInt,h1],uT _ _⟩
 ·trivial
theorem bY.length:∀{es:List lD} {ES:List MapEntry},bY ι es ES->ES.length=es.length
 | [],ES,h=>by simp only[bY]at h;subst h;rfl
 |x::es,ES,h=>by obtain⟨e,r,rfl,_,_,_,h5⟩:=h;simp[bY.length h5]
theorem z6a{x:Operand}{t k e:TypeId}(ho:o.op=.call {callee:=.builtin .len,args:= #[x],argTypes:= #[t]})(ht:P.underlying t=some (.map k e))(hH:HR ι H w)(h:LR ι d n L a.tmps):iA P o a.eval ι w nm (aAe H ((aG d n x).f L)):=by
 have hx:=dU h x;unfold aAe;split
 ·rename_i e;rw[e]at hx;simp only[aL]at hx;exact⟨_,by simp[execOp,ho,resolve,invoke,builtin,Builtin.len_,bU ht,goInt,hx],uT _ _⟩
 ·rename_i m e;rw[e]at hx;simp only[aL]at hx;obtain⟨l,h1,h2⟩:=hx;have hb:=hH.blk m (hH.lt h1);split
  ·rename_i es clock hg;rw[hg]at hb;obtain⟨l',ES,h3,h4,h5⟩:=hb;rw[h1]at h3;cases h3;have hl:=h5.length;refine⟨_,?_,uT _ _⟩;simp[execOp,ho,resolve,invoke,builtin,Builtin.len_,bU ht,goInt,h2,getObj,Sem.run,h4,hl]
  ·trivial
 ·trivial
theorem z1e{x:Operand}{t e:TypeId}(ho:o.op=.call {callee:=.builtin .cap,args:= #[x],argTypes:= #[t]})(ht:P.underlying t=some (.slice e))(h:LR ι d n L a.tmps):iA P o a.eval ι w nm (gW ((aG d n x).f L)):=by
 have hx:=dU h x;unfold gW;split
 ·rename_i e;rw[e]at hx;simp only[aL]at hx;obtain⟨_,l,_,h1⟩:=hx;exact⟨_,by simp[execOp,ho,resolve,invoke,builtin,Builtin.cap_,bU ht,goInt,h1],uT _ _⟩
 ·rename_i e;rw[e]at hx;simp only[aL]at hx;exact⟨_,by simp[execOp,ho,resolve,invoke,builtin,Builtin.cap_,bU ht,goInt,hx],uT _ _⟩
 ·trivial
theorem q9b:∀(l:List AV) (ls:List Value) (x:AV) (X:Value) (v:AV),aI ι l ls->aL ι x X->qE oI x l=.val v->∃ V,(ls.foldlM Builtin.min2 X).run P w=.ok V w/\aL ι v V
 | [],ls,x,X,v,hl,hx,h=>by simp only[aI]at hl;subst hl;have h:R0.val x=.val v:=h;cases h;exact⟨X,by simp,hx⟩
 |y::l,ls,x,X,v,hl,hx,h=>by
  obtain⟨Y,r,rfl,hy,hr⟩:=hl;have h:(match oI x y with| .val z=>qE oI z l|_=>.bad)=.val v:=h;split at h
  ·rename_i z hz;have hm:∃ Z,(Builtin.min2 X Y).run P w=.ok Z w/\aL ι z Z:=by
    unfold oI at hz;split at hz
    ·simp only[R0.val.injEq]at hz;subst hz;simp only[aL]at hx hy;subst hx hy;refine⟨_,rfl,?_⟩;simp only[aL,qei];split<;>rename_i hlt<;>simp[hlt]
    ·cases hz
   obtain⟨Z,z1,z2⟩:=hm;obtain⟨V,v1,v2⟩:=q9b l r z Z v hr z2 h;exact⟨V,by rw[List.foldlM_cons,Sem.run_bind,z1];exact v1,v2⟩
  ·cases h
theorem q9c:∀(l:List AV) (ls:List Value) (x:AV) (X:Value) (v:AV),aI ι l ls->aL ι x X->qE qC x l=.val v->∃ V,(ls.foldlM Builtin.max2 X).run P w=.ok V w/\aL ι v V
 | [],ls,x,X,v,hl,hx,h=>by simp only[aI]at hl;subst hl;have h:R0.val x=.val v:=h;simp_all
 |y::l,ls,x,X,v,hl,hx,h=>by
  obtain⟨Y,r,rfl,hy,hr⟩:=hl;have h:(match qC x y with| .val z=>qE qC z l|_=>.bad)=.val v:=h;split at h
  ·rename_i z hz;have hm:∃ Z,(Builtin.max2 X Y).run P w=.ok Z w/\aL ι z Z:=by
    unfold qC at hz;split at hz
    ·simp only[R0.val.injEq]at hz;subst hz;simp only[aL]at hx hy;subst hx hy;refine⟨_,rfl,?_⟩;simp only[aL,qei];simp
    ·cases hz
   obtain⟨Z,z1,z2⟩:=hm;obtain⟨V,v1,v2⟩:=q9c l r z Z v hr z2 h;exact⟨V,by rw[List.foldlM_cons,Sem.run_bind,z1];exact v1,v2⟩
  ·cases h
theorem qk0(g:AV->AV->R0):∀(l:List AV) (x:AV),qE g x l=.bad\/∃ v,qE g x l=.val v
 | [],x=>.inr ⟨x,rfl⟩
 |y::l,x=>by
  show(match g x y with| .val z=>qE g z l|_=>.bad)=.bad\/∃ v,(match g x y with| .val z=>qE g z l|_=>.bad)=.val v;split
  ·exact qk0 g l _
  ·simp
theorem aLY{x:Operand}{r:List Operand}{ts:Array TypeId}(ho:o.op=.call {callee:=.builtin .min,args:=(x::r).toArray,argTypes:=ts})(h:LR ι d n L a.tmps):iA P o a.eval ι w nm (qE oI ((aG d n x).f L) ((tO d n r).f L)):=by
 rcases qk0 oI ((tO d n r).f L) ((aG d n x).f L)with hf|⟨v,hf⟩
 ·rw[hf];trivial
 ·obtain⟨V,v1,v2⟩:=q9b (P:=P) (w:=w) _ _ _ _ v (qct h r) (dU h x) hf;rw[hf];refine⟨V,?_,v2⟩;simp[execOp,ho,resolve,invoke,builtin,Builtin.min_,v1]
theorem aNv{x:Operand}{r:List Operand}{ts:Array TypeId}(ho:o.op=.call {callee:=.builtin .max,args:=(x::r).toArray,argTypes:=ts})(h:LR ι d n L a.tmps):iA P o a.eval ι w nm (qE qC ((aG d n x).f L) ((tO d n r).f L)):=by
 rcases qk0 qC ((tO d n r).f L) ((aG d n x).f L)with hf|⟨v,hf⟩
 ·rw[hf];trivial
 ·obtain⟨V,v1,v2⟩:=q9c (P:=P) (w:=w) _ _ _ _ v (qct h r) (dU h x) hf;rw[hf];refine⟨V,?_,v2⟩;simp[execOp,ho,resolve,invoke,builtin,Builtin.max_,v1]
/- keys -/
theorem qpz(em:Bool):∀(D:Nat) (t:TypeId),qws P D t=true->∀(D':Nat),D<=D'->∀(K:Value),(p8 P t=some true->∃ vs:List Value,K=.agg vs.toArray/\gX P t=some vs.length)->∀ w,(Instr.checkKey em D' t K).run P w=.ok () w:=by
 intro D
 induction D with
 |zero=>intro t h;simp[qws]at h
 |succ D ih=>
  intro t h D' hD K hK w;obtain⟨E,rfl⟩:∃ E,D'=E+1:=⟨D'-1,by omega⟩;have pk:∀(u:TypeId) (m:Nat),gX P u=some m->0<m->qws P D u=true->∀(vs:List Value) (off:Nat),off+m<=vs.length->∀ w,((do let p<-part u vs.toArray off;Instr.checkKey em E u p):Sem Unit).run P w=.ok () w:=by
   intro u m hu h0 hk vs off hle w;rw[Sem.run_bind];cases ha:p8 P u with
   |none=>
    unfold p8 at ha;cases hun:P.underlying u with
    |none=>cases D<;>simp[qws,hun]at hk
    |some _=>rw[hun]at ha;cases ha
   |some b=>
    cases b with
    |true=>
     have:(part u vs.toArray off).run P w=.ok (.agg ((vs.drop off).take m).toArray) w:=by simp[part,qgh ha,nJ hu]
     rw[this,Result.andThen_ok];refine ih u hk E (by omega) _ (fun _=>⟨_,rfl,?_⟩) w;rw[hu];simp;omega
    |false=>
     have hlt:off<vs.length:=by omega
     have:(part u vs.toArray off).run P w=.ok vs[off] w:=by simp[part,qgh ha,hlt]
     rw[this,Result.andThen_ok];exact ih u hk E (by omega) _ (fun h'=>by rw[ha]at h';cases h') w
  rw[qws]at h;split at h
  ·rename_i ht _;unfold Instr.checkKey;simp[bU ht]
  ·rename_i ht _;unfold Instr.checkKey;simp[bU ht]
  ·rename_i ht _;unfold Instr.checkKey;simp[bU ht]
  ·rename_i fs N ht hN;obtain⟨vs,rfl,hvs⟩:=hK (by simp[p8,ht]);have hN':N=vs.length:=by rw[hN]at hvs;simpa using hvs
   unfold Instr.checkKey;simp only[Sem.run_bind,bU ht,Result.andThen_ok];have hall:=yc.1 h;have loop:∀(l:List Field),(∀f∈l,f∈fs.toList)->∀ w,(forIn l () fun f _=>(do
     if f.name ≠ "_" then(do let p<-part f.type vs.toArray f.offset;Instr.checkKey em E f.type p;pure (ForInStep.yield ()))else pure (ForInStep.yield ()):Sem (ForInStep Unit))).run P w= .ok () w:=by
    intro l
    induction l with
    |nil=>intro _ w;simp
    |cons f l ihl=>
     intro hl w;have hf:=hall f (hl f (by simp));rw[lE6];split at hf
     ·rename_i m hm;simp only[pq]at hf;obtain⟨⟨f1,f2⟩,f3⟩:=hf;have r:=pk f.type m hm (uL f3) f2 vs f.offset (by have:=oH f1;omega)
      by_cases hn:f.name = "_"
      ·simp only[hn,ne_eq,not_true_eq_false,lA4,pure_bind];exact ihl (fun g hg=>hl g (by simp[hg])) w
      ·simp only[ne_eq,hn,not_false_eq_true,ik,bind_assoc,pure_bind];rw[<-bind_assoc,Sem.run_bind,r w,Result.andThen_ok];exact ihl (fun g hg=>hl g (by simp[hg])) w
     ·cases hf
   have:=loop fs.toList (fun f hf=>hf) w;simp at this ⊢
   erw [this]
   rfl
  ·rename_i len e N ht hN;obtain⟨vs,rfl,hvs⟩:=hK (by simp[p8,ht]);have hN':N=vs.length:=by rw[hN]at hvs;simpa using hvs
   split at h
   ·rename_i m hm;simp only[pq]at h;obtain⟨⟨f1,f2⟩,f3⟩:=h;have f1:=oH f1;unfold Instr.checkKey;simp only[Sem.run_bind,bU ht,Result.andThen_ok,Std.Legacy.Range.forIn_eq_forIn_range',Std.Legacy.Range.size,Nat.sub_zero,lA6,Nat.div_one];have loop:∀(k i:Nat),i+k<=len->∀ w,(forIn (List.range' i k) () fun i _=>(do
      let s<-sizeOf e;let p<-part e vs.toArray (i*s);Instr.checkKey em E e p;pure (ForInStep.yield ()):Sem (ForInStep Unit))).run P w=.ok () w:=by
     intro k
     induction k with
     |zero=>intro i _ w;simp
     |succ k ihk=>
      intro i hi w;have hle:i*m+m<=vs.length:=by have h1:(i+1)*m<=len*m:=uz m (by omega);rw[xh,au]at h1;omega
      have r:=pk e m hm (uL f3) f2 vs (i*m) hle;rw[List.range'_succ,lE6];simp only[bind_assoc,pure_bind];rw[Sem.run_bind,nJ hm,Result.andThen_ok,<-bind_assoc,Sem.run_bind,r w,Result.andThen_ok];exact ihk (i+1) (by omega) w
    have:=loop len 0 (by omega) w;simp at this ⊢
    erw [this]
    rfl
   ·cases h
  ·cases h
theorem bY.get:∀{es:List lD} {ES:List MapEntry},bY ι es ES->∀(i:Nat) (x:lD),es[i]? =some x->∃ e,ES[i]? =some e/\aL ι x.key e.key/\aL ι x.val e.val/\e.born=x.born
 | [],ES,h,i,x,hi=>by simp at hi
 |y::es,ES,h,i,x,hi=>by
  obtain⟨e,r,rfl,h1,h2,h3,h4⟩:=h;cases i with
  |zero=>simp at hi;subst hi;exact⟨e,rfl,h1,h2,h3⟩
  |succ i=>simp at hi;obtain⟨e',a1,a2⟩:=bY.get h4 i x hi;exact⟨e',by simpa using a1,a2⟩
def q58(ι:Im)(es:List lD)(ES:List MapEntry):Option zS->Option (Nat×Value)->Prop
 |none,R=>R=none
 |some h,R=>∃ V E,R=some (h.i,V)/\es[h.i]? =some h.x/\ES[h.i]? =some E/\aL ι h.x.key E.key/\aL ι h.x.val V/\E.val=V/\E.born=h.x.born
theorem qfu{e:AV->AV->Option Bool}{k:AV}:∀(es:List lD) (i:Nat) (r:Option zS),xQ e k es i=some r->∀ h,r=some h->i<=h.i/\es[h.i-i]? =some h.x
 | [],i,r,hr,h,hh=>by have hr:(some none:Option (Option zS))=some r:=hr;simp_all
 |x::es,i,r,hr,h,hh=>by
  have hr:(match e k x.key with|some true=>some (some ⟨i,x⟩)|some false=>xQ e k es (i+1)|none=>none)=some r:=hr;split at hr
  ·simp only[qh]at hr;subst hr;cases hh;exact⟨lg _,by simp⟩
  ·obtain⟨h1,h2⟩:=qfu es (i+1) r hr h hh;refine⟨by omega,?_⟩;rw[show h.i-i=(h.i-(i+1))+1 by omega,yu];exact h2
  ·cases hr
theorem qs2{td:TypeDesc}{e:AV->AV->Option Bool}{k:AV}{K:Value}(hs:∀ x X b,e k x=some b->aL ι x X->Instr.sameNow td K X=some b):∀(es:List lD) (ES:List MapEntry) (i:Nat) (r:Option zS),bY ι es ES->xQ e k es i=some r -> ∃R,Instr.findNow td K ES i=some R/\(r=none->R=none)/\∀ h,r=some h->∃ E,ES[h.i-i]? =some E/\R=some (h.i,E.val)
 | [],ES,i,r,hE,hr=>by have hr:(some none:Option (Option zS))=some r:=hr;cases hr;simp only[bY]at hE;subst hE;exact⟨none,rfl,fun _=>rfl,fun h hh=>by cases hh⟩
 |x::es,ES,i,r,hE,hr=>by
  obtain⟨E,rr,rfl,h1,h2,h3,h4⟩:=hE;have hr:(match e k x.key with|some true=>some (some ⟨i,x⟩)|some false=>xQ e k es (i+1)|none=>none)=some r:=hr;split at hr
  ·rename_i hb;simp only[qh]at hr;subst hr;refine⟨some (i,E.val),by simp[Instr.findNow,hs _ _ _ hb h1],(fun h=>by cases h),fun h hh=>?_⟩;cases hh;exact⟨E,by simp,rfl⟩
  ·rename_i hb;obtain⟨R,r1,r2,r3⟩:=qs2 hs es rr (i+1) r h4 hr;refine⟨R,by simp[Instr.findNow,hs _ _ _ hb h1,r1],r2,fun h hh=>?_⟩;obtain⟨E',e1,e2⟩:=r3 h hh;obtain⟨g1,_⟩:=qfu es (i+1) r hr h hh;exact⟨E',by rw[show h.i-i=(h.i-(i+1))+1 by omega,yu];exact e1,e2⟩
  ·cases hr
theorem qs4{kt:TypeId}{e:AV->AV->Option Bool}{k:AV}{K:Value}(hs:∀ x X b,e k x=some b->aL ι x X->∀ w,(Op.equal kt K X).run P w=.ok b w):∀(es:List lD) (ES:List MapEntry) (i:Nat) (r:Option zS),bY ι es ES->xQ e k es i=some r -> ∃R,(∀w,(Instr.findAsking kt K ES i).run P w=.ok R w)/\(r=none->R=none)/\∀ h,r=some h->∃ E,ES[h.i-i]? =some E/\R=some (h.i,E.val)
 | [],ES,i,r,hE,hr=>by have hr:(some none:Option (Option zS))=some r:=hr;cases hr;simp only[bY]at hE;subst hE;exact⟨none,fun _=>rfl,fun _=>rfl,fun h hh=>by cases hh⟩
 |x::es,ES,i,r,hE,hr=>by
  obtain⟨E,rr,rfl,h1,h2,h3,h4⟩:=hE;have hr:(match e k x.key with|some true=>some (some ⟨i,x⟩)|some false=>xQ e k es (i+1)|none=>none)=some r:=hr;split at hr
  ·rename_i hb;simp only[qh]at hr;subst hr;refine⟨some (i,E.val),fun w=>by simp[Instr.findAsking,hs _ _ _ hb h1],(fun h=>by cases h),fun h hh=>?_⟩;cases hh;exact⟨E,by simp,rfl⟩
  ·rename_i hb;obtain⟨R,r1,r2,r3⟩:=qs4 hs es rr (i+1) r h4 hr;refine⟨R,fun w=>by simp[Instr.findAsking,hs _ _ _ hb h1,r1],r2,fun h hh=>?_⟩;obtain⟨E',e1,e2⟩:=r3 h hh;obtain⟨g1,_⟩:=qfu es (i+1) r hr h hh;exact⟨E',by rw[show h.i-i=(h.i-(i+1))+1 by omega,yu];exact e1,e2⟩
  ·cases hr
theorem qfs{kt:TypeId}{ky:Ky}(hky:rY P kt=some ky){k:AV}{K:Value}(hK:aL ι k K){es:List lD}{ES:List MapEntry}(hE:bY ι es ES){r:Option zS}(h:qqe ky k es=some r):(∀em w,(Instr.checkKey em 10000 kt K).run P w=.ok () w)/\∃ R,(∀w,(Instr.findKey kt K ES).run P w=.ok R w)/\q58 ι es ES r R:=by
 unfold qqe at h;cases hf:qii ky.s k with
 |false=>rw[hf]at h;cases h
 |true=>
  rw[hf]at h;simp only[qy]at h;have hq:=zw0 (P:=P) (ι:=ι) qc7 kt;have fin:∀ R:Option (Nat×Value),(r=none->R=none)->(∀h,r=some h->∃ E,ES[h.i-0]? =some E/\R=some (h.i,E.val))->q58 ι es ES r R:=by
   intro R h1 h2;cases r with
   |none=>exact h1 rfl
   |some hh=>obtain⟨E,e1,e2⟩:=h2 hh rfl;rw[Nat.sub_zero]at e1;obtain⟨_,g2⟩:=qfu es 0 _ h hh rfl;rw[Nat.sub_zero]at g2;obtain⟨E',a1,a2,a3,a4⟩:=hE.get _ _ g2;rw[e1]at a1;cases a1;exact⟨E.val,E,e2,g2,e1,a2,a3,rfl,a4⟩
  unfold rY at hky;have ask:∀(e:AV->AV->Option Bool),wC P qc7 kt=⟨e⟩->ky.e=e->∀ x X b,ky.e k x=some b->aL ι x X->∀ w,(Op.equal kt K X).run P w=.ok b w:=by intro e he hke x X b hb hx w;rw[hke]at hb;rw[he]at hq;exact hq k x K X b hb hK hx Op.maxDepth (by decide) w
  split at hky
  ·rename_i e N ho he ha hN;simp only[qh]at hky;subst hky;obtain⟨l,rfl⟩:∃ l,k=.agg l:=by cases k<;>first|exact⟨_,rfl⟩|(simp[qii]at hf;done)
   obtain⟨vs,v1,v2,v3⟩:=y7 hK;have hl:l.length=N:=vB hf;refine⟨fun em w=>qpz em qc7 kt ho 10000 (by decide) K (fun _=>⟨vs,v2,by rw[hN,v1.length,hl]⟩) w,?_⟩;obtain⟨R,r1,r2,r3⟩:=qs4 (ask e he rfl) es ES 0 r hE h;refine⟨R,fun w=>?_,fin R r2 r3⟩;have hu:∃ td,P.underlying kt=some td:=by
    unfold p8 at ha;cases hun:P.underlying kt with
    |none=>rw[hun]at ha;cases ha
    |some td=>exact⟨td,rfl⟩
   obtain⟨td,hu⟩:=hu;unfold Instr.findKey;rw[Sem.run_bind,bU hu,Result.andThen_ok];cases ES with
   |nil=>
    have:R=none:=by
     cases r with
     |none=>exact r2 rfl
     |some hh=>obtain⟨E,e1,_⟩:=r3 hh rfl;simp at e1
    subst this;rfl
   |cons E rest=>
    have:Instr.findNow td K (E::rest) 0=none:=by
     have htd:(∃fs,td=.struct fs)\/∃ n t,td=.array n t:=by
      unfold p8 at ha;rw[hu]at ha;cases td<;>simp at ha
      ·simp
      ·simp
     rcases htd with⟨fs,rfl⟩|⟨n,t,rfl⟩<;>simp[Instr.findNow,Instr.sameNow]
    simp_all
  ·rename_i e N ho he ha hN;simp only[qh]at hky;subst hky;have aTE:∀ em w,(Instr.checkKey em 10000 kt K).run P w=.ok () w:=fun em w=>qpz em qc7 kt ho 10000 (by decide) K (fun h'=>by rw[ha]at h';cases h') w;refine⟨aTE,?_⟩;have now:∀ td,P.underlying kt=some td->(∀x X b,e k x=some b->aL ι x X->Instr.sameNow td K X=some b)->∃ R,(∀w,(Instr.findKey kt K ES).run P w=.ok R w)/\q58 ι es ES r R:=by
    intro td hu hs;obtain⟨R,r1,r2,r3⟩:=qs2 hs es ES 0 r hE h;refine⟨R,fun w=>?_,fin R r2 r3⟩;unfold Instr.findKey;rw[Sem.run_bind,bU hu,Result.andThen_ok,r1];rfl
   have ho':=ho;unfold qc7 at ho' he;rw[show(20:Nat)=19+1 from rfl,qws]at ho';rw[show(20:Nat)=19+1 from rfl,wC]at he;split at ho'
   ·rename_i ht _;rw[ht]at he;simp only[E2.mk.injEq]at he;subst he;refine now _ ht fun x X b hb hx=>?_;unfold qqf at hb;split at hb
    ·rename_i kk m k' p;simp only[aL]at hK hx;subst hK hx;cases hk:vO kk k' with
     |false=>rw[hk]at hb;cases hb
     |true=>rw[hk]at hb;simp only[qy,qh]at hb;subst hb;have:=ztp hk;subst this;simp[Instr.sameNow,qfc]
    ·cases hb
   ·rename_i ht _;rw[ht]at he;simp only[E2.mk.injEq]at he;subst he;refine now _ ht fun x X b hb hx=>?_;unfold bH at hb;split at hb
    ·simp only[aL]at hK hx;obtain⟨s,rfl,h1⟩:=hK;obtain⟨u,rfl,h2⟩:=hx;simp only[qh]at hb;subst hb;simp[Instr.sameNow,beq_toListBytes,qg3,h1.eq h2]
    ·cases hb
   ·rename_i ht _;rw[ht]at he;simp only[E2.mk.injEq]at he;subst he;refine now _ ht fun x X b hb hx=>?_;unfold qhw at hb;split at hb
    ·simp only[aL]at hK hx;subst hK hx;trivial
    ·cases hb
   ·rename_i ht _;unfold p8 at ha;rw[ht]at ha;simp at ha
   ·rename_i ht _;unfold p8 at ha;rw[ht]at ha;simp at ha
   ·cases ho'
  ·cases hky
theorem zr8{t kt et:TypeId}{x y:Operand}{ok:Bool}(ho:o.op=.lookup t x y ok)(ht:P.underlying t=some (.map kt et)){ky:Ky}(hky:rY P kt=some ky){z:Value}(hz:(P.info? et).bind (·.zero)=some z)(hH:HR ι H w)(h:LR ι d n L a.tmps):iA P o a.eval ι w nm (qL ky (qwf z) ok H ((aG d n x).f L) ((aG d n y).f L)):=by
 have hx:=dU h x;have hy:=dU h y;have key:∀(es:List lD) (ES:List MapEntry),bY ι es ES->(∀f:Array MapEntry->Sem Value,(execOp a.eval o).run P w=((do
    Instr.checkKey ES.toArray.isEmpty 10000 kt (a.eval y)
    let (v,b)<-match<-Instr.findKey kt (a.eval y) ES with
     |some (_,v)=>pure (v,true)
     |none=>pure (<-zeroValue et,false)
    pure (if ok then .tuple #[v,.bool b]else v):Sem Value).run P w).andThen fun v w=>.ok (.value v) w) ->
   iA P o a.eval ι w nm (zkz ok (qwf z) (qqe ky ((aG d n y).f L) es)):=by
  intro es ES hE hrun;have hrun:=hrun fun _=>pure .nilFunc;cases hf:qqe ky ((aG d n y).f L) es with
  |none=>trivial
  |some r=>
   obtain⟨c1,R,c2,c3⟩:=qfs hky hy hE hf;cases r with
   |none=>
    simp only[q58]at c3;subst c3;refine⟨if ok then .tuple #[z,.bool false]else z,?_,?_⟩
    ·rw[hrun];simp[c1,c2,qcz hz]
    ·cases ok
     ·exact qgi z
     ·simp only[qy,ik,aL,aI];exact⟨[z,.bool false],⟨z,_,rfl,qgi z,_,_,rfl,rfl,rfl⟩,rfl⟩
   |some hit=>
    obtain⟨V,E,rfl,a1,a2,a3,a4,a5,a6⟩:=c3;refine⟨if ok then .tuple #[V,.bool true]else V,?_,?_⟩
    ·rw[hrun];simp[c1,c2]
    ·cases ok
     ·exact a4
     ·simp only[qy,ik,aL,aI];exact⟨[V,.bool true],⟨V,_,rfl,a4,_,_,rfl,rfl,rfl⟩,rfl⟩
 unfold qL zw1;split
 ·rename_i es he;split at he
  ·rename_i e1;simp only[qh]at he;subst he;rw[e1]at hx;simp only[aL]at hx;refine key [] [] (by simp[bY]) fun _=>?_;simp[execOp,ho,Instr.lookup,bU ht,hx];rfl
  ·rename_i m e1;rw[e1]at hx;simp only[aL]at hx;obtain⟨l,h1,h2⟩:=hx;have hb:=hH.blk m (hH.lt h1);split at he
   ·rename_i es' clock hg;simp only[qh]at he;subst he;rw[hg]at hb;obtain⟨l',ES,h3,h4,h5⟩:=hb;rw[h1]at h3;cases h3;refine key es' ES h5 fun _=>?_;simp[execOp,ho,Instr.lookup,bU ht,h2,getObj,Sem.run,h4];rfl
   ·cases he
  ·cases he
 ·trivial
theorem aOL{op:BinOp}{t ty:TypeId}{x y:Operand}(ho:o.op=.binOp op t x y ty)(neg:Bool)(hop:op=if neg then .neq else .eql){e:AV->AV->Option Bool}(he:wC P qc7 t=⟨e⟩)(hk:∀ td,P.underlying t=some td->match td with| .bool| .pointer _| .slice _| .map .. | .func .. | .interface _=>True| .struct _| .array .. =>P.eqGuardType P.depth t=false|_=>False)(hu:∃ td,P.underlying t=some td)(h:LR ι d n L a.tmps):
  iA P o a.eval ι w nm (mF neg (e ((aG d n x).f L) ((aG d n y).f L))):=by
 have hx:=dU h x;have hy:=dU h y;unfold mF;split
 ·rename_i b hb;have hq:=zw0 (P:=P) (ι:=ι) qc7 t;rw[he]at hq;have hr:=hq _ _ _ _ _ hb hx hy Op.maxDepth (by decide) w;refine⟨.bool (if neg then !b else b),?_,by simp only[aL];cases neg<;>rfl⟩;obtain⟨td,hu⟩:=hu;have hk:=hk td hu;generalize hX:a.eval x=X at *;generalize hY:a.eval y=Y at *;have run:(∃g,(eqGuard op t x y X Y).run P w=.ok g w)/\(binOp op t X Y).run P w=.ok (.bool (if neg then !b else b)) w:=by
   unfold qc7 at he;rw[show(20:Nat)=19+1 from rfl,wC,hu]at he;cases td<;>first|(exact hk.elim)|skip
   case bool=>
    simp only[E2.mk.injEq]at he;subst he;unfold qhw at hb;split at hb
    ·rename_i e1 e2;rw[e1]at hx;rw[e2]at hy;simp only[aL]at hx hy;subst hx hy;cases neg<;>subst hop<;>simp[eqGuard,binOp,Op.equal,hr]
    ·cases hb
   case pointer=>
    simp only[E2.mk.injEq]at he;subst he;unfold qpp at hb;split at hb<;>first|(cases hb;done)|skip
    all_goals (rename_i e1 e2;rw[e1]at hx;rw[e2]at hy;simp only[aL]at hx hy)
    ·subst hx hy;cases neg<;>subst hop<;>simp[eqGuard,binOp,Op.equal,hr]
    ·obtain⟨l,_,rfl⟩:=hy;subst hx;cases neg<;>subst hop<;>simp[eqGuard,binOp,Op.equal,hr]
    ·obtain⟨l,_,rfl⟩:=hx;subst hy;cases neg<;>subst hop<;>simp[eqGuard,binOp,Op.equal,hr]
   case slice=>
    simp only[E2.mk.injEq]at he;subst he;unfold aEA at hb;split at hb<;>first|(cases hb;done)|skip
    all_goals (rename_i e1 e2;rw[e1]at hx;rw[e2]at hy;simp only[aL]at hx hy)
    ·subst hx hy;cases neg<;>subst hop<;>simp[eqGuard,binOp,Op.equal,hr]
    ·obtain⟨_,l,_,rfl⟩:=hy;subst hx;cases neg<;>subst hop<;>simp[eqGuard,binOp,Op.equal,hr]
    ·obtain⟨_,l,rfl⟩:=hy;subst hx;cases neg<;>subst hop<;>simp[eqGuard,binOp,Op.equal,hr]
    ·obtain⟨_,l,_,rfl⟩:=hx;subst hy;cases neg<;>subst hop<;>simp[eqGuard,binOp,Op.equal,hr]
    ·obtain⟨_,l,rfl⟩:=hx;subst hy;cases neg<;>subst hop<;>simp[eqGuard,binOp,Op.equal,hr]
   case map=>
    simp only[E2.mk.injEq]at he;subst he;unfold zto at hb;split at hb<;>first|(cases hb;done)|skip
    all_goals (rename_i e1 e2;rw[e1]at hx;rw[e2]at hy;simp only[aL]at hx hy)
    ·subst hx hy;cases neg<;>subst hop<;>simp[eqGuard,binOp,Op.equal,hr]
    ·obtain⟨l,_,rfl⟩:=hy;subst hx;cases neg<;>subst hop<;>simp[eqGuard,binOp,Op.equal,hr]
    ·obtain⟨l,_,rfl⟩:=hx;subst hy;cases neg<;>subst hop<;>simp[eqGuard,binOp,Op.equal,hr]
   case func=>
    simp only[E2.mk.injEq]at he;subst he;unfold eqFn at hb;split at hb<;>first|(cases hb;done)|skip
    all_goals (rename_i e1 e2;rw[e1]at hx;rw[e2]at hy;simp only[aL]at hx hy)
    ·subst hx hy;cases neg<;>subst hop<;>simp[eqGuard,binOp,Op.equal,hr]
    ·obtain⟨_,_,_,_,rfl⟩:=hy;subst hx;cases neg<;>subst hop<;>simp[eqGuard,binOp,Op.equal,hr]
    ·obtain⟨_,_,_,_,rfl⟩:=hx;subst hy;cases neg<;>subst hop<;>simp[eqGuard,binOp,Op.equal,hr]
   case interface=>
    simp only[E2.mk.injEq]at he;subst he;unfold aDP at hb;split at hb<;>first|(cases hb;done)|skip
    all_goals (rename_i e1 e2;rw[e1]at hx;rw[e2]at hy;simp only[aL]at hx hy)
    ·obtain⟨_,_,rfl⟩:=hy;subst hx;cases neg<;>subst hop<;>simp[eqGuard,binOp,Op.equal,hr]
    ·obtain⟨_,_,rfl⟩:=hx;subst hy;cases neg<;>subst hop<;>simp[eqGuard,binOp,Op.equal,hr]
   case array len e=>
    simp only at he;split at he
    ·simp only[E2.mk.injEq]at he;subst he;unfold dQ at hb;split at hb
     ·rename_i e1 e2;rw[e1]at hx;rw[e2]at hy;obtain⟨_,_,rfl,_⟩:=y7 hx;obtain⟨_,_,rfl,_⟩:=y7 hy;refine⟨⟨(),run_eqGuard_agg w op t x y _ _ hk⟩,?_⟩;cases neg<;>subst hop
      ·rw[kz (by simp),run_eql_struct,show(10000:Nat)=Op.maxDepth from rfl,hr];rfl
      ·rw[pz rfl,run_neq_struct,show(10000:Nat)=Op.maxDepth from rfl,hr];rfl
     ·cases hb
    ·simp only[E2.mk.injEq]at he;subst he;cases hb
   case struct fs=>
    simp only at he;split at he
    ·simp only[E2.mk.injEq]at he;subst he;cases hb
    ·simp only[E2.mk.injEq]at he;subst he;unfold dQ at hb;split at hb
     ·rename_i e1 e2;rw[e1]at hx;rw[e2]at hy;obtain⟨_,_,rfl,_⟩:=y7 hx;obtain⟨_,_,rfl,_⟩:=y7 hy;refine⟨⟨(),run_eqGuard_agg w op t x y _ _ hk⟩,?_⟩;cases neg<;>subst hop
      ·rw[kz (by simp),run_eql_struct,show(10000:Nat)=Op.maxDepth from rfl,hr];rfl
      ·rw[pz rfl,run_neq_struct,show(10000:Nat)=Op.maxDepth from rfl,hr];rfl
     ·cases hb
  obtain⟨⟨g,r1⟩,r2⟩:=run;simp[execOp,ho,hX,hY,r1,r2]
 ·trivial
theorem za5(k:IntKind)(b:Nat)(l:List AV):zka (.int k (.ofNat b)::l)=Nat.land b 255+256*zka l:=rfl
theorem qta:∀(l:List AV) (vs:List Value) (r:Src) (acc:ByteArray),aI ι l vs->z1j l=some r -> ∃bs:List UInt8,bs.length=l.length/\jL bs=zka l/\(forIn vs acc fun c (s:ByteArray)=>(match c with
   | .int .u8 n=>pure (ForInStep.yield (s.push (UInt8.ofNat n.toNat)))
   |_=>do stuck "bytesToString: byte expected";pure (ForInStep.yield s):Sem (ForInStep ByteArray))).run P w= .ok ⟨acc.data++bs.toArray⟩ w
 | [],vs,r,acc,h,_=>by simp only[aI]at h;subst h;exact⟨[],rfl,rfl,by simp⟩
 |x::l,vs,r,acc,h,hp=>by
  simp only[aI]at h;obtain⟨v,rr,rfl,hv,hr⟩:=h;have hp:z1k x (z1j l)=some r:=hp;unfold z1k at hp;split at hp
  ·rename_i b s hs _;simp only[aL]at hv;subst hv;obtain⟨bs,b1,b2,b3⟩:=qta l rr s (acc.push (UInt8.ofNat b)) hr hs;refine⟨UInt8.ofNat b::bs,by simp[b1],?_,?_⟩
   ·rw[qb1,za5,b2,qwr,UInt8.toNat_ofNat'];omega
   ·rw[lE6];simp only[rq,Int.toNat_natCast,pure_bind];rw[b3];congr 2;simp[ByteArray.push]
  ·cases hp
theorem z06{s t e:TypeId}{x:Operand}(ho:o.op=.convert s t x)(hs:P.underlying s=some (.slice e))(ht:P.underlying t=some .string)(he:P.underlying e=some (.int .u8))(hH:HR ι H w)(h:LR ι d n L a.tmps):iA P o a.eval ι w nm (z0l H ((aG d n x).f L)):=by
 have hx:=dU h x;unfold z0l;split
 ·rename_i e1;rw[e1]at hx;simp only[aL]at hx;refine⟨.string .empty,?_,qoq ⟨rfl,rfl⟩⟩;simp[execOp,ho,convert,bU hs,bU ht,bU he,hx,Conv.bytesToString]
 ·rename_i e1;rw[e1]at hx;simp only[aL]at hx;obtain⟨ad,c,hx⟩:=hx;refine⟨.string .empty,?_,qoq ⟨rfl,rfl⟩⟩;simp[execOp,ho,convert,bU hs,bU ht,bU he,hx,Conv.bytesToString,loadCells,loadCellsFrom]
 ·rename_i b i m cap ex e1;rw[e1]at hx;simp only[aL]at hx;obtain⟨_,l,h1,h2⟩:=hx;split
  ·rename_i cs hcs;split
   ·rename_i r hr;obtain⟨c1,c2⟩:=qe6 (hH.blk b (hH.lt h1)) hcs;have fin:∀ vs:List Value,vs.length=m->aI ι cs vs->(∀(j:Nat) (v:Value),vs[j]? =some v->w.cell? ⟨l.blk,l.base+i+j,none⟩=some v)->iA P o a.eval ι w nm (.val (.str m (zka cs))):=by
     intro vs v1 v2 v3;obtain⟨bs,b1,b2,b3⟩:=qta (P:=P) (w:=w) cs vs r .empty v2 hr;have e0:(ByteArray.empty.data++bs.toArray).toList=bs:=by show(#[]++bs.toArray).toList=bs;simp
     refine⟨.string ⟨(ByteArray.empty.data++bs.toArray)⟩,?_,qoq ⟨by rw[e0,b1,c1],by rw[e0,b2]⟩⟩;have hl:=run_loadCells P w l.blk (l.base+i) vs v3;rw[v1]at hl;simp only[execOp,ho,convert,Sem.run_bind,bU hs,bU ht,bU he,h2,Result.andThen_ok,Conv.bytesToString,hl];rw[List.forIn_toArray];exact Eq.trans (congrArg (fun r:Result ByteArray=>(r.andThen fun a w'=>Sem.run P (pure (Value.string a)) w').andThen fun a w'=>Sem.run P (pure (Next.value a)) w') b3) rfl
    rcases c2 with rfl|⟨loc,vs,g1,g2,g3,g4,g5⟩
    ·have:cs=[]:=ry.1 c1;subst this;exact fin [] rfl (by simp[aI]) (by simp)
    ·rw[h1]at g1;cases g1;exact fin vs g3 g2 g5
   ·trivial
  ·trivial
 ·trivial
theorem qz5(a:Nat):∀(n i:Nat),Nat.rec (motive:=fun _=>Nat->List AV) (fun _=>[]) (fun _ ih i=>.int .u8 (.ofNat (vC a i))::ih (Nat.succ i)) n i=(List.range' i n).map fun j=>.int .u8 (.ofNat (vC a j))
 |0,i=>rfl
 |n+1,i=>by rw[List.range'_succ,zy,<-qz5 a n (i+1)]
theorem qk6{m bits:Nat}{s:ByteArray}(h:yR m bits s):aI ι (qz6 bits m) (s.data.toList.map fun b=>Value.int .u8 (b.toNat:Int)):=by
 obtain⟨rfl,rfl⟩:=h;unfold qz6;rw[qz5,<-List.range_eq_range'];refine aI.aAd (by simp) fun i v hv=>?_;have hi:i<s.data.toList.length:=by
  rcases yf i s.data.toList.length with h|h
  ·exact h
  ·simp_all
 rw[xw,List.getElem?_range hi]at hv;simp only[Option.map_some,qh]at hv;subst hv;refine⟨_,by rw[xw,lh hi];rfl,?_⟩;rw[qz7 _ _ hi];rfl
theorem zjz{s t e:TypeId}{x:Operand}(ho:o.op=.convert s t x)(hs:P.underlying s=some .string)(ht:P.underlying t=some (.slice e))(he:P.underlying e=some (.int .u8))(h:LR ι d n L a.tmps):iA P o a.eval ι w nm (q4g nm ((aG d n x).f L)):=by
 have hx:=dU h x;unfold q4g;split
 ·rename_i m bits e1;rw[e1]at hx;simp only[aL]at hx;obtain⟨u,hu,h1⟩:=hx;have hsz:u.size=m:=h1.1;obtain⟨c,hc⟩:∃ c,(Question.appendCap u.size 0 e).cut (w.tape w.drawn (.appendCap u.size 0 e))=u.size+c:=⟨_,rfl⟩
  let C:Array Value:=(u.data.map fun b=>Value.int .u8 (b.toNat:Int))++Array.replicate c (.int .u8 0)
  have hC:C.size=m+c:=by simp[C,<-hsz]
  let w1:World:=(w.drew).alloc (.cells C e)
  have hsh:w1.shape? w.heap.size=some (e,m+c):=by show(match(w.heap.push _)[w.heap.size]? with|some (.cells c elem _)=>some (elem,c.size)|_=>none)=_;simp[hC]
  let w2:World:=w1.freeze ⟨w.heap.size,m+c,none⟩ 1
  have hh:w2.heap[w.heap.size]? =some (.cells C e (m+c,m+c+1)):=by show((if(1:Nat)=0 then w1 else _:World)).heap[w.heap.size]? =_;show((w.heap.push _).modify _ _)[w.heap.size]? =_;rw[lAV,pz rfl,Array.getElem?_push,pz rfl];rfl
  refine⟨.slice (some ⟨w.heap.size,0,none⟩) m (m+c),w2,⟨w.heap.size,0,c,1⟩,?_,⟨rfl,rfl,rfl,?_,fun k hk=>?_,rfl⟩,fun ι' hle hi=>⟨?_,?_⟩⟩
  ·have hcap:u.size+c-u.size=c:=by omega
   simp only[execOp,ho,convert,Sem.run_bind,bU hs,bU ht,bU he,hu,Result.andThen_ok,Conv.stringToBytes,run_choose_drew,Question.forced,aj,lA4,hc,hcap,newRow,run_newObj_alloc,Sem.run_pure,markStringish,run_shape];rw[show(w.drew.alloc (.cells C e)).shape? w.drew.heap.size=some (e,m+c)from hsh];simp only[run_freeze,Result.andThen_ok,hsz];rfl
  ·show(if(1:Nat)=0 then w1 else _:World).heap.size=_;show((w.heap.push _).modify _ _).size=_;simp
  ·show((if(1:Nat)=0 then w1 else _:World)).heap[k]? =_;show((w.heap.push _).modify _ _)[k]? =_;rw[lAV,kz (show ¬w.heap.size=k by omega),Array.getElem?_push,kz (show ¬k=w.heap.size by omega)]
  ·simp only[aL];exact⟨lg _,_,hi,by simp⟩
  ·have cell:∀ i,w2.cell? ⟨w.heap.size,i,none⟩=C[i]? :=fun i=>by simp[World.cell?,hh]
   have aBY:∀ i,i<m+c->w2.frozen? ⟨w.heap.size,i,none⟩=false:=fun i hi=>by simp[World.frozen?,hh];omega
   have hl:(qz6 bits m).length=m:=by rw[<-(qk6 (ι:=ι') h1).length];simp;exact h1.1
   refine qmp (loc:=⟨w.heap.size,0,c,1⟩) hi (qk6 h1) (fun v hv=>?_) (fun i v hv=>?_) (fun j hj=>?_)
   ·simp at hv;obtain⟨_,_,rfl⟩:=hv;rfl
   ·have hi':i<m:=by
     rcases yf i m with h|h
     ·exact h
     ·rw[bf (by simp;rw[<-hsz]at h;exact h)]at hv;cases hv
    simp only[qf];refine⟨?_,aBY i (by omega)⟩;rw[cell,Array.getElem?_append_left (by simp;rw[<-hsz]at hi';exact hi')];simpa using hv
   ·simp only[qj]at hj;simp only[qf,hl];refine⟨.int .u8 0,?_,aBY _ (by omega),rfl⟩;rw[cell,Array.getElem?_append_right (by simp;rw[<-hsz];exact Nat.le_add_right _ _)];have e2:(u.data.map fun b=>Value.int .u8 (b.toNat:Int)).size=m:=by simp;exact hsz
    rw[e2,show m+j-m=j by omega];simp[hj]
 ·trivial
theorem z3k{op:BinOp}{t ty:TypeId}{x y:Operand}(ho:o.op=.binOp op t x y ty)(h:LR ι d n L a.tmps):iA P o a.eval ι w nm ((vM P op t).f ((aG d n x).f L) ((aG d n y).f L)):=by
 have eqs:∀ td,P.underlying t=some td->(match td with| .bool| .pointer _| .slice _| .map .. | .func .. | .interface _=>True| .struct _| .array .. =>P.eqGuardType P.depth t=false|_=>False) ->
   iA P o a.eval ι w nm ((match op,wC P qc7 t with
    | .eql,⟨e⟩=>(⟨fun x y=>mF false (e x y)⟩:V2)
    | .neq,⟨e⟩=>⟨fun x y=>mF true (e x y)⟩
    |_,_=>⟨fun _ _=>.bad⟩).f ((aG d n x).f L) ((aG d n y).f L)):=by
  intro td hu hk;have hk':∀ td',P.underlying t=some td'->match td' with| .bool| .pointer _| .slice _| .map .. | .func .. | .interface _=>True| .struct _| .array .. =>P.eqGuardType P.depth t=false|_=>False:=fun td' h'=>by simp_all
  split
  ·rename_i e he;exact aOL ho false rfl he hk' ⟨td,hu⟩ h
  ·rename_i e he;exact aOL ho true rfl he hk' ⟨td,hu⟩ h
  ·trivial
 unfold vM;split
 ·split
  ·exact zj1 ho (.inl rfl) h
  ·exact zj1 ho (.inr rfl) h
  ·rename_i h1 h2;exact aJH ho ⟨fun e=>h1 e,fun e=>h2 e⟩ h
 ·exact zr6 ho h
 ·rename_i hu;exact eqs _ hu trivial
 ·rename_i hu;exact eqs _ hu trivial
 ·rename_i hu;exact eqs _ hu trivial
 ·rename_i hu;exact eqs _ hu trivial
 ·rename_i hu;exact eqs _ hu trivial
 ·rename_i hu;exact eqs _ hu trivial
 ·rename_i hu;split
  ·trivial
  ·rename_i hg;exact eqs _ hu (by simpa using hg)
 ·rename_i hu;split
  ·trivial
  ·rename_i hg;exact eqs _ hu (by simpa using hg)
 ·trivial
theorem z7f{args:List Operand}{ts:List TypeId}(ho:o.op=.call {callee:=.builtin .len,args:=args.toArray,argTypes:=ts.toArray}){lk:Bool}{f:Nat->TT AV d->Hp->R0}(hf:uY P d n args ts=.q lk f)(hH:HR ι H w)(h:LR ι d n L a.tmps):iA P o a.eval ι w nm (f nm L H):=by
 unfold uY at hf;split at hf
 ·rename_i x t;split at hf
  ·rename_i hu;cases hf;exact qsj ho (.inl ⟨_,hu⟩)
  ·rename_i hu;split at hf
   ·rename_i ha;cases hf;exact qsj ho (.inr ⟨_,_,hu,ha⟩)
   ·cases hf
  ·rename_i hu;cases hf;exact zr9 ho hu h
  ·rename_i hu;cases hf;exact z09 ho hu h
  ·rename_i hu;cases hf;exact z6a ho hu hH h
  ·cases hf
 ·cases hf
theorem z8u{args:List Operand}{ts:List TypeId}(ho:o.op=.call {callee:=.builtin .cap,args:=args.toArray,argTypes:=ts.toArray}){lk:Bool}{f:Nat->TT AV d->Hp->R0}(hf:zC P d n args ts=.q lk f)(h:LR ι d n L a.tmps):iA P o a.eval ι w nm (f nm L H):=by
 unfold zC at hf;split at hf
 ·rename_i x t;split at hf
  ·rename_i hu;cases hf;exact za3 ho ⟨_,hu⟩
  ·rename_i hu;cases hf;exact z1e ho hu h
  ·cases hf
 ·cases hf
theorem z6r{args:List Operand}{ts:Array TypeId}(ho:o.op=.call {callee:=.builtin .min,args:=args.toArray,argTypes:=ts}){lk:Bool}{f:Nat->TT AV d->Hp->R0}(hf:zN d n args=.q lk f)(h:LR ι d n L a.tmps):iA P o a.eval ι w nm (f nm L H):=by
 unfold zN at hf;split at hf
 ·cases hf;exact aLY ho h
 ·cases hf
theorem z6t{args:List Operand}{ts:Array TypeId}(ho:o.op=.call {callee:=.builtin .max,args:=args.toArray,argTypes:=ts}){lk:Bool}{f:Nat->TT AV d->Hp->R0}(hf:yM d n args=.q lk f)(h:LR ι d n L a.tmps):iA P o a.eval ι w nm (f nm L H):=by
 unfold yM at hf;split at hf
 ·cases hf;exact aNv ho h
 ·cases hf
theorem z88{args:List Operand}{ts:List TypeId}{lk:Bool}{f:Nat->TT AV d->Hp->R0}(hf:zR P d n args ts=.q lk f):False:=by
 unfold zR at hf;split at hf
 ·split at hf
  ·split at hf<;>cases hf
  ·cases hf
 ·cases hf
theorem z2u{args:List Operand}{ts:List TypeId}{lk:Bool}{f:Nat->TT AV d->Hp->R0}(hf:q5w P d n args ts=.q lk f):False:=by
 unfold q5w at hf;split at hf
 ·split at hf
  ·split at hf<;>cases hf
  ·cases hf
 ·cases hf
theorem z8o{args:List Operand}{ts:List TypeId}{lk:Bool}{f:Nat->TT AV d->Hp->R0}(hf:zT P d n args ts=.q lk f):False:=by
 unfold zT at hf;split at hf
 ·split at hf
  ·split at hf<;>cases hf
  ·cases hf
 ·cases hf
theorem z8r{args:List Operand}{ts:List TypeId}{lk:Bool}{f:Nat->TT AV d->Hp->R0}(hf:yT P d n args ts=.q lk f):False:=by
 unfold yT at hf;split at hf
 ·split at hf
  ·split at hf<;>cases hf
  ·cases hf
  ·cases hf
 ·cases hf
theorem zb7{b:Builtin}{args:Array Operand}{ts:Array TypeId}(ho:o.op=.call {callee:=.builtin b,args,argTypes:=ts}){lk:Bool}{f:Nat->TT AV d->Hp->R0}(hf:qem P d n b args.toList ts.toList=.q lk f)(hH:HR ι H w)(h:LR ι d n L a.tmps):iA P o a.eval ι w nm (f nm L H):=by
 unfold qem at hf;split at hf
 ·exact z7f (by simpa using ho) hf hH h
 ·exact z8u (by simpa using ho) hf h
 ·exact z6r (ts:=ts) (by simpa using ho) hf h
 ·exact z6t (ts:=ts) (by simpa using ho) hf h
 ·exact(z88 hf).elim
 ·exact(z2u hf).elim
 ·exact(z8o hf).elim
 ·exact(z8r hf).elim
 ·cases hf
theorem qij:∀ x y:List UInt8,Lib.compareBytes x y=bif Op.bytesLess x y then -1 else bif decide (x=y)then 0 else 1
 | [],[]=>by simp[Lib.compareBytes,Op.bytesLess]
 | [],_::_=>by simp[Lib.compareBytes,Op.bytesLess]
 |_::_,[]=>by simp[Lib.compareBytes,Op.bytesLess]
 |a::x,b::y=>by
  have ih:=qij x y;simp only[Lib.compareBytes,Op.bytesLess];by_cases h1:a<b
  ·simp[h1]
  ·by_cases h2:b<a
   ·have hne:a≠b:=fun e=>by subst e;exact absurd h2 h1
    simp_all
   ·have he:a=b:=UInt8.le_antisymm (UInt8.not_lt.1 h2) (UInt8.not_lt.1 h1);simp_all
theorem zlh{f:FuncId}(h:zs8 P f=true)(s t:ByteArray)(w:World):(callFunc f #[.string s,.string t]).run P w=.ok (.value (.int .i64 (Lib.compareBytes s.data.toList t.data.toList))) w:=by
 unfold zs8 at h;split at h
 ·rename_i fn hfn;simp only[pq,beq_iff_eq,Option.isNone_iff_eq_none]at h;obtain⟨⟨h1,h2⟩,h3⟩:=h;have hnx:Extern.findNext fn=none:=by
   unfold Extern.findNext;rw[h2,h3];have e1:Extern.allNextRows.lookup qpy=none:=by decide +kernel
   have e2:Extern.allNextRows.lookup "" =none:=by decide +kernel
   simp only[e1,e2];rfl
  have hfd:Extern.find fn=some Extern.BytealgCompare.compare:=by
   unfold Extern.find;rw[h2];have e1:(Extern.allGenericRows.lookup qpy)=none:=by decide +kernel
   have e2:(Extern.allTypedRows.lookup qpy)=none:=by decide +kernel
   have e3:Extern.allRows.lookup qpy=some Extern.BytealgCompare.compare:=by kernel_rfl
   simp only[e1,e2,e3];rfl
  have hname:¬ fn.name = "runtime.NumGoroutine" :=by rw[h2];decide +kernel
  have hr:=Lib.run_compareString (P:=P) s t w;simp[callFunc,hfn,hname,h1,hnx,hfd,hr,mark,Sem.run]
 ·cases h
theorem aLb{f:FuncId}{args:Array Operand}{ts:Array TypeId}(ho:o.op=.call {callee:=.value (.func f),args,argTypes:=ts})(hc:zs8 P f=true)(h:LR ι d n L a.tmps):iA P o a.eval ι w nm (aHb ((tO d n args.toList).f L)):=by
 have ha:=qct h args.toList;unfold aHb;split
 ·rename_i n1 a1 m1 b1 e;rw[e]at ha;obtain⟨v1,r1,e1,⟨s,rfl,hs⟩,v2,r2,rfl,⟨t,rfl,ht⟩,rfl⟩:=ha;refine⟨.int .i64 (Lib.compareBytes s.data.toList t.data.toList),?_,?_⟩
  ·have hargs:args.map a.eval= #[.string s,.string t]:=by
    have:args.map a.eval=(args.toList.map a.eval).toArray:=by rw[<-og]
    rw[this,e1]
   have hr:=zlh hc s t w;have hev:a.eval (.func f)=.func (.func f) #[] #[]:=rfl;simp only[execOp,ho,resolve,hev,Deferred.ofValue,hargs];trivial
  ·have hl:=yR.less hs ht;have he:eqS n1 a1 m1 b1=decide (s.data.toList=t.data.toList):=by
    rw[yR.eq hs ht,lAQ];simp
   rw[hl,he,qij];rfl
 ·trivial
theorem z1b{x:Operand}(ho:o.op=.entry x)(hH:HR ι H w)(h:LR ι d n L a.tmps):iA P o a.eval ι w nm (aF5 H ((aG d n x).f L)):=by
 have hx:=dU h x;unfold aF5;split
 ·rename_i b off e1;rw[e1]at hx;simp only[aL]at hx;obtain⟨loc,h1,h2⟩:=hx;have hb:=hH.blk b (hH.lt h1);cases ho0:Nat.beq off 0 with
  |false=>trivial
  |true=>
   obtain rfl:=rf ho0;split
   ·rename_i m since pos hg;rw[hg]at hb;obtain⟨l',r,g1,g0,g2,g3⟩:=hb;rw[h1]at g1;cases g1;rw[g0,xy]at h2;split
    ·rename_i m p;obtain⟨lm,k1,rfl⟩:=g3;have hm:=hH.blk m (hH.lt k1);split
     ·rename_i es clock hgm;rw[hgm]at hm;obtain⟨l2,ES,j1,j2,j3⟩:=hm;rw[k1]at j1;cases j1;cases hcs:Nat.beq clock since with
      |false=>trivial
      |true=>
       obtain rfl:=rf hcs;split
       ·rename_i e;simp only[bY]at j3;obtain⟨E,_,rfl,q1,q2,q3,rfl⟩:=j3;cases hp:Nat.beq e.born p with
        |false=>trivial
        |true=>
         have hp:=rf hp;have hp:p=E.born:=by omega
         subst hp;refine⟨.tuple #[E.key,E.val],?_,?_⟩
         ·simp[execOp,ho,h2,Instr.entry,getObj,Sem.run,g2,j2]
         ·simp only[aL,aI];exact⟨_,⟨_,_,rfl,q1,_,_,rfl,q2,rfl⟩,rfl⟩
       ·trivial
     ·trivial
    ·trivial
   ·trivial
 ·trivial
theorem z1l{lk:Bool}{f:Nat->TT AV d->Hp->R0}(hf:gZ P d n o=.q lk f)(hH:HR ι H w)(h:LR ι d n L a.tmps):iA P o a.eval ι w nm (f nm L H):=by
 unfold gZ at hf;split at hf
 ·rename_i x ho;cases hf;exact zwq (.inl ho) h
 ·rename_i x ho;cases hf;exact zwq (.inr ho) h
 ·rename_i ho;cases hf;exact z5z ho h
 ·rename_i ho;unfold q74 at hf;split at hf
  ·rename_i hz;cases hf;exact z1f ho hz
  ·cases hf
 ·rename_i ho;unfold aB3 at hf;split at hf
  ·rename_i k g e1 e2 e3;cases hf;have:=z6e (P:=P) (w:=w) (nm:=nm) ho k h;rw[e3]at this;exact this
  ·rename_i e1 e2 e3;cases hf;have:=z6f (P:=P) (w:=w) (nm:=nm) ho h;rw[e3]at this;exact this
  ·cases hf
 ·rename_i ho;unfold q73 at hf;split at hf
  ·rename_i e1 e2;split at hf
   ·rename_i e3;split at hf
    ·rename_i e4;cases hf;exact zsb ho e1 e2 e3 e4 h
    ·cases hf
   ·cases hf
  ·rename_i e1 e2;split at hf
   ·rename_i e3;split at hf
    ·rename_i e4;cases hf;exact zsc ho e1 e2 e3 e4 h
    ·cases hf
   ·cases hf
  ·cases hf
 ·rename_i ho;unfold qfk at hf;split at hf
  ·rename_i e1;split at hf
   ·rename_i s z e2 e3;cases hc:(Nat.ble (_*s) 65536&&Nat.beq z.length s)with
    |false=>rw[hc]at hf;cases hf
    |true=>
     rw[hc]at hf;simp only[qy]at hf;simp only[pq]at hc;split at hf
     ·rename_i e4;cases hf;exact qyz ho e1 e3 e2 (vB hc.2) (oH hc.1) e4 h
     ·cases hf
   ·cases hf
  ·cases hf
 ·rename_i ho;unfold zjh at hf;split at hf
  ·rename_i e1 e2 e3;cases hf;have:=z07 (P:=P) (nm:=nm) ho e1 e2 hH h;rw[e3]at this;exact this
  ·rename_i e1 e2 e3;cases hf;have:=z08 (P:=P) (nm:=nm) ho e1 hH h;rw[e3]at this;exact this
  ·cases hf
 ·unfold qym at hf;split at hf<;>cases hf
 ·rename_i ho;cases hf;exact za1 ho h
 ·rename_i ho;cases hf;exact z3k ho h
 ·rename_i ho;cases hf;exact aVi ho h
 ·rename_i ho;unfold qmg at hf;split at hf
  ·rename_i e1 e2 e3;cases hf;have:=z1d (P:=P) (w:=w) (nm:=nm) ho e1 e2 h;rw[e3]at this;exact this
  ·rename_i e1 e2 e3;cases hf;have:=z1c (P:=P) (w:=w) (nm:=nm) ho e1 e2 h;rw[e3]at this;exact this
  ·rename_i e1 e2 e3;split at hf
   ·rename_i e4;cases hf;have:=zjz (P:=P) (w:=w) (nm:=nm) ho e1 e2 e4 h;rw[e3]at this;exact this
   ·cases hf
  ·rename_i e1 e2 e3;split at hf
   ·rename_i e4;split at hf
    ·cases hf;have:=z06 (P:=P) (nm:=nm) ho e1 e2 e4 hH h;rw[e3]at this;exact this
    ·cases hf
   ·cases hf
  ·cases hf
 ·rename_i ho;unfold qc8 at hf;split at hf
  ·cases hf
  ·rename_i hn e1 e2;cases hf;have:=qor (P:=P) (w:=w) (nm:=nm) ho e1 (fun ms e=>hn ms (by rw[e])) h;rw[e2]at this;exact this
  ·cases hf
 ·rename_i ho;cases hf;exact za2 ho h
 ·rename_i ho;cases hf;exact zj2 ho
 ·rename_i ho;unfold qg5 at hf;split at hf
  ·rename_i e1 e2 e3;split at hf
   ·rename_i z w' s e4 e5 e6;cases hc:Nat.beq z.length s with
    |false=>rw[hc]at hf;cases hf
    |true=>rw[hc]at hf;cases hf;have:=zr7 (P:=P) (w:=w) (nm:=nm) ho e1 e4 e5 e6 (vB hc) h;rw[e2,e3]at this;exact this
   ·cases hf
  ·cases hf
 ·rename_i ho;unfold q7z at hf;split at hf
  ·rename_i e1 e2 e3 e4;split at hf
   ·cases hf;have:=za0 (P:=P) (w:=w) (nm:=nm) ho e1 h;rw[e2,e3,e4]at this;exact this
   ·cases hf
  ·rename_i e1 e2 e3 e4 e5;split at hf
   ·rename_i e6;cases hf;have:=zj0 (P:=P) (w:=w) (nm:=nm) ho e1 e6 h;rw[e2,e3,e4,e5]at this;exact this
   ·cases hf
  ·rename_i e1 e2 e3 e4 e5;split at hf
   ·rename_i e6;cases hf;have:=qsi (P:=P) (w:=w) (nm:=nm) ho (.inl e1) e6 h;rw[e2,e3,e4,e5]at this;exact this
   ·cases hf
  ·rename_i e1 e2 e3 e4 e5;split at hf
   ·rename_i e7;split at hf
    ·rename_i e6;cases hf;have:=qsi (P:=P) (w:=w) (nm:=nm) ho (.inr ⟨_,e1,e7⟩) e6 h;rw[e2,e3,e4,e5]at this;exact this
    ·cases hf
   ·cases hf
  ·cases hf
 ·rename_i ho;unfold qe4 at hf;split at hf
  ·rename_i e1 e2;split at hf
   ·rename_i e3;split at hf
    ·rename_i e4;cases hf;have:=q40 (P:=P) (w:=w) (nm:=nm) ho e1 e3 e4 h;rw[e2]at this;exact this
    ·cases hf
   ·cases hf
  ·cases hf
 ·rename_i ho;unfold qyp at hf;split at hf
  ·rename_i e1 e2;split at hf
   ·rename_i e3;cases hf;have:=z1a (P:=P) (w:=w) (nm:=nm) ho e1 e3 h;rw[e2]at this;exact this
   ·cases hf
  ·cases hf
 ·rename_i ho;unfold qe3 at hf;split at hf
  ·rename_i e1 e2 e3;split at hf
   ·rename_i e4;cases hf;have:=z6c (P:=P) (w:=w) (nm:=nm) ho e1 e4 h;rw[e2,e3]at this;exact this
   ·cases hf
  ·rename_i e1 e2 e3;split at hf
   ·rename_i e4;cases hf;have:=z6d (P:=P) (w:=w) (nm:=nm) ho e1 e4 h;rw[e2,e3]at this;exact this
   ·cases hf
  ·cases hf
 ·rename_i ho;unfold qyo at hf;split at hf
  ·rename_i e1 e2 e3;cases hf;have:=zsa (P:=P) (w:=w) (nm:=nm) ho e1 h;rw[e2,e3]at this;exact this
  ·rename_i e1 e2 e3;split at hf
   ·rename_i e4;cases hf;have:=z6b (P:=P) (w:=w) (nm:=nm) ho e1 e4 h;rw[e2,e3]at this;exact this
   ·cases hf
  ·cases hf
 ·rename_i ho;unfold qv0 at hf;split at hf
  ·rename_i e1 e2 e3;split at hf
   ·rename_i e4 e5;cases hf;have:=zr8 (P:=P) (nm:=nm) ho e1 e4 e5 hH h;rw[e2,e3]at this;exact this
   ·cases hf
  ·cases hf
 ·unfold qdu at hf;split at hf<;>first|(cases hf;done)|(split at hf<;>cases hf)
 ·unfold qdu at hf;split at hf<;>first|(cases hf;done)|(split at hf<;>cases hf)
 ·unfold qjf at hf;split at hf<;>first|(cases hf;done)|(split at hf<;>cases hf)
 ·cases hf
 ·rename_i ho;cases hf;exact zj3 ho h
 ·unfold q70 at hf;split at hf<;>cases hf
 ·unfold zrz at hf;split at hf<;>cases hf
 ·rename_i ho;cases hf;exact z1b ho hH h
 ·rename_i ho;exact zb7 ho hf hH h
 ·rename_i ho;unfold q72 at hf;split at hf
  ·rename_i g e1 e2;cases hf;have:=aLb (P:=P) (w:=w) (nm:=nm) ho e2 h;rw[e1]at this;exact this
  ·cases hf
 ·cases hf
 ·cases hf
end Go.Ev
end
section
namespace Go.Ev
open Go.RowKit
variable {P:Program} {w:World} {ι:Im} {o:Oper} {a:Act} {d n:Nat} {L:TT AV d} {H:Hp}
def sH(P:Program)(o:Oper)(ρ:Operand->Value)(ι:Im)(H:Hp)(w:World):R1->Prop
 | .bad=>True
 | .ok v H'=>∃ N V w' ι',(execOp ρ o).run P w=.ok N w'/\(N=.value V\/(N=.skip/\V=Go.undef))/\aL ι' v V/\HR ι' H' w'/\Fr ι ι' H H' w w'
theorem qdt(P:Program){b i:Nat}{l:List AV}{vs:List Value}{loc:Loc}(hH:HR ι H w)(hb:ι b=some loc)(hr:aI ι l vs)(h1:∀ v∈vs,v.oneCell=true){v u:AV}{H':Hp}(h:storeAt H b i l v=.ok u H'):u=v/\∃ w',(storeCells ⟨loc.blk,loc.base+i,none⟩ vs).run P w=.ok () w'/\HR ι H' w'/\Fr ι ι H H' w w':=by
 have hlt:=hH.lt hb;have hB:=hH.blk b hlt;unfold storeAt at h;split at h
 ·rename_i blk hblk;obtain⟨rfl,rfl⟩:=h;refine⟨rfl,?_⟩;unfold wH at hblk;split at hblk
  ·rename_i dd nn c zz hg;cases hle:Nat.ble (i+l.length) nn with
   |false=>rw[hle]at hblk;cases hblk
   |true=>
    rw[hle]at hblk;simp only[qy,qh]at hblk;subst hblk;have hle:=oH hle;rw[hg]at hB;obtain⟨l',b1,b2,b3,b4⟩:=hB;rw[hb]at b1;cases b1;have hlen:=hr.length;obtain⟨w',r1,r2⟩:=qht P loc.blk vs w (loc.base+i) 0 (fun j hj=>by
     obtain⟨V,c1,c2,c3,c4⟩:=b3 (i+j) (by omega);refine⟨V,?_,?_⟩
     ·rw[show loc.base+i+0+j=loc.base+(i+j)by omega];exact c1
     ·rw[show loc.base+i+0+j=loc.base+(i+j)by omega];exact c4 rfl) h1
    rw[xy]at r2;refine⟨w',r1,hH.put hlt (by rw[hg];rfl) hb _ r2.os r2.tape r2.output r2.size r2.keep ?_⟩;refine⟨loc,hb,b2,fun j hj=>?_,fun _ j hj=>?_⟩
    ·rw[qh8 _ _ _ _ (by omega) (by omega),r2.cell,r2.frozen];obtain⟨V,c1,c2,c3,c4⟩:=b3 j hj;by_cases hin:i<=j/\j<i+l.length
     ·rw[pz hin,pz (by omega)];have hg':l[j-i]? =some (l.getD (j-i) .undef):=by
       have:j-i<l.length:=by omega
       simp[this]
      obtain⟨V',d1,d2⟩:=hr.get _ _ hg';refine⟨V',?_,d2,h1 V' (uq d1),c4⟩;rw[show loc.base+j-(loc.base+i)=j-i by omega,kw,d1];rfl
     ·rw[kz hin,kz (by omega)];simp_all
    ·rw[r2.cell,r2.frozen,kz (by omega)];simp_all
  ·cases hblk
 ·cases h
theorem zts{t:TypeId}{x y:Operand}(ho:o.op=.store t x y)(hz:gX P t=some 1)(hH:HR ι H w)(h:LR ι d n L a.tmps):sH P o a.eval ι H w (kL H ((aG d n x).f L) ((aG d n y).f L)):=by
 have hx:=dU h x;have hy:=dU h y;unfold kL;split<;>first|trivial|skip
 rename_i b i e1 hn1 hn2 yV hn4;rw[e1]at hx;simp only[aL]at hx;obtain⟨loc,h1,h2⟩:=hx;have hp:((aG d n y).f L).plain=true:=by
  unfold AV.plain;split
  ·simp_all
  ·simp_all
  ·trivial
  ·simp_all
  ·rfl
 obtain⟨o1,o2⟩:=hy.one hp;cases hs:storeAt H b i [(aG d n y).f L] .undef with
 |bad=>trivial
 |ok u H'=>obtain⟨rfl,w',r1,r2,r3⟩:=qdt P hH h1 (aI.singleton hy) (by simpa using o1) hs;refine⟨.skip,Go.undef,w',ι,?_,.inr ⟨rfl,rfl⟩,by simp[aL,Go.undef],r2,r3⟩;simp[execOp,ho,Instr.storeAt,h2,Instr.sureAddr,storeVar,o2,nJ hz,r1]
theorem ztr{t:TypeId}{x y:Operand}(ho:o.op=.store t x y){k:Nat}(hz:gX P t=some k)(hH:HR ι H w)(h:LR ι d n L a.tmps):sH P o a.eval ι H w (xV k H ((aG d n x).f L) ((aG d n y).f L)):=by
 have hx:=dU h x;have hy:=dU h y;unfold xV;split
 ·rename_i b i l e1 e2;rw[e1]at hx;simp only[aL]at hx;obtain⟨loc,h1,h2⟩:=hx;rw[e2]at hy;obtain⟨vs,v1,v2,v3⟩:=y7 hy;cases hk:Nat.beq l.length k with
  |false=>trivial
  |true=>
   have hk:=vB hk;cases hs:storeAt H b i l .undef with
   |bad=>trivial
   |ok u H'=>
    obtain⟨rfl,w',r1,r2,r3⟩:=qdt P hH h1 v1 v3 hs;refine⟨.skip,Go.undef,w',ι,?_,.inr ⟨rfl,rfl⟩,by simp[aL,Go.undef],r2,r3⟩;have hl:vs.length=k:=by rw[v1.length,hk]
    simp[execOp,ho,Instr.storeAt,h2,Instr.sureAddr,storeVar,v2,Value.cells,nJ hz,hl,r1]
 ·trivial
theorem qzs(need:Nat):∀(r c X:Nat),c<=X->need+(need+768) / 4<=X->Builtin.growBy need r c<=X
 |0,c,X,h,_=>h
 |r+1,c,X,h,k=>by
  unfold Builtin.growBy;split
  ·exact h
  ·exact qzs need r _ X (by omega) k
theorem qsr{need old:Nat}(h:old<need):Builtin.nextslicecap need old<=3*need:=by
 unfold Builtin.nextslicecap;split
 ·omega
 ·split
  ·omega
  ·exact qzs need 4 old _ (by omega) (by omega)
theorem q7t{z:Nat}{x:AV}{X:Value}(hx:aL ι x X)(hH:HR ι H w){s:Src}(h:zrq z H x=some s)(hz1:(∃m b,x=.str m b)->z=1):∃vs:List Value,aI ι s.l vs/\(∀v∈vs,v.oneCell=true)/\vs.length=s.n*z/\(Builtin.lenOf X).run P w=.ok s.n w /\ ∀k,k<=s.n->(Builtin.firstCells z k X).run P w=.ok (vs.take (k*z)).toArray w:=by
 unfold zrq at h;split at h
 ·simp only[qh]at h;subst h;simp only[aL]at hx;subst hx;exact⟨[],by simp[aI],by simp,by simp,by simp[Builtin.lenOf],fun k _=>by simp[Builtin.firstCells]⟩
 ·simp only[qh]at h;subst h;simp only[aL]at hx;obtain⟨ad,c,rfl⟩:=hx;refine⟨[],by simp[aI],by simp,by simp,by simp[Builtin.lenOf],fun k hk=>?_⟩;have:k=0:=by simpa using hk
  subst this;simp[Builtin.firstCells,loadCells,loadCellsFrom]
 ·rename_i b i m cap ex;obtain⟨_,loc,h1,rfl⟩:=hx;split at h
  ·rename_i cs hcs;simp only[qh]at h;subst h;obtain⟨c1,c2⟩:=qe6 (hH.blk b (hH.lt h1)) hcs;have fin:∀ vs:List Value,vs.length=m*z->aI ι cs vs->(∀v∈vs,v.oneCell=true)->(∀(j:Nat) (v:Value),vs[j]? =some v->w.cell? ⟨loc.blk,loc.base+i+j,none⟩=some v) ->
     ∃vs:List Value,aI ι cs vs/\(∀v∈vs,v.oneCell=true)/\vs.length=m*z/\(Builtin.lenOf (.slice (some ⟨loc.blk,loc.base+i,none⟩) m (if ex then cap else cap+loc.ext))).run P w=.ok m w /\
      ∀k,k<=m->(Builtin.firstCells z k (.slice (some ⟨loc.blk,loc.base+i,none⟩) m (if ex then cap else cap+loc.ext))).run P w=.ok (vs.take (k*z)).toArray w:=by
    intro vs v1 v2 v3 v4;refine⟨vs,v2,v3,v1,by simp[Builtin.lenOf],fun k hk=>?_⟩;have hkz:k*z<=m*z:=uz z hk;have hlen:(vs.take (k*z)).length=k*z:=by rw[qo];omega
    have:=run_loadCells P w loc.blk (loc.base+i) (vs.take (k*z)) (fun j v hv=>v4 j v (by
     rw[lA7]at hv;split at hv
     ·exact hv
     ·cases hv))
    rw[hlen]at this;trivial
   rcases c2 with c2|⟨uI,vs,g1,g2,g3,g4,g5⟩
   ·have c2:m*z=0:=c2;have:cs=[]:=ry.1 (by rw[c1];exact c2);subst this;exact fin [] (by simp[c2]) (by simp[aI]) (by simp) (by simp)
   ·rw[h1]at g1;cases g1;exact fin vs g3 g2 g4 g5
  ·cases h
 ·rename_i m bits;simp only[qh]at h;subst h;have hz:z=1:=hz1 ⟨_,_,rfl⟩;subst hz;obtain⟨s,rfl,hs⟩:=hx;have hsz:s.size=m:=hs.1;refine⟨_,qk6 hs,fun v hv=>?_,?_,by simp[Builtin.lenOf,hsz],fun k hk=>?_⟩
  ·simp at hv;obtain⟨_,_,rfl⟩:=hv;rfl
  ·simp;exact hsz
  ·simp only[Builtin.firstCells,Sem.run_pure];congr 1;apply Array.ext';simp
 ·cases h
theorem qwy{e:TypeId}{ap:Ap}(hap:apS P e=some ap)(hH:HR ι H w){old:List AV}{iP:List Value}(ho:aI ι old iP)(ho1:∀ v∈iP,v.oneCell=true){x:Src}{pR:List Value}(hx:aI ι x.l pR)(hx1:∀ v∈pR,v.oneCell=true){need:Nat}(hn:iP.length+pR.length=need*ap.z){v:AV}{H':Hp}(h:grow ap.z H old x need=.ok v H')(newCap:Nat)(hc:need<=newCap){zv:Value}(hzv:(P.info? e).bind (·.zero)=some zv)(w1:World)(hw1:w1=w.drew):∃ι',aL ι' v (.slice (some ⟨w.heap.size,0,none⟩) need newCap)/\HR ι' H' (w1.alloc (.cells (iP.toArray++pR.toArray++Builtin.zeroCells zv.cells (newCap-need)) e)) /\ Fr ι ι' H H' w (w1.alloc (.cells (iP.toArray++pR.toArray++Builtin.zeroCells zv.cells (newCap-need)) e)):=by
 subst hw1;unfold grow at h
 ·
  obtain⟨rfl,rfl⟩:=h;have hlt:iB (H.nx):=pF;unfold apS at hap;split at hap
  ·rename_i z ww zl e1 e2 e3;cases hb:Nat.beq zl.length z with
   |false=>rw[hb]at hap;cases hap
   |true=>
    rw[hb]at hap;simp only[qy,qh]at hap;subst hap;have hb:=vB hb;obtain⟨zv',z1,z2,z3⟩:=qcs (ι:=ι) e3;rw[hzv]at z1;cases z1;have hzl:zv.cells.size=z:=by have:=z2.length;simp at this;omega
    have hzc:Builtin.zeroCells zv.cells (newCap-need)=(gT zv.cells.toList (newCap-need)).toArray:=by have:=range_zero zv.cells (newCap-need) z hzl;unfold Builtin.zeroCells;rw[hzl]at this ⊢;exact this
    rw[hzc]
    let loc:Loc:=⟨w.heap.size,0,newCap-need,z⟩
    let W:World:=w.drew.alloc (.cells (iP.toArray++pR.toArray++(gT zv.cells.toList (newCap-need)).toArray) e)
    have cell:∀ i,W.cell? ⟨w.heap.size,i,none⟩=(iP++pR++gT zv.cells.toList (newCap-need))[i]? :=fun i=>by show(w.drew.alloc _).cell? ⟨w.drew.heap.size,i,none⟩=_;rw[World.cell?_alloc_new];simp
    have aBY:∀ i,W.frozen? ⟨w.heap.size,i,none⟩=false:=fun i=>by show(w.drew.alloc _).frozen? ⟨w.drew.heap.size,i,none⟩=_;rw[World.frozen?_alloc_new]
    have key:=hH.push (w':=W) hlt loc (aB z (old++x.l)) rfl rfl rfl (by show w.heap.size<(w.drew.alloc _).heap.size;simp) (fun c hc'=>Below.heap_alloc w.drew _ c hc') rfl
     (qmp (vs:=iP++pR) (loc:=loc) (Im.bC _ _ _) (aI.mono (Im.iW loc (hH.fresh _ (lg _))) _ _ (ho.append hx)) (fun v hv=>by
      rcases gz.1 hv with hv|hv
      ·exact ho1 v hv
      ·exact hx1 v hv) (fun i v hv=>by
      rw[qf];refine⟨?_,aBY i⟩;rw[cell];have hi:i<(iP++pR).length:=by
       rcases yf i (iP++pR).length with h|h
       ·exact h
       ·simp_all
      rw[uf hi];exact hv) (fun j hj=>by
      have hj:j<(newCap-need)*z:=hj;rw[qf,cell];have hl2:(iP++pR).length=(old++x.l).length:=by rw[lq,lq,ho.length,hx.length]
      rw[uC (by omega),hl2,zo];have:j<(gT zv.cells.toList (newCap-need)).length:=by rw[qcd];simpa [hzl] using hj
      exact⟨_,lh this,aBY _,z3 _ (qg6 (lu this))⟩))
    refine⟨ι.set H.nx loc,?_,key.1,key.2⟩;refine⟨lg _,loc,Im.bC _ _ _,?_⟩;simp[loc];omega
  ·cases hap
theorem qfl{t u e ty:TypeId}(ht:P.underlying t=some (.slice e)){td:TypeDesc}(hu:P.underlying u=some td)(htd:td=.string\/∃ e',td=.slice e'){z:Nat}(hz:gX P e=some z)(base:Option Addr)(len C:Nat)(X:Value){m:Nat}{vs:List Value}(hl:(Builtin.lenOf X).run P w=.ok m w)(hf:(Builtin.firstCells z m X).run P w=.ok vs.toArray w)(hle:len+m<=C){w':World}(hst:∀ ad,base=some ad->(storeCells (ad.add (len*z)) vs).run P w=.ok () w')(hno:base=none->w'=w):(Builtin.append_ #[t,u] ty #[.slice base len C,X]).run P w=.ok (.slice base (len+m) C) w':=by
 cases base with
 |none=>
  rw[hno rfl];rcases htd with rfl|⟨e',rfl⟩
  all_goals simp[Builtin.append_,bU ht,bU hu,nJ hz,hl,hf,hle]
 |some ad=>
  have hst:=hst ad rfl;rcases htd with rfl|⟨e',rfl⟩
  all_goals simp[Builtin.append_,bU ht,bU hu,nJ hz,hl,hf,hle,hst]
set_option maxHeartbeats 1000000 in
theorem qhu{t u e ty:TypeId}(ht:P.underlying t=some (.slice e)){td:TypeDesc}(hu:P.underlying u=some td)(htd:td=.string\/∃ e',td=.slice e'){z b:Nat}(hz:gX P e=some z)(hb:qjw P e=some b){zv:Value}(hzv:(P.info? e).bind (·.zero)=some zv)(base:Option Addr)(len C:Nat)(X:Value){m:Nat}{vs iP:List Value}(hl:(Builtin.lenOf X).run P w=.ok m w)(hf:(Builtin.firstCells z m X).run P w.drew=.ok vs.toArray w.drew)(hof:(Builtin.firstCells z len (.slice base len C)).run P w.drew=.ok iP.toArray w.drew)(hgt:¬ len+m<=C)(hbig:(len+m)*b<=1099511627776)(hbig2:len+m<=1099511627776):∃newCap,len+m<=newCap/\(Builtin.append_ #[t,u] ty #[.slice base len C,X]).run P w=.ok (.slice (some ⟨w.heap.size,0,none⟩) (len+m) newCap) (w.drew.alloc (.cells (iP.toArray++vs.toArray++Builtin.zeroCells zv.cells (newCap-(len+m))) e)):=by
 obtain⟨ti,ti1,ti2⟩:=qv9 (P:=P) hb;have hnc:=qsr (need:=len+m) (old:=C) (by omega);have h2:¬(2 ^ 48<Builtin.nextslicecap (len+m) C*ti.bytes):=by have hm:Builtin.nextslicecap (len+m) C*ti.bytes<=3*(len+m)*ti.bytes:=uz _ hnc;rw[ti2]at hm ⊢;have:3*(len+m)*b=3*((len+m)*b):=Nat.mul_assoc _ _ _;omega
 refine⟨(Question.appendCap (len+m) C e).cut (w.tape w.drawn (.appendCap (len+m) C e)),by simp only[Question.cut];omega,?_⟩;generalize hcap:(Question.appendCap (len+m) C e).cut (w.tape w.drawn (.appendCap (len+m) C e))=cap;rcases htd with rfl|⟨e',rfl⟩
 all_goals
  simp[Builtin.append_,bU ht,bU hu,nJ hz,hl,hgt,ti1,h2,Question.forced,hcap,hof,hf,qcz hzv,newRow];rw[kz (by omega),<-Array.append_assoc];simp
theorem qp2{e:TypeId}{ap:Ap}(h:apS P e=some ap):gX P e=some ap.z/\qjw P e=some ap.w/\qj1 P e=some ap.zl/\ap.zl.length=ap.z/\∃ zv,(P.info? e).bind (·.zero)=some zv:=by
 unfold apS at h;split at h
 ·rename_i z ww zl e1 e2 e3;cases hb:Nat.beq zl.length z with
  |false=>rw[hb]at h;cases h
  |true=>rw[hb]at h;simp only[qy,qh]at h;subst h;obtain⟨zv,z1,_⟩:=qcs (ι:=fun _=>none) e3;simp_all
 ·cases h
theorem HR.drew(h:HR ι H w):HR ι H w.drew:=
 ⟨h.top,fun b hb=>(h.blk b hb).keep fun _ _ _=>rfl,h.low,h.inj,h.fresh,h.free⟩
theorem zkb{b i len cap:Nat}{loc:Loc}{z:Nat}(hH:HR ι H w)(hb:ι b=some loc)(hend:qhx (H.get b) (i+cap*z) z=true){old:List AV}(hold:eB (H.get b) i (len*z)=some old){x:Src}{pR:List Value}(hx:aI ι x.l pR)(hx1:∀ v∈pR,v.oneCell=true)(hxn:pR.length=x.n*z)(hlc:len<=cap)(hgt:¬ len+x.n<=cap)(hfit:len+x.n<=cap+loc.ext){v:AV}{H':Hp}(h:grow z (H.put b .dead) old x (len+x.n)=.ok v H'):∃w' ι',(storeCells ⟨loc.blk,loc.base+i+len*z,none⟩ pR).run P w=.ok () w'/\aL ι' v (.slice (some ⟨loc.blk,loc.base+i,none⟩) (len+x.n) (cap+loc.ext))/\HR ι' H' w'/\Fr ι ι' H H' w w':=by
 have hlt:=hH.lt hb;have hB:=hH.blk b hlt;unfold qhx at hend;split at hend
 ·rename_i dd nn c z' hg;simp only[pq]at hend;have e1:=vB hend.1;have e2:=vB hend.2;have hwr:(H.get b).wr=true:=by rw[hg];rfl
  obtain⟨ol,ov⟩:=qe6 hB hold;rw[hg]at hB;obtain⟨l',b1,⟨b2,b2'⟩,b3,b4⟩:=hB;rw[hb]at b1;cases b1;have hz:loc.z=z:=by rw[b2',e2]
  have aLv:(len+x.n)*z=len*z+x.n*z:=xh _ _ _;have bIS:(cap+loc.ext)*z=cap*z+loc.ext*z:=xh _ _ _;have bQe:(len+x.n)*z<=(cap+loc.ext)*z:=uz z hfit
  -- every cell up to the end of the room is there
  have there:∀ j,j<nn+loc.ext*z->∃ u,w.cell? ⟨loc.blk,loc.base+j,none⟩=some u/\w.frozen? ⟨loc.blk,loc.base+j,none⟩=false/\u.oneCell=true:=by
   intro j hj;by_cases hjn:j<nn
   ·obtain⟨V,c1,_,c3,c4⟩:=b3 j hjn;exact⟨V,c1,c4 rfl,c3⟩
   ·obtain⟨V,c1,c2⟩:=b4 rfl (j-nn) (by rw[hz];omega);simp_all
  obtain⟨w',r1,r2⟩:=qht P loc.blk pR w (loc.base+i+len*z) 0 (fun j hj=>by obtain⟨u,c1,c2,_⟩:=there (i+len*z+j) (by omega);rw[show loc.base+i+len*z+0+j=loc.base+(i+len*z+j)by omega];exact⟨u,c1,c2⟩) hx1;rw[xy]at r2;unfold grow at h
  ·
   obtain⟨rfl,rfl⟩:=h;have hnx:iB (H.nx):=pF;obtain⟨k1,k2⟩:=hH.kill hlt hwr;have hnone:=hH.fresh H.nx (lg _)
   let uI:Loc:=⟨loc.blk,loc.base+i,cap+loc.ext-(len+x.n),z⟩
   have hle:ι.le (ι.set H.nx uI):=Im.iW uI hnone;have aBG:(H.put b .dead).get H.nx=.dead:=k1.free _ (lg _) hnx
   -- the cells that were there
   obtain⟨iP,o1,o2,o3,o4⟩:∃ iP,aI ι old iP/\iP.length=len*z/\(∀v∈iP,v.oneCell=true)/\∀(j:Nat) (v:Value),iP[j]? =some v->w.cell? ⟨loc.blk,loc.base+i+j,none⟩=some v:=by
    rcases ov with ov|⟨l2,iP,g1,g2,g3,g4,g5⟩
    ·have:old=[]:=ry.1 (by rw[ol];exact ov);subst this;exact⟨[],by simp[aI],by simpa using ov.symm,by simp,by simp⟩
    ·rw[hb]at g1;cases g1;exact⟨iP,g2,g3,g4,g5⟩
   have hlen:(old++x.l).length=(len+x.n)*z:=by rw[lq,ol,<-hx.length,hxn,aLv]
   have cell:∀ j,w'.cell? ⟨loc.blk,loc.base+i+j,none⟩=if len*z<=j/\j<len*z+pR.length then some (pR.getD (j-len*z) Go.undef)else w.cell? ⟨loc.blk,loc.base+i+j,none⟩:=fun j=>by
    rw[r2.cell];by_cases hc:len*z<=j/\j<len*z+pR.length
    ·rw[pz hc,pz (by omega),show loc.base+i+j-(loc.base+i+len*z)=j-len*z by omega]
    ·rw[kz hc,kz (by omega)]
   have hbr:BR (ι.set H.nx uI) w' H.nx (aB z (old++x.l)):=by
    refine qmp (vs:=iP++pR) (loc:=uI) (Im.bC _ _ _) (aI.mono hle _ _ (o1.append hx)) (fun v hv=>by
     rcases gz.1 hv with hv|hv
     ·exact o3 v hv
     ·exact hx1 v hv) (fun j v hv=>?_) (fun j hj=>?_)
    ·show w'.cell? ⟨loc.blk,loc.base+i+j,none⟩=some v/\w'.frozen? ⟨loc.blk,loc.base+i+j,none⟩=false;have hj:j<(iP++pR).length:=by
      rcases yf j (iP++pR).length with h|h
      ·exact h
      ·simp_all
     rw[lq,o2,hxn]at hj;refine⟨?_,?_⟩
     ·rw[cell];by_cases hc:j<len*z
      ·rw[kz (by omega)];simp_all
      ·rw[pz (by omega)];rw[uC (by omega),o2]at hv;simp_all
     ·rw[r2.frozen];obtain⟨_,_,c2,_⟩:=there (i+j) (by omega);rw[uk];exact c2
    ·show ∃V,w'.cell? ⟨loc.blk,loc.base+i+((old++x.l).length+j),none⟩=some V/\w'.frozen? ⟨loc.blk,loc.base+i+((old++x.l).length+j),none⟩=false/\V.oneCell=true;have hj:j<(cap+loc.ext-(len+x.n))*z:=hj;have bNB:(cap+loc.ext-(len+x.n))*z=(cap+loc.ext)*z-(len+x.n)*z:=Nat.sub_mul _ _ _;rw[cell,r2.frozen,kz (by omega),hlen];obtain⟨u,c1,c2⟩:=there (i+((len+x.n)*z+j)) (by omega);rw[uk];simp_all
   have hadd:=k1.add (w':=w') hnx hnone aBG (Nat.le_succ _) hnx (ak _) uI (aB z (old++x.l)) (by rw[r2.size];exact lg _)
    (fun c m hc h1 h2=>r2.keep _ fun he=>by
     rw[Hp.get_put _ _ _ _ hlt hc]at h1;by_cases ecb:c=b
     ·subst ecb;simp[bO.dF]at h1
     ·rw[kz ecb]at h1;exact ecb (hH.inj b c loc m hlt hc hwr h1 hb h2 he.symm).symm)
    (fun _=>by rw[r2.size];exact hH.low b loc hlt (bO.bE hwr) hb)
    (fun c m hc h1 h2 he=>by
     rw[Hp.get_put _ _ _ _ hlt hc]at h1;by_cases ecb:c=b
     ·subst ecb;simp[bO.dF]at h1
     ·rw[kz ecb]at h1;exact ecb (hH.inj b c loc m hlt hc hwr h1 hb h2 he.symm).symm) hbr
   refine⟨w',ι.set H.nx uI,r1,?_,hadd,⟨hle,Nat.le_succ _,fun c h1 h2=>?_,r2.os,r2.tape,r2.output,by rw[r2.size];exact lg _,fun c hc h1=>r2.keep c fun he=>h1 b loc hlt hwr hb he.symm,fun c m hc h1 h2=>?_,fun c m hc h1 h2=>?_⟩⟩
   ·simp only[aL];refine⟨lg _,uI,Im.bC _ _ _,?_⟩;simp[uI];omega
   ·by_cases e:c=H.nx
    ·omega
    ·rw[Im.dX _ _ e]at h2;exact absurd h1 h2
   ·have hgc:(aO (H.put b .dead) (aB z (old++x.l))).get c=if c=H.nx then aB z (old++x.l)else(H.put b .dead).get c:=by exact Mem.get_put _ _ _ _
    by_cases e:c=H.nx
    ·subst e;rw[Im.bC]at h2;cases h2;exact .inr ⟨b,loc,hlt,hwr,hb,rfl⟩
    ·rw[hgc,kz e,Hp.get_put _ _ _ _ hlt hc]at h1;rw[Im.dX _ _ e]at h2;by_cases ecb:c=b
     ·subst ecb;simp[bO.wr]at h1
     ·rw[kz ecb]at h1;exact .inr ⟨c,m,hc,h1,h2,rfl⟩
   ·have hgc:(aO (H.put b .dead) (aB z (old++x.l))).get c=if c=H.nx then aB z (old++x.l)else(H.put b .dead).get c:=by exact Mem.get_put _ _ _ _
    by_cases e:c=H.nx
    ·subst e;rw[Im.bC]at h2;cases h2;exact .inr ⟨b,loc,hlt,bO.bE hwr,hb,rfl⟩
    ·rw[hgc,kz e,Hp.get_put _ _ _ _ hlt hc]at h1;rw[Im.dX _ _ e]at h2;by_cases ecb:c=b
     ·subst ecb;simp[bO.dF]at h1
     ·rw[kz ecb]at h1;exact .inr ⟨c,m,hc,h1,h2,rfl⟩
 ·cases hend
theorem qoe{z:Nat}{x:AV}{X:Value}(hx:aL ι x X)(hH:HR ι H w){s:Src}(h:oQ z H x=some s):∃vs:List Value,aI ι s.l vs/\(∀v∈vs,v.oneCell=true)/\vs.length=s.n*z/\(Builtin.lenOf X).run P w=.ok s.n w /\ ∀k,k<=s.n->(Builtin.firstCells z k X).run P w=.ok (vs.take (k*z)).toArray w:=by
 unfold oQ at h;split at h
 ·cases hz:Nat.beq z 1 with
  |false=>rw[hz]at h;cases h
  |true=>rw[hz]at h;exact q7t hx hH h (fun _=>vB hz)
 ·rename_i hn;exact q7t hx hH h (fun⟨m,b,e⟩=>absurd e (hn m b))
theorem zwt{b i len:Nat}{z:Nat}{loc:Loc}{C:Nat}(hH:HR ι H w)(hb:ι b=some loc){old:List AV}(h:eB (H.get b) i (len*z)=some old):∃iP,aI ι old iP/\(∀v∈iP,v.oneCell=true)/\iP.length=len*z/\(Builtin.firstCells z len (.slice (some ⟨loc.blk,loc.base+i,none⟩) len C)).run P w=.ok iP.toArray w:=by
 obtain⟨ol,ov⟩:=qe6 (hH.blk b (hH.lt hb)) h;have fin:∀ iP:List Value,iP.length=len*z->(∀(j:Nat) (v:Value),iP[j]? =some v->w.cell? ⟨loc.blk,loc.base+i+j,none⟩=some v)->(Builtin.firstCells z len (.slice (some ⟨loc.blk,loc.base+i,none⟩) len C)).run P w=.ok iP.toArray w:=fun iP h1 h2=>by have:=run_loadCells P w loc.blk (loc.base+i) iP h2;rw[h1]at this;trivial
 rcases ov with ov|⟨l2,iP,g1,g2,g3,g4,g5⟩
 ·have:old=[]:=ry.1 (by rw[ol];exact ov);subst this;exact⟨[],by simp[aI],by simp,by simpa using ov.symm,fin [] (by simpa using ov.symm) (by simp)⟩
 ·rw[hb]at g1;cases g1;exact⟨iP,g2,g4,g3,fin iP g3 g5⟩
theorem q9p{t u e:TypeId}{x y:Operand}(ho:o.op=.call {callee:=.builtin .append,args:= #[x,y],argTypes:= #[t,u]})(ht:P.underlying t=some (.slice e)){td:TypeDesc}(hu:P.underlying u=some td)(htd:td=.string\/∃ e',td=.slice e'){ap:Ap}(hap:apS P e=some ap)(hH:HR ι H w)(h:LR ι d n L a.tmps):sH P o a.eval ι H w (j5 ap.z ap.w H ((aG d n x).f L) (oQ ap.z H ((aG d n y).f L))):=by
 have hx:=dU h x;have hy:=dU h y;obtain⟨a1,a2,a3,a4,zv,a5⟩:=qp2 hap;have run:∀ S V w',a.eval x=S->(Builtin.append_ #[t,u] o.type #[S,a.eval y]).run P w=.ok V w'->(execOp a.eval o).run P w=.ok (.value V) w':=fun S V w' h1 h2=>by simp[execOp,ho,resolve,invoke,builtin,h1,h2]
 cases hs:oQ ap.z H ((aG d n y).f L)with
 |none=>trivial
 |some s=>
  obtain⟨pR,x1,x2,x3,x4,x5⟩:=qoe (P:=P) hy hH hs;obtain⟨bRs,x1',x2',x3',x4',x5'⟩:=qoe (P:=P) hy hH.drew hs;have x5:=x5 s.n (lg _);have x5':=x5' s.n (lg _);rw[<-x3,uj]at x5;rw[<-x3',uj]at x5';cases hv:j5 ap.z ap.w H ((aG d n x).f L) (some s)with
  |bad=>trivial
  |ok v H'=>
   unfold j5 at hv;simp only at hv;split at hv
   ·rename_i e1;rw[e1]at hx;simp only[aL]at hx;cases hn:Nat.beq s.n 0 with
    |true=>have hn:=vB hn;rw[hn]at hv;obtain⟨rfl,rfl⟩:=hv;have r:=qfl (ty:=o.type) ht hu htd a1 none 0 0 (a.eval y) x4 x5 (by omega) (w':=w) (fun _ h=>by cases h) (fun _=>rfl);rw[hn]at r;exact⟨_,.slice none 0 0,w,ι,run _ _ _ hx r,.inl rfl,by simp only[aL],hH,Fr.refl _ _ _⟩
    |false=>
     rw[hn]at hv;simp only[zh]at hv;have hn:=qxd hn;cases hbg:(Nat.ble (Nat.mul s.n ap.w) gH&&Nat.ble s.n gH)with
     |false=>rw[hbg]at hv;cases hv
     |true=>rw[hbg]at hv;simp only[qy]at hv;simp only[pq]at hbg;have g1:s.n*ap.w<=1099511627776:=oH hbg.1;have g2:s.n<=1099511627776:=oH hbg.2;obtain⟨nc,c1,c2⟩:=qhu (ty:=o.type) (iP:=[]) ht hu htd a1 a2 a5 none 0 0 (a.eval y) x4 x5' (by simp[Builtin.firstCells]) (by omega) (by rw[qf];exact g1) (by omega);rw[qf]at c1 c2;obtain⟨ι',d1,d2,d3⟩:=qwy hap hH (iP:=[]) (show aI ι [] []by simp[aI]) (by simp) x1' x2' (by simp[x3']) hv nc c1 a5 w.drew rfl;exact⟨_,_,_,ι',run _ _ _ hx c2,.inl rfl,d1,d2,d3⟩
   ·rename_i b i len cap ex e1;rw[e1]at hx;simp only[aL]at hx;obtain⟨hlc,loc,h1,h2⟩:=hx;cases hin:Nat.ble (len+s.n) cap with
    |true=>
     rw[hin]at hv;simp only[qy]at hv;have hin:=oH hin;obtain⟨rfl,w',r1,r2,r3⟩:=qdt P hH h1 x1 x2 hv;have r:=qfl (ty:=o.type) ht hu htd a1 (some ⟨loc.blk,loc.base+i,none⟩) len (if ex then cap else cap+loc.ext) (a.eval y) x4 x5 (by split<;>omega) (w':=w')
      (fun ad h=>by cases h;rw[addr_add,uk];exact r1) (fun h=>by cases h)
     refine⟨_,_,w',ι,run _ _ _ h2 r,.inl rfl,?_,r2,r3⟩;simp only[aL];exact⟨hin,loc,h1,rfl⟩
    |false=>
     rw[hin]at hv;simp only[zh]at hv;have hin:=z8z hin;cases hbg:(Nat.ble (Nat.mul (len+s.n) ap.w) gH&&Nat.ble (len+s.n) gH)with
     |false=>rw[hbg]at hv;cases hv
     |true=>
      rw[hbg]at hv;simp only[qy]at hv;simp only[pq]at hbg;have g1:(len+s.n)*ap.w<=1099511627776:=oH hbg.1;have g2:len+s.n<=1099511627776:=oH hbg.2;split at hv
      ·cases hv
      ·rename_i old hold;have grown:∀ C,¬len+s.n<=C->a.eval x=.slice (some ⟨loc.blk,loc.base+i,none⟩) len C->∀(H1:Hp),HR ι H1 w->Fr ι ι H H1 w w->grow ap.z H1 old s (len+s.n)=.ok v H'->sH P o a.eval ι H w (.ok v H'):=by
        intro C hC hxC H1 hH1 hF1 hg;obtain⟨iP,o1,o2,o3,o4⟩:=zwt (P:=P) (w:=w.drew) (C:=C) hH.drew h1 hold;obtain⟨nc,c1,c2⟩:=qhu (ty:=o.type) ht hu htd a1 a2 a5 (some ⟨loc.blk,loc.base+i,none⟩) len C (a.eval y) x4 x5' o4 hC g1 g2;obtain⟨ι',d1,d2,d3⟩:=qwy hap hH1 o1 o2 x1' x2' (by rw[o3,x3',xh]) hg nc c1 a5 w.drew rfl;exact⟨_,_,_,ι',run _ _ _ hxC c2,.inl rfl,d1,d2,hF1.trans d3⟩
       cases ex with
       |true=>exact grown cap hin (by simpa using h2) H hH (Fr.refl _ _ _) hv
       |false=>
        cases hend:qhx (H.get b) (i+cap*ap.z) ap.z with
        |false=>rw[hend]at hv;cases hv
        |true=>
         rw[hend]at hv;simp only[qy]at hv;by_cases hfit:len+s.n<=cap+loc.ext
         ·obtain⟨w',ι',q1,q2,q3,q4⟩:=zkb (P:=P) hH h1 hend hold x1 x2 x3 hlc hin hfit hv;have r:=qfl (ty:=o.type) ht hu htd a1 (some ⟨loc.blk,loc.base+i,none⟩) len (cap+loc.ext) (a.eval y) x4 x5 hfit (w':=w')
           (fun ad h=>by cases h;rw[addr_add];exact q1) (fun h=>by cases h)
          exact⟨_,_,w',ι',run _ _ _ h2 r,.inl rfl,q2,q3,q4⟩
         ·have hwr:(H.get b).wr=true:=by
           unfold qhx at hend;split at hend
           ·rename_i hg;rw[hg];rfl
           ·cases hend
          obtain⟨k1,k2⟩:=hH.kill (hH.lt h1) hwr;exact grown _ hfit h2 _ k1 k2 hv
   ·cases hv
theorem z8j{t u e:TypeId}{x y:Operand}(ho:o.op=.call {callee:=.builtin .copy,args:= #[x,y],argTypes:= #[t,u]})(ht:P.underlying t=some (.slice e)){z:Nat}(hz:gX P e=some z)(hH:HR ι H w)(h:LR ι d n L a.tmps):sH P o a.eval ι H w (copyV z H ((aG d n x).f L) (oQ z H ((aG d n y).f L))):=by
 have hx:=dU h x;have hy:=dU h y;cases hs:oQ z H ((aG d n y).f L)with
 |none=>cases (aG d n x).f L<;>trivial
 |some s=>
  obtain⟨pR,x1,x2,x3,x4,x5⟩:=qoe (P:=P) hy hH hs;unfold copyV;split
  ·rename_i s' b i m cap ex e0 e1;cases e0;rw[e1]at hx;simp only[aL]at hx;obtain⟨_,loc,h1,h2⟩:=hx;cases hst:storeAt H b i (s.l.take (Nat.mul (min s.n m) z)) (i64 (min s.n m))with
   |bad=>trivial
   |ok v H'=>obtain⟨rfl,w',r1,r2,r3⟩:=qdt P hH h1 (x1.take _) (fun v hv=>x2 v (iy hv)) hst;refine⟨.value (.int .i64 ((min s.n m:Nat):Int)),_,w',ι,?_,.inl rfl,uT _ _,r2,r3⟩;have x5:=x5 (min s.n m) (bz _ _);have r1:(storeCells ⟨loc.blk,loc.base+i,none⟩ (pR.take (min s.n m*z))).run P w=.ok () w':=r1;simp only[execOp,ho,resolve,invoke,builtin,Sem.run_bind,Sem.run_pure,Result.andThen_ok,List.map_toArray,zy,lA8,Builtin.copy_,h2];simp only[List.getElem?_toArray,lAP,yu,Sem.run_bind,bU ht,x4,nJ hz,Result.andThen_ok];rw[show s.n.min m=min s.n m from rfl,x5];simp[r1,goInt]
  ·rename_i s' e0 e1;rw[e1]at hx;simp only[aL]at hx;refine⟨.value (.int .i64 0),_,w,ι,?_,.inl rfl,uT _ _,hH,Fr.refl _ _ _⟩;have x5:=x5 0 (gq _);simp only[execOp,ho,resolve,invoke,builtin,Sem.run_bind,Sem.run_pure,Result.andThen_ok,List.map_toArray,zy,lA8,Builtin.copy_,hx];simp only[List.getElem?_toArray,lAP,yu,Sem.run_bind,bU ht,x4,nJ hz,Result.andThen_ok];rw[show s.n.min 0=0 from Nat.min_zero _,x5];rfl
  ·rename_i s' e0 e1;rw[e1]at hx;simp only[aL]at hx;obtain⟨ad,c,hx⟩:=hx;refine⟨.value (.int .i64 0),_,w,ι,?_,.inl rfl,uT _ _,hH,Fr.refl _ _ _⟩;have x5:=x5 0 (gq _);simp only[execOp,ho,resolve,invoke,builtin,Sem.run_bind,Sem.run_pure,Result.andThen_ok,List.map_toArray,zy,lA8,Builtin.copy_,hx];simp only[List.getElem?_toArray,lAP,yu,Sem.run_bind,bU ht,x4,nJ hz,Result.andThen_ok];rw[show s.n.min 0=0 from Nat.min_zero _,x5];simp[goInt,storeCells]
  ·trivial
/- maps -/
theorem qdd{b:Nat}{es:List lD}{clock:Nat}{loc:Loc}(hH:HR ι H w)(hb:ι b=some loc)(hg:H.get b=.map es clock)(es':List lD)(clock':Nat){ES':List MapEntry}(hE:bY ι es' ES'):HR ι (H.put b (.map es' clock')) {w with heap:=w.heap.setIfInBounds loc.blk (.map ES'.toArray clock')}/\Fr ι ι H (H.put b (.map es' clock')) w {w with heap:=w.heap.setIfInBounds loc.blk (.map ES'.toArray clock')}:=by
 have hlt:=hH.lt hb;have hwr:(H.get b).wr=true:=by rw[hg];rfl
 have hlow:=hH.low b loc hlt (bO.bE hwr) hb;refine hH.put hlt hwr hb _ rfl rfl rfl (by simp) (fun c hc=>?_) ⟨loc,ES',hb,?_,hE⟩
 ·show(w.heap.setIfInBounds loc.blk _)[c]? =_;rw[Array.getElem?_setIfInBounds_ne (Ne.symm hc)]
 ·simp_all
theorem bY.set:∀{es:List lD} {ES:List MapEntry},bY ι es ES->∀(i:Nat) (x:lD) (e:MapEntry),aL ι x.key e.key->aL ι x.val e.val->e.born=x.born->bY ι (es.set i x) (ES.set i e)
 | [],ES,h,i,x,e,_,_,_=>by simp only[bY]at h;subst h;simp[bY]
 |y::es,ES,h,i,x,e,h1,h2,h3=>by
  obtain⟨e0,r,rfl,g1,g2,g3,g4⟩:=h;cases i with
  |zero=>simp only[List.set_cons_zero,bY];exact⟨e,r,rfl,h1,h2,h3,g4⟩
  |succ i=>simp only[List.set_cons_succ,bY];exact⟨e0,r.set i e,rfl,g1,g2,g3,bY.set g4 i x e h1 h2 h3⟩
theorem bY.snoc:∀{es:List lD} {ES:List MapEntry},bY ι es ES->∀(x:lD) (e:MapEntry),aL ι x.key e.key->aL ι x.val e.val->e.born=x.born->bY ι (es++[x]) (ES++[e])
 | [],ES,h,x,e,h1,h2,h3=>by simp only[bY]at h;subst h;simp only[ae,bY];exact⟨e,[],rfl,h1,h2,h3,rfl⟩
 |y::es,ES,h,x,e,h1,h2,h3=>by obtain⟨e0,r,rfl,g1,g2,g3,g4⟩:=h;simp only[nz,bY];exact⟨e0,r++[e],rfl,g1,g2,g3,bY.snoc g4 x e h1 h2 h3⟩
theorem bY.erase:∀{es:List lD} {ES:List MapEntry},bY ι es ES->∀(i:Nat),bY ι (es.eraseIdx i) (ES.eraseIdx i)
 | [],ES,h,i=>by simp only[bY]at h;subst h;simp[bY]
 |y::es,ES,h,i=>by
  obtain⟨e0,r,rfl,g1,g2,g3,g4⟩:=h;cases i with
  |zero=>simpa using g4
  |succ i=>simp only[List.eraseIdx_cons_succ,bY];exact⟨e0,r.eraseIdx i,rfl,g1,g2,g3,bY.erase g4 i⟩
/- keys that are the same -/
theorem q7y{x y:AV}(h:zry x y=true){X Y:Value}(hx:aL ι x X)(hy:aL ι y Y):X=Y/\∀ k,Instr.sameBits k X X=true:=by
 unfold zry at h;split at h
 ·simp only[pq]at h;have:=ztp h.1;subst this;have h2:=h.2;rw[qfc]at h2;simp only[aL]at hx hy;subst hx hy;obtain rfl:=eq_of_beq h2;exact⟨rfl,fun k=>by cases k<;>simp[Instr.sameBits]⟩
 ·simp only[aL]at hx hy;obtain⟨s,rfl,h1⟩:=hx;obtain⟨u,rfl,h2⟩:=hy;rw[h1.eq h2]at h;have e:s=u:=by
   have:s.data.toList=u.data.toList:=by simpa using h
   cases s;cases u;simp at this;rw[this]
  subst e;exact⟨rfl,fun k=>by cases k<;>simp[Instr.sameBits,beq_toListBytes]⟩
 ·simp only[aL]at hx hy;subst hx hy;obtain rfl:=eq_of_beq h;exact⟨rfl,fun k=>by cases k<;>simp[Instr.sameBits]⟩
 ·cases h
theorem q7x:∀{l m:List AV} {vs us:List Value},zau l m=true->aI ι l vs->aI ι m us->vs=us/\∀ k,(vs.zip vs).all (fun(x,y)=>Instr.sameBits k x y)=true
 | [],[],vs,us,_,h1,h2=>by simp only[aI]at h1 h2;subst h1 h2;exact⟨rfl,fun _=>rfl⟩
 | [],_::_,vs,us,h,_,_=>by simp[zau]at h
 |_::_,[],vs,us,h,_,_=>by simp[zau]at h
 |x::l,y::m,vs,us,h,h1,h2=>by obtain⟨v,r,rfl,a1,a2⟩:=h1;obtain⟨u,r',rfl,b1,b2⟩:=h2;simp only[zau,pq]at h;obtain⟨c1,c2⟩:=q7y h.1 a1 b1;obtain⟨d1,d2⟩:=q7x h.2 a2 b2;simp_all
theorem qsf{x y:AV}(h:sameKey x y=true){X Y:Value}(hx:aL ι x X)(hy:aL ι y Y):Instr.sameBits 10000 X Y=true:=by
 unfold sameKey at h;split at h
 ·obtain⟨vs,a1,rfl,_⟩:=y7 hx;obtain⟨us,b1,rfl,_⟩:=y7 hy;obtain⟨rfl,c⟩:=q7x h a1 b1;simp only[Instr.sameBits,pq];simp_all
 ·obtain⟨rfl,c⟩:=q7y h hx hy;exact c 10000
theorem qky(ES:List MapEntry)(i:Nat)(E:MapEntry)(h:ES[i]? =some E)(f:MapEntry->MapEntry):ES.modify i f=ES.set i (f E):=by
 apply List.ext_getElem?;intro j;rw[List.getElem?_modify,lAD];by_cases e:i=j
 ·subst e;have hlt:=(qm.1 h).1;simp only[ik,hlt];rw[h];rfl
 ·simp[e]
theorem z8h{t kt et:TypeId}{x y z:Operand}(ho:o.op=.mapUpdate t x y z\/o.op=.insert t x y z)(ht:P.underlying t=some (.map kt et)){ky:Ky}(hky:rY P kt=some ky)(hH:HR ι H w)(h:LR ι d n L a.tmps):sH P o a.eval ι H w (nI ky H ((aG d n x).f L) ((aG d n y).f L) ((aG d n z).f L)):=by
 have hx:=dU h x;have hy:=dU h y;have hz:=dU h z;have hrun:(execOp a.eval o).run P w=((Instr.mapUpdate t (a.eval x) (a.eval y) (a.eval z)).run P w).andThen fun _ w=>.ok .skip w:=by rcases ho with ho|ho<;>simp[execOp,ho]
 unfold nI;split
 ·rename_i b e1;rw[e1]at hx;simp only[aL]at hx;obtain⟨loc,h1,h2⟩:=hx;have hb:=hH.blk b (hH.lt h1);split
  ·rename_i es clock hg;rw[hg]at hb;obtain⟨l',ES,g1,g2,g3⟩:=hb;rw[h1]at g1;cases g1;split
   ·rename_i hit hf;obtain⟨c1,R,c2,c3⟩:=qfs hky hy g3 hf;obtain⟨V,E,rfl,d1,d2,d3,d4,d5,d6⟩:=c3;cases hsk:sameKey hit.x.key ((aG d n y).f L)with
    |false=>trivial
    |true=>have hsb:=qsf hsk d3 hy;obtain⟨m1,m2⟩:=qdd hH h1 hg (es.set hit.i ⟨(aG d n y).f L,(aG d n z).f L,hit.x.born⟩) clock (g3.set hit.i _ ⟨a.eval y,a.eval z,E.born⟩ hy hz d6);refine⟨.skip,Go.undef,_,ι,?_,.inr ⟨rfl,rfl⟩,by simp[aL,Go.undef],m1,m2⟩;rw[hrun,h2];have hmod:=qky ES hit.i E d2 (fun e=>{e with key:=a.eval y,val:=a.eval z});simp[Instr.mapUpdate,bU ht,getObj,setObj,Sem.run,g2,c1,c2,d2,Instr.keyThatStays,hsb,hmod]
   ·rename_i hf;obtain⟨c1,R,c2,c3⟩:=qfs hky hy g3 hf;simp only[q58]at c3;subst c3;obtain⟨m1,m2⟩:=qdd hH h1 hg (es++[⟨(aG d n y).f L,(aG d n z).f L,clock⟩]) (clock+1) (g3.snoc _ ⟨a.eval y,a.eval z,clock⟩ hy hz rfl);refine⟨.skip,Go.undef,_,ι,?_,.inr ⟨rfl,rfl⟩,by simp[aL,Go.undef],m1,m2⟩;rw[hrun,h2];simp[Instr.mapUpdate,bU ht,getObj,setObj,Sem.run,g2,c1,c2]
   ·trivial
  ·trivial
 ·trivial
theorem z2m{t kt et:TypeId}{x:Operand}(ho:o.op=.range t x)(ht:P.underlying t=some (.map kt et))(hH:HR ι H w)(h:LR ι d n L a.tmps):sH P o a.eval ι H w (zjv H ((aG d n x).f L)):=by
 have hx:=dU h x;unfold zjv;split
 ·rename_i e1;rw[e1]at hx;simp only[aL]at hx;obtain⟨m1,m2⟩:=hH.push (w':=w.alloc (.mapIter none 0 #[] 0)) pF ⟨w.heap.size,0,0,0⟩ (.gJ 0 0 0) rfl rfl rfl (by simp) (fun c hc=>Below.heap_alloc w _ c hc) rfl ⟨_,none,Im.bC _ _ _,rfl,by show(w.heap.push _)[w.heap.size]? =_;simp,rfl⟩;refine⟨.value (.pointer (some ⟨w.heap.size,0,none⟩)),_,_,_,?_,.inl rfl,?_,m1,m2⟩
  ·simp[execOp,ho,hx,Instr.range,bU ht]
  ·simp only[aL];exact⟨_,Im.bC _ _ _,rfl⟩
 ·rename_i b e1;rw[e1]at hx;simp only[aL]at hx;obtain⟨loc,h1,h2⟩:=hx;have hb:=hH.blk b (hH.lt h1);split
  ·rename_i es clock hg;rw[hg]at hb;obtain⟨l',ES,g1,g2,g3⟩:=hb;rw[h1]at g1;cases g1;have hne:b≠H.nx:=fun e=>by rw[e,hH.fresh _ (lg _)]at h1;cases h1
   obtain⟨m1,m2⟩:=hH.push (w':=w.alloc (.mapIter (some loc.blk) clock #[] clock)) pF ⟨w.heap.size,0,0,0⟩ (.gJ (Nat.succ b) clock 0) rfl rfl rfl (by simp) (fun c hc=>Below.heap_alloc w _ c hc) rfl ⟨_,some loc.blk,Im.bC _ _ _,rfl,by show(w.heap.push _)[w.heap.size]? =_;simp,loc,by rw[Im.dX _ _ hne];exact h1,rfl⟩;refine⟨.value (.pointer (some ⟨w.heap.size,0,none⟩)),_,_,_,?_,.inl rfl,?_,m1,m2⟩
   ·simp[execOp,ho,h2,Instr.range,bU ht,Sem.run,getObj,g2]
   ·simp only[aL];exact⟨_,Im.bC _ _ _,rfl⟩
  ·trivial
 ·trivial
theorem z8i{x:Operand}(ho:o.op=.next x false)(hH:HR ι H w)(h:LR ι d n L a.tmps):sH P o a.eval ι H w (z1s H ((aG d n x).f L)):=by
 have hx:=dU h x;unfold z1s;split
 ·rename_i b off e1;rw[e1]at hx;simp only[aL]at hx;obtain⟨loc,h1,h2⟩:=hx;have hb:=hH.blk b (hH.lt h1);cases ho0:Nat.beq off 0 with
  |false=>trivial
  |true=>
   obtain rfl:=rf ho0;split
   ·rename_i m since pos hg;rw[hg]at hb;obtain⟨l',r,g1,g0,g2,g3⟩:=hb;rw[h1]at g1;cases g1;rw[g0,xy]at h2;cases m with
    |zero=>
     subst g3;refine⟨.value (.tuple #[.bool false]),_,_,ι,?_,.inl rfl,?_,hH,Fr.refl _ _ _⟩
     ·simp[execOp,ho,h2,Instr.next,getObj,Sem.run,g2]
     ·simp only[aL,aI];exact⟨_,⟨_,_,rfl,rfl,rfl⟩,rfl⟩
    |succ m=>
     obtain⟨lm,k1,rfl⟩:=g3;have hm:=hH.blk m (hH.lt k1);simp only;split
     ·rename_i es clock hgm;rw[hgm]at hm;obtain⟨l2,ES,j1,j2,j3⟩:=hm;rw[k1]at j1;cases j1;cases hcs:Nat.beq clock since with
      |false=>trivial
      |true=>
       obtain rfl:=rf hcs;unfold z6n;split
       ·simp only[bY]at j3;subst j3;refine⟨.value (.tuple #[.bool false]),_,_,ι,?_,.inl rfl,?_,hH,Fr.refl _ _ _⟩
        ·simp[execOp,ho,h2,Instr.next,getObj,Sem.run,g2,j2,choose,Question.forced]
        ·simp only[aL,aI];exact⟨_,⟨_,_,rfl,rfl,rfl⟩,rfl⟩
       ·rename_i e;simp only[bY]at j3;obtain⟨E,_,rfl,q1,q2,q3,rfl⟩:=j3;cases hbl:Nat.blt e.born clock with
        |false=>trivial
        |true=>
         have hbl:=oH hbl;rw[<-q3]at hbl;simp only[qy];cases pos with
         |zero=>
          have hwr:(H.get b).wr=true:=by rw[hg];rfl
          have hlow:=hH.low b loc (hH.lt h1) (bO.bE hwr) h1;obtain⟨m1,m2⟩:=hH.put (w':={w with heap:=w.heap.setIfInBounds loc.blk (.mapIter (some lm.blk) clock #[E.born] clock)}) (hH.lt h1) hwr h1 (.gJ (Nat.succ m) clock (Nat.succ e.born)) rfl rfl rfl (by simp) (fun c hc=>by
           rw[Array.getElem?_setIfInBounds_ne (Ne.symm hc)]) ⟨loc,some lm.blk,h1,g0,by
           rw[Array.getElem?_setIfInBounds_self_of_lt hlow,q3],lm,k1,rfl⟩
          refine⟨.value (.tuple #[.bool true,E.key,E.val]),_,_,ι,?_,.inl rfl,?_,m1,m2⟩
          ·have hnl:¬ clock<=E.born:=by omega
           simp[execOp,ho,h2,Instr.next,getObj,setObj,Sem.run,g2,j2,choose,Question.forced,hnl,show E.born<clock from hbl]
          ·simp only[aL,aI];exact⟨_,⟨_,_,rfl,rfl,_,_,rfl,q1,_,_,rfl,q2,rfl⟩,rfl⟩
         |succ p=>
          cases hp:Nat.beq (p+1) (Nat.succ e.born)with
          |false=>trivial
          |true=>
           have hp:p+1=e.born+1:=rf hp;have hp:p=E.born:=by omega
           subst hp;refine⟨.value (.tuple #[.bool false]),_,_,ι,?_,.inl rfl,?_,hH,Fr.refl _ _ _⟩
           ·have hnl:¬ clock<=E.born:=by omega
            simp[execOp,ho,h2,Instr.next,getObj,Sem.run,g2,j2,choose,Question.forced,hnl]
           ·simp only[aL,aI];exact⟨_,⟨_,_,rfl,rfl,rfl⟩,rfl⟩
       ·trivial
     ·trivial
   ·trivial
 ·trivial
theorem z2n{t kt et:TypeId}{x y:Operand}(ho:o.op=.mapEntry t x y)(ht:P.underlying t=some (.map kt et)){ky:Ky}(hky:rY P kt=some ky){z:Value}(hz:(P.info? et).bind (·.zero)=some z)(hH:HR ι H w)(h:LR ι d n L a.tmps):sH P o a.eval ι H w (zl8 ky (qwf z) H ((aG d n x).f L) ((aG d n y).f L)):=by
 have hx:=dU h x;have hy:=dU h y;unfold zl8;split
 ·rename_i b e1;rw[e1]at hx;simp only[aL]at hx;obtain⟨loc,h1,h2⟩:=hx;have hb:=hH.blk b (hH.lt h1);split
  ·rename_i es clock hg;rw[hg]at hb;obtain⟨l',ES,g1,g2,g3⟩:=hb;rw[h1]at g1;cases g1;split
   ·rename_i hit hf;obtain⟨c1,R,c2,c3⟩:=qfs hky hy g3 hf;obtain⟨V,E,rfl,d1,d2,d3,d4,d5,d6⟩:=c3;cases hsk:sameKey hit.x.key ((aG d n y).f L)with
    |false=>trivial
    |true=>
     have hsb:=qsf hsk d3 hy;obtain⟨m1,m2⟩:=qdd hH h1 hg (es.set hit.i ⟨(aG d n y).f L,hit.x.val,hit.x.born⟩) clock (g3.set hit.i _ ⟨a.eval y,E.val,E.born⟩ hy (by rw[d5];exact d4) d6);refine⟨.value (.tuple #[V,.int .i64 (E.born:Int)]),_,_,ι,?_,.inl rfl,?_,m1,m2⟩
     ·have hmod:=qky ES hit.i E d2 (fun e=>{e with key:=a.eval y});simp[execOp,ho,h2,Instr.mapEntry,bU ht,getObj,setObj,Sem.run,g2,c1,c2,d2,Instr.keyThatStays,hsb,hmod,goInt]
     ·simp only[aL,aI];simp_all
   ·rename_i hf;obtain⟨c1,R,c2,c3⟩:=qfs hky hy g3 hf;simp only[q58]at c3;subst c3;obtain⟨m1,m2⟩:=qdd hH h1 hg (es++[⟨(aG d n y).f L,qwf z,clock⟩]) (clock+1) (g3.snoc _ ⟨a.eval y,z,clock⟩ hy (qgi z) rfl);refine⟨.value (.tuple #[z,.int .i64 (clock:Int)]),_,_,ι,?_,.inl rfl,?_,m1,m2⟩
    ·simp[execOp,ho,h2,Instr.mapEntry,bU ht,getObj,setObj,Sem.run,g2,c1,c2,qcz hz,goInt]
    ·simp only[aL,aI];exact⟨[z,.int .i64 (clock:Int)],⟨z,_,rfl,qgi z,_,_,rfl,rfl,rfl⟩,rfl⟩
   ·trivial
  ·trivial
 ·trivial
theorem qyb{k:Nat}:∀(es:List lD) (ES:List MapEntry) (i:Nat) (hit:zS),bY ι es ES->zi5 k es i=some hit -> ∃E j,hit.i=i+j/\ES[j]? =some E/\ES.findIdx? (fun e=>(e.born:Int)==(k:Int))=some j/\aL ι hit.x.key E.key/\E.born=hit.x.born
 | [],ES,i,hit,hE,hs=>by trivial
 |x::es,ES,i,hit,hE,hs=>by
  obtain⟨e,r,rfl,h1,h2,h3,h4⟩:=hE;have hs:(bif Nat.beq x.born k then some ⟨i,x⟩else zi5 k es (i+1))=some hit:=hs;cases hk:Nat.beq x.born k with
  |true=>rw[hk]at hs;simp only[qy,qh]at hs;subst hs;have:=vB hk;exact⟨e,0,rfl,rfl,by simp[List.findIdx?_cons,h3,this],h1,h3⟩
  |false=>
   rw[hk]at hs;simp only[zh]at hs;have hne:=qxd hk;obtain⟨E,j,a1,a2,a3,a4,a5⟩:=qyb es r (i+1) hit h4 hs;refine⟨E,j+1,by omega,by simpa using a2,?_,a4,a5⟩;have hb:(((e.born:Int))==(k:Int))=false:=by rw[h3];simp;omega
   rw[List.findIdx?_cons,hb,a3];rfl
theorem zmg{t:TypeId}{x y z:Operand}(ho:o.op=.entryStore t x y z)(hH:HR ι H w)(h:LR ι d n L a.tmps):sH P o a.eval ι H w (qw3 H ((aG d n x).f L) ((aG d n y).f L) ((aG d n z).f L)):=by
 have hx:=dU h x;have hy:=dU h y;have hz:=dU h z;unfold qw3;split
 ·rename_i b kk m e1 e2;rw[e1]at hx;rw[e2]at hy;simp only[aL]at hx hy;obtain⟨loc,h1,h2⟩:=hx;have hb:=hH.blk b (hH.lt h1);split
  ·rename_i es clock hg;rw[hg]at hb;obtain⟨l',ES,g1,g2,g3⟩:=hb;rw[h1]at g1;cases g1;split
   ·rename_i hit hf;obtain⟨E,j,a1,a2,a3,a4,a5⟩:=qyb es ES 0 hit g3 hf;obtain⟨m1,m2⟩:=qdd hH h1 hg (es.set hit.i ⟨hit.x.key,(aG d n z).f L,hit.x.born⟩) clock (g3.set hit.i _ ⟨E.key,a.eval z,E.born⟩ a4 hz a5);refine⟨.skip,Go.undef,_,ι,?_,.inr ⟨rfl,rfl⟩,by simp[aL,Go.undef],m1,m2⟩;have hmod:=qky ES j E a2 (fun e=>{e with val:=a.eval z});simp[execOp,ho,h2,hy,Instr.entryStore,getObj,setObj,Sem.run,g2,asInt,asIntOf,a3,hmod,a1]
   ·trivial
  ·trivial
 ·trivial
theorem aLh{t kt et:TypeId}{x y:Operand}{ts:Array TypeId}(ho:o.op=.call {callee:=.builtin .delete,args:= #[x,y],argTypes:=ts})(hts:ts[0]? =some t)(ht:P.underlying t=some (.map kt et)){ky:Ky}(hky:rY P kt=some ky)(hH:HR ι H w)(h:LR ι d n L a.tmps):sH P o a.eval ι H w (aF4 ky H ((aG d n x).f L) ((aG d n y).f L)):=by
 have hx:=dU h x;have hy:=dU h y;unfold aF4;split
 ·rename_i b e1;rw[e1]at hx;simp only[aL]at hx;obtain⟨loc,h1,h2⟩:=hx;have hb:=hH.blk b (hH.lt h1);split
  ·rename_i es clock hg;rw[hg]at hb;obtain⟨l',ES,g1,g2,g3⟩:=hb;rw[h1]at g1;cases g1;split
   ·rename_i hit hf;obtain⟨c1,R,c2,c3⟩:=qfs hky hy g3 hf;obtain⟨V,E,rfl,d1,d2,d3,d4,d5,d6⟩:=c3;obtain⟨m1,m2⟩:=qdd hH h1 hg (es.eraseIdx hit.i) clock (g3.erase hit.i);refine⟨.value (.tuple #[]),_,_,ι,?_,.inl rfl,by simp[aL],m1,m2⟩;have hlt:=(qm.1 d2).1;simp[execOp,ho,resolve,invoke,builtin,Builtin.delete_,h2,hts,bU ht,getObj,setObj,Sem.run,g2,c1,c2]
   ·rename_i hf;obtain⟨c1,R,c2,c3⟩:=qfs hky hy g3 hf;simp only[q58]at c3;subst c3;obtain⟨m1,m2⟩:=qdd hH h1 hg es clock g3;refine⟨.value (.tuple #[]),_,_,ι,?_,.inl rfl,by simp[aL],m1,m2⟩;simp[execOp,ho,resolve,invoke,builtin,Builtin.delete_,h2,hts,bU ht,getObj,setObj,Sem.run,g2,c1,c2]
   ·trivial
  ·trivial
 ·trivial
theorem qf6(zv:Value)(k:Nat):Builtin.zeroCells zv.cells k=(gT zv.cells.toList k).toArray:=by have:=range_zero zv.cells k zv.cells.size rfl;trivial
theorem ztt{t k e:TypeId}{x:Operand}(ho:o.op=.call {callee:=.builtin .clear,args:= #[x],argTypes:= #[t]})(ht:P.underlying t=some (.map k e))(hH:HR ι H w)(h:LR ι d n L a.tmps):sH P o a.eval ι H w (zmy H ((aG d n x).f L)):=by
 have hx:=dU h x;unfold zmy;split
 ·rename_i e1;rw[e1]at hx;simp only[aL]at hx;refine⟨.value (.tuple #[]),_,w,ι,?_,.inl rfl,by simp[aL],hH,Fr.refl _ _ _⟩;simp[execOp,ho,resolve,invoke,builtin,Builtin.clear_,hx,bU ht]
 ·rename_i b e1;rw[e1]at hx;simp only[aL]at hx;obtain⟨loc,h1,h2⟩:=hx;have hb:=hH.blk b (hH.lt h1);split
  ·rename_i es clock hg;rw[hg]at hb;obtain⟨l',ES,g1,g2,g3⟩:=hb;rw[h1]at g1;cases g1;obtain⟨m1,m2⟩:=qdd hH h1 hg [] clock (ES':=[]) (by simp[bY]);refine⟨.value (.tuple #[]),_,_,ι,?_,.inl rfl,by simp[aL],m1,m2⟩;simp[execOp,ho,resolve,invoke,builtin,Builtin.clear_,h2,bU ht,getObj,setObj,Sem.run,g2]
  ·trivial
 ·trivial
theorem zmh{t e:TypeId}{x:Operand}(ho:o.op=.call {callee:=.builtin .clear,args:= #[x],argTypes:= #[t]})(ht:P.underlying t=some (.slice e)){ap:Ap}(hap:apS P e=some ap)(hH:HR ι H w)(h:LR ι d n L a.tmps):sH P o a.eval ι H w (qik ap.zl H ((aG d n x).f L)):=by
 have hx:=dU h x;obtain⟨a1,a2,a3,a4,_⟩:=qp2 hap;obtain⟨zv,z1,z2,z3⟩:=qcs (ι:=ι) a3;unfold qik;split
 ·rename_i e1;rw[e1]at hx;simp only[aL]at hx;refine⟨.value (.tuple #[]),_,w,ι,?_,.inl rfl,by simp[aL],hH,Fr.refl _ _ _⟩;simp[execOp,ho,resolve,invoke,builtin,Builtin.clear_,hx,bU ht]
 ·rename_i b i m cap ex e1;rw[e1]at hx;simp only[aL]at hx;obtain⟨_,loc,h1,h2⟩:=hx;cases hm:Nat.beq m 0 with
  |true=>have hm:=vB hm;subst hm;refine⟨.value (.tuple #[]),_,w,ι,?_,.inl rfl,by simp[aL],hH,Fr.refl _ _ _⟩;simp[execOp,ho,resolve,invoke,builtin,Builtin.clear_,h2,bU ht]
  |false=>
   have hm:=qxd hm;cases hst:storeAt H b i (aV ap.zl m) .undef with
   |bad=>trivial
   |ok v H'=>obtain⟨rfl,w',r1,r2,r3⟩:=qdt P hH h1 (qjg z2 m) (fun v hv=>z3 v (qg6 hv)) hst;refine⟨.value (.tuple #[]),_,w',ι,?_,.inl rfl,by simp[aL],r2,r3⟩;obtain⟨m',rfl⟩:∃ m',m=m'+1:=⟨m-1,by omega⟩;simp[execOp,ho,resolve,invoke,builtin,Builtin.clear_,h2,bU ht,qcz z1,qf6,r1]
 ·trivial
theorem qib{t u e ty:TypeId}(ht:P.underlying t=some (.slice e)){kk:IntKind}(hu:P.underlying u=some (.int kk)){z b:Nat}(hz:gX P e=some z)(hb:qjw P e=some b){zv:Value}(hzv:(P.info? e).bind (·.zero)=some zv){zl:List AV}(hzr:aI ι zl zv.cells.toList)(hzl:zl.length=z)(base:Option Addr)(len C:Nat){k2:IntKind}{m:Nat}(hm:m<=1099511627776)(hmb:m*b<=1099511627776)(hle:len+m<=C){w':World}(hst:∀ ad,base=some ad->(storeCells (ad.add (len*z)) (gT zv.cells.toList m)).run P w=.ok () w')(hno:base=none->w'=w):(Builtin.append_ #[t,u] ty #[.slice base len C,.int k2 (m:Int)]).run P w=.ok (.slice base (len+m) C) w':=by
 obtain⟨ti,ti1,ti2⟩:=qv9 (P:=P) hb;have w1:IntKind.i64.wrap (m:Int)=m:=IntWalk.i64_in _ (by omega);have hlt:¬((m:Int)<0):=by omega
 have hbig:¬(281474976710656<(m:Int)*(ti.bytes:Int)):=by rw[ti2];omega
 have hsz:zv.cells.size=z:=by have:=hzr.length;simp at this;omega
 have hnil:m*z=0->gT zv.cells.toList m=[]:=fun h0=>ry.1 (by rw[qcd];simp[hsz,h0]);by_cases h0:m*z=0
 ·have hr:=hnil h0;cases base with
  |none=>rw[hno rfl];simp[Builtin.append_,bU ht,bU hu,nJ hz,asInt,asIntOf,w1,hlt,ti1,hbig,h0,hle]
  |some ad=>have hst:=hst ad rfl;rw[hr]at hst;simp[Builtin.append_,bU ht,bU hu,nJ hz,asInt,asIntOf,w1,hlt,ti1,hbig,h0,hle,hst]
 ·cases base with
  |none=>rw[hno rfl];simp[Builtin.append_,bU ht,bU hu,nJ hz,asInt,asIntOf,w1,hlt,ti1,hbig,hle,qcz hzv]
  |some ad=>have hst:=hst ad rfl;simp[Builtin.append_,bU ht,bU hu,nJ hz,asInt,asIntOf,w1,hlt,ti1,hbig,h0,hle,qcz hzv,qf6,hst]
set_option maxHeartbeats 1000000 in
theorem qlh{t u e ty:TypeId}(ht:P.underlying t=some (.slice e)){kk:IntKind}(hu:P.underlying u=some (.int kk)){z b:Nat}(hz:gX P e=some z)(hb:qjw P e=some b){zv:Value}(hzv:(P.info? e).bind (·.zero)=some zv){zl:List AV}(hzr:aI ι zl zv.cells.toList)(hzl:zl.length=z)(base:Option Addr)(len C:Nat){k2:IntKind}{m:Nat}{iP:List Value}(hm:m<=1099511627776)(hmb:m*b<=1099511627776)(hof:(Builtin.firstCells z len (.slice base len C)).run P w.drew=.ok iP.toArray w.drew)(hgt:¬ len+m<=C)(hbig:(len+m)*b<=1099511627776)(hbig2:len+m<=1099511627776):∃newCap,len+m<=newCap/\(Builtin.append_ #[t,u] ty #[.slice base len C,.int k2 (m:Int)]).run P w=.ok (.slice (some ⟨w.heap.size,0,none⟩) (len+m) newCap) (w.drew.alloc (.cells (iP.toArray++(gT zv.cells.toList m).toArray++Builtin.zeroCells zv.cells (newCap-(len+m))) e)):=by
 obtain⟨ti,ti1,ti2⟩:=qv9 (P:=P) hb;have w1:IntKind.i64.wrap (m:Int)=m:=IntWalk.i64_in _ (by omega);have hlt:¬((m:Int)<0):=by omega
 have hb2:¬(281474976710656<(m:Int)*(ti.bytes:Int)):=by
  rw[ti2];have:((m*b:Nat):Int)<=281474976710656:=by omega
  have e:((m*b:Nat):Int)=(m:Int)*(b:Int):=by simp
  omega
 have hsz:zv.cells.size=z:=by have:=hzr.length;simp at this;omega
 have hnil:m*z=0->gT zv.cells.toList m=[]:=fun h0=>ry.1 (by rw[qcd];simp[hsz,h0]);have hnc:=qsr (need:=len+m) (old:=C) (by omega);have h2:¬(2 ^ 48<Builtin.nextslicecap (len+m) C*ti.bytes):=by have hm:Builtin.nextslicecap (len+m) C*ti.bytes<=3*(len+m)*ti.bytes:=uz _ hnc;rw[ti2]at hm ⊢;have:3*(len+m)*b=3*((len+m)*b):=Nat.mul_assoc _ _ _;omega
 refine⟨(Question.appendCap (len+m) C e).cut (w.tape w.drawn (.appendCap (len+m) C e)),by simp only[Question.cut];omega,?_⟩;generalize hcap:(Question.appendCap (len+m) C e).cut (w.tape w.drawn (.appendCap (len+m) C e))=cap;by_cases h0:m*z=0
 ·rw[hnil h0];simp[Builtin.append_,bU ht,bU hu,nJ hz,asInt,asIntOf,w1,hlt,ti1,hb2,hgt,h2,Question.forced,hcap,hof,h0,qcz hzv,newRow];intro hbad;omega
 ·simp[Builtin.append_,bU ht,bU hu,nJ hz,asInt,asIntOf,w1,hlt,ti1,hb2,hgt,h2,Question.forced,hcap,hof,h0,qcz hzv,newRow];rw[kz (by omega),qf6 zv m,<-Array.append_assoc];simp
theorem z8k{t u e:TypeId}{x y:Operand}(ho:o.op=.call {callee:=.builtin .append,args:= #[x,y],argTypes:= #[t,u]})(ht:P.underlying t=some (.slice e)){kk:IntKind}(hu:P.underlying u=some (.int kk)){ap:Ap}(hap:apS P e=some ap)(hH:HR ι H w)(h:LR ι d n L a.tmps):sH P o a.eval ι H w (j5 ap.z ap.w H ((aG d n x).f L) (qth ap.w ap.zl ((aG d n y).f L))):=by
 have hx:=dU h x;have hy:=dU h y;obtain⟨a1,a2,a3,a4,_⟩:=qp2 hap;obtain⟨zv,a5,z2,z3⟩:=qcs (ι:=ι) a3;cases hs:qth ap.w ap.zl ((aG d n y).f L)with
 |none=>trivial
 |some s=>
  unfold qth at hs;split at hs
  ·rename_i k2 m e2;rw[e2]at hy;simp only[aL]at hy;cases hmm:(Nat.ble m gH&&Nat.ble (Nat.mul m ap.w) gH)with
   |false=>rw[hmm]at hs;cases hs
   |true=>
    rw[hmm]at hs;simp only[qy,qh]at hs;subst hs;simp only[pq]at hmm;have m1:m<=1099511627776:=oH hmm.1;have m2:m*ap.w<=1099511627776:=oH hmm.2;have hy:a.eval y=.int k2 (m:Int):=hy;have run:∀ S V w',a.eval x=S->(Builtin.append_ #[t,u] o.type #[S,.int k2 (m:Int)]).run P w=.ok V w'->(execOp a.eval o).run P w=.ok (.value V) w':=fun S V w' h1 h2=>by simp[execOp,ho,resolve,invoke,builtin,h1,hy,h2]
    have x1:=qjg z2 m;have x2:∀ v∈gT zv.cells.toList m,v.oneCell=true:=fun v hv=>z3 v (qg6 hv);have x3:(gT zv.cells.toList m).length=m*ap.z:=by rw[qcd,z2.length,a4]
    cases hv:j5 ap.z ap.w H ((aG d n x).f L) (some ⟨m,aV ap.zl m⟩)with
    |bad=>trivial
    |ok v H'=>
     unfold j5 at hv;simp only at hv;split at hv
     ·rename_i e1;rw[e1]at hx;simp only[aL]at hx;cases hn:Nat.beq m 0 with
      |true=>have hn:=vB hn;subst hn;simp only[show Nat.beq 0 0=true from rfl,qy,R1.ok.injEq]at hv;obtain⟨rfl,rfl⟩:=hv;have r:=qib (P:=P) (ty:=o.type) (k2:=k2) ht hu a1 a2 a5 z2 a4 none 0 0 m1 m2 (by omega) (w':=w) (fun _ h=>by cases h) (fun _=>rfl);exact⟨_,.slice none 0 0,w,ι,run _ _ _ hx r,.inl rfl,by simp only[aL],hH,Fr.refl _ _ _⟩
      |false=>
       rw[hn]at hv;simp only[zh]at hv;have hn:=qxd hn;cases hbg:(Nat.ble (Nat.mul m ap.w) gH&&Nat.ble m gH)with
       |false=>rw[hbg]at hv;cases hv
       |true=>rw[hbg]at hv;simp only[qy]at hv;obtain⟨nc,c1,c2⟩:=qlh (P:=P) (w:=w) (ty:=o.type) (k2:=k2) (iP:=[]) ht hu a1 a2 a5 z2 a4 none 0 0 m1 m2 (by simp[Builtin.firstCells]) (by omega) (by rw[qf];exact m2) (by omega);rw[qf]at c1 c2;obtain⟨ι',d1,d2,d3⟩:=qwy hap hH (iP:=[]) (show aI ι [] []by simp[aI]) (by simp) x1 x2 (by simp[x3]) hv nc c1 a5 w.drew rfl;exact⟨_,_,_,ι',run _ _ _ hx c2,.inl rfl,d1,d2,d3⟩
     ·rename_i b i len cap ex e1;rw[e1]at hx;simp only[aL]at hx;obtain⟨hlc,loc,h1,h2⟩:=hx;cases hin:Nat.ble (len+m) cap with
      |true=>
       rw[hin]at hv;simp only[qy]at hv;have hin:=oH hin;obtain⟨rfl,w',r1,r2,r3⟩:=qdt P hH h1 x1 x2 hv;have r:=qib (P:=P) (ty:=o.type) (k2:=k2) ht hu a1 a2 a5 z2 a4 (some ⟨loc.blk,loc.base+i,none⟩) len (if ex then cap else cap+loc.ext) m1 m2 (by split<;>omega) (w':=w')
        (fun ad h=>by cases h;rw[addr_add,uk];exact r1) (fun h=>by cases h)
       refine⟨_,_,w',ι,run _ _ _ h2 r,.inl rfl,?_,r2,r3⟩;simp only[aL];exact⟨hin,loc,h1,rfl⟩
      |false=>
       rw[hin]at hv;simp only[zh]at hv;have hin:=z8z hin;cases hbg:(Nat.ble (Nat.mul (len+m) ap.w) gH&&Nat.ble (len+m) gH)with
       |false=>rw[hbg]at hv;cases hv
       |true=>
        rw[hbg]at hv;simp only[qy]at hv;simp only[pq]at hbg;have g1:(len+m)*ap.w<=1099511627776:=oH hbg.1;have g2:len+m<=1099511627776:=oH hbg.2;split at hv
        ·cases hv
        ·rename_i old hold;have grown:∀ C,¬len+m<=C->a.eval x=.slice (some ⟨loc.blk,loc.base+i,none⟩) len C->∀(H1:Hp),HR ι H1 w->Fr ι ι H H1 w w->grow ap.z H1 old ⟨m,aV ap.zl m⟩ (len+m)=.ok v H'->sH P o a.eval ι H w (.ok v H'):=by
          intro C hC hxC H1 hH1 hF1 hg;obtain⟨iP,o1,o2,o3,o4⟩:=zwt (P:=P) (w:=w.drew) (C:=C) hH.drew h1 hold;obtain⟨nc,c1,c2⟩:=qlh (P:=P) (w:=w) (ty:=o.type) (k2:=k2) ht hu a1 a2 a5 z2 a4 (some ⟨loc.blk,loc.base+i,none⟩) len C m1 m2 o4 hC g1 g2;obtain⟨ι',d1,d2,d3⟩:=qwy hap hH1 o1 o2 x1 x2 (by rw[o3,x3,xh]) hg nc c1 a5 w.drew rfl;exact⟨_,_,_,ι',run _ _ _ hxC c2,.inl rfl,d1,d2,hF1.trans d3⟩
         cases ex with
         |true=>simp only[qy]at hv;exact grown cap hin (by simpa using h2) H hH (Fr.refl _ _ _) hv
         |false=>
          simp only[zh]at hv;cases hend:qhx (H.get b) (i+cap*ap.z) ap.z with
          |false=>rw[hend]at hv;cases hv
          |true=>
           rw[hend]at hv;simp only[qy]at hv;simp only[aj,lA4]at h2;by_cases hfit:len+m<=cap+loc.ext
           ·obtain⟨w',ι',q1,q2,q3,q4⟩:=zkb (P:=P) (x:=⟨m,aV ap.zl m⟩) hH h1 hend hold x1 x2 x3 hlc hin hfit hv;have r:=qib (P:=P) (ty:=o.type) (k2:=k2) ht hu a1 a2 a5 z2 a4 (some ⟨loc.blk,loc.base+i,none⟩) len (cap+loc.ext) m1 m2 hfit (w':=w')
             (fun ad h=>by cases h;rw[addr_add];exact q1) (fun h=>by cases h)
            exact⟨_,_,w',ι',run _ _ _ h2 r,.inl rfl,q2,q3,q4⟩
           ·have hwr:(H.get b).wr=true:=by
             unfold qhx at hend;split at hend
             ·rename_i hg;rw[hg];rfl
             ·cases hend
            obtain⟨k1,k2⟩:=hH.kill (hH.lt h1) hwr;exact grown _ hfit h2 _ k1 k2 hv
     ·cases hv
  ·cases hs
def Post(ι:Im)(H:Hp)(w:World)(v:AV)(H':Hp):Ending->World->Prop
 | .returned V,w'=>∃ ι',aL ι' v V/\HR ι' H' w'/\Fr ι ι' H H' w w'
 |_,_=>False
structure qeo(P:Program)(O:Call):Prop where
 fn:∀ f args H v H',O (.f f) args H=.ok v H'->∀ ι w bB,HR ι H w->aI ι args bB ->
  (callFunc f bB.toArray).run P w=.ok (.enter f bB.toArray) w/\∀ m,CallsIn Fence.wide m P f bB.toArray w (Post ι H w v H')
 yd:∀ b args H v H',O (.y b) args H=.ok v H'->∀ ι w bB loc,HR ι H w->aI ι args bB->ι b=some loc ->
  ∃f tmps assign body,(Instr.yield loc.blk bB.toArray).run P w=.ok (.round loc.blk f tmps assign body) w /\
   ∀m,RoundIn Fence.wide m P loc.blk f tmps assign body w (Post ι H w v H')
 df:∀ f args H v H',O (.d f) args H=.ok v H'->∀ ι w bB,HR ι H w->aI ι args bB ->
  (callFunc f bB.toArray).run P w=.ok (.enter f bB.toArray) w/\∀ m,CallsDIn Fence.wide m P f bB.toArray .returning w (fun e u' w'=>u'=.returning/\Post ι H w v H' e w')
structure Fence.dP(F:Fence):Prop where
 eq:∃ r,F={Fence.wide with round:=r}
theorem Fence.yY:Fence.dP Fence.wide:=⟨none,rfl⟩
theorem Fence.oD(l:Nat):Fence.dP (Fence.wide.inRound l):=⟨some l,rfl⟩
theorem Fence.dP.fn{F:Fence}(h:Fence.dP F)(f:FuncId):F.fn f:=by obtain⟨r,rfl⟩:=h;trivial
theorem Fence.dP.depth{F:Fence}(h:Fence.dP F):F.depth=none:=by obtain⟨r,rfl⟩:=h;rfl
theorem Fence.dP.calls{F:Fence}(h:Fence.dP F){m:Nat}{f:FuncId}{args:Array Value}{R:Ending->World->Prop}(k:CallsIn Fence.wide m P f args w R):CallsIn F m P f args w R:=by obtain⟨r,rfl⟩:=h;exact k
theorem Fence.dP.round{F:Fence}(h:Fence.dP F){m l:Nat}{f:FuncId}{tmps:Array Value}{assign body:Code}{R:Ending->World->Prop}(k:RoundIn Fence.wide m P l f tmps assign body w R):RoundIn F m P l f tmps assign body w R:=by obtain⟨r,rfl⟩:=h;exact k
theorem qcy{F:Fence}{ρ:Operand->Value}(h:∀ c,o.op≠ .defer c):o.semAt F.round ρ=execOp ρ o:=by
 cases F.round with
 |none=>exact Oper.semAt_none ..
 |some l=>exact Oper.semAt_some l ρ o h
def Nx(ι:Im)(H:Hp)(w:World)(a:Act)(o:Oper)(v:AV)(H':Hp)(next:Act->World->Prop):Prop:=
 ∀V w' ι',aL ι' v V->HR ι' H' w'->Fr ι ι' H H' w w'->next (a.put o.dst V) w'
theorem qdc{F:Fence}(hF:Fence.dP F)(hd:∀ c,o.op≠ .defer c){v:AV}{H':Hp}(h:sH P o a.eval ι H w (.ok v H')){m:Nat}{next:Act->World->Prop}{Q:Exit->Act->World->Prop}(hn:Nx ι H w a o v H' next):o.wpIn F m P a w next Q:=by
 obtain⟨N,V,w',ι',h1,h2,h3,h4,h5⟩:=h;refine⟨fun f _=>hF.fn f,?_⟩;rw[qcy hd,h1];rcases h2 with rfl|⟨rfl,rfl⟩
 ·exact hn _ _ _ h3 h4 h5
 ·exact hn _ _ _ h3 h4 h5
theorem qy2{v:AV}{H':Hp}{next:Act->World->Prop}{Q:Exit->Act->World->Prop}(hn:Nx ι H w a o v H' next):∀e w',Post ι H w v H' e w'->(match e,w' with
   | .returned v,w''=>next (a.put o.dst v) w''
   | .panicked chain,w''=>Q (.panic chain) a w''
   | .outgrown,_=>LetsOut Q):=by
 intro e w' h;cases e with
 |returned V=>obtain⟨ι',h1,h2,h3⟩:=h;exact hn _ _ _ h1 h2 h3
 |panicked=>exact h.elim
 |outgrown=>exact h.elim
theorem zim{F:Fence}(hF:Fence.dP F){c:Go.Call}(ho:o.op=.call c){x:Operand}(hc:c.callee=.value x){O:Call}(hC:qeo P O)(hH:HR ι H w){fv:AV}(hx:aL ι fv (a.eval x)){args:List AV}(ha:aI ι args (c.args.toList.map a.eval)){v:AV}{H':Hp}(h:uG O fv args H=.ok v H'){m:Nat}{next:Act->World->Prop}{Q:Exit->Act->World->Prop}(hn:Nx ι H w a o v H' next):o.wpIn F m P a w next Q:=by
 refine⟨fun f _=>hF.fn f,?_⟩;rw[qcy (by intro c';rw[ho];exact fun h=>by cases h)];have hargs:c.args.map a.eval=(c.args.toList.map a.eval).toArray:=by rw[<-og]
 unfold uG at h;split at h
 ·rename_i g first cap
  obtain⟨A,C,h1,h2,h3⟩:=hx;obtain⟨c1,c2⟩:=hC.fn _ _ _ _ _ h ι w (A++c.args.toList.map a.eval++C) hH ((h1.append ha).append h2);have:(execOp a.eval o).run P w=.ok (.enter g (A++c.args.toList.map a.eval++C).toArray) w:=by simp only[execOp,ho,resolve,hc,h3,Deferred.ofValue,hargs];simpa [invoke] using c1
  rw[this];exact⟨by simp[hF.depth],CallsIn.mono (hF.calls (c2 _)) (qy2 hn)⟩
 ·rename_i b;obtain⟨loc,h1,h3⟩:=hx;obtain⟨f,tmps,assign,body,c1,c2⟩:=hC.yd _ _ _ _ _ h ι w _ loc hH ha h1;have:(execOp a.eval o).run P w=.ok (.round loc.blk f tmps assign body) w:=by
   simp only[execOp,ho,resolve,hc,h3,Deferred.ofValue,hargs];simpa [invoke] using c1
  rw[this];exact⟨by simp[hF.depth],RoundIn.mono (hF.round (c2 _)) (qy2 hn)⟩
 ·cases h
end Go.Ev
end
section
namespace Go.Ev
open Go.RowKit
variable {P:Program} {w:World} {ι:Im} {o:Oper} {a:Act} {d n:Nat} {L:TT AV d} {H:Hp} {O:Call} {F:Fence} {m:Nat} {next:Act->World->Prop} {Q:Exit->Act->World->Prop}
theorem z9a{args:List Operand}{ts:List TypeId}(ho:o.op=.call {callee:=.builtin .append,args:=args.toArray,argTypes:=ts.toArray}){f:Call->TT AV d->Hp->R1}(hf:zR P d n args ts=.e f)(hH:HR ι H w)(h:LR ι d n L a.tmps):sH P o a.eval ι H w (f O L H):=by
 unfold zR at hf;split at hf
 ·split at hf
  ·rename_i e1;split at hf
   ·rename_i e2 e3;cases hf;exact z8k ho e1 e3 e2 hH h
   ·rename_i e2 e3;cases hf;exact q9p ho e1 e3 (.inr ⟨_,rfl⟩) e2 hH h
   ·rename_i e2 e3;cases hf;exact q9p ho e1 e3 (.inl rfl) e2 hH h
   ·cases hf;trivial
  ·cases hf;trivial
 ·cases hf;trivial
theorem z2v{args:List Operand}{ts:List TypeId}(ho:o.op=.call {callee:=.builtin .copy,args:=args.toArray,argTypes:=ts.toArray}){f:Call->TT AV d->Hp->R1}(hf:q5w P d n args ts=.e f)(hH:HR ι H w)(h:LR ι d n L a.tmps):sH P o a.eval ι H w (f O L H):=by
 unfold q5w at hf;split at hf
 ·split at hf
  ·rename_i e1;split at hf
   ·rename_i e2;cases hf;exact z8j ho e1 e2 hH h
   ·cases hf;trivial
  ·cases hf;trivial
 ·cases hf;trivial
theorem z8p{args:List Operand}{ts:List TypeId}(ho:o.op=.call {callee:=.builtin .delete,args:=args.toArray,argTypes:=ts.toArray}){f:Call->TT AV d->Hp->R1}(hf:zT P d n args ts=.e f)(hH:HR ι H w)(h:LR ι d n L a.tmps):sH P o a.eval ι H w (f O L H):=by
 unfold zT at hf;split at hf
 ·split at hf
  ·rename_i e1;split at hf
   ·rename_i e2;cases hf;exact aLh ho (by simp) e1 e2 hH h
   ·cases hf;trivial
  ·cases hf;trivial
 ·cases hf;trivial
theorem z8s{args:List Operand}{ts:List TypeId}(ho:o.op=.call {callee:=.builtin .clear,args:=args.toArray,argTypes:=ts.toArray}){f:Call->TT AV d->Hp->R1}(hf:yT P d n args ts=.e f)(hH:HR ι H w)(h:LR ι d n L a.tmps):sH P o a.eval ι H w (f O L H):=by
 unfold yT at hf;split at hf
 ·split at hf
  ·rename_i e1;split at hf
   ·rename_i e2;cases hf;exact zmh ho e1 e2 hH h
   ·cases hf;trivial
  ·rename_i e1;cases hf;exact ztt ho e1 hH h
  ·cases hf;trivial
 ·cases hf;trivial
theorem z7g{args:List Operand}{ts:List TypeId}{f:Call->TT AV d->Hp->R1}(hf:uY P d n args ts=.e f):f O L H=.bad:=by
 unfold uY at hf;split at hf
 ·split at hf
  ·cases hf
  ·split at hf<;>cases hf;rfl
  ·cases hf
  ·cases hf
  ·cases hf
  ·cases hf;rfl
 ·cases hf;rfl
theorem z8v{args:List Operand}{ts:List TypeId}{f:Call->TT AV d->Hp->R1}(hf:zC P d n args ts=.e f):f O L H=.bad:=by
 unfold zC at hf;split at hf
 ·split at hf
  ·cases hf
  ·cases hf
  ·cases hf;rfl
 ·cases hf;rfl
theorem z6s{args:List Operand}{f:Call->TT AV d->Hp->R1}(hf:zN d n args=.e f):f O L H=.bad:=by
 unfold zN at hf;split at hf
 ·cases hf
 ·cases hf;rfl
theorem z6u{args:List Operand}{f:Call->TT AV d->Hp->R1}(hf:yM d n args=.e f):f O L H=.bad:=by
 unfold yM at hf;split at hf
 ·cases hf
 ·cases hf;rfl
theorem zb8{b:Builtin}{args:Array Operand}{ts:Array TypeId}(ho:o.op=.call {callee:=.builtin b,args,argTypes:=ts}){f:Call->TT AV d->Hp->R1}(hf:qem P d n b args.toList ts.toList=.e f)(hH:HR ι H w)(h:LR ι d n L a.tmps):sH P o a.eval ι H w (f O L H):=by
 unfold qem at hf;split at hf
 ·rw[z7g hf];trivial
 ·rw[z8v hf];trivial
 ·rw[z6s hf];trivial
 ·rw[z6u hf];trivial
 ·exact z9a (by simpa using ho) hf hH h
 ·exact z2v (by simpa using ho) hf hH h
 ·exact z8p (by simpa using ho) hf hH h
 ·exact z8s (by simpa using ho) hf hH h
 ·cases hf;trivial
theorem z6h{f:Call->TT AV d->Hp->R1}(hf:gZ P d n o=.e f)(hC:qeo P O)(hF:Fence.dP F)(hH:HR ι H w)(h:LR ι d n L a.tmps){v:AV}{H':Hp}(he:f O L H=.ok v H')(hn:Nx ι H w a o v H' next):o.wpIn F m P a w next Q:=by
 have bad:d9 d=.e f->False:=fun e=>by cases e;cases he
 unfold gZ at hf;split at hf
 ·cases hf
 ·cases hf
 ·cases hf
 ·unfold q74 at hf;split at hf
  ·cases hf
  ·exact(bad hf).elim
 ·unfold aB3 at hf;split at hf
  ·cases hf
  ·cases hf
  ·exact(bad hf).elim
 ·unfold q73 at hf;split at hf
  ·split at hf
   ·split at hf
    ·cases hf
    ·exact(bad hf).elim
   ·exact(bad hf).elim
  ·split at hf
   ·split at hf
    ·cases hf
    ·exact(bad hf).elim
   ·exact(bad hf).elim
  ·exact(bad hf).elim
 ·unfold qfk at hf;split at hf
  ·split at hf
   ·rename_i s z e2 e3;cases hc:(Nat.ble (_*s) 65536&&Nat.beq z.length s)with
    |false=>rw[hc]at hf;exact(bad hf).elim
    |true=>
     rw[hc]at hf;simp only[qy]at hf;split at hf
     ·cases hf
     ·exact(bad hf).elim
   ·exact(bad hf).elim
  ·exact(bad hf).elim
 ·unfold zjh at hf;split at hf
  ·cases hf
  ·cases hf
  ·exact(bad hf).elim
 ·rename_i ho;refine qdc hF (by intro c;rw[ho];exact fun h=>by cases h) ?_ hn;unfold qym at hf;split at hf
  ·rename_i e1 e2 e3 e4;cases hf;have:=ztr (P:=P) ho e2 hH h;rw[e3,e4]at this;rw[<-he];exact this
  ·rename_i e1 e2 e3 e4;cases hf;have:=zts (P:=P) ho e2 hH h;rw[e3,e4]at this;rw[<-he];exact this
  ·exact(bad hf).elim
 ·cases hf
 ·cases hf
 ·cases hf
 ·unfold qmg at hf;split at hf
  ·cases hf
  ·cases hf
  ·split at hf
   ·cases hf
   ·exact(bad hf).elim
  ·split at hf
   ·split at hf
    ·cases hf
    ·exact(bad hf).elim
   ·exact(bad hf).elim
  ·exact(bad hf).elim
 ·unfold qc8 at hf;split at hf
  ·exact(bad hf).elim
  ·cases hf
  ·exact(bad hf).elim
 ·cases hf
 ·cases hf
 ·unfold qg5 at hf;split at hf
  ·split at hf
   ·rename_i z w' s e4 e5 e6;cases hc:Nat.beq z.length s with
    |false=>rw[hc]at hf;exact(bad hf).elim
    |true=>rw[hc]at hf;cases hf
   ·exact(bad hf).elim
  ·exact(bad hf).elim
 ·unfold q7z at hf;split at hf
  ·split at hf
   ·cases hf
   ·exact(bad hf).elim
  ·split at hf
   ·cases hf
   ·exact(bad hf).elim
  ·split at hf
   ·cases hf
   ·exact(bad hf).elim
  ·split at hf
   ·split at hf
    ·cases hf
    ·exact(bad hf).elim
   ·exact(bad hf).elim
  ·exact(bad hf).elim
 ·unfold qe4 at hf;split at hf
  ·split at hf
   ·split at hf
    ·cases hf
    ·exact(bad hf).elim
   ·exact(bad hf).elim
  ·exact(bad hf).elim
 ·unfold qyp at hf;split at hf
  ·split at hf
   ·cases hf
   ·exact(bad hf).elim
  ·exact(bad hf).elim
 ·unfold qe3 at hf;split at hf
  ·split at hf
   ·cases hf
   ·exact(bad hf).elim
  ·split at hf
   ·cases hf
   ·exact(bad hf).elim
  ·exact(bad hf).elim
 ·unfold qyo at hf;split at hf
  ·cases hf
  ·split at hf
   ·cases hf
   ·exact(bad hf).elim
  ·exact(bad hf).elim
 ·unfold qv0 at hf;split at hf
  ·split at hf
   ·cases hf
   ·exact(bad hf).elim
  ·exact(bad hf).elim
 ·rename_i ho;refine qdc hF (by intro c;rw[ho];exact fun h=>by cases h) ?_ hn;unfold qdu at hf;split at hf
  ·rename_i e1 e2 e3 e4;split at hf
   ·rename_i e5;cases hf;have:=z8h (P:=P) (.inl ho) e1 e5 hH h;rw[e2,e3,e4]at this;rw[<-he];exact this
   ·exact(bad hf).elim
  ·exact(bad hf).elim
 ·rename_i ho;refine qdc hF (by intro c;rw[ho];exact fun h=>by cases h) ?_ hn;unfold qdu at hf;split at hf
  ·rename_i e1 e2 e3 e4;split at hf
   ·rename_i e5;cases hf;have:=z8h (P:=P) (.inr ho) e1 e5 hH h;rw[e2,e3,e4]at this;rw[<-he];exact this
   ·exact(bad hf).elim
  ·exact(bad hf).elim
 ·rename_i ho;refine qdc hF (by intro c;rw[ho];exact fun h=>by cases h) ?_ hn;unfold qjf at hf;split at hf
  ·rename_i e1 e2 e3;split at hf
   ·rename_i e5 e6;cases hf;have:=z2n (P:=P) ho e1 e5 e6 hH h;rw[e2,e3]at this;rw[<-he];exact this
   ·exact(bad hf).elim
  ·exact(bad hf).elim
 ·rename_i ho;refine qdc hF (by intro c;rw[ho];exact fun h=>by cases h) ?_ hn;cases hf;rw[<-he];exact zmg ho hH h
 ·cases hf
 ·rename_i ho;refine qdc hF (by intro c;rw[ho];exact fun h=>by cases h) ?_ hn;unfold q70 at hf;split at hf
  ·rename_i e1 e2;cases hf;have:=z2m (P:=P) ho e1 hH h;rw[e2]at this;rw[<-he];exact this
  ·exact(bad hf).elim
 ·rename_i ho;refine qdc hF (by intro c;rw[ho];exact fun h=>by cases h) ?_ hn;unfold zrz at hf;split at hf
  ·rename_i e2;cases hf;have:=z8i (P:=P) ho hH h;rw[e2]at this;rw[<-he];exact this
  ·exact(bad hf).elim
 ·cases hf
 ·rename_i ho;refine qdc hF (by intro c;rw[ho];exact fun h=>by cases h) ?_ hn;rw[<-he];exact zb8 ho hf hH h
 ·rename_i g args ts ho;unfold q72 at hf;split at hf
  ·cases hf
  ·rename_i gg e1 e2;cases hf;have ha:=qct h args.toList;rw[e1]at ha;refine zim hF ho rfl hC hH (fv:=.fn g [] []) ?_ ha ?_ hn
   ·simp only[aL,aI];exact⟨[],[],rfl,rfl,rfl⟩
   ·simpa [uG] using he
 ·rename_i x args ts _ ho;cases hf;exact zim hF ho rfl hC hH (dU h x) (qct h _) he hn
 ·exact(bad hf).elim
end Go.Ev
end
section
namespace Go.Ev
open Go.RowKit
variable {P:Program} {w:World} {ι:Im} {o:Oper} {a:Act} {d n:Nat} {L:TT AV d} {H:Hp} {O:Call} {F:Fence} {m:Nat} {K:Act->World->Prop} {Q:Exit->Act->World->Prop} {ops:Array Oper}
theorem qic(h:LR ι d n L a.tmps)(t:Option Tmp){v:AV}{V:Value}(hv:aL ι v V):LR ι d n ((dW d n t).f L v) (a.put t V).tmps:=by
 cases t with
 |none=>exact h
 |some t=>
  unfold dW;simp only[Act.put];cases hb:Nat.blt t n with
  |true=>simp only[qy];exact h.set (uL hb) hv
  |false=>rw[Array.setIfInBounds_eq_of_size_le (by rw[h.size];exact lAK (zcb hb))];exact h
theorem put_defers(a:Act)(t:Option Tmp)(V:Value):(a.put t V).defers=a.defers:=by cases t<;>rfl
theorem qi9(h:LR ι d n L a.tmps){b:Bool}(hw:(r9 d n ops o).f L=some b):Region.wanted o (yielded ops a.tmps)=b:=by
 unfold r9 at hw;unfold Region.wanted;split at hw
 ·rename_i hg;rw[hg];simpa using hw
 ·rename_i j want hg;rw[hg];simp only;split at hw
  ·rename_i t ht;cases hb:Nat.blt t n with
   |false=>rw[hb]at hw;cases hw
   |true=>
    rw[hb]at hw;simp only[qy]at hw;have hlt:=uL hb;have hr:=h.get t hlt;have hy:yielded ops a.tmps j=(match a.tmps[t]? with|some (.bool b)=>some b|_=>none):=by unfold yielded;rw[ht];rfl
    have hsz:t<a.tmps.size:=by rw[h.size];exact hlt
    rw[hy];rw[yz,zt hsz]at hr;rw[zt hsz];simp only[Option.getD_some]at hr;split at hw
    ·rename_i b' hb';rw[hb']at hr;rw[hr];simp only[qh]at hw;rw[<-hw];cases b'<;>cases want<;>rfl
    ·rename_i hb';rw[hb']at hr;rw[hr];simp only[qh]at hw;rw[<-hw];cases want<;>rfl
    ·cases hw
  ·cases hw
def Then(ι:Im)(H:Hp)(w:World)(a:Act)(d n:Nat)(L':TT AV d)(H':Hp)(K:Act->World->Prop):Prop:=
 ∀a' w' ι',LR ι' d n L' a'.tmps->a'.defers=a.defers->HR ι' H' w'->Fr ι ι' H H' w w'->K a' w'
theorem aNx{lk:Bool}{f:Nat->TT AV d->Hp->R0}(hf:gZ P d n o=.q lk f)(hF:Fence.dP F)(hH:HR ι H w)(h:LR ι d n L a.tmps){put:TT AV d->AV->TT AV d}(hp:dW d n o.dst=⟨put⟩){L':TT AV d}{H':Hp}(he:doQ put L H (f H.nx L H)=.ok L' H')(hK:Then ι H w a d n L' H' K):o.wpIn F m P a w K Q:=by
 have hq:=z1l (nm:=H.nx) hf hH h;have hnd:∀ c,o.op≠ .defer c:=fun c hc=>by unfold gZ at hf;rw[hc]at hf;cases hf
 have hput:∀{ι':Im} (_:ι.le ι') {v:AV} {V:Value},aL ι' v V->LR ι' d n (put L v) (a.put o.dst V).tmps:=fun hle v V hv=>by have:=qic (a:=a) (h.mono hle) o.dst hv;simp_all
 refine⟨fun f _=>hF.fn f,?_⟩;rw[qcy hnd];unfold doQ at he;split at he
 ·cases he
 ·rename_i v hr;rw[hr]at hq;obtain⟨V,h1,h2⟩:=hq;rw[h1];cases he;exact hK _ _ ι (hput (Im.le_refl _) h2) (put_defers ..) hH (Fr.refl ..)
 ·rename_i v b hr;rw[hr]at hq
  ·
   cases he;obtain⟨V,w',l,h1,h2,h3⟩:=hq;rw[h1];have hnx:iB (H.nx):=pF;obtain⟨h4,h5⟩:=h3 (ι.set H.nx l) (Im.iW l (hH.fresh _ (lg _))) (Im.bC ..);obtain⟨k1,k2⟩:=hH.push hnx l b h2.os h2.tape h2.output (by rw[h2.size];exact ak _) h2.keep h2.blk h5;exact hK _ _ _ (hput (Im.iW l (hH.fresh _ (lg _))) h4) (put_defers ..) k1 k2
theorem zrn(hC:qeo P O)(hF:Fence.dP F)(hH:HR ι H w)(h:LR ι d n L a.tmps){L':TT AV d}{H':Hp}(he:(xY P d n ops o).f O L H=.ok L' H')(hK:Then ι H w a d n L' H' K):if Region.wanted o (yielded ops a.tmps)then o.wpIn F m P a w K Q else(∀f,o.about P w a.eval=some f->F.fn f)/\K (a.put o.dst Go.undef) w:=by
 have hput:∀{put:TT AV d->AV->TT AV d} (_:dW d n o.dst=⟨put⟩) {ι':Im} (_:ι.le ι') {v:AV} {V:Value},aL ι' v V->LR ι' d n (put L v) (a.put o.dst V).tmps:=fun hp ι' hle v V hv=>by have:=qic (a:=a) (h.mono hle) o.dst hv;simp_all
 have aEO:∀{put:TT AV d->AV->TT AV d} (_:dW d n o.dst=⟨put⟩),L'=put L .undef->H'=H->K (a.put o.dst Go.undef) w:=fun hp h1 h2=>by subst h1;subst h2;exact hK _ _ ι (hput hp (Im.le_refl _) (by simp only[aL];rfl)) (put_defers ..) hH (Fr.refl ..)
 have heff:∀{put:TT AV d->AV->TT AV d} (_:dW d n o.dst=⟨put⟩) {f:Call->TT AV d->Hp->R1} (_:gZ P d n o=.e f),doE put L (f O L H)=.ok L' H'->o.wpIn F m P a w K Q:=fun hp f hf hd=>by
  unfold doE at hd;split at hd
  ·cases hd
  ·rename_i v H1 hr;cases hd;exact z6h hf hC hF hH h hr fun V w' ι' r1 r2 r3=>hK _ _ ι' (hput hp r3.le r1) (put_defers ..) r2 r3
 unfold xY at he;split at he
 ·rename_i f put hf hg hp;simp only[Region.wanted,hg,ik];exact aNx hf hF hH h hp he hK
 ·rename_i f put hf hg hp;simp only[Region.wanted,hg,ik];simp_all
 ·rename_i f _ wf put hf hg hw hp;simp only[ifW]at he;split at he
  ·rename_i hwt;rw[qi9 (o:=o) (ops:=ops) h (by rw[hw];exact hwt),pz rfl];exact aNx hf hF hH h hp he hK
  ·rename_i hwt;rw[qi9 (o:=o) (ops:=ops) h (by rw[hw];exact hwt)];cases he;exact⟨fun f _=>hF.fn f,aEO hp rfl rfl⟩
  ·cases he
 ·rename_i f _ wf put hf hg hw hp;simp only[ifW]at he;split at he
  ·rename_i hwt;rw[qi9 (o:=o) (ops:=ops) h (by rw[hw];exact hwt),pz rfl];simp_all
  ·rename_i hwt;rw[qi9 (o:=o) (ops:=ops) h (by rw[hw];exact hwt)];cases he;exact⟨fun f _=>hF.fn f,aEO hp rfl rfl⟩
  ·cases he
end Go.Ev
end
section
namespace Go.Ev
open Go.RowKit
/- bits -/
theorem qpj(m i:Nat):hasB m i=m.testBit i:=by unfold hasB Nat.testBit;rw[show Nat.land (Nat.shiftRight m i) 1=(m >>> i) &&& 1 from rfl,Nat.and_comm 1,Nat.and_one_is_mod];rcases Nat.mod_two_eq_zero_or_one (m >>> i)with h|h<;>rw[h]<;>rfl
theorem qww(a b i:Nat):hasB (Nat.lor a b) i=(hasB a i||hasB b i):=by simp only[qpj];exact Nat.testBit_or a b i
theorem qgq(m j i:Nat):hasB (sS m j) i=(hasB m i||decide (j=i)):=by unfold sS;rw[qww];congr 1;rw[qpj,show Nat.shiftLeft 1 j=1 <<< j from rfl,Nat.one_shiftLeft,Nat.testBit_two_pow]
theorem qzp(i:Nat):hasB 0 i=false:=by rw[qpj];exact Nat.zero_testBit i
theorem zrl{m k:Nat}(h:aBa m k=true){i:Nat}(hi:hasB m i=true):hasB k i=true:=by have:=rf h;rw[<-this,qww,hi];rfl
/- masks -/
theorem qlm(l:List Oper):∀ ms i,i<ms.length->(yQ ms l).getD i 0=ms.getD i 0:=by
 induction l with
 |nil=>intro ms i _;rfl
 |cons o r ih=>intro ms i hi;rw[yQ,ih _ _ (by simp;omega),kw,kw,uf hi]
theorem qhv{ms ms':List Nat}:∀(l:List Nat) (s:Nat),(∀j∈l,ms.getD j 0=ms'.getD j 0) -> l.foldl (fun s j=>Nat.lor (sS s j) (ms.getD j 0)) s=l.foldl (fun s j=>Nat.lor (sS s j) (ms'.getD j 0)) s
 | [],_,_=>rfl
 |j::l,s,h=>by simp only[lE7];rw[h j (by simp)];exact qhv l _ fun x hx=>h x (by simp[hx])
theorem qzj(l:List Oper):∀ ms i o,l[i]? =some o->(∀j∈vH o,j<ms.length+i)->(yQ ms l).getD (ms.length+i) 0=qsv (yQ ms l) o:=by
 induction l with
 |nil=>intro ms i o h;simp at h
 |cons o' r ih=>
  intro ms i o h hj;rw[yQ];cases i with
  |zero=>simp at h;subst h;rw[xy,qlm _ _ _ (by simp)];simp only[kw,List.getElem?_concat_length,Option.getD_some];refine qhv _ _ fun j hj'=>?_;have:=hj j hj';rw[qlm _ _ _ (by simp;omega),kw,kw,uf this]
  |succ i=>have:=ih (ms++[qsv ms o']) i o h (fun j hj'=>by have:=hj j hj';simp;omega);rw[show(ms++[qsv ms o']).length+i=ms.length+(i+1)by simp;omega]at this;exact this
theorem qzq(ms:List Nat)(k:Nat):∀(l:List Nat) (s:Nat),hasB (l.foldl (fun s j=>Nat.lor (sS s j) (ms.getD j 0)) s) k=true↔hasB s k=true\/∃ j∈l,k=j\/hasB (ms.getD j 0) k=true
 | [],s=>by simp
 |j::l,s=>by
  rw[lE7,qzq ms k l,qww,qgq];simp only[af,xq,qg,exists_eq_or_imp];constructor
  ·rintro (((h|h)|h)|h)
   ·exact .inl h
   ·omega
   ·simp_all
   ·simp_all
  ·rintro (h|(h|h)|h)
   ·simp_all
   ·omega
   ·simp_all
   ·exact .inr h
theorem q5g(ms:List Nat)(o:Oper)(k:Nat):hasB (qsv ms o) k=true↔∃ j∈vH o,k=j\/hasB (ms.getD j 0) k=true:=by unfold qsv;rw[qzq,qzp];simp
theorem q0d:∀(l:List Oper) (k:Nat),qtc k l=true->∀ i o,l[i]? =some o->∀ j∈vH o,j<k+i
 | [],_,_,i,o,h,j,hj=>by simp at h
 |o'::r,k,hb,i,o,h,j,hj=>by
  simp only[qtc,pq,yc]at hb;cases i with
  |zero=>simp at h;subst h;exact zg (hb.1 j hj)
  |succ i=>simp at h;have:=q0d r (k+1) hb.2 i o h j hj;omega
structure Edg(ops:Array Oper)(ms:List Nat):Prop where
 back:∀ i o,ops[i]? =some o->∀ j∈vH o,j<i
 mask:∀ i o k,ops[i]? =some o->(hasB (ms.getD i 0) k=true↔∃ j∈vH o,k=j\/hasB (ms.getD j 0) k=true)
 tmps:∀ i k o' o t,ops[i]? =some o'->ops[k]? =some o->o'.dst=some t->i=k\/hasB (ms.getD k 0) i=true\/hasB (ms.getD i 0) k=true\/(t∉kY ops o/\o.dst≠some t)
theorem Edg.of{ops:Array Oper}(h1:qtc 0 ops.toList=true)(h2:q7k ops (yQ [] ops.toList)=true):Edg ops (yQ [] ops.toList):=by
 have hb:∀ i o,ops[i]? =some o->∀ j∈vH o,j<i:=fun i o h j hj=>by have:=q0d ops.toList 0 h1 i o (by simpa using h) j hj;omega
 refine⟨hb,fun i o k h=>?_,fun i k o' o t hi hk ht=>?_⟩
 ·have:=qzj ops.toList [] i o (by simpa using h) (fun j hj=>by have:=hb i o h j hj;simpa using this);simp only[uo,qf]at this;rw[this,q5g]
 ·unfold q7k at h2;rw[yc]at h2;have hlk:k<ops.size:=(zn.1 hk).1;have hli:i<ops.size:=(zn.1 hi).1;have h3:=h2 k (uu.2 hlk);rw[hk]at h3;simp only[yc]at h3;have h4:=h3 i (uu.2 hli);rw[hi]at h4;simp only[ht,af,xe,lAG]at h4;rcases h4 with((h4|h4)|h4)|h4
  ·simp_all
  ·simp_all
  ·simp_all
  ·simp_all
variable {ops:Array Oper} {ms:List Nat}
theorem Edg.ex(h:Edg ops ms){i j:Nat}{o:Oper}(ho:ops[i]? =some o)(hj:j∈vH o):∃ o',ops[j]? =some o':=by have h1:=h.back i o ho j hj;have h2:i<ops.size:=(zn.1 ho).1;exact⟨ops[j]'(by omega),zt (by omega)⟩
theorem Edg.aHo(h:Edg ops ms):∀ i o k,ops[i]? =some o->hasB (ms.getD i 0) k=true->k<i:=by
 intro i
 induction i using Nat.strongRecOn with
 |ind i ih=>
  intro o k ho hk;obtain⟨j,hj,h1⟩:=(h.mask i o k ho).1 hk;have hlt:=h.back i o ho j hj;rcases h1 with rfl|h1
  ·exact hlt
  ·obtain⟨o',ho'⟩:=h.ex ho hj;exact lE9 (ih j hlt o' k ho' h1) hlt
def Shut(ops:Array Oper)(S:Nat->Prop):Prop:=∀ i o,ops[i]? =some o->S i->∀ j∈vH o,S j
theorem Edg.u7(h:Edg ops ms){S:Nat->Prop}(hS:Shut ops S):∀ i o k,ops[i]? =some o->(∀j∈vH o,S j)->hasB (ms.getD i 0) k=true->S k:=by
 intro i
 induction i using Nat.strongRecOn with
 |ind i ih=>
  intro o k ho hc hk;obtain⟨j,hj,h1⟩:=(h.mask i o k ho).1 hk;have hlt:=h.back i o ho j hj;rcases h1 with rfl|h1
  ·exact hc _ hj
  ·obtain⟨o',ho'⟩:=h.ex ho hj;exact ih j hlt o' k ho' (hS j o' ho' (hc j hj)) h1
theorem Edg.rM(h:Edg ops ms){S:Nat->Prop}(hS:Shut ops S){i:Nat}{o:Oper}{k:Nat}(ho:ops[i]? =some o)(hi:S i)(hk:hasB (ms.getD i 0) k=true):S k:=
 h.u7 hS i o k ho (hS i o ho hi) hk
/- projections -/
theorem qov{d n:Nat}{L L':TT AV d}:∀(ts:List Tmp),(∀t∈ts,t<n->(dJ d t).f L=(dJ d t).f L')->(mW d n ts).f L=(mW d n ts).f L'
 | [],_=>rfl
 |t::r,h=>by
  unfold mW;have ih:=qov r fun x hx=>h x (by simp[hx]);cases hb:Nat.blt t n with
  |true=>simp_all
  |false=>simp only[zh];exact ih
theorem qy1{d n:Nat}(hn:n<=8 ^ d){L:TT AV d}{i:Nat}(hi:i<8 ^ d):∀(ts:List Tmp),(dJ d i).f ((mW d n ts).f L)=if i∈ts/\i<n then(dJ d i).f L else .undef
 | []=>by simp[mW,qhc]
 |t::r=>by
  unfold mW;have ih:=qy1 (n:=n) hn (L:=L) hi r;cases hb:Nat.blt t n with
  |true=>
   simp only[qy];rw[qev _ _ _ _ _ hi (by have:=uL hb;omega)];by_cases e:i=t
   ·simp_all
   ·simp_all
  |false=>
   simp only[zh];rw[ih];have hb:=zcb hb;by_cases e:i=t
   ·subst e;simp[hb]
   ·simp[e]
def zZ(ts:List Tmp)(tmps:Array Value):Array Value:=Array.ofFn (n:=tmps.size) fun i=>if i.1∈ts then tmps[i]else Go.undef
theorem qha(ts:List Tmp)(tmps:Array Value):(zZ ts tmps).size=tmps.size:=by simp[zZ]
theorem qou(ts:List Tmp)(tmps:Array Value)(i:Nat):(zZ ts tmps).getD i Go.undef=if i∈ts then tmps.getD i Go.undef else Go.undef:=by
 simp only[zZ,yz,Array.getElem?_ofFn];by_cases h:i<tmps.size
 ·simp_all
 ·rw[dif_neg h];simp[lAT (lAK h)]
theorem LR.proj{ι:Im}{d n:Nat}{L:TT AV d}{tmps:Array Value}(h:LR ι d n L tmps)(ts:List Tmp):LR ι d n ((mW d n ts).f L) (zZ ts tmps):=by
 refine⟨by rw[qha,h.size],h.fits,fun i hi=>?_⟩;rw[qy1 h.fit (lL hi h.fit),qou];have hr:=h.get i hi;by_cases h1:i∈ts
 ·by_cases h2:i<n
  ·simp_all
  ·omega
 ·rw[kz (by simp[h1]),kz h1];simp only[aL];rfl
theorem zl6(a:Act)(ts:List Tmp)(x:Operand)(hx:∀ t,z4z x=some t->t∈ts):({a with tmps:=zZ ts a.tmps}:Act).eval x=a.eval x:=by
 cases x with
 |tmp t=>have:=hx t rfl;show(zZ ts a.tmps).getD t Go.undef=a.tmps.getD t Go.undef;rw[qou,pz this]
 |_=>rfl
theorem qxv(a:Act)(o:Oper):Region.wanted o (yielded ops (zZ (kY ops o) a.tmps))=Region.wanted o (yielded ops a.tmps):=by
 unfold Region.wanted;cases hg:o.guard with
 |none=>rfl
 |some gw=>
  obtain⟨g,want⟩:=gw;have hy:yielded ops (zZ (kY ops o) a.tmps) g=yielded ops a.tmps g:=by
   unfold yielded;cases ht:(ops[g]?).bind (·.dst)with
   |none=>rfl
   |some t=>
    have hm:t∈kY ops o:=by simp[kY,hg,ht]
    show(match(zZ (kY ops o) a.tmps)[t]? with|some (.bool b)=>some b|_=>none)=(match a.tmps[t]? with|some (.bool b)=>some b|_=>none);have h1:=qou (kY ops o) a.tmps t;rw[pz hm]at h1;rw[yz,yz]at h1;by_cases hl:t<a.tmps.size
    ·rw[zt (by rw[qha];exact hl),zt hl]at h1 ⊢;simp_all
    ·rw[lAT (by rw[qha];exact lAK hl),lAT (lAK hl)]
  simp only[hy]
theorem qpo(a:Act)(o:Oper)(hs:∀ cs b,o.op≠ .select cs b):execOp ({a with tmps:=zZ (kY ops o) a.tmps}:Act).eval o=execOp a.eval o:=
 execOp_congr o hs fun x hx=>zl6 a _ x fun t ht=>by exact zu _ (List.mem_filterMap.2 ⟨x,by simpa using hx,ht⟩)
/- a quiet operation that does not look -/
theorem q5d{P:Program}{d n:Nat}{args:List Operand}{ts:List TypeId}{f:Nat->TT AV d->Hp->R0}(hf:uY P d n args ts=.q false f)(nm:Nat)(L:TT AV d)(H H':Hp):f nm L H=f nm L H':=by
 unfold uY at hf;split at hf
 ·split at hf
  ·cases hf;rfl
  ·split at hf<;>cases hf;rfl
  ·cases hf;rfl
  ·cases hf;rfl
  ·cases hf
  ·cases hf
 ·cases hf
theorem qsp{P:Program}{d n:Nat}{o:Oper}{f:Nat->TT AV d->Hp->R0}(hf:gZ P d n o=.q false f)(nm:Nat)(L:TT AV d)(H H':Hp):f nm L H=f nm L H':=by
 unfold gZ at hf;split at hf
 all_goals first
  |(cases hf;done)
  |(cases hf;rfl)
  |(unfold q70 at hf;split at hf<;>(cases hf;done))
  |(unfold zrz at hf;split at hf<;>(cases hf;done))
  |(unfold zwn at hf;cases hf;done)
  |(unfold z5l at hf;(repeat' split at hf)<;>first|(cases hf;done)|(cases hf;rfl))
  |(unfold z0v at hf;(repeat' split at hf)<;>first|(cases hf;done)|(cases hf;rfl))
  |(unfold q74 at hf;(repeat' split at hf)<;>first|(cases hf;done)|(cases hf;rfl))
  |(unfold aB3 at hf;(repeat' split at hf)<;>first|(cases hf;done)|(cases hf;rfl))
  |(unfold q73 at hf;(repeat' split at hf)<;>first|(cases hf;done)|(cases hf;rfl))
  |(unfold qfk at hf;simp only[Bool.cond_eq_ite]at hf;(repeat' split at hf)<;>first|(cases hf;done)|(cases hf;rfl))
  |(unfold zjh at hf;(repeat' split at hf)<;>first|(cases hf;done)|(cases hf;rfl))
  |(unfold qym at hf;(repeat' split at hf)<;>first|(cases hf;done)|(cases hf;rfl))
  |(unfold qom at hf;(repeat' split at hf)<;>first|(cases hf;done)|(cases hf;rfl))
  |(unfold zji at hf;(repeat' split at hf)<;>first|(cases hf;done)|(cases hf;rfl))
  |(unfold z5j at hf;(repeat' split at hf)<;>first|(cases hf;done)|(cases hf;rfl))
  |(unfold qmg at hf;(repeat' split at hf)<;>first|(cases hf;done)|(cases hf;rfl))
  |(unfold qc8 at hf;(repeat' split at hf)<;>first|(cases hf;done)|(cases hf;rfl))
  |(unfold qyn at hf;(repeat' split at hf)<;>first|(cases hf;done)|(cases hf;rfl))
  |(unfold q71 at hf;(repeat' split at hf)<;>first|(cases hf;done)|(cases hf;rfl))
  |(unfold qg5 at hf;simp only[Bool.cond_eq_ite]at hf;(repeat' split at hf)<;>first|(cases hf;done)|(cases hf;rfl))
  |(unfold q7z at hf;(repeat' split at hf)<;>first|(cases hf;done)|(cases hf;rfl))
  |(unfold qe4 at hf;(repeat' split at hf)<;>first|(cases hf;done)|(cases hf;rfl))
  |(unfold qyp at hf;(repeat' split at hf)<;>first|(cases hf;done)|(cases hf;rfl))
  |(unfold qe3 at hf;(repeat' split at hf)<;>first|(cases hf;done)|(cases hf;rfl))
  |(unfold qyo at hf;(repeat' split at hf)<;>first|(cases hf;done)|(cases hf;rfl))
  |(unfold qv0 at hf;(repeat' split at hf)<;>first|(cases hf;done)|(cases hf;rfl))
  |(unfold qdu at hf;(repeat' split at hf)<;>first|(cases hf;done)|(cases hf;rfl))
  |(unfold qjf at hf;(repeat' split at hf)<;>first|(cases hf;done)|(cases hf;rfl))
  |(unfold qon at hf;(repeat' split at hf)<;>first|(cases hf;done)|(cases hf;rfl))
  |(unfold qv1 at hf;(repeat' split at hf)<;>first|(cases hf;done)|(cases hf;rfl))
  |(unfold zC at hf;(repeat' split at hf)<;>first|(cases hf;done)|(cases hf;rfl))
  |(unfold zN at hf;(repeat' split at hf)<;>first|(cases hf;done)|(cases hf;rfl))
  |(unfold yM at hf;(repeat' split at hf)<;>first|(cases hf;done)|(cases hf;rfl))
  |(unfold zR at hf;(repeat' split at hf)<;>first|(cases hf;done)|(cases hf;rfl))
  |(unfold q5w at hf;(repeat' split at hf)<;>first|(cases hf;done)|(cases hf;rfl))
  |(unfold zT at hf;(repeat' split at hf)<;>first|(cases hf;done)|(cases hf;rfl))
  |(unfold yT at hf;(repeat' split at hf)<;>first|(cases hf;done)|(cases hf;rfl))
  |(unfold q72 at hf;(repeat' split at hf)<;>first|(cases hf;done)|(cases hf;rfl))
  |skip
 unfold qem at hf;split at hf
 ·exact q5d hf nm L H H'
 all_goals first
  |(cases hf;done)
  |(unfold zC at hf;(repeat' split at hf)<;>first|(cases hf;done)|(cases hf;rfl))
  |(unfold zN at hf;(repeat' split at hf)<;>first|(cases hf;done)|(cases hf;rfl))
  |(unfold yM at hf;(repeat' split at hf)<;>first|(cases hf;done)|(cases hf;rfl))
  |(unfold zR at hf;(repeat' split at hf)<;>first|(cases hf;done)|(cases hf;rfl))
  |(unfold q5w at hf;(repeat' split at hf)<;>first|(cases hf;done)|(cases hf;rfl))
  |(unfold zT at hf;(repeat' split at hf)<;>first|(cases hf;done)|(cases hf;rfl))
  |(unfold yT at hf;(repeat' split at hf)<;>first|(cases hf;done)|(cases hf;rfl))
end Go.Ev
end
