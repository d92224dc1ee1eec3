/-
 For FitsObjects: the evaluator and its soundness, part 2 of 4: what a run of the abstract evaluator answers, the model's run answers, in every world and on every schedule. No conditions beyond those that each theorem states.
-/
import Derived.Test.YtbfjjkjiokfdgaaGreatEv1
import Derived.Laws.NewFold
import Derived.Lib.Bytealg
import Derived.KernelRfl
import Derived.CallsIn
import Derived.OrdersIn
import Derived.TacticsIn
import Derived.RangeFuncLeaves
section
namespace Go.Ev
open Go.RowKit
variable {P:Program} {w:World} {ι:Im} {o:Oper} {a:Act} {nm:Nat} {d n:Nat} {L:TT AV d} {H:Hp}
theorem qvx{t e:TypeId}{len:Nat}{ps:Array (Nat×Operand)}(ho:o.op=.buildSlice t len ps)(ht:P.underlying t=some (.slice e)){z:List AV}(hz:qio P e=some z){s:Nat}(hs:gU P e=some s)(hzs:z.length=s)(hls:len*s<=65536){r:RdP d}(hr:qny d n (fun i=>some (i*s,s)) ps.toList=some r)(h:LR ι d n L a.tmps):gX P o a.eval ι w nm (iL len nm (bU (bE z len) (r.f L))):=by
 obtain⟨zv,z1,z2,z3⟩:=qcl (ι:=ι) hz;have hzl:zv.cells.toList.length=s:=by rw[z2.length,hzs]
 cases hp:bU (bE z len) (r.f L)with
 |none=>trivial
 |some c=>
  obtain⟨C',b1,b2,b3⟩:=qey (C:=(gJ zv.cells.toList len).toArray) (qh8 h _ _ _ hr) (by simpa using qh2 z2 len) (fun v hv=>z3 v (qgd (by simpa using hv))) hp;refine⟨.slice (some ⟨w.heap.size,0,none⟩) len len,w.alloc (.cells C'.toList.toArray e),⟨w.heap.size,0,0,0⟩,?_,New.alloc w _ 0 0,fun ι' hle hi=>⟨?_,qft b2 b3 e nm 0 ι' hle hi⟩⟩
  ·have hbig:¬(len*s>2 ^ 24):=by omega
   simp only[execOp,ho,Instr.buildSlice,Sem.run_bind,bP ht,Result.andThen_ok,mI hs,if_neg hbig,Sem.run_pure,Array.toList_map,Sem.run_ite];by_cases h0:len*s=0
   ·have hr0:(gJ zv.cells.toList len)=[]:=List.length_eq_zero_iff.1 (by rw[qb5,hzl,h0]);rw[hr0]at b1;have e0:Array.map (fun x=>(#[]:Array Value)[x%(#[]:Array Value).size]!) (Array.range 0)= #[]:=by apply Array.ext';simp
    simp only[h0,if_true];rw[e0,b1];rfl
   ·simp only[h0,if_false,qcr z1,Result.andThen_ok];rw[range_zero zv.cells len s (by simpa using hzl),b1];rfl
  ·simp only[aL];exact⟨Nat.le_refl _,_,hi,by simp⟩
theorem zwd{t:TypeId}{x:Operand}{f:Nat}(ho:o.op=.field t x f){fs:Array Field}(ht:P.underlying t=some (.struct fs)){fl:Field}(hf:fs[f]? =some fl)(h:LR ι d n L a.tmps):gX P o a.eval ι w nm (q5n (qkc P fl.type) fl.offset ((aH d n x).f L)):=by
 have hx:=dQ h x;unfold q5n;split
 ·rename_i l e;rw[e]at hx;obtain⟨vs,h1,h2,h3⟩:=xK hx;split
  ·rename_i v hv;obtain⟨V,r,hV⟩:=qje h1 h3 hv;exact⟨V,by simp[execOp,ho,Instr.field,bP ht,hf,h2,asAgg,r],hV⟩
  ·trivial
 ·trivial
theorem zz1{t e:TypeId}{x y:Operand}(ho:o.op=.index t x y){len:Nat}(ht:P.underlying t=some (.array len e)){z:Nat}(hz:gU P e=some z)(h:LR ι d n L a.tmps):gX P o a.eval ι w nm (aEV (qkc P e) len z ((aH d n x).f L) ((aH d n y).f L)):=by
 have hx:=dQ h x;have hy:=dQ h y;unfold aEV;split
 ·rename_i l k i e1 e2;rw[e1]at hx;rw[e2]at hy;simp only[aL]at hy;obtain⟨vs,h1,h2,h3⟩:=xK hx;cases hi:Nat.blt i len with
  |false=>trivial
  |true=>
   have hi':=sF hi;split
   ·rename_i v hv;obtain⟨V,r,hV⟩:=qje h1 h3 hv;refine⟨V,?_,hV⟩;have r':∀ w,(part e vs.toArray (i*z)).run P w=.ok V w:=r;simp[execOp,ho,Instr.index,bP ht,h2,hy,asIntOf,mI hz,hi',r']
   ·trivial
 ·trivial
/- len, cap, min, max -/
theorem qpz{x:Operand}{t:TypeId}{m:Nat}(ho:o.op=.call {callee:=.builtin .len,args:= #[x],argTypes:= #[t]})(ht:(∃e,P.underlying t=some (.array m e))\/∃ arr e,P.underlying t=some (.pointer arr)/\P.underlying arr=some (.array m e)):gX P o a.eval ι w nm (.val (i64 m)):=by
 refine⟨_,?_,sI _ _⟩;rcases ht with⟨e,ht⟩|⟨arr,e,ht,ha⟩
 ·simp[execOp,ho,resolve,invoke,builtin,Builtin.len_,bP ht,goInt]
 ·simp[execOp,ho,resolve,invoke,builtin,Builtin.len_,bP ht,bP ha,goInt]
theorem q6x{x:Operand}{t:TypeId}{m:Nat}(ho:o.op=.call {callee:=.builtin .cap,args:= #[x],argTypes:= #[t]})(ht:∃ e,P.underlying t=some (.array m e)):gX P o a.eval ι w nm (.val (i64 m)):=by refine⟨_,?_,sI _ _⟩;obtain⟨e,ht⟩:=ht;simp[execOp,ho,resolve,invoke,builtin,Builtin.cap_,bP ht,goInt]
theorem znj{x:Operand}{t:TypeId}(ho:o.op=.call {callee:=.builtin .len,args:= #[x],argTypes:= #[t]})(ht:P.underlying t=some .string)(h:LR ι d n L a.tmps):gX P o a.eval ι w nm (p8 ((aH d n x).f L)):=by
 have hx:=dQ h x;unfold p8;split
 ·rename_i e;rw[e]at hx;simp only[aL]at hx;obtain⟨s,h1,h2,_⟩:=hx;refine⟨_,?_,sI _ _⟩;have:s.size=_:=h2;simp[execOp,ho,resolve,invoke,builtin,Builtin.len_,bP ht,goInt,h1,this]
 ·trivial
theorem zwc{x:Operand}{t e:TypeId}(ho:o.op=.call {callee:=.builtin .len,args:= #[x],argTypes:= #[t]})(ht:P.underlying t=some (.slice e))(h:LR ι d n L a.tmps):gX P o a.eval ι w nm (aF ((aH d n x).f L)):=by
 have hx:=dQ h x;unfold aF;split
 ·rename_i e;rw[e]at hx;simp only[aL]at hx;obtain⟨_,l,_,h1⟩:=hx;exact⟨_,by simp[execOp,ho,resolve,invoke,builtin,Builtin.len_,bP ht,goInt,h1],sI _ _⟩
 ·rename_i e;rw[e]at hx;simp only[aL]at hx;exact⟨_,by simp[execOp,ho,resolve,invoke,builtin,Builtin.len_,bP ht,goInt,hx],sI _ _⟩
 ·rename_i e;rw[e]at hx;simp only[aL]at hx;obtain⟨_,_,h1⟩:=hx;exact⟨_,by simp[execOp,ho,resolve,invoke,builtin,Builtin.len_,bP ht,goInt,h1],sI _ _⟩
 ·trivial
theorem bT.length:∀{es:List lS} {ES:List MapEntry},bT ι es ES->ES.length=es.length
 | [],ES,h=>by simp only[bT]at h;subst h;rfl
 |x::es,ES,h=>by obtain⟨e,r,rfl,_,_,_,h5⟩:=h;simp[bT.length h5]
theorem zz0{x:Operand}{t k e:TypeId}(ho:o.op=.call {callee:=.builtin .len,args:= #[x],argTypes:= #[t]})(ht:P.underlying t=some (.map k e))(hH:HR ι H w)(h:LR ι d n L a.tmps):gX P o a.eval ι w nm (xJ H ((aH d n x).f L)):=by
 have hx:=dQ h x;unfold xJ;split
 ·rename_i e;rw[e]at hx;simp only[aL]at hx;exact⟨_,by simp[execOp,ho,resolve,invoke,builtin,Builtin.len_,bP ht,goInt,hx],sI _ _⟩
 ·rename_i m e;rw[e]at hx;simp only[aL]at hx;obtain⟨l,h1,h2⟩:=hx;have hb:=hH.blk m (hH.lt h1);split
  ·rename_i es clock hg;rw[hg]at hb;obtain⟨l',ES,h3,h4,h5⟩:=hb;rw[h1]at h3;cases h3;have hl:=h5.length;refine⟨_,?_,sI _ _⟩;simp[execOp,ho,resolve,invoke,builtin,Builtin.len_,bP ht,goInt,h2,getObj,Sem.run,h4,hl]
  ·trivial
 ·trivial
theorem zwh{x:Operand}{t e:TypeId}(ho:o.op=.call {callee:=.builtin .cap,args:= #[x],argTypes:= #[t]})(ht:P.underlying t=some (.slice e))(h:LR ι d n L a.tmps):gX P o a.eval ι w nm (iC ((aH d n x).f L)):=by
 have hx:=dQ h x;unfold iC;split
 ·rename_i e;rw[e]at hx;simp only[aL]at hx;obtain⟨_,l,_,h1⟩:=hx;exact⟨_,by simp[execOp,ho,resolve,invoke,builtin,Builtin.cap_,bP ht,goInt,h1],sI _ _⟩
 ·rename_i e;rw[e]at hx;simp only[aL]at hx;exact⟨_,by simp[execOp,ho,resolve,invoke,builtin,Builtin.cap_,bP ht,goInt,hx],sI _ _⟩
 ·trivial
theorem q5f:∀(l:List AV) (ls:List Value) (x:AV) (X:Value) (v:AV),aI ι l ls->aL ι x X->o8 nJ x l=.val v->∃ V,(ls.foldlM Builtin.min2 X).run P w=.ok V w/\aL ι v V
 | [],ls,x,X,v,hl,hx,h=>by simp only[aI]at hl;subst hl;have h:R0.val x=.val v:=h;cases h;exact⟨X,by simp,hx⟩
 |y::l,ls,x,X,v,hl,hx,h=>by
  obtain⟨Y,r,rfl,hy,hr⟩:=hl;have h:(match nJ x y with| .val z=>o8 nJ z l|_=>.bad)=.val v:=h;split at h
  ·rename_i z hz;have hm:∃ Z,(Builtin.min2 X Y).run P w=.ok Z w/\aL ι z Z:=by
    unfold nJ at hz;split at hz
    ·simp only[R0.val.injEq]at hz;subst hz;simp only[aL]at hx hy;subst hx hy;refine⟨_,rfl,?_⟩;simp only[aL,yT];split<;>rename_i hlt<;>simp[hlt]
    ·cases hz
   obtain⟨Z,z1,z2⟩:=hm;obtain⟨V,v1,v2⟩:=q5f l r z Z v hr z2 h;exact⟨V,by rw[List.foldlM_cons,Sem.run_bind,z1];exact v1,v2⟩
  ·cases h
theorem q5g:∀(l:List AV) (ls:List Value) (x:AV) (X:Value) (v:AV),aI ι l ls->aL ι x X->o8 oO x l=.val v->∃ V,(ls.foldlM Builtin.max2 X).run P w=.ok V w/\aL ι v V
 | [],ls,x,X,v,hl,hx,h=>by simp only[aI]at hl;subst hl;have h:R0.val x=.val v:=h;simp_all
 |y::l,ls,x,X,v,hl,hx,h=>by
  obtain⟨Y,r,rfl,hy,hr⟩:=hl;have h:(match oO x y with| .val z=>o8 oO z l|_=>.bad)=.val v:=h;split at h
  ·rename_i z hz;have hm:∃ Z,(Builtin.max2 X Y).run P w=.ok Z w/\aL ι z Z:=by
    unfold oO at hz;split at hz
    ·simp only[R0.val.injEq]at hz;subst hz;simp only[aL]at hx hy;subst hx hy;refine⟨_,rfl,?_⟩;simp only[aL,yT];simp
    ·cases hz
   obtain⟨Z,z1,z2⟩:=hm;obtain⟨V,v1,v2⟩:=q5g l r z Z v hr z2 h;exact⟨V,by rw[List.foldlM_cons,Sem.run_bind,z1];exact v1,v2⟩
  ·cases h
theorem qjk(g:AV->AV->R0):∀(l:List AV) (x:AV),o8 g x l=.bad\/∃ v,o8 g x l=.val v
 | [],x=>.inr ⟨x,rfl⟩
 |y::l,x=>by
  show(match g x y with| .val z=>o8 g z l|_=>.bad)=.bad\/∃ v,(match g x y with| .val z=>o8 g z l|_=>.bad)=.val v;split
  ·exact qjk g l _
  ·simp
theorem aKu{x:Operand}{r:List Operand}{ts:Array TypeId}(ho:o.op=.call {callee:=.builtin .min,args:=(x::r).toArray,argTypes:=ts})(h:LR ι d n L a.tmps):gX P o a.eval ι w nm (o8 nJ ((aH d n x).f L) ((rX d n r).f L)):=by
 rcases qjk nJ ((rX d n r).f L) ((aH d n x).f L)with hf|⟨v,hf⟩
 ·rw[hf];trivial
 ·obtain⟨V,v1,v2⟩:=q5f (P:=P) (w:=w) _ _ _ _ v (qcm h r) (dQ h x) hf;rw[hf];refine⟨V,?_,v2⟩;simp[execOp,ho,resolve,invoke,builtin,Builtin.min_,v1]
theorem aKv{x:Operand}{r:List Operand}{ts:Array TypeId}(ho:o.op=.call {callee:=.builtin .max,args:=(x::r).toArray,argTypes:=ts})(h:LR ι d n L a.tmps):gX P o a.eval ι w nm (o8 oO ((aH d n x).f L) ((rX d n r).f L)):=by
 rcases qjk oO ((rX d n r).f L) ((aH d n x).f L)with hf|⟨v,hf⟩
 ·rw[hf];trivial
 ·obtain⟨V,v1,v2⟩:=q5g (P:=P) (w:=w) _ _ _ _ v (qcm h r) (dQ h x) hf;rw[hf];refine⟨V,?_,v2⟩;simp[execOp,ho,resolve,invoke,builtin,Builtin.max_,v1]
/- keys -/
theorem qnm(em:Bool):∀(D:Nat) (t:TypeId),qto P D t=true->∀(D':Nat),D<=D'->∀(K:Value),(oZ P t=some true->∃ vs:List Value,K=.agg vs.toArray/\gU P t=some vs.length)->∀ w,(Instr.checkKey em D' t K).run P w=.ok () w:=by
 intro D
 induction D with
 |zero=>intro t h;simp[qto]at h
 |succ D ih=>
  intro t h D' hD K hK w;obtain⟨E,rfl⟩:∃ E,D'=E+1:=⟨D'-1,by omega⟩;have pk:∀(u:TypeId) (m:Nat),gU P u=some m->0<m->qto P D u=true->∀(vs:List Value) (off:Nat),off+m<=vs.length->∀ w,((do let p<-part u vs.toArray off;Instr.checkKey em E u p):Sem Unit).run P w=.ok () w:=by
   intro u m hu h0 hk vs off hle w;rw[Sem.run_bind];cases ha:oZ P u with
   |none=>
    unfold oZ at ha;cases hun:P.underlying u with
    |none=>cases D<;>simp[qto,hun]at hk
    |some _=>rw[hun]at ha;cases ha
   |some b=>
    cases b with
    |true=>
     have:(part u vs.toArray off).run P w=.ok (.agg ((vs.drop off).take m).toArray) w:=by simp[part,qfp ha,mI hu]
     rw[this,Result.andThen_ok];refine ih u hk E (by omega) _ (fun _=>⟨_,rfl,?_⟩) w;rw[hu];simp;omega
    |false=>
     have hlt:off<vs.length:=by omega
     have:(part u vs.toArray off).run P w=.ok vs[off] w:=by simp[part,qfp ha,hlt]
     rw[this,Result.andThen_ok];exact ih u hk E (by omega) _ (fun h'=>by rw[ha]at h';cases h') w
  rw[qto]at h;split at h
  ·rename_i ht _;unfold Instr.checkKey;simp[bP ht]
  ·rename_i ht _;unfold Instr.checkKey;simp[bP ht]
  ·rename_i ht _;unfold Instr.checkKey;simp[bP ht]
  ·rename_i fs N ht hN;obtain⟨vs,rfl,hvs⟩:=hK (by simp[oZ,ht]);have hN':N=vs.length:=by rw[hN]at hvs;simpa using hvs
   unfold Instr.checkKey;simp only[Sem.run_bind,bP ht,Result.andThen_ok];have hall:=List.all_eq_true.1 h;have loop:∀(l:List Field),(∀f∈l,f∈fs.toList)->∀ w,(forIn l () fun f _=>(do
     if f.name ≠ "_" then(do let p<-part f.type vs.toArray f.offset;Instr.checkKey em E f.type p;pure (ForInStep.yield ()))else pure (ForInStep.yield ()):Sem (ForInStep Unit))).run P w= .ok () w:=by
    intro l
    induction l with
    |nil=>intro _ w;simp
    |cons f l ihl=>
     intro hl w;have hf:=hall f (hl f (by simp));rw[List.forIn_cons];split at hf
     ·rename_i m hm;simp only[Bool.and_eq_true]at hf;obtain⟨⟨f1,f2⟩,f3⟩:=hf;have r:=pk f.type m hm (sF f3) f2 vs f.offset (by have:=mX f1;omega)
      by_cases hn:f.name = "_"
      ·simp only[hn,ne_eq,not_true_eq_false,if_false,pure_bind];exact ihl (fun g hg=>hl g (by simp[hg])) w
      ·simp only[ne_eq,hn,not_false_eq_true,if_true,bind_assoc,pure_bind];rw[<-bind_assoc,Sem.run_bind,r w,Result.andThen_ok];exact ihl (fun g hg=>hl g (by simp[hg])) w
     ·cases hf
   have:=loop fs.toList (fun f hf=>hf) w;simp at this ⊢
   erw [this]
   rfl
  ·rename_i len e N ht hN;obtain⟨vs,rfl,hvs⟩:=hK (by simp[oZ,ht]);have hN':N=vs.length:=by rw[hN]at hvs;simpa using hvs
   split at h
   ·rename_i m hm;simp only[Bool.and_eq_true]at h;obtain⟨⟨f1,f2⟩,f3⟩:=h;have f1:=mX f1;unfold Instr.checkKey;simp only[Sem.run_bind,bP ht,Result.andThen_ok,Std.Legacy.Range.forIn_eq_forIn_range',Std.Legacy.Range.size,Nat.sub_zero,Nat.add_sub_cancel,Nat.div_one];have loop:∀(k i:Nat),i+k<=len->∀ w,(forIn (List.range' i k) () fun i _=>(do
      let s<-sizeOf e;let p<-part e vs.toArray (i*s);Instr.checkKey em E e p;pure (ForInStep.yield ()):Sem (ForInStep Unit))).run P w=.ok () w:=by
     intro k
     induction k with
     |zero=>intro i _ w;simp
     |succ k ihk=>
      intro i hi w;have hle:i*m+m<=vs.length:=by have h1:(i+1)*m<=len*m:=Nat.mul_le_mul_right m (by omega);rw[Nat.add_mul,Nat.one_mul]at h1;omega
      have r:=pk e m hm (sF f3) f2 vs (i*m) hle;rw[List.range'_succ,List.forIn_cons];simp only[bind_assoc,pure_bind];rw[Sem.run_bind,mI hm,Result.andThen_ok,<-bind_assoc,Sem.run_bind,r w,Result.andThen_ok];exact ihk (i+1) (by omega) w
    have:=loop len 0 (by omega) w;simp at this ⊢
    erw [this]
    rfl
   ·cases h
  ·cases h
theorem bT.get:∀{es:List lS} {ES:List MapEntry},bT ι es ES->∀(i:Nat) (x:lS),es[i]? =some x->∃ e,ES[i]? =some e/\aL ι x.key e.key/\aL ι x.val e.val/\e.born=x.born
 | [],ES,h,i,x,hi=>by simp at hi
 |y::es,ES,h,i,x,hi=>by
  obtain⟨e,r,rfl,h1,h2,h3,h4⟩:=h;cases i with
  |zero=>simp at hi;subst hi;exact⟨e,rfl,h1,h2,h3⟩
  |succ i=>simp at hi;obtain⟨e',a1,a2⟩:=bT.get h4 i x hi;exact⟨e',by simpa using a1,a2⟩
def q14(ι:Im)(es:List lS)(ES:List MapEntry):Option xD->Option (Nat×Value)->Prop
 |none,R=>R=none
 |some h,R=>∃ V E,R=some (h.i,V)/\es[h.i]? =some h.x/\ES[h.i]? =some E/\aL ι h.x.key E.key/\aL ι h.x.val V/\E.val=V/\E.born=h.x.born
theorem qe7{e:AV->AV->Option Bool}{k:AV}:∀(es:List lS) (i:Nat) (r:Option xD),yY e k es i=some r->∀ h,r=some h->i<=h.i/\es[h.i-i]? =some h.x
 | [],i,r,hr,h,hh=>by have hr:(some none:Option (Option xD))=some r:=hr;simp_all
 |x::es,i,r,hr,h,hh=>by
  have hr:(match e k x.key with|some true=>some (some ⟨i,x⟩)|some false=>yY e k es (i+1)|none=>none)=some r:=hr;split at hr
  ·simp only[Option.some.injEq]at hr;subst hr;cases hh;exact⟨Nat.le_refl _,by simp⟩
  ·obtain⟨h1,h2⟩:=qe7 es (i+1) r hr h hh;refine⟨by omega,?_⟩;rw[show h.i-i=(h.i-(i+1))+1 by omega,List.getElem?_cons_succ];exact h2
  ·cases hr
theorem qqh{td:TypeDesc}{e:AV->AV->Option Bool}{k:AV}{K:Value}(hs:∀ x X b,e k x=some b->aL ι x X->Instr.sameNow td K X=some b):∀(es:List lS) (ES:List MapEntry) (i:Nat) (r:Option xD),bT ι es ES->yY e k es i=some r -> ∃R,Instr.findNow td K ES i=some R/\(r=none->R=none)/\∀ h,r=some h->∃ E,ES[h.i-i]? =some E/\R=some (h.i,E.val)
 | [],ES,i,r,hE,hr=>by have hr:(some none:Option (Option xD))=some r:=hr;cases hr;simp only[bT]at hE;subst hE;exact⟨none,rfl,fun _=>rfl,fun h hh=>by cases hh⟩
 |x::es,ES,i,r,hE,hr=>by
  obtain⟨E,rr,rfl,h1,h2,h3,h4⟩:=hE;have hr:(match e k x.key with|some true=>some (some ⟨i,x⟩)|some false=>yY e k es (i+1)|none=>none)=some r:=hr;split at hr
  ·rename_i hb;simp only[Option.some.injEq]at hr;subst hr;refine⟨some (i,E.val),by simp[Instr.findNow,hs _ _ _ hb h1],(fun h=>by cases h),fun h hh=>?_⟩;cases hh;exact⟨E,by simp,rfl⟩
  ·rename_i hb;obtain⟨R,r1,r2,r3⟩:=qqh hs es rr (i+1) r h4 hr;refine⟨R,by simp[Instr.findNow,hs _ _ _ hb h1,r1],r2,fun h hh=>?_⟩;obtain⟨E',e1,e2⟩:=r3 h hh;obtain⟨g1,_⟩:=qe7 es (i+1) r hr h hh;exact⟨E',by rw[show h.i-i=(h.i-(i+1))+1 by omega,List.getElem?_cons_succ];exact e1,e2⟩
  ·cases hr
theorem qqi{kt:TypeId}{e:AV->AV->Option Bool}{k:AV}{K:Value}(hs:∀ x X b,e k x=some b->aL ι x X->∀ w,(Op.equal kt K X).run P w=.ok b w):∀(es:List lS) (ES:List MapEntry) (i:Nat) (r:Option xD),bT ι es ES->yY e k es i=some r -> ∃R,(∀w,(Instr.findAsking kt K ES i).run P w=.ok R w)/\(r=none->R=none)/\∀ h,r=some h->∃ E,ES[h.i-i]? =some E/\R=some (h.i,E.val)
 | [],ES,i,r,hE,hr=>by have hr:(some none:Option (Option xD))=some r:=hr;cases hr;simp only[bT]at hE;subst hE;exact⟨none,fun _=>rfl,fun _=>rfl,fun h hh=>by cases hh⟩
 |x::es,ES,i,r,hE,hr=>by
  obtain⟨E,rr,rfl,h1,h2,h3,h4⟩:=hE;have hr:(match e k x.key with|some true=>some (some ⟨i,x⟩)|some false=>yY e k es (i+1)|none=>none)=some r:=hr;split at hr
  ·rename_i hb;simp only[Option.some.injEq]at hr;subst hr;refine⟨some (i,E.val),fun w=>by simp[Instr.findAsking,hs _ _ _ hb h1],(fun h=>by cases h),fun h hh=>?_⟩;cases hh;exact⟨E,by simp,rfl⟩
  ·rename_i hb;obtain⟨R,r1,r2,r3⟩:=qqi hs es rr (i+1) r h4 hr;refine⟨R,fun w=>by simp[Instr.findAsking,hs _ _ _ hb h1,r1],r2,fun h hh=>?_⟩;obtain⟨E',e1,e2⟩:=r3 h hh;obtain⟨g1,_⟩:=qe7 es (i+1) r hr h hh;exact⟨E',by rw[show h.i-i=(h.i-(i+1))+1 by omega,List.getElem?_cons_succ];exact e1,e2⟩
  ·cases hr
theorem qe6{kt:TypeId}{ky:Ky}(hky:qU P kt=some ky){k:AV}{K:Value}(hK:aL ι k K){es:List lS}{ES:List MapEntry}(hE:bT ι es ES){r:Option xD}(h:qt0 ky k es=some r):(∀em w,(Instr.checkKey em 10000 kt K).run P w=.ok () w)/\∃ R,(∀w,(Instr.findKey kt K ES).run P w=.ok R w)/\q14 ι es ES r R:=by
 unfold qt0 at h;cases hf:qhi ky.s k with
 |false=>rw[hf]at h;cases h
 |true=>
  rw[hf]at h;simp only[cond_true]at h;have hq:=zr6 (P:=P) (ι:=ι) zY kt;have fin:∀ R:Option (Nat×Value),(r=none->R=none)->(∀h,r=some h->∃ E,ES[h.i-0]? =some E/\R=some (h.i,E.val))->q14 ι es ES r R:=by
   intro R h1 h2;cases r with
   |none=>exact h1 rfl
   |some hh=>obtain⟨E,e1,e2⟩:=h2 hh rfl;rw[Nat.sub_zero]at e1;obtain⟨_,g2⟩:=qe7 es 0 _ h hh rfl;rw[Nat.sub_zero]at g2;obtain⟨E',a1,a2,a3,a4⟩:=hE.get _ _ g2;rw[e1]at a1;cases a1;exact⟨E.val,E,e2,g2,e1,a2,a3,rfl,a4⟩
  unfold qU at hky;have ask:∀(e:AV->AV->Option Bool),wC P zY kt=⟨e⟩->ky.e=e->∀ x X b,ky.e k x=some b->aL ι x X->∀ w,(Op.equal kt K X).run P w=.ok b w:=by intro e he hke x X b hb hx w;rw[hke]at hb;rw[he]at hq;exact hq k x K X b hb hK hx Op.maxDepth (by decide) w
  split at hky
  ·rename_i e N ho he ha hN;simp only[Option.some.injEq]at hky;subst hky;obtain⟨l,rfl⟩:∃ l,k=.agg l:=by cases k<;>first|exact⟨_,rfl⟩|(simp[qhi]at hf;done)
   obtain⟨vs,v1,v2,v3⟩:=xK hK;have hl:l.length=N:=sJ hf;refine⟨fun em w=>qnm em zY kt ho 10000 (by decide) K (fun _=>⟨vs,v2,by rw[hN,v1.length,hl]⟩) w,?_⟩;obtain⟨R,r1,r2,r3⟩:=qqi (ask e he rfl) es ES 0 r hE h;refine⟨R,fun w=>?_,fin R r2 r3⟩;have hu:∃ td,P.underlying kt=some td:=by
    unfold oZ at ha;cases hun:P.underlying kt with
    |none=>rw[hun]at ha;cases ha
    |some td=>exact⟨td,rfl⟩
   obtain⟨td,hu⟩:=hu;unfold Instr.findKey;rw[Sem.run_bind,bP hu,Result.andThen_ok];cases ES with
   |nil=>
    have:R=none:=by
     cases r with
     |none=>exact r2 rfl
     |some hh=>obtain⟨E,e1,_⟩:=r3 hh rfl;simp at e1
    subst this;rfl
   |cons E rest=>
    have:Instr.findNow td K (E::rest) 0=none:=by
     have htd:(∃fs,td=.struct fs)\/∃ n t,td=.array n t:=by
      unfold oZ at ha;rw[hu]at ha;cases td<;>simp at ha
      ·simp
      ·simp
     rcases htd with⟨fs,rfl⟩|⟨n,t,rfl⟩<;>simp[Instr.findNow,Instr.sameNow]
    simp_all
  ·rename_i e N ho he ha hN;simp only[Option.some.injEq]at hky;subst hky;have aXK:∀ em w,(Instr.checkKey em 10000 kt K).run P w=.ok () w:=fun em w=>qnm em zY kt ho 10000 (by decide) K (fun h'=>by rw[ha]at h';cases h') w;refine⟨aXK,?_⟩;have now:∀ td,P.underlying kt=some td->(∀x X b,e k x=some b->aL ι x X->Instr.sameNow td K X=some b)->∃ R,(∀w,(Instr.findKey kt K ES).run P w=.ok R w)/\q14 ι es ES r R:=by
    intro td hu hs;obtain⟨R,r1,r2,r3⟩:=qqh hs es ES 0 r hE h;refine⟨R,fun w=>?_,fin R r2 r3⟩;unfold Instr.findKey;rw[Sem.run_bind,bP hu,Result.andThen_ok,r1];rfl
   have ho':=ho;unfold zY at ho' he;rw[show(20:Nat)=19+1 from rfl,qto]at ho';rw[show(20:Nat)=19+1 from rfl,wC]at he;split at ho'
   ·rename_i ht _;rw[ht]at he;simp only[E2.mk.injEq]at he;subst he;refine now _ ht fun x X b hb hx=>?_;unfold qn1 at hb;split at hb
    ·rename_i kk m k' p;simp only[aL]at hK hx;subst hK hx;cases hk:uL kk k' with
     |false=>rw[hk]at hb;cases hb
     |true=>rw[hk]at hb;simp only[cond_true,Option.some.injEq]at hb;subst hb;have:=zow hk;subst this;simp[Instr.sameNow,zN]
    ·cases hb
   ·rename_i ht _;rw[ht]at he;simp only[E2.mk.injEq]at he;subst he;refine now _ ht fun x X b hb hx=>?_;unfold bZ at hb;split at hb
    ·simp only[aL]at hK hx;obtain⟨s,rfl,h1⟩:=hK;obtain⟨u,rfl,h2⟩:=hx;simp only[Option.some.injEq]at hb;subst hb;simp[Instr.sameNow,beq_toListBytes,qga,h1.eq h2]
    ·cases hb
   ·rename_i ht _;rw[ht]at he;simp only[E2.mk.injEq]at he;subst he;refine now _ ht fun x X b hb hx=>?_;unfold qg0 at hb;split at hb
    ·simp only[aL]at hK hx;subst hK hx;trivial
    ·cases hb
   ·rename_i ht _;unfold oZ at ha;rw[ht]at ha;simp at ha
   ·rename_i ht _;unfold oZ at ha;rw[ht]at ha;simp at ha
   ·cases ho'
  ·cases hky
theorem zni{t kt et:TypeId}{x y:Operand}{ok:Bool}(ho:o.op=.lookup t x y ok)(ht:P.underlying t=some (.map kt et)){ky:Ky}(hky:qU P kt=some ky){z:Value}(hz:(P.info? et).bind (·.zero)=some z)(hH:HR ι H w)(h:LR ι d n L a.tmps):gX P o a.eval ι w nm (qT ky (qtc z) ok H ((aH d n x).f L) ((aH d n y).f L)):=by
 have hx:=dQ h x;have hy:=dQ h y;have key:∀(es:List lS) (ES:List MapEntry),bT ι es ES->(∀f:Array MapEntry->Sem Value,(execOp a.eval o).run P w=((do
    Instr.checkKey ES.toArray.isEmpty 10000 kt (a.eval y)
    let (v,b)<-match<-Instr.findKey kt (a.eval y) ES with
     |some (_,v)=>pure (v,true)
     |none=>pure (<-zeroValue et,false)
    pure (if ok then .tuple #[v,.bool b]else v):Sem Value).run P w).andThen fun v w=>.ok (.value v) w) ->
   gX P o a.eval ι w nm (zw0 ok (qtc z) (qt0 ky ((aH d n y).f L) es)):=by
  intro es ES hE hrun;have hrun:=hrun fun _=>pure .nilFunc;cases hf:qt0 ky ((aH d n y).f L) es with
  |none=>trivial
  |some r=>
   obtain⟨c1,R,c2,c3⟩:=qe6 hky hy hE hf;cases r with
   |none=>
    simp only[q14]at c3;subst c3;refine⟨if ok then .tuple #[z,.bool false]else z,?_,?_⟩
    ·rw[hrun];simp[c1,c2,qcr hz]
    ·cases ok
     ·exact qfq z
     ·simp only[cond_true,if_true,aL,aI];exact⟨[z,.bool false],⟨z,_,rfl,qfq z,_,_,rfl,rfl,rfl⟩,rfl⟩
   |some hit=>
    obtain⟨V,E,rfl,a1,a2,a3,a4,a5,a6⟩:=c3;refine⟨if ok then .tuple #[V,.bool true]else V,?_,?_⟩
    ·rw[hrun];simp[c1,c2]
    ·cases ok
     ·exact a4
     ·simp only[cond_true,if_true,aL,aI];exact⟨[V,.bool true],⟨V,_,rfl,a4,_,_,rfl,rfl,rfl⟩,rfl⟩
 unfold qT zr7;split
 ·rename_i es he;split at he
  ·rename_i e1;simp only[Option.some.injEq]at he;subst he;rw[e1]at hx;simp only[aL]at hx;refine key [] [] (by simp[bT]) fun _=>?_;simp[execOp,ho,Instr.lookup,bP ht,hx];rfl
  ·rename_i m e1;rw[e1]at hx;simp only[aL]at hx;obtain⟨l,h1,h2⟩:=hx;have hb:=hH.blk m (hH.lt h1);split at he
   ·rename_i es' clock hg;simp only[Option.some.injEq]at he;subst he;rw[hg]at hb;obtain⟨l',ES,h3,h4,h5⟩:=hb;rw[h1]at h3;cases h3;refine key es' ES h5 fun _=>?_;simp[execOp,ho,Instr.lookup,bP ht,h2,getObj,Sem.run,h4];rfl
   ·cases he
  ·cases he
 ·trivial
theorem aKl{op:BinOp}{t ty:TypeId}{x y:Operand}(ho:o.op=.binOp op t x y ty)(neg:Bool)(hop:op=if neg then .neq else .eql){e:AV->AV->Option Bool}(he:wC P zY t=⟨e⟩)(hk:∀ td,P.underlying t=some td->match td with| .bool| .pointer _| .slice _| .map .. | .func .. | .interface _=>True| .struct _| .array .. =>P.eqGuardType P.depth t=false|_=>False)(hu:∃ td,P.underlying t=some td)(h:LR ι d n L a.tmps):
  gX P o a.eval ι w nm (mQ neg (e ((aH d n x).f L) ((aH d n y).f L))):=by
 have hx:=dQ h x;have hy:=dQ h y;unfold mQ;split
 ·rename_i b hb;have hq:=zr6 (P:=P) (ι:=ι) zY t;rw[he]at hq;have hr:=hq _ _ _ _ _ hb hx hy Op.maxDepth (by decide) w;refine⟨.bool (if neg then !b else b),?_,by simp only[aL];cases neg<;>rfl⟩;obtain⟨td,hu⟩:=hu;have hk:=hk td hu;generalize hX:a.eval x=X at *;generalize hY:a.eval y=Y at *;have run:(∃g,(eqGuard op t x y X Y).run P w=.ok g w)/\(binOp op t X Y).run P w=.ok (.bool (if neg then !b else b)) w:=by
   unfold zY at he;rw[show(20:Nat)=19+1 from rfl,wC,hu]at he;cases td<;>first|(exact hk.elim)|skip
   case bool=>
    simp only[E2.mk.injEq]at he;subst he;unfold qg0 at hb;split at hb
    ·rename_i e1 e2;rw[e1]at hx;rw[e2]at hy;simp only[aL]at hx hy;subst hx hy;cases neg<;>subst hop<;>simp[eqGuard,binOp,Op.equal,hr]
    ·cases hb
   case pointer=>
    simp only[E2.mk.injEq]at he;subst he;unfold qnd at hb;split at hb<;>first|(cases hb;done)|skip
    all_goals (rename_i e1 e2;rw[e1]at hx;rw[e2]at hy;simp only[aL]at hx hy)
    ·subst hx hy;cases neg<;>subst hop<;>simp[eqGuard,binOp,Op.equal,hr]
    ·obtain⟨l,_,rfl⟩:=hy;subst hx;cases neg<;>subst hop<;>simp[eqGuard,binOp,Op.equal,hr]
    ·obtain⟨l,_,rfl⟩:=hx;subst hy;cases neg<;>subst hop<;>simp[eqGuard,binOp,Op.equal,hr]
   case slice=>
    simp only[E2.mk.injEq]at he;subst he;unfold aDd at hb;split at hb<;>first|(cases hb;done)|skip
    all_goals (rename_i e1 e2;rw[e1]at hx;rw[e2]at hy;simp only[aL]at hx hy)
    ·subst hx hy;cases neg<;>subst hop<;>simp[eqGuard,binOp,Op.equal,hr]
    ·obtain⟨_,l,_,rfl⟩:=hy;subst hx;cases neg<;>subst hop<;>simp[eqGuard,binOp,Op.equal,hr]
    ·obtain⟨_,l,rfl⟩:=hy;subst hx;cases neg<;>subst hop<;>simp[eqGuard,binOp,Op.equal,hr]
    ·obtain⟨_,l,_,rfl⟩:=hx;subst hy;cases neg<;>subst hop<;>simp[eqGuard,binOp,Op.equal,hr]
    ·obtain⟨_,l,rfl⟩:=hx;subst hy;cases neg<;>subst hop<;>simp[eqGuard,binOp,Op.equal,hr]
   case map=>
    simp only[E2.mk.injEq]at he;subst he;unfold zov at hb;split at hb<;>first|(cases hb;done)|skip
    all_goals (rename_i e1 e2;rw[e1]at hx;rw[e2]at hy;simp only[aL]at hx hy)
    ·subst hx hy;cases neg<;>subst hop<;>simp[eqGuard,binOp,Op.equal,hr]
    ·obtain⟨l,_,rfl⟩:=hy;subst hx;cases neg<;>subst hop<;>simp[eqGuard,binOp,Op.equal,hr]
    ·obtain⟨l,_,rfl⟩:=hx;subst hy;cases neg<;>subst hop<;>simp[eqGuard,binOp,Op.equal,hr]
   case func=>
    simp only[E2.mk.injEq]at he;subst he;unfold eqFn at hb;split at hb<;>first|(cases hb;done)|skip
    all_goals (rename_i e1 e2;rw[e1]at hx;rw[e2]at hy;simp only[aL]at hx hy)
    ·subst hx hy;cases neg<;>subst hop<;>simp[eqGuard,binOp,Op.equal,hr]
    ·obtain⟨_,_,_,_,rfl⟩:=hy;subst hx;cases neg<;>subst hop<;>simp[eqGuard,binOp,Op.equal,hr]
    ·obtain⟨_,_,_,_,rfl⟩:=hx;subst hy;cases neg<;>subst hop<;>simp[eqGuard,binOp,Op.equal,hr]
   case interface=>
    simp only[E2.mk.injEq]at he;subst he;unfold aCG at hb;split at hb<;>first|(cases hb;done)|skip
    all_goals (rename_i e1 e2;rw[e1]at hx;rw[e2]at hy;simp only[aL]at hx hy)
    ·obtain⟨_,_,rfl⟩:=hy;subst hx;cases neg<;>subst hop<;>simp[eqGuard,binOp,Op.equal,hr]
    ·obtain⟨_,_,rfl⟩:=hx;subst hy;cases neg<;>subst hop<;>simp[eqGuard,binOp,Op.equal,hr]
   case array len e=>
    simp only at he;split at he
    ·simp only[E2.mk.injEq]at he;subst he;unfold gW at hb;split at hb
     ·rename_i e1 e2;rw[e1]at hx;rw[e2]at hy;obtain⟨_,_,rfl,_⟩:=xK hx;obtain⟨_,_,rfl,_⟩:=xK hy;refine⟨⟨(),run_eqGuard_agg w op t x y _ _ hk⟩,?_⟩;cases neg<;>subst hop
      ·rw[if_neg (by simp),run_eql_struct,show(10000:Nat)=Op.maxDepth from rfl,hr];rfl
      ·rw[if_pos rfl,run_neq_struct,show(10000:Nat)=Op.maxDepth from rfl,hr];rfl
     ·cases hb
    ·simp only[E2.mk.injEq]at he;subst he;cases hb
   case struct fs=>
    simp only at he;split at he
    ·simp only[E2.mk.injEq]at he;subst he;cases hb
    ·simp only[E2.mk.injEq]at he;subst he;unfold gW at hb;split at hb
     ·rename_i e1 e2;rw[e1]at hx;rw[e2]at hy;obtain⟨_,_,rfl,_⟩:=xK hx;obtain⟨_,_,rfl,_⟩:=xK hy;refine⟨⟨(),run_eqGuard_agg w op t x y _ _ hk⟩,?_⟩;cases neg<;>subst hop
      ·rw[if_neg (by simp),run_eql_struct,show(10000:Nat)=Op.maxDepth from rfl,hr];rfl
      ·rw[if_pos rfl,run_neq_struct,show(10000:Nat)=Op.maxDepth from rfl,hr];rfl
     ·cases hb
  obtain⟨⟨g,r1⟩,r2⟩:=run;simp[execOp,ho,hX,hY,r1,r2]
 ·trivial
theorem q60(k:IntKind)(b:Nat)(l:List AV):zfu (.int k (.ofNat b)::l)=Nat.land b 255+256*zfu l:=rfl
theorem qqo:∀(l:List AV) (vs:List Value) (r:Src) (acc:ByteArray),aI ι l vs->zwm l=some r -> ∃bs:List UInt8,bs.length=l.length/\jI bs=zfu l/\(forIn vs acc fun c (s:ByteArray)=>(match c with
   | .int .u8 n=>pure (ForInStep.yield (s.push (UInt8.ofNat n.toNat)))
   |_=>do stuck "bytesToString: byte expected";pure (ForInStep.yield s):Sem (ForInStep ByteArray))).run P w= .ok ⟨acc.data++bs.toArray⟩ w
 | [],vs,r,acc,h,_=>by simp only[aI]at h;subst h;exact⟨[],rfl,rfl,by simp⟩
 |x::l,vs,r,acc,h,hp=>by
  simp only[aI]at h;obtain⟨v,rr,rfl,hv,hr⟩:=h;have hp:zwn x (zwm l)=some r:=hp;unfold zwn at hp;split at hp
  ·rename_i b s hs _;simp only[aL]at hv;subst hv;obtain⟨bs,b1,b2,b3⟩:=qqo l rr s (acc.push (UInt8.ofNat b)) hr hs;refine⟨UInt8.ofNat b::bs,by simp[b1],?_,?_⟩
   ·rw[zL,q60,b2,qtn,UInt8.toNat_ofNat'];omega
   ·rw[List.forIn_cons];simp only[Int.ofNat_eq_natCast,Int.toNat_natCast,pure_bind];rw[b3];congr 2;simp[ByteArray.push]
  ·cases hp
theorem zv9{s t e:TypeId}{x:Operand}(ho:o.op=.convert s t x)(hs:P.underlying s=some (.slice e))(ht:P.underlying t=some .string)(he:P.underlying e=some (.int .u8))(hH:HR ι H w)(h:LR ι d n L a.tmps):gX P o a.eval ι w nm (zvo H ((aH d n x).f L)):=by
 have hx:=dQ h x;unfold zvo;split
 ·rename_i e1;rw[e1]at hx;simp only[aL]at hx;refine⟨.string .empty,?_,qmg ⟨rfl,rfl⟩⟩;simp[execOp,ho,convert,bP hs,bP ht,bP he,hx,Conv.bytesToString]
 ·rename_i e1;rw[e1]at hx;simp only[aL]at hx;obtain⟨ad,c,hx⟩:=hx;refine⟨.string .empty,?_,qmg ⟨rfl,rfl⟩⟩;simp[execOp,ho,convert,bP hs,bP ht,bP he,hx,Conv.bytesToString,loadCells,loadCellsFrom]
 ·rename_i b i m cap ex e1;rw[e1]at hx;simp only[aL]at hx;obtain⟨_,l,h1,h2⟩:=hx;split
  ·rename_i cs hcs;split
   ·rename_i r hr;obtain⟨c1,c2⟩:=qem (hH.blk b (hH.lt h1)) hcs;have fin:∀ vs:List Value,vs.length=m->aI ι cs vs->(∀(j:Nat) (v:Value),vs[j]? =some v->w.cell? ⟨l.blk,l.base+i+j,none⟩=some v)->gX P o a.eval ι w nm (.val (.str m (zfu cs))):=by
     intro vs v1 v2 v3;obtain⟨bs,b1,b2,b3⟩:=qqo (P:=P) (w:=w) cs vs r .empty v2 hr;have e0:(ByteArray.empty.data++bs.toArray).toList=bs:=by show(#[]++bs.toArray).toList=bs;simp
     refine⟨.string ⟨(ByteArray.empty.data++bs.toArray)⟩,?_,qmg ⟨by rw[e0,b1,c1],by rw[e0,b2]⟩⟩;have hl:=run_loadCells P w l.blk (l.base+i) vs v3;rw[v1]at hl;simp only[execOp,ho,convert,Sem.run_bind,bP hs,bP ht,bP he,h2,Result.andThen_ok,Conv.bytesToString,hl];rw[List.forIn_toArray];exact Eq.trans (congrArg (fun r:Result ByteArray=>(r.andThen fun a w'=>Sem.run P (pure (Value.string a)) w').andThen fun a w'=>Sem.run P (pure (Next.value a)) w') b3) rfl
    rcases c2 with rfl|⟨loc,vs,g1,g2,g3,g4,g5⟩
    ·have:cs=[]:=List.length_eq_zero_iff.1 c1;subst this;exact fin [] rfl (by simp[aI]) (by simp)
    ·rw[h1]at g1;cases g1;exact fin vs g3 g2 g5
   ·trivial
  ·trivial
 ·trivial
theorem qw2(a:Nat):∀(n i:Nat),Nat.rec (motive:=fun _=>Nat->List AV) (fun _=>[]) (fun _ ih i=>.int .u8 (.ofNat (qfi a i))::ih (Nat.succ i)) n i=(List.range' i n).map fun j=>.int .u8 (.ofNat (qfi a j))
 |0,i=>rfl
 |n+1,i=>by rw[List.range'_succ,List.map_cons,<-qw2 a n (i+1)]
theorem qjs{m bits:Nat}{s:ByteArray}(h:wV m bits s):aI ι (qw3 bits m) (s.data.toList.map fun b=>Value.int .u8 (b.toNat:Int)):=by
 obtain⟨rfl,rfl⟩:=h;unfold qw3;rw[qw2,<-List.range_eq_range'];refine aI.xM (by simp) fun i v hv=>?_;have hi:i<s.data.toList.length:=by
  rcases Nat.lt_or_ge i s.data.toList.length with h|h
  ·exact h
  ·simp_all
 rw[List.getElem?_map,List.getElem?_range hi]at hv;simp only[Option.map_some,Option.some.injEq]at hv;subst hv;refine⟨_,by rw[List.getElem?_map,List.getElem?_eq_getElem hi];rfl,?_⟩;rw[qw4 _ _ hi];rfl
theorem zfk{s t e:TypeId}{x:Operand}(ho:o.op=.convert s t x)(hs:P.underlying s=some .string)(ht:P.underlying t=some (.slice e))(he:P.underlying e=some (.int .u8))(h:LR ι d n L a.tmps):gX P o a.eval ι w nm (q0c nm ((aH d n x).f L)):=by
 have hx:=dQ h x;unfold q0c;split
 ·rename_i m bits e1;rw[e1]at hx;simp only[aL]at hx;obtain⟨u,hu,h1⟩:=hx;have hsz:u.size=m:=h1.1;obtain⟨c,hc⟩:∃ c,(Question.appendCap u.size 0 e).cut (w.tape w.drawn (.appendCap u.size 0 e))=u.size+c:=⟨_,rfl⟩
  let C:Array Value:=(u.data.map fun b=>Value.int .u8 (b.toNat:Int))++Array.replicate c (.int .u8 0)
  have hC:C.size=m+c:=by simp[C,<-hsz]
  let w1:World:=(w.drew).alloc (.cells C e)
  have hsh:w1.shape? w.heap.size=some (e,m+c):=by show(match(w.heap.push _)[w.heap.size]? with|some (.cells c elem _)=>some (elem,c.size)|_=>none)=_;simp[hC]
  let w2:World:=w1.freeze ⟨w.heap.size,m+c,none⟩ 1
  have hh:w2.heap[w.heap.size]? =some (.cells C e (m+c,m+c+1)):=by show((if(1:Nat)=0 then w1 else _:World)).heap[w.heap.size]? =_;show((w.heap.push _).modify _ _)[w.heap.size]? =_;rw[Array.getElem?_modify,if_pos rfl,Array.getElem?_push,if_pos rfl];rfl
  refine⟨.slice (some ⟨w.heap.size,0,none⟩) m (m+c),w2,⟨w.heap.size,0,c,1⟩,?_,⟨rfl,rfl,rfl,?_,fun k hk=>?_,rfl⟩,fun ι' hle hi=>⟨?_,?_⟩⟩
  ·have hcap:u.size+c-u.size=c:=by omega
   simp only[execOp,ho,convert,Sem.run_bind,bP hs,bP ht,bP he,hu,Result.andThen_ok,Conv.stringToBytes,run_choose_drew,Question.forced,Bool.false_eq_true,if_false,hc,hcap,newRow,run_newObj_alloc,Sem.run_pure,markStringish,run_shape];rw[show(w.drew.alloc (.cells C e)).shape? w.drew.heap.size=some (e,m+c)from hsh];simp only[run_freeze,Result.andThen_ok,hsz];rfl
  ·show(if(1:Nat)=0 then w1 else _:World).heap.size=_;show((w.heap.push _).modify _ _).size=_;simp
  ·show((if(1:Nat)=0 then w1 else _:World)).heap[k]? =_;show((w.heap.push _).modify _ _)[k]? =_;rw[Array.getElem?_modify,if_neg (show ¬w.heap.size=k by omega),Array.getElem?_push,if_neg (show ¬k=w.heap.size by omega)]
  ·simp only[aL];exact⟨Nat.le_refl _,_,hi,by simp⟩
  ·have cell:∀ i,w2.cell? ⟨w.heap.size,i,none⟩=C[i]? :=fun i=>by simp[World.cell?,hh]
   have aBo:∀ i,i<m+c->w2.frozen? ⟨w.heap.size,i,none⟩=false:=fun i hi=>by simp[World.frozen?,hh];omega
   have hl:(qw3 bits m).length=m:=by rw[<-(qjs (ι:=ι') h1).length];simp;exact h1.1
   refine qk0 (loc:=⟨w.heap.size,0,c,1⟩) hi (qjs h1) (fun v hv=>?_) (fun i v hv=>?_) (fun j hj=>?_)
   ·simp at hv;obtain⟨_,_,rfl⟩:=hv;rfl
   ·have hi':i<m:=by
     rcases Nat.lt_or_ge i m with h|h
     ·exact h
     ·rw[List.getElem?_eq_none (by simp;rw[<-hsz]at h;exact h)]at hv;cases hv
    simp only[Nat.zero_add];refine⟨?_,aBo i (by omega)⟩;rw[cell,Array.getElem?_append_left (by simp;rw[<-hsz]at hi';exact hi')];simpa using hv
   ·simp only[Nat.mul_one]at hj;simp only[Nat.zero_add,hl];refine⟨.int .u8 0,?_,aBo _ (by omega),rfl⟩;rw[cell,Array.getElem?_append_right (by simp;rw[<-hsz];exact Nat.le_add_right _ _)];have e2:(u.data.map fun b=>Value.int .u8 (b.toNat:Int)).size=m:=by simp;exact hsz
    rw[e2,show m+j-m=j by omega];simp[hj]
 ·trivial
theorem zyb{op:BinOp}{t ty:TypeId}{x y:Operand}(ho:o.op=.binOp op t x y ty)(h:LR ι d n L a.tmps):gX P o a.eval ι w nm ((vO P op t).f ((aH d n x).f L) ((aH d n y).f L)):=by
 have eqs:∀ td,P.underlying t=some td->(match td with| .bool| .pointer _| .slice _| .map .. | .func .. | .interface _=>True| .struct _| .array .. =>P.eqGuardType P.depth t=false|_=>False) ->
   gX P o a.eval ι w nm ((match op,wC P zY t with
    | .eql,⟨e⟩=>(⟨fun x y=>mQ false (e x y)⟩:V2)
    | .neq,⟨e⟩=>⟨fun x y=>mQ true (e x y)⟩
    |_,_=>⟨fun _ _=>.bad⟩).f ((aH d n x).f L) ((aH d n y).f L)):=by
  intro td hu hk;have hk':∀ td',P.underlying t=some td'->match td' with| .bool| .pointer _| .slice _| .map .. | .func .. | .interface _=>True| .struct _| .array .. =>P.eqGuardType P.depth t=false|_=>False:=fun td' h'=>by simp_all
  split
  ·rename_i e he;exact aKl ho false rfl he hk' ⟨td,hu⟩ h
  ·rename_i e he;exact aKl ho true rfl he hk' ⟨td,hu⟩ h
  ·trivial
 unfold vO;split
 ·split
  ·exact zfm ho (.inl rfl) h
  ·exact zfm ho (.inr rfl) h
  ·rename_i h1 h2;exact aL2 ho ⟨fun e=>h1 e,fun e=>h2 e⟩ h
 ·exact zng ho h
 ·rename_i hu;exact eqs _ hu trivial
 ·rename_i hu;exact eqs _ hu trivial
 ·rename_i hu;exact eqs _ hu trivial
 ·rename_i hu;exact eqs _ hu trivial
 ·rename_i hu;exact eqs _ hu trivial
 ·rename_i hu;exact eqs _ hu trivial
 ·rename_i hu;split
  ·trivial
  ·rename_i hg;exact eqs _ hu (by simpa using hg)
 ·rename_i hu;split
  ·trivial
  ·rename_i hg;exact eqs _ hu (by simpa using hg)
 ·trivial
theorem z0v{args:List Operand}{ts:List TypeId}(ho:o.op=.call {callee:=.builtin .len,args:=args.toArray,argTypes:=ts.toArray}){lk:Bool}{f:Nat->TT AV d->Hp->R0}(hf:sH P d n args ts=.q lk f)(hH:HR ι H w)(h:LR ι d n L a.tmps):gX P o a.eval ι w nm (f nm L H):=by
 unfold sH at hf;split at hf
 ·rename_i x t;split at hf
  ·rename_i hu;cases hf;exact qpz ho (.inl ⟨_,hu⟩)
  ·rename_i hu;split at hf
   ·rename_i ha;cases hf;exact qpz ho (.inr ⟨_,_,hu,ha⟩)
   ·cases hf
  ·rename_i hu;cases hf;exact znj ho hu h
  ·rename_i hu;cases hf;exact zwc ho hu h
  ·rename_i hu;cases hf;exact zz0 ho hu hH h
  ·cases hf
 ·cases hf
theorem z1z{args:List Operand}{ts:List TypeId}(ho:o.op=.call {callee:=.builtin .cap,args:=args.toArray,argTypes:=ts.toArray}){lk:Bool}{f:Nat->TT AV d->Hp->R0}(hf:xW P d n args ts=.q lk f)(h:LR ι d n L a.tmps):gX P o a.eval ι w nm (f nm L H):=by
 unfold xW at hf;split at hf
 ·rename_i x t;split at hf
  ·rename_i hu;cases hf;exact q6x ho ⟨_,hu⟩
  ·rename_i hu;cases hf;exact zwh ho hu h
  ·cases hf
 ·cases hf
theorem z0h{args:List Operand}{ts:Array TypeId}(ho:o.op=.call {callee:=.builtin .min,args:=args.toArray,argTypes:=ts}){lk:Bool}{f:Nat->TT AV d->Hp->R0}(hf:xO d n args=.q lk f)(h:LR ι d n L a.tmps):gX P o a.eval ι w nm (f nm L H):=by
 unfold xO at hf;split at hf
 ·cases hf;exact aKu ho h
 ·cases hf
theorem z0j{args:List Operand}{ts:Array TypeId}(ho:o.op=.call {callee:=.builtin .max,args:=args.toArray,argTypes:=ts}){lk:Bool}{f:Nat->TT AV d->Hp->R0}(hf:xY d n args=.q lk f)(h:LR ι d n L a.tmps):gX P o a.eval ι w nm (f nm L H):=by
 unfold xY at hf;split at hf
 ·cases hf;exact aKv ho h
 ·cases hf
theorem z18{args:List Operand}{ts:List TypeId}{lk:Bool}{f:Nat->TT AV d->Hp->R0}(hf:xV P d n args ts=.q lk f):False:=by
 unfold xV at hf;split at hf
 ·split at hf
  ·split at hf<;>cases hf
  ·cases hf
 ·cases hf
theorem zxw{args:List Operand}{ts:List TypeId}{lk:Bool}{f:Nat->TT AV d->Hp->R0}(hf:q1q P d n args ts=.q lk f):False:=by
 unfold q1q at hf;split at hf
 ·split at hf
  ·split at hf<;>cases hf
  ·cases hf
 ·cases hf
theorem z1t{args:List Operand}{ts:List TypeId}{lk:Bool}{f:Nat->TT AV d->Hp->R0}(hf:yD P d n args ts=.q lk f):False:=by
 unfold yD at hf;split at hf
 ·split at hf
  ·split at hf<;>cases hf
  ·cases hf
 ·cases hf
theorem z1w{args:List Operand}{ts:List TypeId}{lk:Bool}{f:Nat->TT AV d->Hp->R0}(hf:yB P d n args ts=.q lk f):False:=by
 unfold yB at hf;split at hf
 ·split at hf
  ·split at hf<;>cases hf
  ·cases hf
  ·cases hf
 ·cases hf
theorem q72{b:Builtin}{args:Array Operand}{ts:Array TypeId}(ho:o.op=.call {callee:=.builtin b,args,argTypes:=ts}){lk:Bool}{f:Nat->TT AV d->Hp->R0}(hf:qd6 P d n b args.toList ts.toList=.q lk f)(hH:HR ι H w)(h:LR ι d n L a.tmps):gX P o a.eval ι w nm (f nm L H):=by
 unfold qd6 at hf;split at hf
 ·exact z0v (by simpa using ho) hf hH h
 ·exact z1z (by simpa using ho) hf h
 ·exact z0h (ts:=ts) (by simpa using ho) hf h
 ·exact z0j (ts:=ts) (by simpa using ho) hf h
 ·exact(z18 hf).elim
 ·exact(zxw hf).elim
 ·exact(z1t hf).elim
 ·exact(z1w hf).elim
 ·cases hf
theorem qhl:∀ x y:List UInt8,Lib.compareBytes x y=bif Op.bytesLess x y then -1 else bif decide (x=y)then 0 else 1
 | [],[]=>by simp[Lib.compareBytes,Op.bytesLess]
 | [],_::_=>by simp[Lib.compareBytes,Op.bytesLess]
 |_::_,[]=>by simp[Lib.compareBytes,Op.bytesLess]
 |a::x,b::y=>by
  have ih:=qhl x y;simp only[Lib.compareBytes,Op.bytesLess];by_cases h1:a<b
  ·simp[h1]
  ·by_cases h2:b<a
   ·have hne:a≠b:=fun e=>by subst e;exact absurd h2 h1
    simp_all
   ·have he:a=b:=UInt8.le_antisymm (UInt8.not_lt.1 h2) (UInt8.not_lt.1 h1);simp_all
theorem zgw{f:FuncId}(h:zog P f=true)(s t:ByteArray)(w:World):(callFunc f #[.string s,.string t]).run P w=.ok (.value (.int .i64 (Lib.compareBytes s.data.toList t.data.toList))) w:=by
 unfold zog at h;split at h
 ·rename_i fn hfn;simp only[Bool.and_eq_true,beq_iff_eq,Option.isNone_iff_eq_none]at h;obtain⟨⟨h1,h2⟩,h3⟩:=h;have hnx:Extern.findNext fn=none:=by
   unfold Extern.findNext;rw[h2,h3];have e1:Extern.allNextRows.lookup qnl=none:=by decide +kernel
   have e2:Extern.allNextRows.lookup "" =none:=by decide +kernel
   simp only[e1,e2];rfl
  have hfd:Extern.find fn=some Extern.BytealgCompare.compare:=by
   unfold Extern.find;rw[h2];have e1:(Extern.allGenericRows.lookup qnl)=none:=by decide +kernel
   have e2:(Extern.allTypedRows.lookup qnl)=none:=by decide +kernel
   have e3:Extern.allRows.lookup qnl=some Extern.BytealgCompare.compare:=by kernel_rfl
   simp only[e1,e2,e3];rfl
  have hname:¬ fn.name = "runtime.NumGoroutine" :=by rw[h2];decide +kernel
  have hr:=Lib.run_compareString (P:=P) s t w;simp[callFunc,hfn,hname,h1,hnx,hfd,hr,mark,Sem.run]
 ·cases h
theorem aKL{f:FuncId}{args:Array Operand}{ts:Array TypeId}(ho:o.op=.call {callee:=.value (.func f),args,argTypes:=ts})(hc:zog P f=true)(h:LR ι d n L a.tmps):gX P o a.eval ι w nm (aF9 ((rX d n args.toList).f L)):=by
 have ha:=qcm h args.toList;unfold aF9;split
 ·rename_i n1 a1 m1 b1 e;rw[e]at ha;obtain⟨v1,r1,e1,⟨s,rfl,hs⟩,v2,r2,rfl,⟨t,rfl,ht⟩,rfl⟩:=ha;refine⟨.int .i64 (Lib.compareBytes s.data.toList t.data.toList),?_,?_⟩
  ·have hargs:args.map a.eval= #[.string s,.string t]:=by
    have:args.map a.eval=(args.toList.map a.eval).toArray:=by rw[<-Array.toList_map]
    rw[this,e1]
   have hr:=zgw hc s t w;have hev:a.eval (.func f)=.func (.func f) #[] #[]:=rfl;simp only[execOp,ho,resolve,hev,Deferred.ofValue,hargs];trivial
  ·have hl:=wV.less hs ht;have he:eqS n1 a1 m1 b1=decide (s.data.toList=t.data.toList):=by
    rw[wV.eq hs ht,Bool.eq_iff_iff];simp
   rw[hl,he,qhl];rfl
 ·trivial
theorem zwe{x:Operand}(ho:o.op=.entry x)(hH:HR ι H w)(h:LR ι d n L a.tmps):gX P o a.eval ι w nm (aFZ H ((aH d n x).f L)):=by
 have hx:=dQ h x;unfold aFZ;split
 ·rename_i b off e1;rw[e1]at hx;simp only[aL]at hx;obtain⟨loc,h1,h2⟩:=hx;have hb:=hH.blk b (hH.lt h1);cases ho0:Nat.beq off 0 with
  |false=>trivial
  |true=>
   obtain rfl:=Nat.eq_of_beq_eq_true ho0;split
   ·rename_i m since pos hg;rw[hg]at hb;obtain⟨l',r,g1,g0,g2,g3⟩:=hb;rw[h1]at g1;cases g1;rw[g0,Nat.add_zero]at h2;split
    ·rename_i m p;obtain⟨lm,k1,rfl⟩:=g3;have hm:=hH.blk m (hH.lt k1);split
     ·rename_i es clock hgm;rw[hgm]at hm;obtain⟨l2,ES,j1,j2,j3⟩:=hm;rw[k1]at j1;cases j1;cases hcs:Nat.beq clock since with
      |false=>trivial
      |true=>
       obtain rfl:=Nat.eq_of_beq_eq_true hcs;split
       ·rename_i e;simp only[bT]at j3;obtain⟨E,_,rfl,q1,q2,q3,rfl⟩:=j3;cases hp:Nat.beq e.born p with
        |false=>trivial
        |true=>
         have hp:=Nat.eq_of_beq_eq_true hp;have hp:p=E.born:=by omega
         subst hp;refine⟨.tuple #[E.key,E.val],?_,?_⟩
         ·simp[execOp,ho,h2,Instr.entry,getObj,Sem.run,g2,j2]
         ·simp only[aL,aI];exact⟨_,⟨_,_,rfl,q1,_,_,rfl,q2,rfl⟩,rfl⟩
       ·trivial
     ·trivial
    ·trivial
   ·trivial
 ·trivial
theorem zwo{lk:Bool}{f:Nat->TT AV d->Hp->R0}(hf:gV P d n o=.q lk f)(hH:HR ι H w)(h:LR ι d n L a.tmps):gX P o a.eval ι w nm (f nm L H):=by
 unfold gV at hf;split at hf
 ·rename_i x ho;cases hf;exact zrw (.inl ho) h
 ·rename_i x ho;cases hf;exact zrw (.inr ho) h
 ·rename_i ho;cases hf;exact zzz ho h
 ·rename_i ho;unfold q39 at hf;split at hf
  ·rename_i hz;cases hf;exact zwi ho hz
  ·cases hf
 ·rename_i ho;unfold aAX at hf;split at hf
  ·rename_i k g e1 e2 e3;cases hf;have:=zz4 (P:=P) (w:=w) (nm:=nm) ho k h;rw[e3]at this;exact this
  ·rename_i e1 e2 e3;cases hf;have:=zz5 (P:=P) (w:=w) (nm:=nm) ho h;rw[e3]at this;exact this
  ·cases hf
 ·rename_i ho;unfold q38 at hf;split at hf
  ·rename_i e1 e2;split at hf
   ·rename_i e3;split at hf
    ·rename_i e4;cases hf;exact znl ho e1 e2 e3 e4 h
    ·cases hf
   ·cases hf
  ·rename_i e1 e2;split at hf
   ·rename_i e3;split at hf
    ·rename_i e4;cases hf;exact znm ho e1 e2 e3 e4 h
    ·cases hf
   ·cases hf
  ·cases hf
 ·rename_i ho;unfold qez at hf;split at hf
  ·rename_i e1;split at hf
   ·rename_i s z e2 e3;cases hc:(Nat.ble (_*s) 65536&&Nat.beq z.length s)with
    |false=>rw[hc]at hf;cases hf
    |true=>
     rw[hc]at hf;simp only[cond_true]at hf;simp only[Bool.and_eq_true]at hc;split at hf
     ·rename_i e4;cases hf;exact qvx ho e1 e3 e2 (sJ hc.2) (mX hc.1) e4 h
     ·cases hf
   ·cases hf
  ·cases hf
 ·rename_i ho;unfold ze3 at hf;split at hf
  ·rename_i e1 e2 e3;cases hf;have:=zwa (P:=P) (nm:=nm) ho e1 e2 hH h;rw[e3]at this;exact this
  ·rename_i e1 e2 e3;cases hf;have:=zwb (P:=P) (nm:=nm) ho e1 hH h;rw[e3]at this;exact this
  ·cases hf
 ·unfold qvl at hf;split at hf<;>cases hf
 ·rename_i ho;cases hf;exact q6v ho h
 ·rename_i ho;cases hf;exact zyb ho h
 ·rename_i ho;cases hf;exact aWH ho h
 ·rename_i ho;unfold qks at hf;split at hf
  ·rename_i e1 e2 e3;cases hf;have:=zwg (P:=P) (w:=w) (nm:=nm) ho e1 e2 h;rw[e3]at this;exact this
  ·rename_i e1 e2 e3;cases hf;have:=zwf (P:=P) (w:=w) (nm:=nm) ho e1 e2 h;rw[e3]at this;exact this
  ·rename_i e1 e2 e3;split at hf
   ·rename_i e4;cases hf;have:=zfk (P:=P) (w:=w) (nm:=nm) ho e1 e2 e4 h;rw[e3]at this;exact this
   ·cases hf
  ·rename_i e1 e2 e3;split at hf
   ·rename_i e4;split at hf
    ·cases hf;have:=zv9 (P:=P) (nm:=nm) ho e1 e2 e4 hH h;rw[e3]at this;exact this
    ·cases hf
   ·cases hf
  ·cases hf
 ·rename_i ho;unfold qcu at hf;split at hf
  ·cases hf
  ·rename_i hn e1 e2;cases hf;have:=qmi (P:=P) (w:=w) (nm:=nm) ho e1 (fun ms e=>hn ms (by rw[e])) h;rw[e2]at this;exact this
  ·cases hf
 ·rename_i ho;cases hf;exact q6w ho h
 ·rename_i ho;cases hf;exact zfn ho
 ·rename_i ho;unfold qgc at hf;split at hf
  ·rename_i e1 e2 e3;split at hf
   ·rename_i z w' s e4 e5 e6;cases hc:Nat.beq z.length s with
    |false=>rw[hc]at hf;cases hf
    |true=>rw[hc]at hf;cases hf;have:=znh (P:=P) (w:=w) (nm:=nm) ho e1 e4 e5 e6 (sJ hc) h;rw[e2,e3]at this;exact this
   ·cases hf
  ·cases hf
 ·rename_i ho;unfold q34 at hf;split at hf
  ·rename_i e1 e2 e3 e4;split at hf
   ·cases hf;have:=q6u (P:=P) (w:=w) (nm:=nm) ho e1 h;rw[e2,e3,e4]at this;exact this
   ·cases hf
  ·rename_i e1 e2 e3 e4 e5;split at hf
   ·rename_i e6;cases hf;have:=zfl (P:=P) (w:=w) (nm:=nm) ho e1 e6 h;rw[e2,e3,e4,e5]at this;exact this
   ·cases hf
  ·rename_i e1 e2 e3 e4 e5;split at hf
   ·rename_i e6;cases hf;have:=qpy (P:=P) (w:=w) (nm:=nm) ho (.inl e1) e6 h;rw[e2,e3,e4,e5]at this;exact this
   ·cases hf
  ·rename_i e1 e2 e3 e4 e5;split at hf
   ·rename_i e7;split at hf
    ·rename_i e6;cases hf;have:=qpy (P:=P) (w:=w) (nm:=nm) ho (.inr ⟨_,e1,e7⟩) e6 h;rw[e2,e3,e4,e5]at this;exact this
    ·cases hf
   ·cases hf
  ·cases hf
 ·rename_i ho;unfold qel at hf;split at hf
  ·rename_i e1 e2;split at hf
   ·rename_i e3;split at hf
    ·rename_i e4;cases hf;have:=q0v (P:=P) (w:=w) (nm:=nm) ho e1 e3 e4 h;rw[e2]at this;exact this
    ·cases hf
   ·cases hf
  ·cases hf
 ·rename_i ho;unfold qvo at hf;split at hf
  ·rename_i e1 e2;split at hf
   ·rename_i e3;cases hf;have:=zwd (P:=P) (w:=w) (nm:=nm) ho e1 e3 h;rw[e2]at this;exact this
   ·cases hf
  ·cases hf
 ·rename_i ho;unfold qek at hf;split at hf
  ·rename_i e1 e2 e3;split at hf
   ·rename_i e4;cases hf;have:=zz2 (P:=P) (w:=w) (nm:=nm) ho e1 e4 h;rw[e2,e3]at this;exact this
   ·cases hf
  ·rename_i e1 e2 e3;split at hf
   ·rename_i e4;cases hf;have:=zz3 (P:=P) (w:=w) (nm:=nm) ho e1 e4 h;rw[e2,e3]at this;exact this
   ·cases hf
  ·cases hf
 ·rename_i ho;unfold qvn at hf;split at hf
  ·rename_i e1 e2 e3;cases hf;have:=znk (P:=P) (w:=w) (nm:=nm) ho e1 h;rw[e2,e3]at this;exact this
  ·rename_i e1 e2 e3;split at hf
   ·rename_i e4;cases hf;have:=zz1 (P:=P) (w:=w) (nm:=nm) ho e1 e4 h;rw[e2,e3]at this;exact this
   ·cases hf
  ·cases hf
 ·rename_i ho;unfold qsw at hf;split at hf
  ·rename_i e1 e2 e3;split at hf
   ·rename_i e4 e5;cases hf;have:=zni (P:=P) (nm:=nm) ho e1 e4 e5 hH h;rw[e2,e3]at this;exact this
   ·cases hf
  ·cases hf
 ·unfold qdi at hf;split at hf<;>first|(cases hf;done)|(split at hf<;>cases hf)
 ·unfold qdi at hf;split at hf<;>first|(cases hf;done)|(split at hf<;>cases hf)
 ·unfold qh1 at hf;split at hf<;>first|(cases hf;done)|(split at hf<;>cases hf)
 ·cases hf
 ·rename_i ho;cases hf;exact zfo ho h
 ·unfold q35 at hf;split at hf<;>cases hf
 ·unfold zm9 at hf;split at hf<;>cases hf
 ·rename_i ho;cases hf;exact zwe ho hH h
 ·rename_i ho;exact q72 ho hf hH h
 ·rename_i ho;unfold q37 at hf;split at hf
  ·rename_i g e1 e2;cases hf;have:=aKL (P:=P) (w:=w) (nm:=nm) ho e2 h;rw[e1]at this;exact this
  ·cases hf
 ·cases hf
 ·cases hf
end Go.Ev
end
section
namespace Go.Ev
open Go.RowKit
variable {P:Program} {w:World} {ι:Im} {o:Oper} {a:Act} {d n:Nat} {L:TT AV d} {H:Hp}
def rH(P:Program)(o:Oper)(ρ:Operand->Value)(ι:Im)(H:Hp)(w:World):R1->Prop
 | .bad=>True
 | .ok v H'=>∃ N V w' ι',(execOp ρ o).run P w=.ok N w'/\(N=.value V\/(N=.skip/\V=Go.undef))/\aL ι' v V/\HR ι' H' w'/\Fr ι ι' H H' w w'
theorem qdh(P:Program){b i:Nat}{l:List AV}{vs:List Value}{loc:Loc}(hH:HR ι H w)(hb:ι b=some loc)(hr:aI ι l vs)(h1:∀ v∈vs,v.oneCell=true){v u:AV}{H':Hp}(h:storeAt H b i l v=.ok u H'):u=v/\∃ w',(storeCells ⟨loc.blk,loc.base+i,none⟩ vs).run P w=.ok () w'/\HR ι H' w'/\Fr ι ι H H' w w':=by
 have hlt:=hH.lt hb;have hB:=hH.blk b hlt;unfold storeAt at h;split at h
 ·rename_i blk hblk;obtain⟨rfl,rfl⟩:=h;refine⟨rfl,?_⟩;unfold vZ at hblk;split at hblk
  ·rename_i dd nn c zz hg;cases hle:Nat.ble (i+l.length) nn with
   |false=>rw[hle]at hblk;cases hblk
   |true=>
    rw[hle]at hblk;simp only[cond_true,Option.some.injEq]at hblk;subst hblk;have hle:=mX hle;rw[hg]at hB;obtain⟨l',b1,b2,b3,b4⟩:=hB;rw[hb]at b1;cases b1;have hlen:=hr.length;obtain⟨w',r1,r2⟩:=qgw P loc.blk vs w (loc.base+i) 0 (fun j hj=>by
     obtain⟨V,c1,c2,c3,c4⟩:=b3 (i+j) (by omega);refine⟨V,?_,?_⟩
     ·rw[show loc.base+i+0+j=loc.base+(i+j)by omega];exact c1
     ·rw[show loc.base+i+0+j=loc.base+(i+j)by omega];exact c4 rfl) h1
    rw[Nat.add_zero]at r2;refine⟨w',r1,hH.put hlt (by rw[hg];rfl) hb _ r2.os r2.tape r2.output r2.size r2.keep ?_⟩;refine⟨loc,hb,b2,fun j hj=>?_,fun _ j hj=>?_⟩
    ·rw[qg8 _ _ _ _ (by omega) (by omega),r2.cell,r2.frozen];obtain⟨V,c1,c2,c3,c4⟩:=b3 j hj;by_cases hin:i<=j/\j<i+l.length
     ·rw[if_pos hin,if_pos (by omega)];have hg':l[j-i]? =some (l.getD (j-i) .undef):=by
       have:j-i<l.length:=by omega
       simp[this]
      obtain⟨V',d1,d2⟩:=hr.get _ _ hg';refine⟨V',?_,d2,h1 V' (List.mem_of_getElem? d1),c4⟩;rw[show loc.base+j-(loc.base+i)=j-i by omega,List.getD_eq_getElem?_getD,d1];rfl
     ·rw[if_neg hin,if_neg (by omega)];simp_all
    ·rw[r2.cell,r2.frozen,if_neg (by omega)];simp_all
  ·cases hblk
 ·cases h
theorem zoz{t:TypeId}{x y:Operand}(ho:o.op=.store t x y)(hz:gU P t=some 1)(hH:HR ι H w)(h:LR ι d n L a.tmps):rH P o a.eval ι H w (fQ H ((aH d n x).f L) ((aH d n y).f L)):=by
 have hx:=dQ h x;have hy:=dQ h y;unfold fQ;split<;>first|trivial|skip
 rename_i b i e1 hn1 hn2 w9 hn4;rw[e1]at hx;simp only[aL]at hx;obtain⟨loc,h1,h2⟩:=hx;have hp:((aH d n y).f L).plain=true:=by
  unfold AV.plain;split
  ·simp_all
  ·simp_all
  ·trivial
  ·simp_all
  ·rfl
 obtain⟨o1,o2⟩:=hy.one hp;cases hs:storeAt H b i [(aH d n y).f L] .undef with
 |bad=>trivial
 |ok u H'=>obtain⟨rfl,w',r1,r2,r3⟩:=qdh P hH h1 (aI.singleton hy) (by simpa using o1) hs;refine⟨.skip,Go.undef,w',ι,?_,.inr ⟨rfl,rfl⟩,by simp[aL,Go.undef],r2,r3⟩;simp[execOp,ho,Instr.storeAt,h2,Instr.sureAddr,storeVar,o2,mI hz,r1]
theorem zoy{t:TypeId}{x y:Operand}(ho:o.op=.store t x y){k:Nat}(hz:gU P t=some k)(hH:HR ι H w)(h:LR ι d n L a.tmps):rH P o a.eval ι H w (eB k H ((aH d n x).f L) ((aH d n y).f L)):=by
 have hx:=dQ h x;have hy:=dQ h y;unfold eB;split
 ·rename_i b i l e1 e2;rw[e1]at hx;simp only[aL]at hx;obtain⟨loc,h1,h2⟩:=hx;rw[e2]at hy;obtain⟨vs,v1,v2,v3⟩:=xK hy;cases hk:Nat.beq l.length k with
  |false=>trivial
  |true=>
   have hk:=sJ hk;cases hs:storeAt H b i l .undef with
   |bad=>trivial
   |ok u H'=>
    obtain⟨rfl,w',r1,r2,r3⟩:=qdh P hH h1 v1 v3 hs;refine⟨.skip,Go.undef,w',ι,?_,.inr ⟨rfl,rfl⟩,by simp[aL,Go.undef],r2,r3⟩;have hl:vs.length=k:=by rw[v1.length,hk]
    simp[execOp,ho,Instr.storeAt,h2,Instr.sureAddr,storeVar,v2,Value.cells,mI hz,hl,r1]
 ·trivial
theorem qwq(need:Nat):∀(r c X:Nat),c<=X->need+(need+768) / 4<=X->Builtin.growBy need r c<=X
 |0,c,X,h,_=>h
 |r+1,c,X,h,k=>by
  unfold Builtin.growBy;split
  ·exact h
  ·exact qwq need r _ X (by omega) k
theorem qp7{need old:Nat}(h:old<need):Builtin.nextslicecap need old<=3*need:=by
 unfold Builtin.nextslicecap;split
 ·omega
 ·split
  ·omega
  ·exact qwq need 4 old _ (by omega) (by omega)
theorem q3w{z:Nat}{x:AV}{X:Value}(hx:aL ι x X)(hH:HR ι H w){s:Src}(h:zm0 z H x=some s)(hz1:(∃m b,x=.str m b)->z=1):∃vs:List Value,aI ι s.l vs/\(∀v∈vs,v.oneCell=true)/\vs.length=s.n*z/\(Builtin.lenOf X).run P w=.ok s.n w /\ ∀k,k<=s.n->(Builtin.firstCells z k X).run P w=.ok (vs.take (k*z)).toArray w:=by
 unfold zm0 at h;split at h
 ·simp only[Option.some.injEq]at h;subst h;simp only[aL]at hx;subst hx;exact⟨[],by simp[aI],by simp,by simp,by simp[Builtin.lenOf],fun k _=>by simp[Builtin.firstCells]⟩
 ·simp only[Option.some.injEq]at h;subst h;simp only[aL]at hx;obtain⟨ad,c,rfl⟩:=hx;refine⟨[],by simp[aI],by simp,by simp,by simp[Builtin.lenOf],fun k hk=>?_⟩;have:k=0:=by simpa using hk
  subst this;simp[Builtin.firstCells,loadCells,loadCellsFrom]
 ·rename_i b i m cap ex;obtain⟨_,loc,h1,rfl⟩:=hx;split at h
  ·rename_i cs hcs;simp only[Option.some.injEq]at h;subst h;obtain⟨c1,c2⟩:=qem (hH.blk b (hH.lt h1)) hcs;have fin:∀ vs:List Value,vs.length=m*z->aI ι cs vs->(∀v∈vs,v.oneCell=true)->(∀(j:Nat) (v:Value),vs[j]? =some v->w.cell? ⟨loc.blk,loc.base+i+j,none⟩=some v) ->
     ∃vs:List Value,aI ι cs vs/\(∀v∈vs,v.oneCell=true)/\vs.length=m*z/\(Builtin.lenOf (.slice (some ⟨loc.blk,loc.base+i,none⟩) m (if ex then cap else cap+loc.ext))).run P w=.ok m w /\
      ∀k,k<=m->(Builtin.firstCells z k (.slice (some ⟨loc.blk,loc.base+i,none⟩) m (if ex then cap else cap+loc.ext))).run P w=.ok (vs.take (k*z)).toArray w:=by
    intro vs v1 v2 v3 v4;refine⟨vs,v2,v3,v1,by simp[Builtin.lenOf],fun k hk=>?_⟩;have hkz:k*z<=m*z:=Nat.mul_le_mul_right z hk;have hlen:(vs.take (k*z)).length=k*z:=by rw[List.length_take];omega
    have:=run_loadCells P w loc.blk (loc.base+i) (vs.take (k*z)) (fun j v hv=>v4 j v (by
     rw[List.getElem?_take]at hv;split at hv
     ·exact hv
     ·cases hv))
    rw[hlen]at this;trivial
   rcases c2 with c2|⟨tF,vs,g1,g2,g3,g4,g5⟩
   ·have c2:m*z=0:=c2;have:cs=[]:=List.length_eq_zero_iff.1 (by rw[c1];exact c2);subst this;exact fin [] (by simp[c2]) (by simp[aI]) (by simp) (by simp)
   ·rw[h1]at g1;cases g1;exact fin vs g3 g2 g4 g5
  ·cases h
 ·rename_i m bits;simp only[Option.some.injEq]at h;subst h;have hz:z=1:=hz1 ⟨_,_,rfl⟩;subst hz;obtain⟨s,rfl,hs⟩:=hx;have hsz:s.size=m:=hs.1;refine⟨_,qjs hs,fun v hv=>?_,?_,by simp[Builtin.lenOf,hsz],fun k hk=>?_⟩
  ·simp at hv;obtain⟨_,_,rfl⟩:=hv;rfl
  ·simp;exact hsz
  ·simp only[Builtin.firstCells,Sem.run_pure];congr 1;apply Array.ext';simp
 ·cases h
theorem qtu{e:TypeId}{ap:Ap}(hap:apS P e=some ap)(hH:HR ι H w){old:List AV}{iM:List Value}(ho:aI ι old iM)(ho1:∀ v∈iM,v.oneCell=true){x:Src}{oI:List Value}(hx:aI ι x.l oI)(hx1:∀ v∈oI,v.oneCell=true){need:Nat}(hn:iM.length+oI.length=need*ap.z){v:AV}{H':Hp}(h:grow ap.z H old x need=.ok v H')(newCap:Nat)(hc:need<=newCap){zv:Value}(hzv:(P.info? e).bind (·.zero)=some zv)(w1:World)(hw1:w1=w.drew):∃ι',aL ι' v (.slice (some ⟨w.heap.size,0,none⟩) need newCap)/\HR ι' H' (w1.alloc (.cells (iM.toArray++oI.toArray++Builtin.zeroCells zv.cells (newCap-need)) e)) /\ Fr ι ι' H H' w (w1.alloc (.cells (iM.toArray++oI.toArray++Builtin.zeroCells zv.cells (newCap-need)) e)):=by
 subst hw1;unfold grow at h
 ·
  obtain⟨rfl,rfl⟩:=h;have hlt:gY (H.nx):=oG;unfold apS at hap;split at hap
  ·rename_i z ww zl e1 e2 e3;cases hb:Nat.beq zl.length z with
   |false=>rw[hb]at hap;cases hap
   |true=>
    rw[hb]at hap;simp only[cond_true,Option.some.injEq]at hap;subst hap;have hb:=sJ hb;obtain⟨zv',z1,z2,z3⟩:=qcl (ι:=ι) e3;rw[hzv]at z1;cases z1;have hzl:zv.cells.size=z:=by have:=z2.length;simp at this;omega
    have hzc:Builtin.zeroCells zv.cells (newCap-need)=(gJ zv.cells.toList (newCap-need)).toArray:=by have:=range_zero zv.cells (newCap-need) z hzl;unfold Builtin.zeroCells;rw[hzl]at this ⊢;exact this
    rw[hzc]
    let loc:Loc:=⟨w.heap.size,0,newCap-need,z⟩
    let W:World:=w.drew.alloc (.cells (iM.toArray++oI.toArray++(gJ zv.cells.toList (newCap-need)).toArray) e)
    have cell:∀ i,W.cell? ⟨w.heap.size,i,none⟩=(iM++oI++gJ zv.cells.toList (newCap-need))[i]? :=fun i=>by show(w.drew.alloc _).cell? ⟨w.drew.heap.size,i,none⟩=_;rw[World.cell?_alloc_new];simp
    have aBo:∀ i,W.frozen? ⟨w.heap.size,i,none⟩=false:=fun i=>by show(w.drew.alloc _).frozen? ⟨w.drew.heap.size,i,none⟩=_;rw[World.frozen?_alloc_new]
    have key:=hH.push (w':=W) hlt loc (aB z (old++x.l)) rfl rfl rfl (by show w.heap.size<(w.drew.alloc _).heap.size;simp) (fun c hc'=>Below.heap_alloc w.drew _ c hc') rfl
     (qk0 (vs:=iM++oI) (loc:=loc) (Im.bD _ _ _) (aI.mono (Im.iU loc (hH.fresh _ (Nat.le_refl _))) _ _ (ho.append hx)) (fun v hv=>by
      rcases List.mem_append.1 hv with hv|hv
      ·exact ho1 v hv
      ·exact hx1 v hv) (fun i v hv=>by
      rw[Nat.zero_add];refine⟨?_,aBo i⟩;rw[cell];have hi:i<(iM++oI).length:=by
       rcases Nat.lt_or_ge i (iM++oI).length with h|h
       ·exact h
       ·simp_all
      rw[List.getElem?_append_left hi];exact hv) (fun j hj=>by
      have hj:j<(newCap-need)*z:=hj;rw[Nat.zero_add,cell];have hl2:(iM++oI).length=(old++x.l).length:=by rw[List.length_append,List.length_append,ho.length,hx.length]
      rw[List.getElem?_append_right (by omega),hl2,Nat.add_sub_cancel_left];have:j<(gJ zv.cells.toList (newCap-need)).length:=by rw[qb5];simpa [hzl] using hj
      exact⟨_,List.getElem?_eq_getElem this,aBo _,z3 _ (qgd (List.getElem_mem this))⟩))
    refine⟨ι.set H.nx loc,?_,key.1,key.2⟩;refine⟨Nat.le_refl _,loc,Im.bD _ _ _,?_⟩;simp[loc];omega
  ·cases hap
theorem qe0{t u e ty:TypeId}(ht:P.underlying t=some (.slice e)){td:TypeDesc}(hu:P.underlying u=some td)(htd:td=.string\/∃ e',td=.slice e'){z:Nat}(hz:gU P e=some z)(base:Option Addr)(len C:Nat)(X:Value){m:Nat}{vs:List Value}(hl:(Builtin.lenOf X).run P w=.ok m w)(hf:(Builtin.firstCells z m X).run P w=.ok vs.toArray w)(hle:len+m<=C){w':World}(hst:∀ ad,base=some ad->(storeCells (ad.add (len*z)) vs).run P w=.ok () w')(hno:base=none->w'=w):(Builtin.append_ #[t,u] ty #[.slice base len C,X]).run P w=.ok (.slice base (len+m) C) w':=by
 cases base with
 |none=>
  rw[hno rfl];rcases htd with rfl|⟨e',rfl⟩
  all_goals simp[Builtin.append_,bP ht,bP hu,mI hz,hl,hf,hle]
 |some ad=>
  have hst:=hst ad rfl;rcases htd with rfl|⟨e',rfl⟩
  all_goals simp[Builtin.append_,bP ht,bP hu,mI hz,hl,hf,hle,hst]
set_option maxHeartbeats 1000000 in
theorem qgx{t u e ty:TypeId}(ht:P.underlying t=some (.slice e)){td:TypeDesc}(hu:P.underlying u=some td)(htd:td=.string\/∃ e',td=.slice e'){z b:Nat}(hz:gU P e=some z)(hb:qij P e=some b){zv:Value}(hzv:(P.info? e).bind (·.zero)=some zv)(base:Option Addr)(len C:Nat)(X:Value){m:Nat}{vs iM:List Value}(hl:(Builtin.lenOf X).run P w=.ok m w)(hf:(Builtin.firstCells z m X).run P w.drew=.ok vs.toArray w.drew)(hof:(Builtin.firstCells z len (.slice base len C)).run P w.drew=.ok iM.toArray w.drew)(hgt:¬ len+m<=C)(hbig:(len+m)*b<=1099511627776)(hbig2:len+m<=1099511627776):∃newCap,len+m<=newCap/\(Builtin.append_ #[t,u] ty #[.slice base len C,X]).run P w=.ok (.slice (some ⟨w.heap.size,0,none⟩) (len+m) newCap) (w.drew.alloc (.cells (iM.toArray++vs.toArray++Builtin.zeroCells zv.cells (newCap-(len+m))) e)):=by
 obtain⟨ti,ti1,ti2⟩:=qs5 (P:=P) hb;have hnc:=qp7 (need:=len+m) (old:=C) (by omega);have h2:¬(2 ^ 48<Builtin.nextslicecap (len+m) C*ti.bytes):=by have hm:Builtin.nextslicecap (len+m) C*ti.bytes<=3*(len+m)*ti.bytes:=Nat.mul_le_mul_right _ hnc;rw[ti2]at hm ⊢;have:3*(len+m)*b=3*((len+m)*b):=Nat.mul_assoc _ _ _;omega
 refine⟨(Question.appendCap (len+m) C e).cut (w.tape w.drawn (.appendCap (len+m) C e)),by simp only[Question.cut];omega,?_⟩;generalize hcap:(Question.appendCap (len+m) C e).cut (w.tape w.drawn (.appendCap (len+m) C e))=cap;rcases htd with rfl|⟨e',rfl⟩
 all_goals
  simp[Builtin.append_,bP ht,bP hu,mI hz,hl,hgt,ti1,h2,Question.forced,hcap,hof,hf,qcr hzv,newRow];rw[if_neg (by omega),<-Array.append_assoc];simp
theorem qnp{e:TypeId}{ap:Ap}(h:apS P e=some ap):gU P e=some ap.z/\qij P e=some ap.w/\qio P e=some ap.zl/\ap.zl.length=ap.z/\∃ zv,(P.info? e).bind (·.zero)=some zv:=by
 unfold apS at h;split at h
 ·rename_i z ww zl e1 e2 e3;cases hb:Nat.beq zl.length z with
  |false=>rw[hb]at h;cases h
  |true=>rw[hb]at h;simp only[cond_true,Option.some.injEq]at h;subst h;obtain⟨zv,z1,_⟩:=qcl (ι:=fun _=>none) e3;simp_all
 ·cases h
theorem HR.drew(h:HR ι H w):HR ι H w.drew:=
 ⟨h.top,fun b hb=>(h.blk b hb).keep fun _ _ _=>rfl,h.low,h.inj,h.fresh,h.free⟩
theorem zfv{b i len cap:Nat}{loc:Loc}{z:Nat}(hH:HR ι H w)(hb:ι b=some loc)(hend:qg1 (H.get b) (i+cap*z) z=true){old:List AV}(hold:fU (H.get b) i (len*z)=some old){x:Src}{oI:List Value}(hx:aI ι x.l oI)(hx1:∀ v∈oI,v.oneCell=true)(hxn:oI.length=x.n*z)(hlc:len<=cap)(hgt:¬ len+x.n<=cap)(hfit:len+x.n<=cap+loc.ext){v:AV}{H':Hp}(h:grow z (H.put b .dead) old x (len+x.n)=.ok v H'):∃w' ι',(storeCells ⟨loc.blk,loc.base+i+len*z,none⟩ oI).run P w=.ok () w'/\aL ι' v (.slice (some ⟨loc.blk,loc.base+i,none⟩) (len+x.n) (cap+loc.ext))/\HR ι' H' w'/\Fr ι ι' H H' w w':=by
 have hlt:=hH.lt hb;have hB:=hH.blk b hlt;unfold qg1 at hend;split at hend
 ·rename_i dd nn c z' hg;simp only[Bool.and_eq_true]at hend;have e1:=sJ hend.1;have e2:=sJ hend.2;have hwr:(H.get b).wr=true:=by rw[hg];rfl
  obtain⟨ol,ov⟩:=qem hB hold;rw[hg]at hB;obtain⟨l',b1,⟨b2,b2'⟩,b3,b4⟩:=hB;rw[hb]at b1;cases b1;have hz:loc.z=z:=by rw[b2',e2]
  have aKN:(len+x.n)*z=len*z+x.n*z:=Nat.add_mul _ _ _;have bDJ:(cap+loc.ext)*z=cap*z+loc.ext*z:=Nat.add_mul _ _ _;have bFb:(len+x.n)*z<=(cap+loc.ext)*z:=Nat.mul_le_mul_right z hfit
  -- every cell up to the end of the room is there
  have there:∀ j,j<nn+loc.ext*z->∃ u,w.cell? ⟨loc.blk,loc.base+j,none⟩=some u/\w.frozen? ⟨loc.blk,loc.base+j,none⟩=false/\u.oneCell=true:=by
   intro j hj;by_cases hjn:j<nn
   ·obtain⟨V,c1,_,c3,c4⟩:=b3 j hjn;exact⟨V,c1,c4 rfl,c3⟩
   ·obtain⟨V,c1,c2⟩:=b4 rfl (j-nn) (by rw[hz];omega);simp_all
  obtain⟨w',r1,r2⟩:=qgw P loc.blk oI w (loc.base+i+len*z) 0 (fun j hj=>by obtain⟨u,c1,c2,_⟩:=there (i+len*z+j) (by omega);rw[show loc.base+i+len*z+0+j=loc.base+(i+len*z+j)by omega];exact⟨u,c1,c2⟩) hx1;rw[Nat.add_zero]at r2;unfold grow at h
  ·
   obtain⟨rfl,rfl⟩:=h;have hnx:gY (H.nx):=oG;obtain⟨k1,k2⟩:=hH.kill hlt hwr;have hnone:=hH.fresh H.nx (Nat.le_refl _)
   let tF:Loc:=⟨loc.blk,loc.base+i,cap+loc.ext-(len+x.n),z⟩
   have hle:ι.le (ι.set H.nx tF):=Im.iU tF hnone;have aBK:(H.put b .dead).get H.nx=.dead:=k1.free _ (Nat.le_refl _) hnx
   -- the cells that were there
   obtain⟨iM,o1,o2,o3,o4⟩:∃ iM,aI ι old iM/\iM.length=len*z/\(∀v∈iM,v.oneCell=true)/\∀(j:Nat) (v:Value),iM[j]? =some v->w.cell? ⟨loc.blk,loc.base+i+j,none⟩=some v:=by
    rcases ov with ov|⟨l2,iM,g1,g2,g3,g4,g5⟩
    ·have:old=[]:=List.length_eq_zero_iff.1 (by rw[ol];exact ov);subst this;exact⟨[],by simp[aI],by simpa using ov.symm,by simp,by simp⟩
    ·rw[hb]at g1;cases g1;exact⟨iM,g2,g3,g4,g5⟩
   have hlen:(old++x.l).length=(len+x.n)*z:=by rw[List.length_append,ol,<-hx.length,hxn,aKN]
   have cell:∀ j,w'.cell? ⟨loc.blk,loc.base+i+j,none⟩=if len*z<=j/\j<len*z+oI.length then some (oI.getD (j-len*z) Go.undef)else w.cell? ⟨loc.blk,loc.base+i+j,none⟩:=fun j=>by
    rw[r2.cell];by_cases hc:len*z<=j/\j<len*z+oI.length
    ·rw[if_pos hc,if_pos (by omega),show loc.base+i+j-(loc.base+i+len*z)=j-len*z by omega]
    ·rw[if_neg hc,if_neg (by omega)]
   have hbr:BR (ι.set H.nx tF) w' H.nx (aB z (old++x.l)):=by
    refine qk0 (vs:=iM++oI) (loc:=tF) (Im.bD _ _ _) (aI.mono hle _ _ (o1.append hx)) (fun v hv=>by
     rcases List.mem_append.1 hv with hv|hv
     ·exact o3 v hv
     ·exact hx1 v hv) (fun j v hv=>?_) (fun j hj=>?_)
    ·show w'.cell? ⟨loc.blk,loc.base+i+j,none⟩=some v/\w'.frozen? ⟨loc.blk,loc.base+i+j,none⟩=false;have hj:j<(iM++oI).length:=by
      rcases Nat.lt_or_ge j (iM++oI).length with h|h
      ·exact h
      ·simp_all
     rw[List.length_append,o2,hxn]at hj;refine⟨?_,?_⟩
     ·rw[cell];by_cases hc:j<len*z
      ·rw[if_neg (by omega)];simp_all
      ·rw[if_pos (by omega)];rw[List.getElem?_append_right (by omega),o2]at hv;simp_all
     ·rw[r2.frozen];obtain⟨_,_,c2,_⟩:=there (i+j) (by omega);rw[Nat.add_assoc];exact c2
    ·show ∃V,w'.cell? ⟨loc.blk,loc.base+i+((old++x.l).length+j),none⟩=some V/\w'.frozen? ⟨loc.blk,loc.base+i+((old++x.l).length+j),none⟩=false/\V.oneCell=true;have hj:j<(cap+loc.ext-(len+x.n))*z:=hj;have bFH:(cap+loc.ext-(len+x.n))*z=(cap+loc.ext)*z-(len+x.n)*z:=Nat.sub_mul _ _ _;rw[cell,r2.frozen,if_neg (by omega),hlen];obtain⟨u,c1,c2⟩:=there (i+((len+x.n)*z+j)) (by omega);rw[Nat.add_assoc];simp_all
   have hadd:=k1.add (w':=w') hnx hnone aBK (Nat.le_succ _) hnx (Nat.lt_succ_self _) tF (aB z (old++x.l)) (by rw[r2.size];exact Nat.le_refl _)
    (fun c m hc h1 h2=>r2.keep _ fun he=>by
     rw[Hp.get_put _ _ _ _ hlt hc]at h1;by_cases ecb:c=b
     ·subst ecb;simp[bM.dF]at h1
     ·rw[if_neg ecb]at h1;exact ecb (hH.inj b c loc m hlt hc hwr h1 hb h2 he.symm).symm)
    (fun _=>by rw[r2.size];exact hH.low b loc hlt (bM.bF hwr) hb)
    (fun c m hc h1 h2 he=>by
     rw[Hp.get_put _ _ _ _ hlt hc]at h1;by_cases ecb:c=b
     ·subst ecb;simp[bM.dF]at h1
     ·rw[if_neg ecb]at h1;exact ecb (hH.inj b c loc m hlt hc hwr h1 hb h2 he.symm).symm) hbr
   refine⟨w',ι.set H.nx tF,r1,?_,hadd,⟨hle,Nat.le_succ _,fun c h1 h2=>?_,r2.os,r2.tape,r2.output,by rw[r2.size];exact Nat.le_refl _,fun c hc h1=>r2.keep c fun he=>h1 b loc hlt hwr hb he.symm,fun c m hc h1 h2=>?_,fun c m hc h1 h2=>?_⟩⟩
   ·simp only[aL];refine⟨Nat.le_refl _,tF,Im.bD _ _ _,?_⟩;simp[tF];omega
   ·by_cases e:c=H.nx
    ·omega
    ·rw[Im.dU _ _ e]at h2;exact absurd h1 h2
   ·have hgc:(aS (H.put b .dead) (aB z (old++x.l))).get c=if c=H.nx then aB z (old++x.l)else(H.put b .dead).get c:=by exact Mem.get_put _ _ _ _
    by_cases e:c=H.nx
    ·subst e;rw[Im.bD]at h2;cases h2;exact .inr ⟨b,loc,hlt,hwr,hb,rfl⟩
    ·rw[hgc,if_neg e,Hp.get_put _ _ _ _ hlt hc]at h1;rw[Im.dU _ _ e]at h2;by_cases ecb:c=b
     ·subst ecb;simp[bM.wr]at h1
     ·rw[if_neg ecb]at h1;exact .inr ⟨c,m,hc,h1,h2,rfl⟩
   ·have hgc:(aS (H.put b .dead) (aB z (old++x.l))).get c=if c=H.nx then aB z (old++x.l)else(H.put b .dead).get c:=by exact Mem.get_put _ _ _ _
    by_cases e:c=H.nx
    ·subst e;rw[Im.bD]at h2;cases h2;exact .inr ⟨b,loc,hlt,bM.bF hwr,hb,rfl⟩
    ·rw[hgc,if_neg e,Hp.get_put _ _ _ _ hlt hc]at h1;rw[Im.dU _ _ e]at h2;by_cases ecb:c=b
     ·subst ecb;simp[bM.dF]at h1
     ·rw[if_neg ecb]at h1;exact .inr ⟨c,m,hc,h1,h2,rfl⟩
 ·cases hend
theorem ql5{z:Nat}{x:AV}{X:Value}(hx:aL ι x X)(hH:HR ι H w){s:Src}(h:jE z H x=some s):∃vs:List Value,aI ι s.l vs/\(∀v∈vs,v.oneCell=true)/\vs.length=s.n*z/\(Builtin.lenOf X).run P w=.ok s.n w /\ ∀k,k<=s.n->(Builtin.firstCells z k X).run P w=.ok (vs.take (k*z)).toArray w:=by
 unfold jE at h;split at h
 ·cases hz:Nat.beq z 1 with
  |false=>rw[hz]at h;cases h
  |true=>rw[hz]at h;exact q3w hx hH h (fun _=>sJ hz)
 ·rename_i hn;exact q3w hx hH h (fun⟨m,b,e⟩=>absurd e (hn m b))
theorem zr0{b i len:Nat}{z:Nat}{loc:Loc}{C:Nat}(hH:HR ι H w)(hb:ι b=some loc){old:List AV}(h:fU (H.get b) i (len*z)=some old):∃iM,aI ι old iM/\(∀v∈iM,v.oneCell=true)/\iM.length=len*z/\(Builtin.firstCells z len (.slice (some ⟨loc.blk,loc.base+i,none⟩) len C)).run P w=.ok iM.toArray w:=by
 obtain⟨ol,ov⟩:=qem (hH.blk b (hH.lt hb)) h;have fin:∀ iM:List Value,iM.length=len*z->(∀(j:Nat) (v:Value),iM[j]? =some v->w.cell? ⟨loc.blk,loc.base+i+j,none⟩=some v)->(Builtin.firstCells z len (.slice (some ⟨loc.blk,loc.base+i,none⟩) len C)).run P w=.ok iM.toArray w:=fun iM h1 h2=>by have:=run_loadCells P w loc.blk (loc.base+i) iM h2;rw[h1]at this;trivial
 rcases ov with ov|⟨l2,iM,g1,g2,g3,g4,g5⟩
 ·have:old=[]:=List.length_eq_zero_iff.1 (by rw[ol];exact ov);subst this;exact⟨[],by simp[aI],by simp,by simpa using ov.symm,fin [] (by simpa using ov.symm) (by simp)⟩
 ·rw[hb]at g1;cases g1;exact⟨iM,g2,g4,g3,fin iM g3 g5⟩
theorem q5q{t u e:TypeId}{x y:Operand}(ho:o.op=.call {callee:=.builtin .append,args:= #[x,y],argTypes:= #[t,u]})(ht:P.underlying t=some (.slice e)){td:TypeDesc}(hu:P.underlying u=some td)(htd:td=.string\/∃ e',td=.slice e'){ap:Ap}(hap:apS P e=some ap)(hH:HR ι H w)(h:LR ι d n L a.tmps):rH P o a.eval ι H w (iD ap.z ap.w H ((aH d n x).f L) (jE ap.z H ((aH d n y).f L))):=by
 have hx:=dQ h x;have hy:=dQ h y;obtain⟨a1,a2,a3,a4,zv,a5⟩:=qnp hap;have run:∀ S V w',a.eval x=S->(Builtin.append_ #[t,u] o.type #[S,a.eval y]).run P w=.ok V w'->(execOp a.eval o).run P w=.ok (.value V) w':=fun S V w' h1 h2=>by simp[execOp,ho,resolve,invoke,builtin,h1,h2]
 cases hs:jE ap.z H ((aH d n y).f L)with
 |none=>trivial
 |some s=>
  obtain⟨oI,x1,x2,x3,x4,x5⟩:=ql5 (P:=P) hy hH hs;obtain⟨bQk,x1',x2',x3',x4',x5'⟩:=ql5 (P:=P) hy hH.drew hs;have x5:=x5 s.n (Nat.le_refl _);have x5':=x5' s.n (Nat.le_refl _);rw[<-x3,List.take_length]at x5;rw[<-x3',List.take_length]at x5';cases hv:iD ap.z ap.w H ((aH d n x).f L) (some s)with
  |bad=>trivial
  |ok v H'=>
   unfold iD at hv;simp only at hv;split at hv
   ·rename_i e1;rw[e1]at hx;simp only[aL]at hx;cases hn:Nat.beq s.n 0 with
    |true=>have hn:=sJ hn;rw[hn]at hv;obtain⟨rfl,rfl⟩:=hv;have r:=qe0 (ty:=o.type) ht hu htd a1 none 0 0 (a.eval y) x4 x5 (by omega) (w':=w) (fun _ h=>by cases h) (fun _=>rfl);rw[hn]at r;exact⟨_,.slice none 0 0,w,ι,run _ _ _ hx r,.inl rfl,by simp only[aL],hH,Fr.refl _ _ _⟩
    |false=>
     rw[hn]at hv;simp only[cond_false]at hv;have hn:=qub hn;cases hbg:(Nat.ble (Nat.mul s.n ap.w) eY&&Nat.ble s.n eY)with
     |false=>rw[hbg]at hv;cases hv
     |true=>rw[hbg]at hv;simp only[cond_true]at hv;simp only[Bool.and_eq_true]at hbg;have g1:s.n*ap.w<=1099511627776:=mX hbg.1;have g2:s.n<=1099511627776:=mX hbg.2;obtain⟨nc,c1,c2⟩:=qgx (ty:=o.type) (iM:=[]) ht hu htd a1 a2 a5 none 0 0 (a.eval y) x4 x5' (by simp[Builtin.firstCells]) (by omega) (by rw[Nat.zero_add];exact g1) (by omega);rw[Nat.zero_add]at c1 c2;obtain⟨ι',d1,d2,d3⟩:=qtu hap hH (iM:=[]) (show aI ι [] []by simp[aI]) (by simp) x1' x2' (by simp[x3']) hv nc c1 a5 w.drew rfl;exact⟨_,_,_,ι',run _ _ _ hx c2,.inl rfl,d1,d2,d3⟩
   ·rename_i b i len cap ex e1;rw[e1]at hx;simp only[aL]at hx;obtain⟨hlc,loc,h1,h2⟩:=hx;cases hin:Nat.ble (len+s.n) cap with
    |true=>
     rw[hin]at hv;simp only[cond_true]at hv;have hin:=mX hin;obtain⟨rfl,w',r1,r2,r3⟩:=qdh P hH h1 x1 x2 hv;have r:=qe0 (ty:=o.type) ht hu htd a1 (some ⟨loc.blk,loc.base+i,none⟩) len (if ex then cap else cap+loc.ext) (a.eval y) x4 x5 (by split<;>omega) (w':=w')
      (fun ad h=>by cases h;rw[addr_add,Nat.add_assoc];exact r1) (fun h=>by cases h)
     refine⟨_,_,w',ι,run _ _ _ h2 r,.inl rfl,?_,r2,r3⟩;simp only[aL];exact⟨hin,loc,h1,rfl⟩
    |false=>
     rw[hin]at hv;simp only[cond_false]at hv;have hin:=z15 hin;cases hbg:(Nat.ble (Nat.mul (len+s.n) ap.w) eY&&Nat.ble (len+s.n) eY)with
     |false=>rw[hbg]at hv;cases hv
     |true=>
      rw[hbg]at hv;simp only[cond_true]at hv;simp only[Bool.and_eq_true]at hbg;have g1:(len+s.n)*ap.w<=1099511627776:=mX hbg.1;have g2:len+s.n<=1099511627776:=mX hbg.2;split at hv
      ·cases hv
      ·rename_i old hold;have grown:∀ C,¬len+s.n<=C->a.eval x=.slice (some ⟨loc.blk,loc.base+i,none⟩) len C->∀(H1:Hp),HR ι H1 w->Fr ι ι H H1 w w->grow ap.z H1 old s (len+s.n)=.ok v H'->rH P o a.eval ι H w (.ok v H'):=by
        intro C hC hxC H1 hH1 hF1 hg;obtain⟨iM,o1,o2,o3,o4⟩:=zr0 (P:=P) (w:=w.drew) (C:=C) hH.drew h1 hold;obtain⟨nc,c1,c2⟩:=qgx (ty:=o.type) ht hu htd a1 a2 a5 (some ⟨loc.blk,loc.base+i,none⟩) len C (a.eval y) x4 x5' o4 hC g1 g2;obtain⟨ι',d1,d2,d3⟩:=qtu hap hH1 o1 o2 x1' x2' (by rw[o3,x3',Nat.add_mul]) hg nc c1 a5 w.drew rfl;exact⟨_,_,_,ι',run _ _ _ hxC c2,.inl rfl,d1,d2,hF1.trans d3⟩
       cases ex with
       |true=>exact grown cap hin (by simpa using h2) H hH (Fr.refl _ _ _) hv
       |false=>
        cases hend:qg1 (H.get b) (i+cap*ap.z) ap.z with
        |false=>rw[hend]at hv;cases hv
        |true=>
         rw[hend]at hv;simp only[cond_true]at hv;by_cases hfit:len+s.n<=cap+loc.ext
         ·obtain⟨w',ι',q1,q2,q3,q4⟩:=zfv (P:=P) hH h1 hend hold x1 x2 x3 hlc hin hfit hv;have r:=qe0 (ty:=o.type) ht hu htd a1 (some ⟨loc.blk,loc.base+i,none⟩) len (cap+loc.ext) (a.eval y) x4 x5 hfit (w':=w')
           (fun ad h=>by cases h;rw[addr_add];exact q1) (fun h=>by cases h)
          exact⟨_,_,w',ι',run _ _ _ h2 r,.inl rfl,q2,q3,q4⟩
         ·have hwr:(H.get b).wr=true:=by
           unfold qg1 at hend;split at hend
           ·rename_i hg;rw[hg];rfl
           ·cases hend
          obtain⟨k1,k2⟩:=hH.kill (hH.lt h1) hwr;exact grown _ hfit h2 _ k1 k2 hv
   ·cases hv
theorem z1o{t u e:TypeId}{x y:Operand}(ho:o.op=.call {callee:=.builtin .copy,args:= #[x,y],argTypes:= #[t,u]})(ht:P.underlying t=some (.slice e)){z:Nat}(hz:gU P e=some z)(hH:HR ι H w)(h:LR ι d n L a.tmps):rH P o a.eval ι H w (copyV z H ((aH d n x).f L) (jE z H ((aH d n y).f L))):=by
 have hx:=dQ h x;have hy:=dQ h y;cases hs:jE z H ((aH d n y).f L)with
 |none=>cases (aH d n x).f L<;>trivial
 |some s=>
  obtain⟨oI,x1,x2,x3,x4,x5⟩:=ql5 (P:=P) hy hH hs;unfold copyV;split
  ·rename_i s' b i m cap ex e0 e1;cases e0;rw[e1]at hx;simp only[aL]at hx;obtain⟨_,loc,h1,h2⟩:=hx;cases hst:storeAt H b i (s.l.take (Nat.mul (min s.n m) z)) (i64 (min s.n m))with
   |bad=>trivial
   |ok v H'=>obtain⟨rfl,w',r1,r2,r3⟩:=qdh P hH h1 (x1.take _) (fun v hv=>x2 v (List.mem_of_mem_take hv)) hst;refine⟨.value (.int .i64 ((min s.n m:Nat):Int)),_,w',ι,?_,.inl rfl,sI _ _,r2,r3⟩;have x5:=x5 (min s.n m) (Nat.min_le_left _ _);have r1:(storeCells ⟨loc.blk,loc.base+i,none⟩ (oI.take (min s.n m*z))).run P w=.ok () w':=r1;simp only[execOp,ho,resolve,invoke,builtin,Sem.run_bind,Sem.run_pure,Result.andThen_ok,List.map_toArray,List.map_cons,List.map_nil,Builtin.copy_,h2];simp only[List.getElem?_toArray,List.getElem?_cons_zero,List.getElem?_cons_succ,Sem.run_bind,bP ht,x4,mI hz,Result.andThen_ok];rw[show s.n.min m=min s.n m from rfl,x5];simp[r1,goInt]
  ·rename_i s' e0 e1;rw[e1]at hx;simp only[aL]at hx;refine⟨.value (.int .i64 0),_,w,ι,?_,.inl rfl,sI _ _,hH,Fr.refl _ _ _⟩;have x5:=x5 0 (Nat.zero_le _);simp only[execOp,ho,resolve,invoke,builtin,Sem.run_bind,Sem.run_pure,Result.andThen_ok,List.map_toArray,List.map_cons,List.map_nil,Builtin.copy_,hx];simp only[List.getElem?_toArray,List.getElem?_cons_zero,List.getElem?_cons_succ,Sem.run_bind,bP ht,x4,mI hz,Result.andThen_ok];rw[show s.n.min 0=0 from Nat.min_zero _,x5];rfl
  ·rename_i s' e0 e1;rw[e1]at hx;simp only[aL]at hx;obtain⟨ad,c,hx⟩:=hx;refine⟨.value (.int .i64 0),_,w,ι,?_,.inl rfl,sI _ _,hH,Fr.refl _ _ _⟩;have x5:=x5 0 (Nat.zero_le _);simp only[execOp,ho,resolve,invoke,builtin,Sem.run_bind,Sem.run_pure,Result.andThen_ok,List.map_toArray,List.map_cons,List.map_nil,Builtin.copy_,hx];simp only[List.getElem?_toArray,List.getElem?_cons_zero,List.getElem?_cons_succ,Sem.run_bind,bP ht,x4,mI hz,Result.andThen_ok];rw[show s.n.min 0=0 from Nat.min_zero _,x5];simp[goInt,storeCells]
  ·trivial
/- maps -/
theorem qcz{b:Nat}{es:List lS}{clock:Nat}{loc:Loc}(hH:HR ι H w)(hb:ι b=some loc)(hg:H.get b=.map es clock)(es':List lS)(clock':Nat){ES':List MapEntry}(hE:bT ι es' ES'):HR ι (H.put b (.map es' clock')) {w with heap:=w.heap.setIfInBounds loc.blk (.map ES'.toArray clock')}/\Fr ι ι H (H.put b (.map es' clock')) w {w with heap:=w.heap.setIfInBounds loc.blk (.map ES'.toArray clock')}:=by
 have hlt:=hH.lt hb;have hwr:(H.get b).wr=true:=by rw[hg];rfl
 have hlow:=hH.low b loc hlt (bM.bF hwr) hb;refine hH.put hlt hwr hb _ rfl rfl rfl (by simp) (fun c hc=>?_) ⟨loc,ES',hb,?_,hE⟩
 ·show(w.heap.setIfInBounds loc.blk _)[c]? =_;rw[Array.getElem?_setIfInBounds_ne (Ne.symm hc)]
 ·simp_all
theorem bT.set:∀{es:List lS} {ES:List MapEntry},bT ι es ES->∀(i:Nat) (x:lS) (e:MapEntry),aL ι x.key e.key->aL ι x.val e.val->e.born=x.born->bT ι (es.set i x) (ES.set i e)
 | [],ES,h,i,x,e,_,_,_=>by simp only[bT]at h;subst h;simp[bT]
 |y::es,ES,h,i,x,e,h1,h2,h3=>by
  obtain⟨e0,r,rfl,g1,g2,g3,g4⟩:=h;cases i with
  |zero=>simp only[List.set_cons_zero,bT];exact⟨e,r,rfl,h1,h2,h3,g4⟩
  |succ i=>simp only[List.set_cons_succ,bT];exact⟨e0,r.set i e,rfl,g1,g2,g3,bT.set g4 i x e h1 h2 h3⟩
theorem bT.snoc:∀{es:List lS} {ES:List MapEntry},bT ι es ES->∀(x:lS) (e:MapEntry),aL ι x.key e.key->aL ι x.val e.val->e.born=x.born->bT ι (es++[x]) (ES++[e])
 | [],ES,h,x,e,h1,h2,h3=>by simp only[bT]at h;subst h;simp only[List.nil_append,bT];exact⟨e,[],rfl,h1,h2,h3,rfl⟩
 |y::es,ES,h,x,e,h1,h2,h3=>by obtain⟨e0,r,rfl,g1,g2,g3,g4⟩:=h;simp only[List.cons_append,bT];exact⟨e0,r++[e],rfl,g1,g2,g3,bT.snoc g4 x e h1 h2 h3⟩
theorem bT.erase:∀{es:List lS} {ES:List MapEntry},bT ι es ES->∀(i:Nat),bT ι (es.eraseIdx i) (ES.eraseIdx i)
 | [],ES,h,i=>by simp only[bT]at h;subst h;simp[bT]
 |y::es,ES,h,i=>by
  obtain⟨e0,r,rfl,g1,g2,g3,g4⟩:=h;cases i with
  |zero=>simpa using g4
  |succ i=>simp only[List.eraseIdx_cons_succ,bT];exact⟨e0,r.eraseIdx i,rfl,g1,g2,g3,bT.erase g4 i⟩
/- keys that are the same -/
theorem q33{x y:AV}(h:zm8 x y=true){X Y:Value}(hx:aL ι x X)(hy:aL ι y Y):X=Y/\∀ k,Instr.sameBits k X X=true:=by
 unfold zm8 at h;split at h
 ·simp only[Bool.and_eq_true]at h;have:=zow h.1;subst this;have h2:=h.2;rw[zN]at h2;simp only[aL]at hx hy;subst hx hy;obtain rfl:=eq_of_beq h2;exact⟨rfl,fun k=>by cases k<;>simp[Instr.sameBits]⟩
 ·simp only[aL]at hx hy;obtain⟨s,rfl,h1⟩:=hx;obtain⟨u,rfl,h2⟩:=hy;rw[h1.eq h2]at h;have e:s=u:=by
   have:s.data.toList=u.data.toList:=by simpa using h
   cases s;cases u;simp at this;rw[this]
  subst e;exact⟨rfl,fun k=>by cases k<;>simp[Instr.sameBits,beq_toListBytes]⟩
 ·simp only[aL]at hx hy;subst hx hy;obtain rfl:=eq_of_beq h;exact⟨rfl,fun k=>by cases k<;>simp[Instr.sameBits]⟩
 ·cases h
theorem q31:∀{l m:List AV} {vs us:List Value},q6q l m=true->aI ι l vs->aI ι m us->vs=us/\∀ k,(vs.zip vs).all (fun(x,y)=>Instr.sameBits k x y)=true
 | [],[],vs,us,_,h1,h2=>by simp only[aI]at h1 h2;subst h1 h2;exact⟨rfl,fun _=>rfl⟩
 | [],_::_,vs,us,h,_,_=>by simp[q6q]at h
 |_::_,[],vs,us,h,_,_=>by simp[q6q]at h
 |x::l,y::m,vs,us,h,h1,h2=>by obtain⟨v,r,rfl,a1,a2⟩:=h1;obtain⟨u,r',rfl,b1,b2⟩:=h2;simp only[q6q,Bool.and_eq_true]at h;obtain⟨c1,c2⟩:=q33 h.1 a1 b1;obtain⟨d1,d2⟩:=q31 h.2 a2 b2;simp_all
theorem qpw{x y:AV}(h:sameKey x y=true){X Y:Value}(hx:aL ι x X)(hy:aL ι y Y):Instr.sameBits 10000 X Y=true:=by
 unfold sameKey at h;split at h
 ·obtain⟨vs,a1,rfl,_⟩:=xK hx;obtain⟨us,b1,rfl,_⟩:=xK hy;obtain⟨rfl,c⟩:=q31 h a1 b1;simp only[Instr.sameBits,Bool.and_eq_true];simp_all
 ·obtain⟨rfl,c⟩:=q33 h hx hy;exact c 10000
theorem qji(ES:List MapEntry)(i:Nat)(E:MapEntry)(h:ES[i]? =some E)(f:MapEntry->MapEntry):ES.modify i f=ES.set i (f E):=by
 apply List.ext_getElem?;intro j;rw[List.getElem?_modify,List.getElem?_set];by_cases e:i=j
 ·subst e;have hlt:=(List.getElem?_eq_some_iff.1 h).1;simp only[if_true,hlt];rw[h];rfl
 ·simp[e]
theorem z1m{t kt et:TypeId}{x y z:Operand}(ho:o.op=.mapUpdate t x y z\/o.op=.insert t x y z)(ht:P.underlying t=some (.map kt et)){ky:Ky}(hky:qU P kt=some ky)(hH:HR ι H w)(h:LR ι d n L a.tmps):rH P o a.eval ι H w (pR ky H ((aH d n x).f L) ((aH d n y).f L) ((aH d n z).f L)):=by
 have hx:=dQ h x;have hy:=dQ h y;have hz:=dQ h z;have hrun:(execOp a.eval o).run P w=((Instr.mapUpdate t (a.eval x) (a.eval y) (a.eval z)).run P w).andThen fun _ w=>.ok .skip w:=by rcases ho with ho|ho<;>simp[execOp,ho]
 unfold pR;split
 ·rename_i b e1;rw[e1]at hx;simp only[aL]at hx;obtain⟨loc,h1,h2⟩:=hx;have hb:=hH.blk b (hH.lt h1);split
  ·rename_i es clock hg;rw[hg]at hb;obtain⟨l',ES,g1,g2,g3⟩:=hb;rw[h1]at g1;cases g1;split
   ·rename_i hit hf;obtain⟨c1,R,c2,c3⟩:=qe6 hky hy g3 hf;obtain⟨V,E,rfl,d1,d2,d3,d4,d5,d6⟩:=c3;cases hsk:sameKey hit.x.key ((aH d n y).f L)with
    |false=>trivial
    |true=>have hsb:=qpw hsk d3 hy;obtain⟨m1,m2⟩:=qcz hH h1 hg (es.set hit.i ⟨(aH d n y).f L,(aH d n z).f L,hit.x.born⟩) clock (g3.set hit.i _ ⟨a.eval y,a.eval z,E.born⟩ hy hz d6);refine⟨.skip,Go.undef,_,ι,?_,.inr ⟨rfl,rfl⟩,by simp[aL,Go.undef],m1,m2⟩;rw[hrun,h2];have hmod:=qji ES hit.i E d2 (fun e=>{e with key:=a.eval y,val:=a.eval z});simp[Instr.mapUpdate,bP ht,getObj,setObj,Sem.run,g2,c1,c2,d2,Instr.keyThatStays,hsb,hmod]
   ·rename_i hf;obtain⟨c1,R,c2,c3⟩:=qe6 hky hy g3 hf;simp only[q14]at c3;subst c3;obtain⟨m1,m2⟩:=qcz hH h1 hg (es++[⟨(aH d n y).f L,(aH d n z).f L,clock⟩]) (clock+1) (g3.snoc _ ⟨a.eval y,a.eval z,clock⟩ hy hz rfl);refine⟨.skip,Go.undef,_,ι,?_,.inr ⟨rfl,rfl⟩,by simp[aL,Go.undef],m1,m2⟩;rw[hrun,h2];simp[Instr.mapUpdate,bP ht,getObj,setObj,Sem.run,g2,c1,c2]
   ·trivial
  ·trivial
 ·trivial
theorem zxo{t kt et:TypeId}{x:Operand}(ho:o.op=.range t x)(ht:P.underlying t=some (.map kt et))(hH:HR ι H w)(h:LR ι d n L a.tmps):rH P o a.eval ι H w (zfg H ((aH d n x).f L)):=by
 have hx:=dQ h x;unfold zfg;split
 ·rename_i e1;rw[e1]at hx;simp only[aL]at hx;obtain⟨m1,m2⟩:=hH.push (w':=w.alloc (.mapIter none 0 #[] 0)) oG ⟨w.heap.size,0,0,0⟩ (.fI 0 0 0) rfl rfl rfl (by simp) (fun c hc=>Below.heap_alloc w _ c hc) rfl ⟨_,none,Im.bD _ _ _,rfl,by show(w.heap.push _)[w.heap.size]? =_;simp,rfl⟩;refine⟨.value (.pointer (some ⟨w.heap.size,0,none⟩)),_,_,_,?_,.inl rfl,?_,m1,m2⟩
  ·simp[execOp,ho,hx,Instr.range,bP ht]
  ·simp only[aL];exact⟨_,Im.bD _ _ _,rfl⟩
 ·rename_i b e1;rw[e1]at hx;simp only[aL]at hx;obtain⟨loc,h1,h2⟩:=hx;have hb:=hH.blk b (hH.lt h1);split
  ·rename_i es clock hg;rw[hg]at hb;obtain⟨l',ES,g1,g2,g3⟩:=hb;rw[h1]at g1;cases g1;have hne:b≠H.nx:=fun e=>by rw[e,hH.fresh _ (Nat.le_refl _)]at h1;cases h1
   obtain⟨m1,m2⟩:=hH.push (w':=w.alloc (.mapIter (some loc.blk) clock #[] clock)) oG ⟨w.heap.size,0,0,0⟩ (.fI (Nat.succ b) clock 0) rfl rfl rfl (by simp) (fun c hc=>Below.heap_alloc w _ c hc) rfl ⟨_,some loc.blk,Im.bD _ _ _,rfl,by show(w.heap.push _)[w.heap.size]? =_;simp,loc,by rw[Im.dU _ _ hne];exact h1,rfl⟩;refine⟨.value (.pointer (some ⟨w.heap.size,0,none⟩)),_,_,_,?_,.inl rfl,?_,m1,m2⟩
   ·simp[execOp,ho,h2,Instr.range,bP ht,Sem.run,getObj,g2]
   ·simp only[aL];exact⟨_,Im.bD _ _ _,rfl⟩
  ·trivial
 ·trivial
theorem z1n{x:Operand}(ho:o.op=.next x false)(hH:HR ι H w)(h:LR ι d n L a.tmps):rH P o a.eval ι H w (zwv H ((aH d n x).f L)):=by
 have hx:=dQ h x;unfold zwv;split
 ·rename_i b off e1;rw[e1]at hx;simp only[aL]at hx;obtain⟨loc,h1,h2⟩:=hx;have hb:=hH.blk b (hH.lt h1);cases ho0:Nat.beq off 0 with
  |false=>trivial
  |true=>
   obtain rfl:=Nat.eq_of_beq_eq_true ho0;split
   ·rename_i m since pos hg;rw[hg]at hb;obtain⟨l',r,g1,g0,g2,g3⟩:=hb;rw[h1]at g1;cases g1;rw[g0,Nat.add_zero]at h2;cases m with
    |zero=>
     subst g3;refine⟨.value (.tuple #[.bool false]),_,_,ι,?_,.inl rfl,?_,hH,Fr.refl _ _ _⟩
     ·simp[execOp,ho,h2,Instr.next,getObj,Sem.run,g2]
     ·simp only[aL,aI];exact⟨_,⟨_,_,rfl,rfl,rfl⟩,rfl⟩
    |succ m=>
     obtain⟨lm,k1,rfl⟩:=g3;have hm:=hH.blk m (hH.lt k1);simp only;split
     ·rename_i es clock hgm;rw[hgm]at hm;obtain⟨l2,ES,j1,j2,j3⟩:=hm;rw[k1]at j1;cases j1;cases hcs:Nat.beq clock since with
      |false=>trivial
      |true=>
       obtain rfl:=Nat.eq_of_beq_eq_true hcs;unfold z0d;split
       ·simp only[bT]at j3;subst j3;refine⟨.value (.tuple #[.bool false]),_,_,ι,?_,.inl rfl,?_,hH,Fr.refl _ _ _⟩
        ·simp[execOp,ho,h2,Instr.next,getObj,Sem.run,g2,j2,choose,Question.forced]
        ·simp only[aL,aI];exact⟨_,⟨_,_,rfl,rfl,rfl⟩,rfl⟩
       ·rename_i e;simp only[bT]at j3;obtain⟨E,_,rfl,q1,q2,q3,rfl⟩:=j3;cases hbl:Nat.blt e.born clock with
        |false=>trivial
        |true=>
         have hbl:=mX hbl;rw[<-q3]at hbl;simp only[cond_true];cases pos with
         |zero=>
          have hwr:(H.get b).wr=true:=by rw[hg];rfl
          have hlow:=hH.low b loc (hH.lt h1) (bM.bF hwr) h1;obtain⟨m1,m2⟩:=hH.put (w':={w with heap:=w.heap.setIfInBounds loc.blk (.mapIter (some lm.blk) clock #[E.born] clock)}) (hH.lt h1) hwr h1 (.fI (Nat.succ m) clock (Nat.succ e.born)) rfl rfl rfl (by simp) (fun c hc=>by
           rw[Array.getElem?_setIfInBounds_ne (Ne.symm hc)]) ⟨loc,some lm.blk,h1,g0,by
           rw[Array.getElem?_setIfInBounds_self_of_lt hlow,q3],lm,k1,rfl⟩
          refine⟨.value (.tuple #[.bool true,E.key,E.val]),_,_,ι,?_,.inl rfl,?_,m1,m2⟩
          ·have hnl:¬ clock<=E.born:=by omega
           simp[execOp,ho,h2,Instr.next,getObj,setObj,Sem.run,g2,j2,choose,Question.forced,hnl,show E.born<clock from hbl]
          ·simp only[aL,aI];exact⟨_,⟨_,_,rfl,rfl,_,_,rfl,q1,_,_,rfl,q2,rfl⟩,rfl⟩
         |succ p=>
          cases hp:Nat.beq (p+1) (Nat.succ e.born)with
          |false=>trivial
          |true=>
           have hp:p+1=e.born+1:=Nat.eq_of_beq_eq_true hp;have hp:p=E.born:=by omega
           subst hp;refine⟨.value (.tuple #[.bool false]),_,_,ι,?_,.inl rfl,?_,hH,Fr.refl _ _ _⟩
           ·have hnl:¬ clock<=E.born:=by omega
            simp[execOp,ho,h2,Instr.next,getObj,Sem.run,g2,j2,choose,Question.forced,hnl]
           ·simp only[aL,aI];exact⟨_,⟨_,_,rfl,rfl,rfl⟩,rfl⟩
       ·trivial
     ·trivial
   ·trivial
 ·trivial
theorem zxp{t kt et:TypeId}{x y:Operand}(ho:o.op=.mapEntry t x y)(ht:P.underlying t=some (.map kt et)){ky:Ky}(hky:qU P kt=some ky){z:Value}(hz:(P.info? et).bind (·.zero)=some z)(hH:HR ι H w)(h:LR ι d n L a.tmps):rH P o a.eval ι H w (zhk ky (qtc z) H ((aH d n x).f L) ((aH d n y).f L)):=by
 have hx:=dQ h x;have hy:=dQ h y;unfold zhk;split
 ·rename_i b e1;rw[e1]at hx;simp only[aL]at hx;obtain⟨loc,h1,h2⟩:=hx;have hb:=hH.blk b (hH.lt h1);split
  ·rename_i es clock hg;rw[hg]at hb;obtain⟨l',ES,g1,g2,g3⟩:=hb;rw[h1]at g1;cases g1;split
   ·rename_i hit hf;obtain⟨c1,R,c2,c3⟩:=qe6 hky hy g3 hf;obtain⟨V,E,rfl,d1,d2,d3,d4,d5,d6⟩:=c3;cases hsk:sameKey hit.x.key ((aH d n y).f L)with
    |false=>trivial
    |true=>
     have hsb:=qpw hsk d3 hy;obtain⟨m1,m2⟩:=qcz hH h1 hg (es.set hit.i ⟨(aH d n y).f L,hit.x.val,hit.x.born⟩) clock (g3.set hit.i _ ⟨a.eval y,E.val,E.born⟩ hy (by rw[d5];exact d4) d6);refine⟨.value (.tuple #[V,.int .i64 (E.born:Int)]),_,_,ι,?_,.inl rfl,?_,m1,m2⟩
     ·have hmod:=qji ES hit.i E d2 (fun e=>{e with key:=a.eval y});simp[execOp,ho,h2,Instr.mapEntry,bP ht,getObj,setObj,Sem.run,g2,c1,c2,d2,Instr.keyThatStays,hsb,hmod,goInt]
     ·simp only[aL,aI];simp_all
   ·rename_i hf;obtain⟨c1,R,c2,c3⟩:=qe6 hky hy g3 hf;simp only[q14]at c3;subst c3;obtain⟨m1,m2⟩:=qcz hH h1 hg (es++[⟨(aH d n y).f L,qtc z,clock⟩]) (clock+1) (g3.snoc _ ⟨a.eval y,z,clock⟩ hy (qfq z) rfl);refine⟨.value (.tuple #[z,.int .i64 (clock:Int)]),_,_,ι,?_,.inl rfl,?_,m1,m2⟩
    ·simp[execOp,ho,h2,Instr.mapEntry,bP ht,getObj,setObj,Sem.run,g2,c1,c2,qcr hz,goInt]
    ·simp only[aL,aI];exact⟨[z,.int .i64 (clock:Int)],⟨z,_,rfl,qfq z,_,_,rfl,rfl,rfl⟩,rfl⟩
   ·trivial
  ·trivial
 ·trivial
theorem qvb{k:Nat}:∀(es:List lS) (ES:List MapEntry) (i:Nat) (hit:xD),bT ι es ES->zer k es i=some hit -> ∃E j,hit.i=i+j/\ES[j]? =some E/\ES.findIdx? (fun e=>(e.born:Int)==(k:Int))=some j/\aL ι hit.x.key E.key/\E.born=hit.x.born
 | [],ES,i,hit,hE,hs=>by trivial
 |x::es,ES,i,hit,hE,hs=>by
  obtain⟨e,r,rfl,h1,h2,h3,h4⟩:=hE;have hs:(bif Nat.beq x.born k then some ⟨i,x⟩else zer k es (i+1))=some hit:=hs;cases hk:Nat.beq x.born k with
  |true=>rw[hk]at hs;simp only[cond_true,Option.some.injEq]at hs;subst hs;have:=sJ hk;exact⟨e,0,rfl,rfl,by simp[List.findIdx?_cons,h3,this],h1,h3⟩
  |false=>
   rw[hk]at hs;simp only[cond_false]at hs;have hne:=qub hk;obtain⟨E,j,a1,a2,a3,a4,a5⟩:=qvb es r (i+1) hit h4 hs;refine⟨E,j+1,by omega,by simpa using a2,?_,a4,a5⟩;have hb:(((e.born:Int))==(k:Int))=false:=by rw[h3];simp;omega
   rw[List.findIdx?_cons,hb,a3];rfl
theorem zhs{t:TypeId}{x y z:Operand}(ho:o.op=.entryStore t x y z)(hH:HR ι H w)(h:LR ι d n L a.tmps):rH P o a.eval ι H w (qt2 H ((aH d n x).f L) ((aH d n y).f L) ((aH d n z).f L)):=by
 have hx:=dQ h x;have hy:=dQ h y;have hz:=dQ h z;unfold qt2;split
 ·rename_i b kk m e1 e2;rw[e1]at hx;rw[e2]at hy;simp only[aL]at hx hy;obtain⟨loc,h1,h2⟩:=hx;have hb:=hH.blk b (hH.lt h1);split
  ·rename_i es clock hg;rw[hg]at hb;obtain⟨l',ES,g1,g2,g3⟩:=hb;rw[h1]at g1;cases g1;split
   ·rename_i hit hf;obtain⟨E,j,a1,a2,a3,a4,a5⟩:=qvb es ES 0 hit g3 hf;obtain⟨m1,m2⟩:=qcz hH h1 hg (es.set hit.i ⟨hit.x.key,(aH d n z).f L,hit.x.born⟩) clock (g3.set hit.i _ ⟨E.key,a.eval z,E.born⟩ a4 hz a5);refine⟨.skip,Go.undef,_,ι,?_,.inr ⟨rfl,rfl⟩,by simp[aL,Go.undef],m1,m2⟩;have hmod:=qji ES j E a2 (fun e=>{e with val:=a.eval z});simp[execOp,ho,h2,hy,Instr.entryStore,getObj,setObj,Sem.run,g2,asInt,asIntOf,a3,hmod,a1]
   ·trivial
  ·trivial
 ·trivial
theorem aMj{t kt et:TypeId}{x y:Operand}{ts:Array TypeId}(ho:o.op=.call {callee:=.builtin .delete,args:= #[x,y],argTypes:=ts})(hts:ts[0]? =some t)(ht:P.underlying t=some (.map kt et)){ky:Ky}(hky:qU P kt=some ky)(hH:HR ι H w)(h:LR ι d n L a.tmps):rH P o a.eval ι H w (aE7 ky H ((aH d n x).f L) ((aH d n y).f L)):=by
 have hx:=dQ h x;have hy:=dQ h y;unfold aE7;split
 ·rename_i b e1;rw[e1]at hx;simp only[aL]at hx;obtain⟨loc,h1,h2⟩:=hx;have hb:=hH.blk b (hH.lt h1);split
  ·rename_i es clock hg;rw[hg]at hb;obtain⟨l',ES,g1,g2,g3⟩:=hb;rw[h1]at g1;cases g1;split
   ·rename_i hit hf;obtain⟨c1,R,c2,c3⟩:=qe6 hky hy g3 hf;obtain⟨V,E,rfl,d1,d2,d3,d4,d5,d6⟩:=c3;obtain⟨m1,m2⟩:=qcz hH h1 hg (es.eraseIdx hit.i) clock (g3.erase hit.i);refine⟨.value (.tuple #[]),_,_,ι,?_,.inl rfl,by simp[aL],m1,m2⟩;have hlt:=(List.getElem?_eq_some_iff.1 d2).1;simp[execOp,ho,resolve,invoke,builtin,Builtin.delete_,h2,hts,bP ht,getObj,setObj,Sem.run,g2,c1,c2]
   ·rename_i hf;obtain⟨c1,R,c2,c3⟩:=qe6 hky hy g3 hf;simp only[q14]at c3;subst c3;obtain⟨m1,m2⟩:=qcz hH h1 hg es clock g3;refine⟨.value (.tuple #[]),_,_,ι,?_,.inl rfl,by simp[aL],m1,m2⟩;simp[execOp,ho,resolve,invoke,builtin,Builtin.delete_,h2,hts,bP ht,getObj,setObj,Sem.run,g2,c1,c2]
   ·trivial
  ·trivial
 ·trivial
theorem qfk(zv:Value)(k:Nat):Builtin.zeroCells zv.cells k=(gJ zv.cells.toList k).toArray:=by have:=range_zero zv.cells k zv.cells.size rfl;trivial
theorem zo0{t k e:TypeId}{x:Operand}(ho:o.op=.call {callee:=.builtin .clear,args:= #[x],argTypes:= #[t]})(ht:P.underlying t=some (.map k e))(hH:HR ι H w)(h:LR ι d n L a.tmps):rH P o a.eval ι H w (zh8 H ((aH d n x).f L)):=by
 have hx:=dQ h x;unfold zh8;split
 ·rename_i e1;rw[e1]at hx;simp only[aL]at hx;refine⟨.value (.tuple #[]),_,w,ι,?_,.inl rfl,by simp[aL],hH,Fr.refl _ _ _⟩;simp[execOp,ho,resolve,invoke,builtin,Builtin.clear_,hx,bP ht]
 ·rename_i b e1;rw[e1]at hx;simp only[aL]at hx;obtain⟨loc,h1,h2⟩:=hx;have hb:=hH.blk b (hH.lt h1);split
  ·rename_i es clock hg;rw[hg]at hb;obtain⟨l',ES,g1,g2,g3⟩:=hb;rw[h1]at g1;cases g1;obtain⟨m1,m2⟩:=qcz hH h1 hg [] clock (ES':=[]) (by simp[bT]);refine⟨.value (.tuple #[]),_,_,ι,?_,.inl rfl,by simp[aL],m1,m2⟩;simp[execOp,ho,resolve,invoke,builtin,Builtin.clear_,h2,bP ht,getObj,setObj,Sem.run,g2]
  ·trivial
 ·trivial
theorem zht{t e:TypeId}{x:Operand}(ho:o.op=.call {callee:=.builtin .clear,args:= #[x],argTypes:= #[t]})(ht:P.underlying t=some (.slice e)){ap:Ap}(hap:apS P e=some ap)(hH:HR ι H w)(h:LR ι d n L a.tmps):rH P o a.eval ι H w (qhm ap.zl H ((aH d n x).f L)):=by
 have hx:=dQ h x;obtain⟨a1,a2,a3,a4,_⟩:=qnp hap;obtain⟨zv,z1,z2,z3⟩:=qcl (ι:=ι) a3;unfold qhm;split
 ·rename_i e1;rw[e1]at hx;simp only[aL]at hx;refine⟨.value (.tuple #[]),_,w,ι,?_,.inl rfl,by simp[aL],hH,Fr.refl _ _ _⟩;simp[execOp,ho,resolve,invoke,builtin,Builtin.clear_,hx,bP ht]
 ·rename_i b i m cap ex e1;rw[e1]at hx;simp only[aL]at hx;obtain⟨_,loc,h1,h2⟩:=hx;cases hm:Nat.beq m 0 with
  |true=>have hm:=sJ hm;subst hm;refine⟨.value (.tuple #[]),_,w,ι,?_,.inl rfl,by simp[aL],hH,Fr.refl _ _ _⟩;simp[execOp,ho,resolve,invoke,builtin,Builtin.clear_,h2,bP ht]
  |false=>
   have hm:=qub hm;cases hst:storeAt H b i (bE ap.zl m) .undef with
   |bad=>trivial
   |ok v H'=>obtain⟨rfl,w',r1,r2,r3⟩:=qdh P hH h1 (qh2 z2 m) (fun v hv=>z3 v (qgd hv)) hst;refine⟨.value (.tuple #[]),_,w',ι,?_,.inl rfl,by simp[aL],r2,r3⟩;obtain⟨m',rfl⟩:∃ m',m=m'+1:=⟨m-1,by omega⟩;simp[execOp,ho,resolve,invoke,builtin,Builtin.clear_,h2,bP ht,qcr z1,qfk,r1]
 ·trivial
theorem qhb{t u e ty:TypeId}(ht:P.underlying t=some (.slice e)){kk:IntKind}(hu:P.underlying u=some (.int kk)){z b:Nat}(hz:gU P e=some z)(hb:qij P e=some b){zv:Value}(hzv:(P.info? e).bind (·.zero)=some zv){zl:List AV}(hzr:aI ι zl zv.cells.toList)(hzl:zl.length=z)(base:Option Addr)(len C:Nat){k2:IntKind}{m:Nat}(hm:m<=1099511627776)(hmb:m*b<=1099511627776)(hle:len+m<=C){w':World}(hst:∀ ad,base=some ad->(storeCells (ad.add (len*z)) (gJ zv.cells.toList m)).run P w=.ok () w')(hno:base=none->w'=w):(Builtin.append_ #[t,u] ty #[.slice base len C,.int k2 (m:Int)]).run P w=.ok (.slice base (len+m) C) w':=by
 obtain⟨ti,ti1,ti2⟩:=qs5 (P:=P) hb;have w1:IntKind.i64.wrap (m:Int)=m:=IntWalk.i64_in _ (by omega);have hlt:¬((m:Int)<0):=by omega
 have hbig:¬(281474976710656<(m:Int)*(ti.bytes:Int)):=by rw[ti2];omega
 have hsz:zv.cells.size=z:=by have:=hzr.length;simp at this;omega
 have hnil:m*z=0->gJ zv.cells.toList m=[]:=fun h0=>List.length_eq_zero_iff.1 (by rw[qb5];simp[hsz,h0]);by_cases h0:m*z=0
 ·have hr:=hnil h0;cases base with
  |none=>rw[hno rfl];simp[Builtin.append_,bP ht,bP hu,mI hz,asInt,asIntOf,w1,hlt,ti1,hbig,h0,hle]
  |some ad=>have hst:=hst ad rfl;rw[hr]at hst;simp[Builtin.append_,bP ht,bP hu,mI hz,asInt,asIntOf,w1,hlt,ti1,hbig,h0,hle,hst]
 ·cases base with
  |none=>rw[hno rfl];simp[Builtin.append_,bP ht,bP hu,mI hz,asInt,asIntOf,w1,hlt,ti1,hbig,hle,qcr hzv]
  |some ad=>have hst:=hst ad rfl;simp[Builtin.append_,bP ht,bP hu,mI hz,asInt,asIntOf,w1,hlt,ti1,hbig,h0,hle,qcr hzv,qfk,hst]
set_option maxHeartbeats 1000000 in
theorem qj4{t u e ty:TypeId}(ht:P.underlying t=some (.slice e)){kk:IntKind}(hu:P.underlying u=some (.int kk)){z b:Nat}(hz:gU P e=some z)(hb:qij P e=some b){zv:Value}(hzv:(P.info? e).bind (·.zero)=some zv){zl:List AV}(hzr:aI ι zl zv.cells.toList)(hzl:zl.length=z)(base:Option Addr)(len C:Nat){k2:IntKind}{m:Nat}{iM:List Value}(hm:m<=1099511627776)(hmb:m*b<=1099511627776)(hof:(Builtin.firstCells z len (.slice base len C)).run P w.drew=.ok iM.toArray w.drew)(hgt:¬ len+m<=C)(hbig:(len+m)*b<=1099511627776)(hbig2:len+m<=1099511627776):∃newCap,len+m<=newCap/\(Builtin.append_ #[t,u] ty #[.slice base len C,.int k2 (m:Int)]).run P w=.ok (.slice (some ⟨w.heap.size,0,none⟩) (len+m) newCap) (w.drew.alloc (.cells (iM.toArray++(gJ zv.cells.toList m).toArray++Builtin.zeroCells zv.cells (newCap-(len+m))) e)):=by
 obtain⟨ti,ti1,ti2⟩:=qs5 (P:=P) hb;have w1:IntKind.i64.wrap (m:Int)=m:=IntWalk.i64_in _ (by omega);have hlt:¬((m:Int)<0):=by omega
 have hb2:¬(281474976710656<(m:Int)*(ti.bytes:Int)):=by
  rw[ti2];have:((m*b:Nat):Int)<=281474976710656:=by omega
  have e:((m*b:Nat):Int)=(m:Int)*(b:Int):=by simp
  omega
 have hsz:zv.cells.size=z:=by have:=hzr.length;simp at this;omega
 have hnil:m*z=0->gJ zv.cells.toList m=[]:=fun h0=>List.length_eq_zero_iff.1 (by rw[qb5];simp[hsz,h0]);have hnc:=qp7 (need:=len+m) (old:=C) (by omega);have h2:¬(2 ^ 48<Builtin.nextslicecap (len+m) C*ti.bytes):=by have hm:Builtin.nextslicecap (len+m) C*ti.bytes<=3*(len+m)*ti.bytes:=Nat.mul_le_mul_right _ hnc;rw[ti2]at hm ⊢;have:3*(len+m)*b=3*((len+m)*b):=Nat.mul_assoc _ _ _;omega
 refine⟨(Question.appendCap (len+m) C e).cut (w.tape w.drawn (.appendCap (len+m) C e)),by simp only[Question.cut];omega,?_⟩;generalize hcap:(Question.appendCap (len+m) C e).cut (w.tape w.drawn (.appendCap (len+m) C e))=cap;by_cases h0:m*z=0
 ·rw[hnil h0];simp[Builtin.append_,bP ht,bP hu,mI hz,asInt,asIntOf,w1,hlt,ti1,hb2,hgt,h2,Question.forced,hcap,hof,h0,qcr hzv,newRow];intro hbad;omega
 ·simp[Builtin.append_,bP ht,bP hu,mI hz,asInt,asIntOf,w1,hlt,ti1,hb2,hgt,h2,Question.forced,hcap,hof,h0,qcr hzv,newRow];rw[if_neg (by omega),qfk zv m,<-Array.append_assoc];simp
theorem z1p{t u e:TypeId}{x y:Operand}(ho:o.op=.call {callee:=.builtin .append,args:= #[x,y],argTypes:= #[t,u]})(ht:P.underlying t=some (.slice e)){kk:IntKind}(hu:P.underlying u=some (.int kk)){ap:Ap}(hap:apS P e=some ap)(hH:HR ι H w)(h:LR ι d n L a.tmps):rH P o a.eval ι H w (iD ap.z ap.w H ((aH d n x).f L) (qqv ap.w ap.zl ((aH d n y).f L))):=by
 have hx:=dQ h x;have hy:=dQ h y;obtain⟨a1,a2,a3,a4,_⟩:=qnp hap;obtain⟨zv,a5,z2,z3⟩:=qcl (ι:=ι) a3;cases hs:qqv ap.w ap.zl ((aH d n y).f L)with
 |none=>trivial
 |some s=>
  unfold qqv at hs;split at hs
  ·rename_i k2 m e2;rw[e2]at hy;simp only[aL]at hy;cases hmm:(Nat.ble m eY&&Nat.ble (Nat.mul m ap.w) eY)with
   |false=>rw[hmm]at hs;cases hs
   |true=>
    rw[hmm]at hs;simp only[cond_true,Option.some.injEq]at hs;subst hs;simp only[Bool.and_eq_true]at hmm;have m1:m<=1099511627776:=mX hmm.1;have m2:m*ap.w<=1099511627776:=mX hmm.2;have hy:a.eval y=.int k2 (m:Int):=hy;have run:∀ S V w',a.eval x=S->(Builtin.append_ #[t,u] o.type #[S,.int k2 (m:Int)]).run P w=.ok V w'->(execOp a.eval o).run P w=.ok (.value V) w':=fun S V w' h1 h2=>by simp[execOp,ho,resolve,invoke,builtin,h1,hy,h2]
    have x1:=qh2 z2 m;have x2:∀ v∈gJ zv.cells.toList m,v.oneCell=true:=fun v hv=>z3 v (qgd hv);have x3:(gJ zv.cells.toList m).length=m*ap.z:=by rw[qb5,z2.length,a4]
    cases hv:iD ap.z ap.w H ((aH d n x).f L) (some ⟨m,bE ap.zl m⟩)with
    |bad=>trivial
    |ok v H'=>
     unfold iD at hv;simp only at hv;split at hv
     ·rename_i e1;rw[e1]at hx;simp only[aL]at hx;cases hn:Nat.beq m 0 with
      |true=>have hn:=sJ hn;subst hn;simp only[show Nat.beq 0 0=true from rfl,cond_true,R1.ok.injEq]at hv;obtain⟨rfl,rfl⟩:=hv;have r:=qhb (P:=P) (ty:=o.type) (k2:=k2) ht hu a1 a2 a5 z2 a4 none 0 0 m1 m2 (by omega) (w':=w) (fun _ h=>by cases h) (fun _=>rfl);exact⟨_,.slice none 0 0,w,ι,run _ _ _ hx r,.inl rfl,by simp only[aL],hH,Fr.refl _ _ _⟩
      |false=>
       rw[hn]at hv;simp only[cond_false]at hv;have hn:=qub hn;cases hbg:(Nat.ble (Nat.mul m ap.w) eY&&Nat.ble m eY)with
       |false=>rw[hbg]at hv;cases hv
       |true=>rw[hbg]at hv;simp only[cond_true]at hv;obtain⟨nc,c1,c2⟩:=qj4 (P:=P) (w:=w) (ty:=o.type) (k2:=k2) (iM:=[]) ht hu a1 a2 a5 z2 a4 none 0 0 m1 m2 (by simp[Builtin.firstCells]) (by omega) (by rw[Nat.zero_add];exact m2) (by omega);rw[Nat.zero_add]at c1 c2;obtain⟨ι',d1,d2,d3⟩:=qtu hap hH (iM:=[]) (show aI ι [] []by simp[aI]) (by simp) x1 x2 (by simp[x3]) hv nc c1 a5 w.drew rfl;exact⟨_,_,_,ι',run _ _ _ hx c2,.inl rfl,d1,d2,d3⟩
     ·rename_i b i len cap ex e1;rw[e1]at hx;simp only[aL]at hx;obtain⟨hlc,loc,h1,h2⟩:=hx;cases hin:Nat.ble (len+m) cap with
      |true=>
       rw[hin]at hv;simp only[cond_true]at hv;have hin:=mX hin;obtain⟨rfl,w',r1,r2,r3⟩:=qdh P hH h1 x1 x2 hv;have r:=qhb (P:=P) (ty:=o.type) (k2:=k2) ht hu a1 a2 a5 z2 a4 (some ⟨loc.blk,loc.base+i,none⟩) len (if ex then cap else cap+loc.ext) m1 m2 (by split<;>omega) (w':=w')
        (fun ad h=>by cases h;rw[addr_add,Nat.add_assoc];exact r1) (fun h=>by cases h)
       refine⟨_,_,w',ι,run _ _ _ h2 r,.inl rfl,?_,r2,r3⟩;simp only[aL];exact⟨hin,loc,h1,rfl⟩
      |false=>
       rw[hin]at hv;simp only[cond_false]at hv;have hin:=z15 hin;cases hbg:(Nat.ble (Nat.mul (len+m) ap.w) eY&&Nat.ble (len+m) eY)with
       |false=>rw[hbg]at hv;cases hv
       |true=>
        rw[hbg]at hv;simp only[cond_true]at hv;simp only[Bool.and_eq_true]at hbg;have g1:(len+m)*ap.w<=1099511627776:=mX hbg.1;have g2:len+m<=1099511627776:=mX hbg.2;split at hv
        ·cases hv
        ·rename_i old hold;have grown:∀ C,¬len+m<=C->a.eval x=.slice (some ⟨loc.blk,loc.base+i,none⟩) len C->∀(H1:Hp),HR ι H1 w->Fr ι ι H H1 w w->grow ap.z H1 old ⟨m,bE ap.zl m⟩ (len+m)=.ok v H'->rH P o a.eval ι H w (.ok v H'):=by
          intro C hC hxC H1 hH1 hF1 hg;obtain⟨iM,o1,o2,o3,o4⟩:=zr0 (P:=P) (w:=w.drew) (C:=C) hH.drew h1 hold;obtain⟨nc,c1,c2⟩:=qj4 (P:=P) (w:=w) (ty:=o.type) (k2:=k2) ht hu a1 a2 a5 z2 a4 (some ⟨loc.blk,loc.base+i,none⟩) len C m1 m2 o4 hC g1 g2;obtain⟨ι',d1,d2,d3⟩:=qtu hap hH1 o1 o2 x1 x2 (by rw[o3,x3,Nat.add_mul]) hg nc c1 a5 w.drew rfl;exact⟨_,_,_,ι',run _ _ _ hxC c2,.inl rfl,d1,d2,hF1.trans d3⟩
         cases ex with
         |true=>simp only[cond_true]at hv;exact grown cap hin (by simpa using h2) H hH (Fr.refl _ _ _) hv
         |false=>
          simp only[cond_false]at hv;cases hend:qg1 (H.get b) (i+cap*ap.z) ap.z with
          |false=>rw[hend]at hv;cases hv
          |true=>
           rw[hend]at hv;simp only[cond_true]at hv;simp only[Bool.false_eq_true,if_false]at h2;by_cases hfit:len+m<=cap+loc.ext
           ·obtain⟨w',ι',q1,q2,q3,q4⟩:=zfv (P:=P) (x:=⟨m,bE ap.zl m⟩) hH h1 hend hold x1 x2 x3 hlc hin hfit hv;have r:=qhb (P:=P) (ty:=o.type) (k2:=k2) ht hu a1 a2 a5 z2 a4 (some ⟨loc.blk,loc.base+i,none⟩) len (cap+loc.ext) m1 m2 hfit (w':=w')
             (fun ad h=>by cases h;rw[addr_add];exact q1) (fun h=>by cases h)
            exact⟨_,_,w',ι',run _ _ _ h2 r,.inl rfl,q2,q3,q4⟩
           ·have hwr:(H.get b).wr=true:=by
             unfold qg1 at hend;split at hend
             ·rename_i hg;rw[hg];rfl
             ·cases hend
            obtain⟨k1,k2⟩:=hH.kill (hH.lt h1) hwr;exact grown _ hfit h2 _ k1 k2 hv
     ·cases hv
  ·cases hs
def Post(ι:Im)(H:Hp)(w:World)(v:AV)(H':Hp):Ending->World->Prop
 | .returned V,w'=>∃ ι',aL ι' v V/\HR ι' H' w'/\Fr ι ι' H H' w w'
 |_,_=>False
structure zJ(P:Program)(call:Call):Prop where
 fn:∀ f args H v H',call (.f f) args H=.ok v H'->∀ ι w bC,HR ι H w->aI ι args bC ->
  (callFunc f bC.toArray).run P w=.ok (.enter f bC.toArray) w/\∀ m,CallsIn Fence.wide m P f bC.toArray w (Post ι H w v H')
 yd:∀ b args H v H',call (.y b) args H=.ok v H'->∀ ι w bC loc,HR ι H w->aI ι args bC->ι b=some loc ->
  ∃f tmps assign body,(Instr.yield loc.blk bC.toArray).run P w=.ok (.round loc.blk f tmps assign body) w /\
   ∀m,RoundIn Fence.wide m P loc.blk f tmps assign body w (Post ι H w v H')
 df:∀ f args H v H',call (.d f) args H=.ok v H'->∀ ι w bC,HR ι H w->aI ι args bC ->
  (callFunc f bC.toArray).run P w=.ok (.enter f bC.toArray) w/\∀ m,CallsDIn Fence.wide m P f bC.toArray .returning w (fun e u' w'=>u'=.returning/\Post ι H w v H' e w')
structure Fence.dL(F:Fence):Prop where
 eq:∃ r,F={Fence.wide with round:=r}
theorem Fence.xC:Fence.dL Fence.wide:=⟨none,rfl⟩
theorem Fence.mW(l:Nat):Fence.dL (Fence.wide.inRound l):=⟨some l,rfl⟩
theorem Fence.dL.fn{F:Fence}(h:Fence.dL F)(f:FuncId):F.fn f:=by obtain⟨r,rfl⟩:=h;trivial
theorem Fence.dL.depth{F:Fence}(h:Fence.dL F):F.depth=none:=by obtain⟨r,rfl⟩:=h;rfl
theorem Fence.dL.calls{F:Fence}(h:Fence.dL F){m:Nat}{f:FuncId}{args:Array Value}{R:Ending->World->Prop}(k:CallsIn Fence.wide m P f args w R):CallsIn F m P f args w R:=by obtain⟨r,rfl⟩:=h;exact k
theorem Fence.dL.round{F:Fence}(h:Fence.dL F){m l:Nat}{f:FuncId}{tmps:Array Value}{assign body:Code}{R:Ending->World->Prop}(k:RoundIn Fence.wide m P l f tmps assign body w R):RoundIn F m P l f tmps assign body w R:=by obtain⟨r,rfl⟩:=h;exact k
theorem qcq{F:Fence}{ρ:Operand->Value}(h:∀ c,o.op≠ .defer c):o.semAt F.round ρ=execOp ρ o:=by
 cases F.round with
 |none=>exact Oper.semAt_none ..
 |some l=>exact Oper.semAt_some l ρ o h
def Nx(ι:Im)(H:Hp)(w:World)(a:Act)(o:Oper)(v:AV)(H':Hp)(next:Act->World->Prop):Prop:=
 ∀V w' ι',aL ι' v V->HR ι' H' w'->Fr ι ι' H H' w w'->next (a.put o.dst V) w'
theorem qcy{F:Fence}(hF:Fence.dL F)(hd:∀ c,o.op≠ .defer c){v:AV}{H':Hp}(h:rH P o a.eval ι H w (.ok v H')){m:Nat}{next:Act->World->Prop}{Q:Exit->Act->World->Prop}(hn:Nx ι H w a o v H' next):o.wpIn F m P a w next Q:=by
 obtain⟨N,V,w',ι',h1,h2,h3,h4,h5⟩:=h;refine⟨fun f _=>hF.fn f,?_⟩;rw[qcq hd,h1];rcases h2 with rfl|⟨rfl,rfl⟩
 ·exact hn _ _ _ h3 h4 h5
 ·exact hn _ _ _ h3 h4 h5
theorem qv0{v:AV}{H':Hp}{next:Act->World->Prop}{Q:Exit->Act->World->Prop}(hn:Nx ι H w a o v H' next):∀e w',Post ι H w v H' e w'->(match e,w' with
   | .returned v,w''=>next (a.put o.dst v) w''
   | .panicked chain,w''=>Q (.panic chain) a w''
   | .outgrown,_=>LetsOut Q):=by
 intro e w' h;cases e with
 |returned V=>obtain⟨ι',h1,h2,h3⟩:=h;exact hn _ _ _ h1 h2 h3
 |panicked=>exact h.elim
 |outgrown=>exact h.elim
theorem zd7{F:Fence}(hF:Fence.dL F){c:Go.Call}(ho:o.op=.call c){x:Operand}(hc:c.callee=.value x){call:Call}(hC:zJ P call)(hH:HR ι H w){fv:AV}(hx:aL ι fv (a.eval x)){args:List AV}(ha:aI ι args (c.args.toList.map a.eval)){v:AV}{H':Hp}(h:sD call fv args H=.ok v H'){m:Nat}{next:Act->World->Prop}{Q:Exit->Act->World->Prop}(hn:Nx ι H w a o v H' next):o.wpIn F m P a w next Q:=by
 refine⟨fun f _=>hF.fn f,?_⟩;rw[qcq (by intro c';rw[ho];exact fun h=>by cases h)];have hargs:c.args.map a.eval=(c.args.toList.map a.eval).toArray:=by rw[<-Array.toList_map]
 unfold sD at h;split at h
 ·rename_i g first cap
  obtain⟨A,C,h1,h2,h3⟩:=hx;obtain⟨c1,c2⟩:=hC.fn _ _ _ _ _ h ι w (A++c.args.toList.map a.eval++C) hH ((h1.append ha).append h2);have:(execOp a.eval o).run P w=.ok (.enter g (A++c.args.toList.map a.eval++C).toArray) w:=by simp only[execOp,ho,resolve,hc,h3,Deferred.ofValue,hargs];simpa [invoke] using c1
  rw[this];exact⟨by simp[hF.depth],CallsIn.mono (hF.calls (c2 _)) (qv0 hn)⟩
 ·rename_i b;obtain⟨loc,h1,h3⟩:=hx;obtain⟨f,tmps,assign,body,c1,c2⟩:=hC.yd _ _ _ _ _ h ι w _ loc hH ha h1;have:(execOp a.eval o).run P w=.ok (.round loc.blk f tmps assign body) w:=by
   simp only[execOp,ho,resolve,hc,h3,Deferred.ofValue,hargs];simpa [invoke] using c1
  rw[this];exact⟨by simp[hF.depth],RoundIn.mono (hF.round (c2 _)) (qv0 hn)⟩
 ·cases h
end Go.Ev
end
section
namespace Go.Ev
open Go.RowKit
variable {P:Program} {w:World} {ι:Im} {o:Oper} {a:Act} {d n:Nat} {L:TT AV d} {H:Hp} {call:Call} {F:Fence} {m:Nat} {next:Act->World->Prop} {Q:Exit->Act->World->Prop}
theorem z19{args:List Operand}{ts:List TypeId}(ho:o.op=.call {callee:=.builtin .append,args:=args.toArray,argTypes:=ts.toArray}){f:Call->TT AV d->Hp->R1}(hf:xV P d n args ts=.e f)(hH:HR ι H w)(h:LR ι d n L a.tmps):rH P o a.eval ι H w (f call L H):=by
 unfold xV at hf;split at hf
 ·split at hf
  ·rename_i e1;split at hf
   ·rename_i e2 e3;cases hf;exact z1p ho e1 e3 e2 hH h
   ·rename_i e2 e3;cases hf;exact q5q ho e1 e3 (.inr ⟨_,rfl⟩) e2 hH h
   ·rename_i e2 e3;cases hf;exact q5q ho e1 e3 (.inl rfl) e2 hH h
   ·cases hf;trivial
  ·cases hf;trivial
 ·cases hf;trivial
theorem zxx{args:List Operand}{ts:List TypeId}(ho:o.op=.call {callee:=.builtin .copy,args:=args.toArray,argTypes:=ts.toArray}){f:Call->TT AV d->Hp->R1}(hf:q1q P d n args ts=.e f)(hH:HR ι H w)(h:LR ι d n L a.tmps):rH P o a.eval ι H w (f call L H):=by
 unfold q1q at hf;split at hf
 ·split at hf
  ·rename_i e1;split at hf
   ·rename_i e2;cases hf;exact z1o ho e1 e2 hH h
   ·cases hf;trivial
  ·cases hf;trivial
 ·cases hf;trivial
theorem z1u{args:List Operand}{ts:List TypeId}(ho:o.op=.call {callee:=.builtin .delete,args:=args.toArray,argTypes:=ts.toArray}){f:Call->TT AV d->Hp->R1}(hf:yD P d n args ts=.e f)(hH:HR ι H w)(h:LR ι d n L a.tmps):rH P o a.eval ι H w (f call L H):=by
 unfold yD at hf;split at hf
 ·split at hf
  ·rename_i e1;split at hf
   ·rename_i e2;cases hf;exact aMj ho (by simp) e1 e2 hH h
   ·cases hf;trivial
  ·cases hf;trivial
 ·cases hf;trivial
theorem z1x{args:List Operand}{ts:List TypeId}(ho:o.op=.call {callee:=.builtin .clear,args:=args.toArray,argTypes:=ts.toArray}){f:Call->TT AV d->Hp->R1}(hf:yB P d n args ts=.e f)(hH:HR ι H w)(h:LR ι d n L a.tmps):rH P o a.eval ι H w (f call L H):=by
 unfold yB at hf;split at hf
 ·split at hf
  ·rename_i e1;split at hf
   ·rename_i e2;cases hf;exact zht ho e1 e2 hH h
   ·cases hf;trivial
  ·rename_i e1;cases hf;exact zo0 ho e1 hH h
  ·cases hf;trivial
 ·cases hf;trivial
theorem z0w{args:List Operand}{ts:List TypeId}{f:Call->TT AV d->Hp->R1}(hf:sH P d n args ts=.e f):f call L H=.bad:=by
 unfold sH at hf;split at hf
 ·split at hf
  ·cases hf
  ·split at hf<;>cases hf;rfl
  ·cases hf
  ·cases hf
  ·cases hf
  ·cases hf;rfl
 ·cases hf;rfl
theorem z10{args:List Operand}{ts:List TypeId}{f:Call->TT AV d->Hp->R1}(hf:xW P d n args ts=.e f):f call L H=.bad:=by
 unfold xW at hf;split at hf
 ·split at hf
  ·cases hf
  ·cases hf
  ·cases hf;rfl
 ·cases hf;rfl
theorem z0i{args:List Operand}{f:Call->TT AV d->Hp->R1}(hf:xO d n args=.e f):f call L H=.bad:=by
 unfold xO at hf;split at hf
 ·cases hf
 ·cases hf;rfl
theorem z0k{args:List Operand}{f:Call->TT AV d->Hp->R1}(hf:xY d n args=.e f):f call L H=.bad:=by
 unfold xY at hf;split at hf
 ·cases hf
 ·cases hf;rfl
theorem q73{b:Builtin}{args:Array Operand}{ts:Array TypeId}(ho:o.op=.call {callee:=.builtin b,args,argTypes:=ts}){f:Call->TT AV d->Hp->R1}(hf:qd6 P d n b args.toList ts.toList=.e f)(hH:HR ι H w)(h:LR ι d n L a.tmps):rH P o a.eval ι H w (f call L H):=by
 unfold qd6 at hf;split at hf
 ·rw[z0w hf];trivial
 ·rw[z10 hf];trivial
 ·rw[z0i hf];trivial
 ·rw[z0k hf];trivial
 ·exact z19 (by simpa using ho) hf hH h
 ·exact zxx (by simpa using ho) hf hH h
 ·exact z1u (by simpa using ho) hf hH h
 ·exact z1x (by simpa using ho) hf hH h
 ·cases hf;trivial
theorem zz6{f:Call->TT AV d->Hp->R1}(hf:gV P d n o=.e f)(hC:zJ P call)(hF:Fence.dL F)(hH:HR ι H w)(h:LR ι d n L a.tmps){v:AV}{H':Hp}(he:f call L H=.ok v H')(hn:Nx ι H w a o v H' next):o.wpIn F m P a w next Q:=by
 have bad:dX d=.e f->False:=fun e=>by cases e;cases he
 unfold gV at hf;split at hf
 ·cases hf
 ·cases hf
 ·cases hf
 ·unfold q39 at hf;split at hf
  ·cases hf
  ·exact(bad hf).elim
 ·unfold aAX at hf;split at hf
  ·cases hf
  ·cases hf
  ·exact(bad hf).elim
 ·unfold q38 at hf;split at hf
  ·split at hf
   ·split at hf
    ·cases hf
    ·exact(bad hf).elim
   ·exact(bad hf).elim
  ·split at hf
   ·split at hf
    ·cases hf
    ·exact(bad hf).elim
   ·exact(bad hf).elim
  ·exact(bad hf).elim
 ·unfold qez at hf;split at hf
  ·split at hf
   ·rename_i s z e2 e3;cases hc:(Nat.ble (_*s) 65536&&Nat.beq z.length s)with
    |false=>rw[hc]at hf;exact(bad hf).elim
    |true=>
     rw[hc]at hf;simp only[cond_true]at hf;split at hf
     ·cases hf
     ·exact(bad hf).elim
   ·exact(bad hf).elim
  ·exact(bad hf).elim
 ·unfold ze3 at hf;split at hf
  ·cases hf
  ·cases hf
  ·exact(bad hf).elim
 ·rename_i ho;refine qcy hF (by intro c;rw[ho];exact fun h=>by cases h) ?_ hn;unfold qvl at hf;split at hf
  ·rename_i e1 e2 e3 e4;cases hf;have:=zoy (P:=P) ho e2 hH h;rw[e3,e4]at this;rw[<-he];exact this
  ·rename_i e1 e2 e3 e4;cases hf;have:=zoz (P:=P) ho e2 hH h;rw[e3,e4]at this;rw[<-he];exact this
  ·exact(bad hf).elim
 ·cases hf
 ·cases hf
 ·cases hf
 ·unfold qks at hf;split at hf
  ·cases hf
  ·cases hf
  ·split at hf
   ·cases hf
   ·exact(bad hf).elim
  ·split at hf
   ·split at hf
    ·cases hf
    ·exact(bad hf).elim
   ·exact(bad hf).elim
  ·exact(bad hf).elim
 ·unfold qcu at hf;split at hf
  ·exact(bad hf).elim
  ·cases hf
  ·exact(bad hf).elim
 ·cases hf
 ·cases hf
 ·unfold qgc at hf;split at hf
  ·split at hf
   ·rename_i z w' s e4 e5 e6;cases hc:Nat.beq z.length s with
    |false=>rw[hc]at hf;exact(bad hf).elim
    |true=>rw[hc]at hf;cases hf
   ·exact(bad hf).elim
  ·exact(bad hf).elim
 ·unfold q34 at hf;split at hf
  ·split at hf
   ·cases hf
   ·exact(bad hf).elim
  ·split at hf
   ·cases hf
   ·exact(bad hf).elim
  ·split at hf
   ·cases hf
   ·exact(bad hf).elim
  ·split at hf
   ·split at hf
    ·cases hf
    ·exact(bad hf).elim
   ·exact(bad hf).elim
  ·exact(bad hf).elim
 ·unfold qel at hf;split at hf
  ·split at hf
   ·split at hf
    ·cases hf
    ·exact(bad hf).elim
   ·exact(bad hf).elim
  ·exact(bad hf).elim
 ·unfold qvo at hf;split at hf
  ·split at hf
   ·cases hf
   ·exact(bad hf).elim
  ·exact(bad hf).elim
 ·unfold qek at hf;split at hf
  ·split at hf
   ·cases hf
   ·exact(bad hf).elim
  ·split at hf
   ·cases hf
   ·exact(bad hf).elim
  ·exact(bad hf).elim
 ·unfold qvn at hf;split at hf
  ·cases hf
  ·split at hf
   ·cases hf
   ·exact(bad hf).elim
  ·exact(bad hf).elim
 ·unfold qsw at hf;split at hf
  ·split at hf
   ·cases hf
   ·exact(bad hf).elim
  ·exact(bad hf).elim
 ·rename_i ho;refine qcy hF (by intro c;rw[ho];exact fun h=>by cases h) ?_ hn;unfold qdi at hf;split at hf
  ·rename_i e1 e2 e3 e4;split at hf
   ·rename_i e5;cases hf;have:=z1m (P:=P) (.inl ho) e1 e5 hH h;rw[e2,e3,e4]at this;rw[<-he];exact this
   ·exact(bad hf).elim
  ·exact(bad hf).elim
 ·rename_i ho;refine qcy hF (by intro c;rw[ho];exact fun h=>by cases h) ?_ hn;unfold qdi at hf;split at hf
  ·rename_i e1 e2 e3 e4;split at hf
   ·rename_i e5;cases hf;have:=z1m (P:=P) (.inr ho) e1 e5 hH h;rw[e2,e3,e4]at this;rw[<-he];exact this
   ·exact(bad hf).elim
  ·exact(bad hf).elim
 ·rename_i ho;refine qcy hF (by intro c;rw[ho];exact fun h=>by cases h) ?_ hn;unfold qh1 at hf;split at hf
  ·rename_i e1 e2 e3;split at hf
   ·rename_i e5 e6;cases hf;have:=zxp (P:=P) ho e1 e5 e6 hH h;rw[e2,e3]at this;rw[<-he];exact this
   ·exact(bad hf).elim
  ·exact(bad hf).elim
 ·rename_i ho;refine qcy hF (by intro c;rw[ho];exact fun h=>by cases h) ?_ hn;cases hf;rw[<-he];exact zhs ho hH h
 ·cases hf
 ·rename_i ho;refine qcy hF (by intro c;rw[ho];exact fun h=>by cases h) ?_ hn;unfold q35 at hf;split at hf
  ·rename_i e1 e2;cases hf;have:=zxo (P:=P) ho e1 hH h;rw[e2]at this;rw[<-he];exact this
  ·exact(bad hf).elim
 ·rename_i ho;refine qcy hF (by intro c;rw[ho];exact fun h=>by cases h) ?_ hn;unfold zm9 at hf;split at hf
  ·rename_i e2;cases hf;have:=z1n (P:=P) ho hH h;rw[e2]at this;rw[<-he];exact this
  ·exact(bad hf).elim
 ·cases hf
 ·rename_i ho;refine qcy hF (by intro c;rw[ho];exact fun h=>by cases h) ?_ hn;rw[<-he];exact q73 ho hf hH h
 ·rename_i g args ts ho;unfold q37 at hf;split at hf
  ·cases hf
  ·rename_i gg e1 e2;cases hf;have ha:=qcm h args.toList;rw[e1]at ha;refine zd7 hF ho rfl hC hH (fv:=.fn g [] []) ?_ ha ?_ hn
   ·simp only[aL,aI];exact⟨[],[],rfl,rfl,rfl⟩
   ·simpa [sD] using he
 ·rename_i x args ts _ ho;cases hf;exact zd7 hF ho rfl hC hH (dQ h x) (qcm h _) he hn
 ·exact(bad hf).elim
end Go.Ev
end
section
namespace Go.Ev
open Go.RowKit
variable {P:Program} {w:World} {ι:Im} {o:Oper} {a:Act} {d n:Nat} {L:TT AV d} {H:Hp} {call:Call} {F:Fence} {m:Nat} {K:Act->World->Prop} {Q:Exit->Act->World->Prop} {ops:Array Oper}
theorem qhc(h:LR ι d n L a.tmps)(t:Option Tmp){v:AV}{V:Value}(hv:aL ι v V):LR ι d n ((dR d n t).f L v) (a.put t V).tmps:=by
 cases t with
 |none=>exact h
 |some t=>
  unfold dR;simp only[Act.put];cases hb:Nat.blt t n with
  |true=>simp only[cond_true];exact h.set (sF hb) hv
  |false=>rw[Array.setIfInBounds_eq_of_size_le (by rw[h.size];exact Nat.le_of_not_lt (q76 hb))];exact h
theorem put_defers(a:Act)(t:Option Tmp)(V:Value):(a.put t V).defers=a.defers:=by cases t<;>rfl
theorem qhv(h:LR ι d n L a.tmps){b:Bool}(hw:(qW d n ops o).f L=some b):Region.wanted o (yielded ops a.tmps)=b:=by
 unfold qW at hw;unfold Region.wanted;split at hw
 ·rename_i hg;rw[hg];simpa using hw
 ·rename_i j want hg;rw[hg];simp only;split at hw
  ·rename_i t ht;cases hb:Nat.blt t n with
   |false=>rw[hb]at hw;cases hw
   |true=>
    rw[hb]at hw;simp only[cond_true]at hw;have hlt:=sF hb;have hr:=h.get t hlt;have hy:yielded ops a.tmps j=(match a.tmps[t]? with|some (.bool b)=>some b|_=>none):=by unfold yielded;rw[ht];rfl
    have hsz:t<a.tmps.size:=by rw[h.size];exact hlt
    rw[hy];rw[Array.getD_eq_getD_getElem?,Array.getElem?_eq_getElem hsz]at hr;rw[Array.getElem?_eq_getElem hsz];simp only[Option.getD_some]at hr;split at hw
    ·rename_i b' hb';rw[hb']at hr;rw[hr];simp only[Option.some.injEq]at hw;rw[<-hw];cases b'<;>cases want<;>rfl
    ·rename_i hb';rw[hb']at hr;rw[hr];simp only[Option.some.injEq]at hw;rw[<-hw];cases want<;>rfl
    ·cases hw
  ·cases hw
def Then(ι:Im)(H:Hp)(w:World)(a:Act)(d n:Nat)(L':TT AV d)(H':Hp)(K:Act->World->Prop):Prop:=
 ∀a' w' ι',LR ι' d n L' a'.tmps->a'.defers=a.defers->HR ι' H' w'->Fr ι ι' H H' w w'->K a' w'
theorem aI0{lk:Bool}{f:Nat->TT AV d->Hp->R0}(hf:gV P d n o=.q lk f)(hF:Fence.dL F)(hH:HR ι H w)(h:LR ι d n L a.tmps){put:TT AV d->AV->TT AV d}(hp:dR d n o.dst=⟨put⟩){L':TT AV d}{H':Hp}(he:doQ put L H (f H.nx L H)=.ok L' H')(hK:Then ι H w a d n L' H' K):o.wpIn F m P a w K Q:=by
 have hq:=zwo (nm:=H.nx) hf hH h;have hnd:∀ c,o.op≠ .defer c:=fun c hc=>by unfold gV at hf;rw[hc]at hf;cases hf
 have hput:∀{ι':Im} (_:ι.le ι') {v:AV} {V:Value},aL ι' v V->LR ι' d n (put L v) (a.put o.dst V).tmps:=fun hle v V hv=>by have:=qhc (a:=a) (h.mono hle) o.dst hv;simp_all
 refine⟨fun f _=>hF.fn f,?_⟩;rw[qcq hnd];unfold doQ at he;split at he
 ·cases he
 ·rename_i v hr;rw[hr]at hq;obtain⟨V,h1,h2⟩:=hq;rw[h1];cases he;exact hK _ _ ι (hput (Im.le_refl _) h2) (put_defers ..) hH (Fr.refl ..)
 ·rename_i v b hr;rw[hr]at hq
  ·
   cases he;obtain⟨V,w',l,h1,h2,h3⟩:=hq;rw[h1];have hnx:gY (H.nx):=oG;obtain⟨h4,h5⟩:=h3 (ι.set H.nx l) (Im.iU l (hH.fresh _ (Nat.le_refl _))) (Im.bD ..);obtain⟨k1,k2⟩:=hH.push hnx l b h2.os h2.tape h2.output (by rw[h2.size];exact Nat.lt_succ_self _) h2.keep h2.blk h5;exact hK _ _ _ (hput (Im.iU l (hH.fresh _ (Nat.le_refl _))) h4) (put_defers ..) k1 k2
theorem zmx(hC:zJ P call)(hF:Fence.dL F)(hH:HR ι H w)(h:LR ι d n L a.tmps){L':TT AV d}{H':Hp}(he:(vV P d n ops o).f call L H=.ok L' H')(hK:Then ι H w a d n L' H' K):if Region.wanted o (yielded ops a.tmps)then o.wpIn F m P a w K Q else(∀f,o.about P w a.eval=some f->F.fn f)/\K (a.put o.dst Go.undef) w:=by
 have hput:∀{put:TT AV d->AV->TT AV d} (_:dR d n o.dst=⟨put⟩) {ι':Im} (_:ι.le ι') {v:AV} {V:Value},aL ι' v V->LR ι' d n (put L v) (a.put o.dst V).tmps:=fun hp ι' hle v V hv=>by have:=qhc (a:=a) (h.mono hle) o.dst hv;simp_all
 have aD3:∀{put:TT AV d->AV->TT AV d} (_:dR d n o.dst=⟨put⟩),L'=put L .undef->H'=H->K (a.put o.dst Go.undef) w:=fun hp h1 h2=>by subst h1;subst h2;exact hK _ _ ι (hput hp (Im.le_refl _) (by simp only[aL];rfl)) (put_defers ..) hH (Fr.refl ..)
 have heff:∀{put:TT AV d->AV->TT AV d} (_:dR d n o.dst=⟨put⟩) {f:Call->TT AV d->Hp->R1} (_:gV P d n o=.e f),doE put L (f call L H)=.ok L' H'->o.wpIn F m P a w K Q:=fun hp f hf hd=>by
  unfold doE at hd;split at hd
  ·cases hd
  ·rename_i v H1 hr;cases hd;exact zz6 hf hC hF hH h hr fun V w' ι' r1 r2 r3=>hK _ _ ι' (hput hp r3.le r1) (put_defers ..) r2 r3
 unfold vV at he;split at he
 ·rename_i f put hf hg hp;simp only[Region.wanted,hg,if_true];exact aI0 hf hF hH h hp he hK
 ·rename_i f put hf hg hp;simp only[Region.wanted,hg,if_true];simp_all
 ·rename_i f _ wf put hf hg hw hp;simp only[ifW]at he;split at he
  ·rename_i hwt;rw[qhv (o:=o) (ops:=ops) h (by rw[hw];exact hwt),if_pos rfl];exact aI0 hf hF hH h hp he hK
  ·rename_i hwt;rw[qhv (o:=o) (ops:=ops) h (by rw[hw];exact hwt)];cases he;exact⟨fun f _=>hF.fn f,aD3 hp rfl rfl⟩
  ·cases he
 ·rename_i f _ wf put hf hg hw hp;simp only[ifW]at he;split at he
  ·rename_i hwt;rw[qhv (o:=o) (ops:=ops) h (by rw[hw];exact hwt),if_pos rfl];simp_all
  ·rename_i hwt;rw[qhv (o:=o) (ops:=ops) h (by rw[hw];exact hwt)];cases he;exact⟨fun f _=>hF.fn f,aD3 hp rfl rfl⟩
  ·cases he
end Go.Ev
end
section
namespace Go.Ev
open Go.RowKit
/- bits -/
theorem qm7(m i:Nat):hasB m i=m.testBit i:=by unfold hasB Nat.testBit;rw[show Nat.land (Nat.shiftRight m i) 1=(m >>> i) &&& 1 from rfl,Nat.and_comm 1,Nat.and_one_is_mod];rcases Nat.mod_two_eq_zero_or_one (m >>> i)with h|h<;>rw[h]<;>rfl
theorem qts(a b i:Nat):hasB (Nat.lor a b) i=(hasB a i||hasB b i):=by simp only[qm7];exact Nat.testBit_or a b i
theorem qfy(m j i:Nat):hasB (rF m j) i=(hasB m i||decide (j=i)):=by unfold rF;rw[qts];congr 1;rw[qm7,show Nat.shiftLeft 1 j=1 <<< j from rfl,Nat.one_shiftLeft,Nat.testBit_two_pow]
theorem qwn(i:Nat):hasB 0 i=false:=by rw[qm7];exact Nat.zero_testBit i
theorem zmv{m k:Nat}(h:aAr m k=true){i:Nat}(hi:hasB m i=true):hasB k i=true:=by have:=Nat.eq_of_beq_eq_true h;rw[<-this,qts,hi];rfl
/- masks -/
theorem qj9(l:List Oper):∀ ms i,i<ms.length->(wU ms l).getD i 0=ms.getD i 0:=by
 induction l with
 |nil=>intro ms i _;rfl
 |cons o r ih=>intro ms i hi;rw[wU,ih _ _ (by simp;omega),List.getD_eq_getElem?_getD,List.getD_eq_getElem?_getD,List.getElem?_append_left hi]
theorem qgz{ms ms':List Nat}:∀(l:List Nat) (s:Nat),(∀j∈l,ms.getD j 0=ms'.getD j 0) -> l.foldl (fun s j=>Nat.lor (rF s j) (ms.getD j 0)) s=l.foldl (fun s j=>Nat.lor (rF s j) (ms'.getD j 0)) s
 | [],_,_=>rfl
 |j::l,s,h=>by simp only[List.foldl_cons];rw[h j (by simp)];exact qgz l _ fun x hx=>h x (by simp[hx])
theorem qwf(l:List Oper):∀ ms i o,l[i]? =some o->(∀j∈tV o,j<ms.length+i)->(wU ms l).getD (ms.length+i) 0=qqb (wU ms l) o:=by
 induction l with
 |nil=>intro ms i o h;simp at h
 |cons o' r ih=>
  intro ms i o h hj;rw[wU];cases i with
  |zero=>simp at h;subst h;rw[Nat.add_zero,qj9 _ _ _ (by simp)];simp only[List.getD_eq_getElem?_getD,List.getElem?_concat_length,Option.getD_some];refine qgz _ _ fun j hj'=>?_;have:=hj j hj';rw[qj9 _ _ _ (by simp;omega),List.getD_eq_getElem?_getD,List.getD_eq_getElem?_getD,List.getElem?_append_left this]
  |succ i=>have:=ih (ms++[qqb ms o']) i o h (fun j hj'=>by have:=hj j hj';simp;omega);rw[show(ms++[qqb ms o']).length+i=ms.length+(i+1)by simp;omega]at this;exact this
theorem qwo(ms:List Nat)(k:Nat):∀(l:List Nat) (s:Nat),hasB (l.foldl (fun s j=>Nat.lor (rF s j) (ms.getD j 0)) s) k=true↔hasB s k=true\/∃ j∈l,k=j\/hasB (ms.getD j 0) k=true
 | [],s=>by simp
 |j::l,s=>by
  rw[List.foldl_cons,qwo ms k l,qts,qfy];simp only[Bool.or_eq_true,decide_eq_true_eq,List.mem_cons,exists_eq_or_imp];constructor
  ·rintro (((h|h)|h)|h)
   ·exact .inl h
   ·omega
   ·simp_all
   ·simp_all
  ·rintro (h|(h|h)|h)
   ·simp_all
   ·omega
   ·simp_all
   ·exact .inr h
theorem q1b(ms:List Nat)(o:Oper)(k:Nat):hasB (qqb ms o) k=true↔∃ j∈tV o,k=j\/hasB (ms.getD j 0) k=true:=by unfold qqb;rw[qwo,qwn];simp
theorem qxa:∀(l:List Oper) (k:Nat),qqq k l=true->∀ i o,l[i]? =some o->∀ j∈tV o,j<k+i
 | [],_,_,i,o,h,j,hj=>by simp at h
 |o'::r,k,hb,i,o,h,j,hj=>by
  simp only[qqq,Bool.and_eq_true,List.all_eq_true]at hb;cases i with
  |zero=>simp at h;subst h;exact Nat.le_of_ble_eq_true (hb.1 j hj)
  |succ i=>simp at h;have:=qxa r (k+1) hb.2 i o h j hj;omega
structure y8(ops:Array Oper)(ms:List Nat):Prop where
 back:∀ i o,ops[i]? =some o->∀ j∈tV o,j<i
 mask:∀ i o k,ops[i]? =some o->(hasB (ms.getD i 0) k=true↔∃ j∈tV o,k=j\/hasB (ms.getD j 0) k=true)
 tmps:∀ i k o' o t,ops[i]? =some o'->ops[k]? =some o->o'.dst=some t->i=k\/hasB (ms.getD k 0) i=true\/hasB (ms.getD i 0) k=true\/(t∉kL ops o/\o.dst≠some t)
theorem y8.of{ops:Array Oper}(h1:qqq 0 ops.toList=true)(h2:q3m ops (wU [] ops.toList)=true):y8 ops (wU [] ops.toList):=by
 have hb:∀ i o,ops[i]? =some o->∀ j∈tV o,j<i:=fun i o h j hj=>by have:=qxa ops.toList 0 h1 i o (by simpa using h) j hj;omega
 refine⟨hb,fun i o k h=>?_,fun i k o' o t hi hk ht=>?_⟩
 ·have:=qwf ops.toList [] i o (by simpa using h) (fun j hj=>by have:=hb i o h j hj;simpa using this);simp only[List.length_nil,Nat.zero_add]at this;rw[this,q1b]
 ·unfold q3m at h2;rw[List.all_eq_true]at h2;have hlk:k<ops.size:=(Array.getElem?_eq_some_iff.1 hk).1;have hli:i<ops.size:=(Array.getElem?_eq_some_iff.1 hi).1;have h3:=h2 k (List.mem_range.2 hlk);rw[hk]at h3;simp only[List.all_eq_true]at h3;have h4:=h3 i (List.mem_range.2 hli);rw[hi]at h4;simp only[ht,Bool.or_eq_true,Bool.not_eq_true',Bool.or_eq_false_iff]at h4;rcases h4 with((h4|h4)|h4)|h4
  ·simp_all
  ·simp_all
  ·simp_all
  ·simp_all
variable {ops:Array Oper} {ms:List Nat}
theorem y8.ex(h:y8 ops ms){i j:Nat}{o:Oper}(ho:ops[i]? =some o)(hj:j∈tV o):∃ o',ops[j]? =some o':=by have h1:=h.back i o ho j hj;have h2:i<ops.size:=(Array.getElem?_eq_some_iff.1 ho).1;exact⟨ops[j]'(by omega),Array.getElem?_eq_getElem (by omega)⟩
theorem y8.aEO(h:y8 ops ms):∀ i o k,ops[i]? =some o->hasB (ms.getD i 0) k=true->k<i:=by
 intro i
 induction i using Nat.strongRecOn with
 |ind i ih=>
  intro o k ho hk;obtain⟨j,hj,h1⟩:=(h.mask i o k ho).1 hk;have hlt:=h.back i o ho j hj;rcases h1 with rfl|h1
  ·exact hlt
  ·obtain⟨o',ho'⟩:=h.ex ho hj;exact Nat.lt_trans (ih j hlt o' k ho' h1) hlt
def Shut(ops:Array Oper)(S:Nat->Prop):Prop:=∀ i o,ops[i]? =some o->S i->∀ j∈tV o,S j
theorem y8.tT(h:y8 ops ms){S:Nat->Prop}(hS:Shut ops S):∀ i o k,ops[i]? =some o->(∀j∈tV o,S j)->hasB (ms.getD i 0) k=true->S k:=by
 intro i
 induction i using Nat.strongRecOn with
 |ind i ih=>
  intro o k ho hc hk;obtain⟨j,hj,h1⟩:=(h.mask i o k ho).1 hk;have hlt:=h.back i o ho j hj;rcases h1 with rfl|h1
  ·exact hc _ hj
  ·obtain⟨o',ho'⟩:=h.ex ho hj;exact ih j hlt o' k ho' (hS j o' ho' (hc j hj)) h1
theorem y8.qI(h:y8 ops ms){S:Nat->Prop}(hS:Shut ops S){i:Nat}{o:Oper}{k:Nat}(ho:ops[i]? =some o)(hi:S i)(hk:hasB (ms.getD i 0) k=true):S k:=
 h.tT hS i o k ho (hS i o ho hi) hk
/- projections -/
theorem qml{d n:Nat}{L L':TT AV d}:∀(ts:List Tmp),(∀t∈ts,t<n->(dG d t).f L=(dG d t).f L')->(lX d n ts).f L=(lX d n ts).f L'
 | [],_=>rfl
 |t::r,h=>by
  unfold lX;have ih:=qml r fun x hx=>h x (by simp[hx]);cases hb:Nat.blt t n with
  |true=>simp_all
  |false=>simp only[cond_false];exact ih
theorem qvz{d n:Nat}(hn:n<=8 ^ d){L:TT AV d}{i:Nat}(hi:i<8 ^ d):∀(ts:List Tmp),(dG d i).f ((lX d n ts).f L)=if i∈ts/\i<n then(dG d i).f L else .undef
 | []=>by simp[lX,qgj]
 |t::r=>by
  unfold lX;have ih:=qvz (n:=n) hn (L:=L) hi r;cases hb:Nat.blt t n with
  |true=>
   simp only[cond_true];rw[qee _ _ _ _ _ hi (by have:=sF hb;omega)];by_cases e:i=t
   ·simp_all
   ·simp_all
  |false=>
   simp only[cond_false];rw[ih];have hb:=q76 hb;by_cases e:i=t
   ·subst e;simp[hb]
   ·simp[e]
def wT(ts:List Tmp)(tmps:Array Value):Array Value:=Array.ofFn (n:=tmps.size) fun i=>if i.1∈ts then tmps[i]else Go.undef
theorem qgh(ts:List Tmp)(tmps:Array Value):(wT ts tmps).size=tmps.size:=by simp[wT]
theorem qmk(ts:List Tmp)(tmps:Array Value)(i:Nat):(wT ts tmps).getD i Go.undef=if i∈ts then tmps.getD i Go.undef else Go.undef:=by
 simp only[wT,Array.getD_eq_getD_getElem?,Array.getElem?_ofFn];by_cases h:i<tmps.size
 ·simp_all
 ·rw[dif_neg h];simp[Array.getElem?_eq_none (Nat.le_of_not_lt h)]
theorem LR.proj{ι:Im}{d n:Nat}{L:TT AV d}{tmps:Array Value}(h:LR ι d n L tmps)(ts:List Tmp):LR ι d n ((lX d n ts).f L) (wT ts tmps):=by
 refine⟨by rw[qgh,h.size],h.fits,fun i hi=>?_⟩;rw[qvz h.fit (Nat.lt_of_lt_of_le hi h.fit),qmk];have hr:=h.get i hi;by_cases h1:i∈ts
 ·by_cases h2:i<n
  ·simp_all
  ·omega
 ·rw[if_neg (by simp[h1]),if_neg h1];simp only[aL];rfl
theorem zhi(a:Act)(ts:List Tmp)(x:Operand)(hx:∀ t,zy9 x=some t->t∈ts):({a with tmps:=wT ts a.tmps}:Act).eval x=a.eval x:=by
 cases x with
 |tmp t=>have:=hx t rfl;show(wT ts a.tmps).getD t Go.undef=a.tmps.getD t Go.undef;rw[qmk,if_pos this]
 |_=>rfl
theorem quv(a:Act)(o:Oper):Region.wanted o (yielded ops (wT (kL ops o) a.tmps))=Region.wanted o (yielded ops a.tmps):=by
 unfold Region.wanted;cases hg:o.guard with
 |none=>rfl
 |some gw=>
  obtain⟨g,want⟩:=gw;have hy:yielded ops (wT (kL ops o) a.tmps) g=yielded ops a.tmps g:=by
   unfold yielded;cases ht:(ops[g]?).bind (·.dst)with
   |none=>rfl
   |some t=>
    have hm:t∈kL ops o:=by simp[kL,hg,ht]
    show(match(wT (kL ops o) a.tmps)[t]? with|some (.bool b)=>some b|_=>none)=(match a.tmps[t]? with|some (.bool b)=>some b|_=>none);have h1:=qmk (kL ops o) a.tmps t;rw[if_pos hm]at h1;rw[Array.getD_eq_getD_getElem?,Array.getD_eq_getD_getElem?]at h1;by_cases hl:t<a.tmps.size
    ·rw[Array.getElem?_eq_getElem (by rw[qgh];exact hl),Array.getElem?_eq_getElem hl]at h1 ⊢;simp_all
    ·rw[Array.getElem?_eq_none (by rw[qgh];exact Nat.le_of_not_lt hl),Array.getElem?_eq_none (Nat.le_of_not_lt hl)]
  simp only[hy]
theorem qnc(a:Act)(o:Oper)(hs:∀ cs b,o.op≠ .select cs b):execOp ({a with tmps:=wT (kL ops o) a.tmps}:Act).eval o=execOp a.eval o:=
 execOp_congr o hs fun x hx=>zhi a _ x fun t ht=>by exact List.mem_append_left _ (List.mem_filterMap.2 ⟨x,by simpa using hx,ht⟩)
/- a quiet operation that does not look -/
theorem q09{P:Program}{d n:Nat}{args:List Operand}{ts:List TypeId}{f:Nat->TT AV d->Hp->R0}(hf:sH P d n args ts=.q false f)(nm:Nat)(L:TT AV d)(H H':Hp):f nm L H=f nm L H':=by
 unfold sH at hf;split at hf
 ·split at hf
  ·cases hf;rfl
  ·split at hf<;>cases hf;rfl
  ·cases hf;rfl
  ·cases hf;rfl
  ·cases hf
  ·cases hf
 ·cases hf
theorem qp5{P:Program}{d n:Nat}{o:Oper}{f:Nat->TT AV d->Hp->R0}(hf:gV P d n o=.q false f)(nm:Nat)(L:TT AV d)(H H':Hp):f nm L H=f nm L H':=by
 unfold gV at hf;split at hf
 all_goals first
  |(cases hf;done)
  |(cases hf;rfl)
  |(unfold q35 at hf;split at hf<;>(cases hf;done))
  |(unfold zm9 at hf;split at hf<;>(cases hf;done))
  |(unfold zrs at hf;cases hf;done)
  |(unfold zzk at hf;(repeat' split at hf)<;>first|(cases hf;done)|(cases hf;rfl))
  |(unfold zvz at hf;(repeat' split at hf)<;>first|(cases hf;done)|(cases hf;rfl))
  |(unfold q39 at hf;(repeat' split at hf)<;>first|(cases hf;done)|(cases hf;rfl))
  |(unfold aAX at hf;(repeat' split at hf)<;>first|(cases hf;done)|(cases hf;rfl))
  |(unfold q38 at hf;(repeat' split at hf)<;>first|(cases hf;done)|(cases hf;rfl))
  |(unfold qez at hf;simp only[Bool.cond_eq_ite]at hf;(repeat' split at hf)<;>first|(cases hf;done)|(cases hf;rfl))
  |(unfold ze3 at hf;(repeat' split at hf)<;>first|(cases hf;done)|(cases hf;rfl))
  |(unfold qvl at hf;(repeat' split at hf)<;>first|(cases hf;done)|(cases hf;rfl))
  |(unfold qmc at hf;(repeat' split at hf)<;>first|(cases hf;done)|(cases hf;rfl))
  |(unfold ze4 at hf;(repeat' split at hf)<;>first|(cases hf;done)|(cases hf;rfl))
  |(unfold zzi at hf;(repeat' split at hf)<;>first|(cases hf;done)|(cases hf;rfl))
  |(unfold qks at hf;(repeat' split at hf)<;>first|(cases hf;done)|(cases hf;rfl))
  |(unfold qcu at hf;(repeat' split at hf)<;>first|(cases hf;done)|(cases hf;rfl))
  |(unfold qvm at hf;(repeat' split at hf)<;>first|(cases hf;done)|(cases hf;rfl))
  |(unfold q36 at hf;(repeat' split at hf)<;>first|(cases hf;done)|(cases hf;rfl))
  |(unfold qgc at hf;simp only[Bool.cond_eq_ite]at hf;(repeat' split at hf)<;>first|(cases hf;done)|(cases hf;rfl))
  |(unfold q34 at hf;(repeat' split at hf)<;>first|(cases hf;done)|(cases hf;rfl))
  |(unfold qel at hf;(repeat' split at hf)<;>first|(cases hf;done)|(cases hf;rfl))
  |(unfold qvo at hf;(repeat' split at hf)<;>first|(cases hf;done)|(cases hf;rfl))
  |(unfold qek at hf;(repeat' split at hf)<;>first|(cases hf;done)|(cases hf;rfl))
  |(unfold qvn at hf;(repeat' split at hf)<;>first|(cases hf;done)|(cases hf;rfl))
  |(unfold qsw at hf;(repeat' split at hf)<;>first|(cases hf;done)|(cases hf;rfl))
  |(unfold qdi at hf;(repeat' split at hf)<;>first|(cases hf;done)|(cases hf;rfl))
  |(unfold qh1 at hf;(repeat' split at hf)<;>first|(cases hf;done)|(cases hf;rfl))
  |(unfold qmd at hf;(repeat' split at hf)<;>first|(cases hf;done)|(cases hf;rfl))
  |(unfold qsx at hf;(repeat' split at hf)<;>first|(cases hf;done)|(cases hf;rfl))
  |(unfold xW at hf;(repeat' split at hf)<;>first|(cases hf;done)|(cases hf;rfl))
  |(unfold xO at hf;(repeat' split at hf)<;>first|(cases hf;done)|(cases hf;rfl))
  |(unfold xY at hf;(repeat' split at hf)<;>first|(cases hf;done)|(cases hf;rfl))
  |(unfold xV at hf;(repeat' split at hf)<;>first|(cases hf;done)|(cases hf;rfl))
  |(unfold q1q at hf;(repeat' split at hf)<;>first|(cases hf;done)|(cases hf;rfl))
  |(unfold yD at hf;(repeat' split at hf)<;>first|(cases hf;done)|(cases hf;rfl))
  |(unfold yB at hf;(repeat' split at hf)<;>first|(cases hf;done)|(cases hf;rfl))
  |(unfold q37 at hf;(repeat' split at hf)<;>first|(cases hf;done)|(cases hf;rfl))
  |skip
 unfold qd6 at hf;split at hf
 ·exact q09 hf nm L H H'
 all_goals first
  |(cases hf;done)
  |(unfold xW at hf;(repeat' split at hf)<;>first|(cases hf;done)|(cases hf;rfl))
  |(unfold xO at hf;(repeat' split at hf)<;>first|(cases hf;done)|(cases hf;rfl))
  |(unfold xY at hf;(repeat' split at hf)<;>first|(cases hf;done)|(cases hf;rfl))
  |(unfold xV at hf;(repeat' split at hf)<;>first|(cases hf;done)|(cases hf;rfl))
  |(unfold q1q at hf;(repeat' split at hf)<;>first|(cases hf;done)|(cases hf;rfl))
  |(unfold yD at hf;(repeat' split at hf)<;>first|(cases hf;done)|(cases hf;rfl))
  |(unfold yB at hf;(repeat' split at hf)<;>first|(cases hf;done)|(cases hf;rfl))
end Go.Ev
end
