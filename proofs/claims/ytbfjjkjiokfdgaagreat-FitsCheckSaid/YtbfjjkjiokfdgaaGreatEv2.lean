/-
 For FitsCheck: the evaluator and its soundness, part 2 of 4: what a run of the abstract evaluator answers, the model's run answers, in every world and on every schedule. No conditions beyond those that each theorem states.
-/
import Derived.Test.YtbfjjkjiokfdgaaGreatEv1
import Derived.Laws.NewFold
import Derived.Lib.Bytealg
import Derived.KernelRfl
import Derived.CallsIn
import Derived.OrdersIn
import Derived.TacticsIn
import Derived.RangeFuncLeaves
section
namespace Go.Ev
open Go.RowKit
variable {P:Program} {w:World} {ι:Im} {o:Oper} {a:Act} {nm:Nat} {d n:Nat} {L:TT AV d} {H:Hp}
theorem qvm{t e:TypeId}{len:Nat}{ps:Array (Nat×Operand)}(ho:o.op=.buildSlice t len ps)(ht:P.underlying t=some (.slice e)){z:List AV}(hz:zV P e=some z){s:Nat}(hs:gK P e=some s)(hzs:z.length=s)(hls:len*s<=65536){r:RdP d}(hr:qn4 d n (fun i=>some (i*s,s)) ps.toList=some r)(h:LR ι d n L a.tmps):gT P o a.eval ι w nm (iB len nm (bT (bC z len) (r.f L))):=by
 obtain⟨zv,z1,z2,z3⟩:=qcn (ι:=ι) hz;have hzl:zv.cells.toList.length=s:=by rw[z2.length,hzs]
 cases hp:bT (bC z len) (r.f L)with
 |none=>trivial
 |some c=>
  obtain⟨C',b1,b2,b3⟩:=qet (C:=(gD zv.cells.toList len).toArray) (qh6 h _ _ _ hr) (by simpa using qhz z2 len) (fun v hv=>z3 v (qf6 (by simpa using hv))) hp;refine⟨.slice (some ⟨w.heap.size,0,none⟩) len len,w.alloc (.cells C'.toList.toArray e),⟨w.heap.size,0,0,0⟩,?_,New.alloc w _ 0 0,fun ι' hle hi=>⟨?_,qfp b2 b3 e nm 0 ι' hle hi⟩⟩
  ·have hbig:¬(len*s>2 ^ 24):=by omega
   simp only[execOp,ho,Instr.buildSlice,Sem.run_bind,bS ht,Result.andThen_ok,mJ hs,if_neg hbig,Sem.run_pure,Array.toList_map,Sem.run_ite];by_cases h0:len*s=0
   ·have hr0:(gD zv.cells.toList len)=[]:=List.length_eq_zero_iff.1 (by rw[qb4,hzl,h0]);rw[hr0]at b1;have e0:Array.map (fun x=>(#[]:Array Value)[x%(#[]:Array Value).size]!) (Array.range 0)= #[]:=by apply Array.ext';simp
    simp only[h0,if_true];rw[e0,b1];rfl
   ·simp only[h0,if_false,yZ z1,Result.andThen_ok];rw[range_zero zv.cells len s (by simpa using hzl),b1];rfl
  ·simp only[aP];exact⟨Nat.le_refl _,_,hi,by simp⟩
theorem zt9{t:TypeId}{x:Operand}{f:Nat}(ho:o.op=.field t x f){fs:Array Field}(ht:P.underlying t=some (.struct fs)){fl:Field}(hf:fs[f]? =some fl)(h:LR ι d n L a.tmps):gT P o a.eval ι w nm (q4o (qka P fl.type) fl.offset ((aH d n x).f L)):=by
 have hx:=dN h x;unfold q4o;split
 ·rename_i l e;rw[e]at hx;obtain⟨vs,h1,h2,h3⟩:=xK hx;split
  ·rename_i v hv;obtain⟨V,r,hV⟩:=qjd h1 h3 hv;exact⟨V,by simp[execOp,ho,Instr.field,bS ht,hf,h2,asAgg,r],hV⟩
  ·trivial
 ·trivial
theorem zxw{t e:TypeId}{x y:Operand}(ho:o.op=.index t x y){len:Nat}(ht:P.underlying t=some (.array len e)){z:Nat}(hz:gK P e=some z)(h:LR ι d n L a.tmps):gT P o a.eval ι w nm (aEN (qka P e) len z ((aH d n x).f L) ((aH d n y).f L)):=by
 have hx:=dN h x;have hy:=dN h y;unfold aEN;split
 ·rename_i l k i e1 e2;rw[e1]at hx;rw[e2]at hy;simp only[aP]at hy;obtain⟨vs,h1,h2,h3⟩:=xK hx;cases hi:Nat.blt i len with
  |false=>trivial
  |true=>
   have hi':=rU hi;split
   ·rename_i v hv;obtain⟨V,r,hV⟩:=qjd h1 h3 hv;refine⟨V,?_,hV⟩;have r':∀ w,(part e vs.toArray (i*z)).run P w=.ok V w:=r;simp[execOp,ho,Instr.index,bS ht,h2,hy,asIntOf,mJ hz,hi',r']
   ·trivial
 ·trivial
/- len, cap, min, max -/
theorem qpr{x:Operand}{t:TypeId}{m:Nat}(ho:o.op=.call {callee:=.builtin .len,args:= #[x],argTypes:= #[t]})(ht:(∃e,P.underlying t=some (.array m e))\/∃ arr e,P.underlying t=some (.pointer arr)/\P.underlying arr=some (.array m e)):gT P o a.eval ι w nm (.val (i64 m)):=by
 refine⟨_,?_,rX _ _⟩;rcases ht with⟨e,ht⟩|⟨arr,e,ht,ha⟩
 ·simp[execOp,ho,resolve,invoke,builtin,Builtin.len_,bS ht,goInt]
 ·simp[execOp,ho,resolve,invoke,builtin,Builtin.len_,bS ht,bS ha,goInt]
theorem q51{x:Operand}{t:TypeId}{m:Nat}(ho:o.op=.call {callee:=.builtin .cap,args:= #[x],argTypes:= #[t]})(ht:∃ e,P.underlying t=some (.array m e)):gT P o a.eval ι w nm (.val (i64 m)):=by refine⟨_,?_,rX _ _⟩;obtain⟨e,ht⟩:=ht;simp[execOp,ho,resolve,invoke,builtin,Builtin.cap_,bS ht,goInt]
theorem zl0{x:Operand}{t:TypeId}(ho:o.op=.call {callee:=.builtin .len,args:= #[x],argTypes:= #[t]})(ht:P.underlying t=some .string)(h:LR ι d n L a.tmps):gT P o a.eval ι w nm (iF ((aH d n x).f L)):=by
 have hx:=dN h x;unfold iF;split
 ·rename_i e;rw[e]at hx;simp only[aP]at hx;obtain⟨s,h1,h2,_⟩:=hx;refine⟨_,?_,rX _ _⟩;have:s.size=_:=h2;simp[execOp,ho,resolve,invoke,builtin,Builtin.len_,bS ht,goInt,h1,this]
 ·trivial
theorem zt8{x:Operand}{t e:TypeId}(ho:o.op=.call {callee:=.builtin .len,args:= #[x],argTypes:= #[t]})(ht:P.underlying t=some (.slice e))(h:LR ι d n L a.tmps):gT P o a.eval ι w nm (aF ((aH d n x).f L)):=by
 have hx:=dN h x;unfold aF;split
 ·rename_i e;rw[e]at hx;simp only[aP]at hx;obtain⟨_,l,_,h1⟩:=hx;exact⟨_,by simp[execOp,ho,resolve,invoke,builtin,Builtin.len_,bS ht,goInt,h1],rX _ _⟩
 ·rename_i e;rw[e]at hx;simp only[aP]at hx;exact⟨_,by simp[execOp,ho,resolve,invoke,builtin,Builtin.len_,bS ht,goInt,hx],rX _ _⟩
 ·rename_i e;rw[e]at hx;simp only[aP]at hx;obtain⟨_,_,h1⟩:=hx;exact⟨_,by simp[execOp,ho,resolve,invoke,builtin,Builtin.len_,bS ht,goInt,h1],rX _ _⟩
 ·trivial
theorem bW.length:∀{es:List kH} {ES:List MapEntry},bW ι es ES->ES.length=es.length
 | [],ES,h=>by simp only[bW]at h;subst h;rfl
 |x::es,ES,h=>by obtain⟨e,r,rfl,_,_,_,h5⟩:=h;simp[bW.length h5]
theorem zxv{x:Operand}{t k e:TypeId}(ho:o.op=.call {callee:=.builtin .len,args:= #[x],argTypes:= #[t]})(ht:P.underlying t=some (.map k e))(hH:HR ι H w)(h:LR ι d n L a.tmps):gT P o a.eval ι w nm (w9 H ((aH d n x).f L)):=by
 have hx:=dN h x;unfold w9;split
 ·rename_i e;rw[e]at hx;simp only[aP]at hx;exact⟨_,by simp[execOp,ho,resolve,invoke,builtin,Builtin.len_,bS ht,goInt,hx],rX _ _⟩
 ·rename_i m e;rw[e]at hx;simp only[aP]at hx;obtain⟨l,h1,h2⟩:=hx;have hb:=hH.blk m (hH.lt h1);split
  ·rename_i es clock hg;rw[hg]at hb;obtain⟨l',ES,h3,h4,h5⟩:=hb;rw[h1]at h3;cases h3;have hl:=h5.length;refine⟨_,?_,rX _ _⟩;simp[execOp,ho,resolve,invoke,builtin,Builtin.len_,bS ht,goInt,h2,getObj,Sem.run,h4,hl]
  ·trivial
 ·trivial
theorem zug{x:Operand}{t e:TypeId}(ho:o.op=.call {callee:=.builtin .cap,args:= #[x],argTypes:= #[t]})(ht:P.underlying t=some (.slice e))(h:LR ι d n L a.tmps):gT P o a.eval ι w nm (gZ ((aH d n x).f L)):=by
 have hx:=dN h x;unfold gZ;split
 ·rename_i e;rw[e]at hx;simp only[aP]at hx;obtain⟨_,l,_,h1⟩:=hx;exact⟨_,by simp[execOp,ho,resolve,invoke,builtin,Builtin.cap_,bS ht,goInt,h1],rX _ _⟩
 ·rename_i e;rw[e]at hx;simp only[aP]at hx;exact⟨_,by simp[execOp,ho,resolve,invoke,builtin,Builtin.cap_,bS ht,goInt,hx],rX _ _⟩
 ·trivial
theorem q4h:∀(l:List AV) (ls:List Value) (x:AV) (X:Value) (v:AV),aM ι l ls->aP ι x X->nL mZ x l=.val v->∃ V,(ls.foldlM Builtin.min2 X).run P w=.ok V w/\aP ι v V
 | [],ls,x,X,v,hl,hx,h=>by simp only[aM]at hl;subst hl;have h:R0.val x=.val v:=h;cases h;exact⟨X,by simp,hx⟩
 |y::l,ls,x,X,v,hl,hx,h=>by
  obtain⟨Y,r,rfl,hy,hr⟩:=hl;have h:(match mZ x y with| .val z=>nL mZ z l|_=>.bad)=.val v:=h;split at h
  ·rename_i z hz;have hm:∃ Z,(Builtin.min2 X Y).run P w=.ok Z w/\aP ι z Z:=by
    unfold mZ at hz;split at hz
    ·simp only[R0.val.injEq]at hz;subst hz;simp only[aP]at hx hy;subst hx hy;refine⟨_,rfl,?_⟩;simp only[aP,yA];split<;>rename_i hlt<;>simp[hlt]
    ·cases hz
   obtain⟨Z,z1,z2⟩:=hm;obtain⟨V,v1,v2⟩:=q4h l r z Z v hr z2 h;exact⟨V,by rw[List.foldlM_cons,Sem.run_bind,z1];exact v1,v2⟩
  ·cases h
theorem q4i:∀(l:List AV) (ls:List Value) (x:AV) (X:Value) (v:AV),aM ι l ls->aP ι x X->nL lV x l=.val v->∃ V,(ls.foldlM Builtin.max2 X).run P w=.ok V w/\aP ι v V
 | [],ls,x,X,v,hl,hx,h=>by simp only[aM]at hl;subst hl;have h:R0.val x=.val v:=h;simp_all
 |y::l,ls,x,X,v,hl,hx,h=>by
  obtain⟨Y,r,rfl,hy,hr⟩:=hl;have h:(match lV x y with| .val z=>nL lV z l|_=>.bad)=.val v:=h;split at h
  ·rename_i z hz;have hm:∃ Z,(Builtin.max2 X Y).run P w=.ok Z w/\aP ι z Z:=by
    unfold lV at hz;split at hz
    ·simp only[R0.val.injEq]at hz;subst hz;simp only[aP]at hx hy;subst hx hy;refine⟨_,rfl,?_⟩;simp only[aP,yA];simp
    ·cases hz
   obtain⟨Z,z1,z2⟩:=hm;obtain⟨V,v1,v2⟩:=q4i l r z Z v hr z2 h;exact⟨V,by rw[List.foldlM_cons,Sem.run_bind,z1];exact v1,v2⟩
  ·cases h
theorem qjk(g:AV->AV->R0):∀(l:List AV) (x:AV),nL g x l=.bad\/∃ v,nL g x l=.val v
 | [],x=>.inr ⟨x,rfl⟩
 |y::l,x=>by
  show(match g x y with| .val z=>nL g z l|_=>.bad)=.bad\/∃ v,(match g x y with| .val z=>nL g z l|_=>.bad)=.val v;split
  ·exact qjk g l _
  ·simp
theorem aHV{x:Operand}{r:List Operand}{ts:Array TypeId}(ho:o.op=.call {callee:=.builtin .min,args:=(x::r).toArray,argTypes:=ts})(h:LR ι d n L a.tmps):gT P o a.eval ι w nm (nL mZ ((aH d n x).f L) ((rO d n r).f L)):=by
 rcases qjk mZ ((rO d n r).f L) ((aH d n x).f L)with hf|⟨v,hf⟩
 ·rw[hf];trivial
 ·obtain⟨V,v1,v2⟩:=q4h (P:=P) (w:=w) _ _ _ _ v (qco h r) (dN h x) hf;rw[hf];refine⟨V,?_,v2⟩;simp[execOp,ho,resolve,invoke,builtin,Builtin.min_,v1]
theorem aKI{x:Operand}{r:List Operand}{ts:Array TypeId}(ho:o.op=.call {callee:=.builtin .max,args:=(x::r).toArray,argTypes:=ts})(h:LR ι d n L a.tmps):gT P o a.eval ι w nm (nL lV ((aH d n x).f L) ((rO d n r).f L)):=by
 rcases qjk lV ((rO d n r).f L) ((aH d n x).f L)with hf|⟨v,hf⟩
 ·rw[hf];trivial
 ·obtain⟨V,v1,v2⟩:=q4i (P:=P) (w:=w) _ _ _ _ v (qco h r) (dN h x) hf;rw[hf];refine⟨V,?_,v2⟩;simp[execOp,ho,resolve,invoke,builtin,Builtin.max_,v1]
/- keys -/
theorem qnu(em:Bool):∀(D:Nat) (t:TypeId),qtl P D t=true->∀(D':Nat),D<=D'->∀(K:Value),(oP P t=some true->∃ vs:List Value,K=.agg vs.toArray/\gK P t=some vs.length)->∀ w,(Instr.checkKey em D' t K).run P w=.ok () w:=by
 intro D
 induction D with
 |zero=>intro t h;simp[qtl]at h
 |succ D ih=>
  intro t h D' hD K hK w;obtain⟨E,rfl⟩:∃ E,D'=E+1:=⟨D'-1,by omega⟩;have pk:∀(u:TypeId) (m:Nat),gK P u=some m->0<m->qtl P D u=true->∀(vs:List Value) (off:Nat),off+m<=vs.length->∀ w,((do let p<-part u vs.toArray off;Instr.checkKey em E u p):Sem Unit).run P w=.ok () w:=by
   intro u m hu h0 hk vs off hle w;rw[Sem.run_bind];cases ha:oP P u with
   |none=>
    unfold oP at ha;cases hun:P.underlying u with
    |none=>cases D<;>simp[qtl,hun]at hk
    |some _=>rw[hun]at ha;cases ha
   |some b=>
    cases b with
    |true=>
     have:(part u vs.toArray off).run P w=.ok (.agg ((vs.drop off).take m).toArray) w:=by simp[part,qfk ha,mJ hu]
     rw[this,Result.andThen_ok];refine ih u hk E (by omega) _ (fun _=>⟨_,rfl,?_⟩) w;rw[hu];simp;omega
    |false=>
     have hlt:off<vs.length:=by omega
     have:(part u vs.toArray off).run P w=.ok vs[off] w:=by simp[part,qfk ha,hlt]
     rw[this,Result.andThen_ok];exact ih u hk E (by omega) _ (fun h'=>by rw[ha]at h';cases h') w
  rw[qtl]at h;split at h
  ·rename_i ht _;unfold Instr.checkKey;simp[bS ht]
  ·rename_i ht _;unfold Instr.checkKey;simp[bS ht]
  ·rename_i ht _;unfold Instr.checkKey;simp[bS ht]
  ·rename_i fs N ht hN;obtain⟨vs,rfl,hvs⟩:=hK (by simp[oP,ht]);have hN':N=vs.length:=by rw[hN]at hvs;simpa using hvs
   unfold Instr.checkKey;simp only[Sem.run_bind,bS ht,Result.andThen_ok];have hall:=List.all_eq_true.1 h;have loop:∀(l:List Field),(∀f∈l,f∈fs.toList)->∀ w,(forIn l () fun f _=>(do
     if f.name ≠ "_" then(do let p<-part f.type vs.toArray f.offset;Instr.checkKey em E f.type p;pure (ForInStep.yield ()))else pure (ForInStep.yield ()):Sem (ForInStep Unit))).run P w= .ok () w:=by
    intro l
    induction l with
    |nil=>intro _ w;simp
    |cons f l ihl=>
     intro hl w;have hf:=hall f (hl f (by simp));rw[List.forIn_cons];split at hf
     ·rename_i m hm;simp only[Bool.and_eq_true]at hf;obtain⟨⟨f1,f2⟩,f3⟩:=hf;have r:=pk f.type m hm (rU f3) f2 vs f.offset (by have:=nN f1;omega)
      by_cases hn:f.name = "_"
      ·simp only[hn,ne_eq,not_true_eq_false,if_false,pure_bind];exact ihl (fun g hg=>hl g (by simp[hg])) w
      ·simp only[ne_eq,hn,not_false_eq_true,if_true,bind_assoc,pure_bind];rw[<-bind_assoc,Sem.run_bind,r w,Result.andThen_ok];exact ihl (fun g hg=>hl g (by simp[hg])) w
     ·cases hf
   have:=loop fs.toList (fun f hf=>hf) w;simp at this ⊢
   erw [this]
   rfl
  ·rename_i len e N ht hN;obtain⟨vs,rfl,hvs⟩:=hK (by simp[oP,ht]);have hN':N=vs.length:=by rw[hN]at hvs;simpa using hvs
   split at h
   ·rename_i m hm;simp only[Bool.and_eq_true]at h;obtain⟨⟨f1,f2⟩,f3⟩:=h;have f1:=nN f1;unfold Instr.checkKey;simp only[Sem.run_bind,bS ht,Result.andThen_ok,Std.Legacy.Range.forIn_eq_forIn_range',Std.Legacy.Range.size,Nat.sub_zero,Nat.add_sub_cancel,Nat.div_one];have loop:∀(k i:Nat),i+k<=len->∀ w,(forIn (List.range' i k) () fun i _=>(do
      let s<-sizeOf e;let p<-part e vs.toArray (i*s);Instr.checkKey em E e p;pure (ForInStep.yield ()):Sem (ForInStep Unit))).run P w=.ok () w:=by
     intro k
     induction k with
     |zero=>intro i _ w;simp
     |succ k ihk=>
      intro i hi w;have hle:i*m+m<=vs.length:=by have h1:(i+1)*m<=len*m:=Nat.mul_le_mul_right m (by omega);rw[Nat.add_mul,Nat.one_mul]at h1;omega
      have r:=pk e m hm (rU f3) f2 vs (i*m) hle;rw[List.range'_succ,List.forIn_cons];simp only[bind_assoc,pure_bind];rw[Sem.run_bind,mJ hm,Result.andThen_ok,<-bind_assoc,Sem.run_bind,r w,Result.andThen_ok];exact ihk (i+1) (by omega) w
    have:=loop len 0 (by omega) w;simp at this ⊢
    erw [this]
    rfl
   ·cases h
  ·cases h
theorem bW.get:∀{es:List kH} {ES:List MapEntry},bW ι es ES->∀(i:Nat) (x:kH),es[i]? =some x->∃ e,ES[i]? =some e/\aP ι x.key e.key/\aP ι x.val e.val/\e.born=x.born
 | [],ES,h,i,x,hi=>by simp at hi
 |y::es,ES,h,i,x,hi=>by
  obtain⟨e,r,rfl,h1,h2,h3,h4⟩:=h;cases i with
  |zero=>simp at hi;subst hi;exact⟨e,rfl,h1,h2,h3⟩
  |succ i=>simp at hi;obtain⟨e',a1,a2⟩:=bW.get h4 i x hi;exact⟨e',by simpa using a1,a2⟩
def q1i(ι:Im)(es:List kH)(ES:List MapEntry):Option wD->Option (Nat×Value)->Prop
 |none,R=>R=none
 |some h,R=>∃ V E,R=some (h.i,V)/\es[h.i]? =some h.x/\ES[h.i]? =some E/\aP ι h.x.key E.key/\aP ι h.x.val V/\E.val=V/\E.born=h.x.born
theorem qe2{e:AV->AV->Option Bool}{k:AV}:∀(es:List kH) (i:Nat) (r:Option wD),vX e k es i=some r->∀ h,r=some h->i<=h.i/\es[h.i-i]? =some h.x
 | [],i,r,hr,h,hh=>by have hr:(some none:Option (Option wD))=some r:=hr;simp_all
 |x::es,i,r,hr,h,hh=>by
  have hr:(match e k x.key with|some true=>some (some ⟨i,x⟩)|some false=>vX e k es (i+1)|none=>none)=some r:=hr;split at hr
  ·simp only[Option.some.injEq]at hr;subst hr;cases hh;exact⟨Nat.le_refl _,by simp⟩
  ·obtain⟨h1,h2⟩:=qe2 es (i+1) r hr h hh;refine⟨by omega,?_⟩;rw[show h.i-i=(h.i-(i+1))+1 by omega,List.getElem?_cons_succ];exact h2
  ·cases hr
theorem qqa{td:TypeDesc}{e:AV->AV->Option Bool}{k:AV}{K:Value}(hs:∀ x X b,e k x=some b->aP ι x X->Instr.sameNow td K X=some b):∀(es:List kH) (ES:List MapEntry) (i:Nat) (r:Option wD),bW ι es ES->vX e k es i=some r -> ∃R,Instr.findNow td K ES i=some R/\(r=none->R=none)/\∀ h,r=some h->∃ E,ES[h.i-i]? =some E/\R=some (h.i,E.val)
 | [],ES,i,r,hE,hr=>by have hr:(some none:Option (Option wD))=some r:=hr;cases hr;simp only[bW]at hE;subst hE;exact⟨none,rfl,fun _=>rfl,fun h hh=>by cases hh⟩
 |x::es,ES,i,r,hE,hr=>by
  obtain⟨E,rr,rfl,h1,h2,h3,h4⟩:=hE;have hr:(match e k x.key with|some true=>some (some ⟨i,x⟩)|some false=>vX e k es (i+1)|none=>none)=some r:=hr;split at hr
  ·rename_i hb;simp only[Option.some.injEq]at hr;subst hr;refine⟨some (i,E.val),by simp[Instr.findNow,hs _ _ _ hb h1],(fun h=>by cases h),fun h hh=>?_⟩;cases hh;exact⟨E,by simp,rfl⟩
  ·rename_i hb;obtain⟨R,r1,r2,r3⟩:=qqa hs es rr (i+1) r h4 hr;refine⟨R,by simp[Instr.findNow,hs _ _ _ hb h1,r1],r2,fun h hh=>?_⟩;obtain⟨E',e1,e2⟩:=r3 h hh;obtain⟨g1,_⟩:=qe2 es (i+1) r hr h hh;exact⟨E',by rw[show h.i-i=(h.i-(i+1))+1 by omega,List.getElem?_cons_succ];exact e1,e2⟩
  ·cases hr
theorem qqb{kt:TypeId}{e:AV->AV->Option Bool}{k:AV}{K:Value}(hs:∀ x X b,e k x=some b->aP ι x X->∀ w,(Op.equal kt K X).run P w=.ok b w):∀(es:List kH) (ES:List MapEntry) (i:Nat) (r:Option wD),bW ι es ES->vX e k es i=some r -> ∃R,(∀w,(Instr.findAsking kt K ES i).run P w=.ok R w)/\(r=none->R=none)/\∀ h,r=some h->∃ E,ES[h.i-i]? =some E/\R=some (h.i,E.val)
 | [],ES,i,r,hE,hr=>by have hr:(some none:Option (Option wD))=some r:=hr;cases hr;simp only[bW]at hE;subst hE;exact⟨none,fun _=>rfl,fun _=>rfl,fun h hh=>by cases hh⟩
 |x::es,ES,i,r,hE,hr=>by
  obtain⟨E,rr,rfl,h1,h2,h3,h4⟩:=hE;have hr:(match e k x.key with|some true=>some (some ⟨i,x⟩)|some false=>vX e k es (i+1)|none=>none)=some r:=hr;split at hr
  ·rename_i hb;simp only[Option.some.injEq]at hr;subst hr;refine⟨some (i,E.val),fun w=>by simp[Instr.findAsking,hs _ _ _ hb h1],(fun h=>by cases h),fun h hh=>?_⟩;cases hh;exact⟨E,by simp,rfl⟩
  ·rename_i hb;obtain⟨R,r1,r2,r3⟩:=qqb hs es rr (i+1) r h4 hr;refine⟨R,fun w=>by simp[Instr.findAsking,hs _ _ _ hb h1,r1],r2,fun h hh=>?_⟩;obtain⟨E',e1,e2⟩:=r3 h hh;obtain⟨g1,_⟩:=qe2 es (i+1) r hr h hh;exact⟨E',by rw[show h.i-i=(h.i-(i+1))+1 by omega,List.getElem?_cons_succ];exact e1,e2⟩
  ·cases hr
theorem qe1{kt:TypeId}{ky:Ky}(hky:qT P kt=some ky){k:AV}{K:Value}(hK:aP ι k K){es:List kH}{ES:List MapEntry}(hE:bW ι es ES){r:Option wD}(h:qn7 ky k es=some r):(∀em w,(Instr.checkKey em 10000 kt K).run P w=.ok () w)/\∃ R,(∀w,(Instr.findKey kt K ES).run P w=.ok R w)/\q1i ι es ES r R:=by
 unfold qn7 at h;cases hf:qhf ky.s k with
 |false=>rw[hf]at h;cases h
 |true=>
  rw[hf]at h;simp only[cond_true]at h;have hq:=zqf (P:=P) (ι:=ι) zW kt;have fin:∀ R:Option (Nat×Value),(r=none->R=none)->(∀h,r=some h->∃ E,ES[h.i-0]? =some E/\R=some (h.i,E.val))->q1i ι es ES r R:=by
   intro R h1 h2;cases r with
   |none=>exact h1 rfl
   |some hh=>obtain⟨E,e1,e2⟩:=h2 hh rfl;rw[Nat.sub_zero]at e1;obtain⟨_,g2⟩:=qe2 es 0 _ h hh rfl;rw[Nat.sub_zero]at g2;obtain⟨E',a1,a2,a3,a4⟩:=hE.get _ _ g2;rw[e1]at a1;cases a1;exact⟨E.val,E,e2,g2,e1,a2,a3,rfl,a4⟩
  unfold qT at hky;have ask:∀(e:AV->AV->Option Bool),uO P zW kt=⟨e⟩->ky.e=e->∀ x X b,ky.e k x=some b->aP ι x X->∀ w,(Op.equal kt K X).run P w=.ok b w:=by intro e he hke x X b hb hx w;rw[hke]at hb;rw[he]at hq;exact hq k x K X b hb hK hx Op.maxDepth (by decide) w
  split at hky
  ·rename_i e N ho he ha hN;simp only[Option.some.injEq]at hky;subst hky;obtain⟨l,rfl⟩:∃ l,k=.agg l:=by cases k<;>first|exact⟨_,rfl⟩|(simp[qhf]at hf;done)
   obtain⟨vs,v1,v2,v3⟩:=xK hK;have hl:l.length=N:=sH hf;refine⟨fun em w=>qnu em zW kt ho 10000 (by decide) K (fun _=>⟨vs,v2,by rw[hN,v1.length,hl]⟩) w,?_⟩;obtain⟨R,r1,r2,r3⟩:=qqb (ask e he rfl) es ES 0 r hE h;refine⟨R,fun w=>?_,fin R r2 r3⟩;have hu:∃ td,P.underlying kt=some td:=by
    unfold oP at ha;cases hun:P.underlying kt with
    |none=>rw[hun]at ha;cases ha
    |some td=>exact⟨td,rfl⟩
   obtain⟨td,hu⟩:=hu;unfold Instr.findKey;rw[Sem.run_bind,bS hu,Result.andThen_ok];cases ES with
   |nil=>
    have:R=none:=by
     cases r with
     |none=>exact r2 rfl
     |some hh=>obtain⟨E,e1,_⟩:=r3 hh rfl;simp at e1
    subst this;rfl
   |cons E rest=>
    have:Instr.findNow td K (E::rest) 0=none:=by
     have htd:(∃fs,td=.struct fs)\/∃ n t,td=.array n t:=by
      unfold oP at ha;rw[hu]at ha;cases td<;>simp at ha
      ·simp
      ·simp
     rcases htd with⟨fs,rfl⟩|⟨n,t,rfl⟩<;>simp[Instr.findNow,Instr.sameNow]
    simp_all
  ·rename_i e N ho he ha hN;simp only[Option.some.injEq]at hky;subst hky;have aXi:∀ em w,(Instr.checkKey em 10000 kt K).run P w=.ok () w:=fun em w=>qnu em zW kt ho 10000 (by decide) K (fun h'=>by rw[ha]at h';cases h') w;refine⟨aXi,?_⟩;have now:∀ td,P.underlying kt=some td->(∀x X b,e k x=some b->aP ι x X->Instr.sameNow td K X=some b)->∃ R,(∀w,(Instr.findKey kt K ES).run P w=.ok R w)/\q1i ι es ES r R:=by
    intro td hu hs;obtain⟨R,r1,r2,r3⟩:=qqa hs es ES 0 r hE h;refine⟨R,fun w=>?_,fin R r2 r3⟩;unfold Instr.findKey;rw[Sem.run_bind,bS hu,Result.andThen_ok,r1];rfl
   have ho':=ho;unfold zW at ho' he;rw[show(20:Nat)=19+1 from rfl,qtl]at ho';rw[show(20:Nat)=19+1 from rfl,uO]at he;split at ho'
   ·rename_i ht _;rw[ht]at he;simp only[E2.mk.injEq]at he;subst he;refine now _ ht fun x X b hb hx=>?_;unfold qkc at hb;split at hb
    ·rename_i kk m k' p;simp only[aP]at hK hx;subst hK hx;cases hk:uK kk k' with
     |false=>rw[hk]at hb;cases hb
     |true=>rw[hk]at hb;simp only[cond_true,Option.some.injEq]at hb;subst hb;have:=zm8 hk;subst this;simp[Instr.sameNow,zO]
    ·cases hb
   ·rename_i ht _;rw[ht]at he;simp only[E2.mk.injEq]at he;subst he;refine now _ ht fun x X b hb hx=>?_;unfold bX at hb;split at hb
    ·simp only[aP]at hK hx;obtain⟨s,rfl,h1⟩:=hK;obtain⟨u,rfl,h2⟩:=hx;simp only[Option.some.injEq]at hb;subst hb;simp[Instr.sameNow,beq_toListBytes,qf3,h1.eq h2]
    ·cases hb
   ·rename_i ht _;rw[ht]at he;simp only[E2.mk.injEq]at he;subst he;refine now _ ht fun x X b hb hx=>?_;unfold qfw at hb;split at hb
    ·simp only[aP]at hK hx;subst hK hx;trivial
    ·cases hb
   ·rename_i ht _;unfold oP at ha;rw[ht]at ha;simp at ha
   ·rename_i ht _;unfold oP at ha;rw[ht]at ha;simp at ha
   ·cases ho'
  ·cases hky
theorem zlz{t kt et:TypeId}{x y:Operand}{ok:Bool}(ho:o.op=.lookup t x y ok)(ht:P.underlying t=some (.map kt et)){ky:Ky}(hky:qT P kt=some ky){z:Value}(hz:(P.info? et).bind (·.zero)=some z)(hH:HR ι H w)(h:LR ι d n L a.tmps):gT P o a.eval ι w nm (pF ky (qs8 z) ok H ((aH d n x).f L) ((aH d n y).f L)):=by
 have hx:=dN h x;have hy:=dN h y;have key:∀(es:List kH) (ES:List MapEntry),bW ι es ES->(∀f:Array MapEntry->Sem Value,(execOp a.eval o).run P w=((do
    Instr.checkKey ES.toArray.isEmpty 10000 kt (a.eval y)
    let (v,b)<-match<-Instr.findKey kt (a.eval y) ES with
     |some (_,v)=>pure (v,true)
     |none=>pure (<-zeroValue et,false)
    pure (if ok then .tuple #[v,.bool b]else v):Sem Value).run P w).andThen fun v w=>.ok (.value v) w) ->
   gT P o a.eval ι w nm (ze1 ok (qs8 z) (qn7 ky ((aH d n y).f L) es)):=by
  intro es ES hE hrun;have hrun:=hrun fun _=>pure .nilFunc;cases hf:qn7 ky ((aH d n y).f L) es with
  |none=>trivial
  |some r=>
   obtain⟨c1,R,c2,c3⟩:=qe1 hky hy hE hf;cases r with
   |none=>
    simp only[q1i]at c3;subst c3;refine⟨if ok then .tuple #[z,.bool false]else z,?_,?_⟩
    ·rw[hrun];simp[c1,c2,yZ hz]
    ·cases ok
     ·exact qfl z
     ·simp only[cond_true,if_true,aP,aM];exact⟨[z,.bool false],⟨z,_,rfl,qfl z,_,_,rfl,rfl,rfl⟩,rfl⟩
   |some hit=>
    obtain⟨V,E,rfl,a1,a2,a3,a4,a5,a6⟩:=c3;refine⟨if ok then .tuple #[V,.bool true]else V,?_,?_⟩
    ·rw[hrun];simp[c1,c2]
    ·cases ok
     ·exact a4
     ·simp only[cond_true,if_true,aP,aM];exact⟨[V,.bool true],⟨V,_,rfl,a4,_,_,rfl,rfl,rfl⟩,rfl⟩
 unfold pF zqg;split
 ·rename_i es he;split at he
  ·rename_i e1;simp only[Option.some.injEq]at he;subst he;rw[e1]at hx;simp only[aP]at hx;refine key [] [] (by simp[bW]) fun _=>?_;simp[execOp,ho,Instr.lookup,bS ht,hx];rfl
  ·rename_i m e1;rw[e1]at hx;simp only[aP]at hx;obtain⟨l,h1,h2⟩:=hx;have hb:=hH.blk m (hH.lt h1);split at he
   ·rename_i es' clock hg;simp only[Option.some.injEq]at he;subst he;rw[hg]at hb;obtain⟨l',ES,h3,h4,h5⟩:=hb;rw[h1]at h3;cases h3;refine key es' ES h5 fun _=>?_;simp[execOp,ho,Instr.lookup,bS ht,h2,getObj,Sem.run,h4];rfl
   ·cases he
  ·cases he
 ·trivial
theorem aHu{op:BinOp}{t ty:TypeId}{x y:Operand}(ho:o.op=.binOp op t x y ty)(neg:Bool)(hop:op=if neg then .neq else .eql){e:AV->AV->Option Bool}(he:uO P zW t=⟨e⟩)(hk:∀ td,P.underlying t=some td->match td with| .bool| .pointer _| .slice _| .map .. | .func .. | .interface _=>True| .struct _| .array .. =>P.eqGuardType P.depth t=false|_=>False)(hu:∃ td,P.underlying t=some td)(h:LR ι d n L a.tmps):
  gT P o a.eval ι w nm (oL neg (e ((aH d n x).f L) ((aH d n y).f L))):=by
 have hx:=dN h x;have hy:=dN h y;unfold oL;split
 ·rename_i b hb;have hq:=zqf (P:=P) (ι:=ι) zW t;rw[he]at hq;have hr:=hq _ _ _ _ _ hb hx hy Op.maxDepth (by decide) w;refine⟨.bool (if neg then !b else b),?_,by simp only[aP];cases neg<;>rfl⟩;obtain⟨td,hu⟩:=hu;have hk:=hk td hu;generalize hX:a.eval x=X at *;generalize hY:a.eval y=Y at *;have run:(∃g,(eqGuard op t x y X Y).run P w=.ok g w)/\(binOp op t X Y).run P w=.ok (.bool (if neg then !b else b)) w:=by
   unfold zW at he;rw[show(20:Nat)=19+1 from rfl,uO,hu]at he;cases td<;>first|(exact hk.elim)|skip
   case bool=>
    simp only[E2.mk.injEq]at he;subst he;unfold qfw at hb;split at hb
    ·rename_i e1 e2;rw[e1]at hx;rw[e2]at hy;simp only[aP]at hx hy;subst hx hy;cases neg<;>subst hop<;>simp[eqGuard,binOp,Op.equal,hr]
    ·cases hb
   case pointer=>
    simp only[E2.mk.injEq]at he;subst he;unfold qnm at hb;split at hb<;>first|(cases hb;done)|skip
    all_goals (rename_i e1 e2;rw[e1]at hx;rw[e2]at hy;simp only[aP]at hx hy)
    ·subst hx hy;cases neg<;>subst hop<;>simp[eqGuard,binOp,Op.equal,hr]
    ·obtain⟨l,_,rfl⟩:=hy;subst hx;cases neg<;>subst hop<;>simp[eqGuard,binOp,Op.equal,hr]
    ·obtain⟨l,_,rfl⟩:=hx;subst hy;cases neg<;>subst hop<;>simp[eqGuard,binOp,Op.equal,hr]
   case slice=>
    simp only[E2.mk.injEq]at he;subst he;unfold aCx at hb;split at hb<;>first|(cases hb;done)|skip
    all_goals (rename_i e1 e2;rw[e1]at hx;rw[e2]at hy;simp only[aP]at hx hy)
    ·subst hx hy;cases neg<;>subst hop<;>simp[eqGuard,binOp,Op.equal,hr]
    ·obtain⟨_,l,_,rfl⟩:=hy;subst hx;cases neg<;>subst hop<;>simp[eqGuard,binOp,Op.equal,hr]
    ·obtain⟨_,l,rfl⟩:=hy;subst hx;cases neg<;>subst hop<;>simp[eqGuard,binOp,Op.equal,hr]
    ·obtain⟨_,l,_,rfl⟩:=hx;subst hy;cases neg<;>subst hop<;>simp[eqGuard,binOp,Op.equal,hr]
    ·obtain⟨_,l,rfl⟩:=hx;subst hy;cases neg<;>subst hop<;>simp[eqGuard,binOp,Op.equal,hr]
   case map=>
    simp only[E2.mk.injEq]at he;subst he;unfold zm7 at hb;split at hb<;>first|(cases hb;done)|skip
    all_goals (rename_i e1 e2;rw[e1]at hx;rw[e2]at hy;simp only[aP]at hx hy)
    ·subst hx hy;cases neg<;>subst hop<;>simp[eqGuard,binOp,Op.equal,hr]
    ·obtain⟨l,_,rfl⟩:=hy;subst hx;cases neg<;>subst hop<;>simp[eqGuard,binOp,Op.equal,hr]
    ·obtain⟨l,_,rfl⟩:=hx;subst hy;cases neg<;>subst hop<;>simp[eqGuard,binOp,Op.equal,hr]
   case func=>
    simp only[E2.mk.injEq]at he;subst he;unfold eqFn at hb;split at hb<;>first|(cases hb;done)|skip
    all_goals (rename_i e1 e2;rw[e1]at hx;rw[e2]at hy;simp only[aP]at hx hy)
    ·subst hx hy;cases neg<;>subst hop<;>simp[eqGuard,binOp,Op.equal,hr]
    ·obtain⟨_,_,_,_,rfl⟩:=hy;subst hx;cases neg<;>subst hop<;>simp[eqGuard,binOp,Op.equal,hr]
    ·obtain⟨_,_,_,_,rfl⟩:=hx;subst hy;cases neg<;>subst hop<;>simp[eqGuard,binOp,Op.equal,hr]
   case interface=>
    simp only[E2.mk.injEq]at he;subst he;unfold aCG at hb;split at hb<;>first|(cases hb;done)|skip
    all_goals (rename_i e1 e2;rw[e1]at hx;rw[e2]at hy;simp only[aP]at hx hy)
    ·obtain⟨_,_,rfl⟩:=hy;subst hx;cases neg<;>subst hop<;>simp[eqGuard,binOp,Op.equal,hr]
    ·obtain⟨_,_,rfl⟩:=hx;subst hy;cases neg<;>subst hop<;>simp[eqGuard,binOp,Op.equal,hr]
   case array len e=>
    simp only at he;split at he
    ·simp only[E2.mk.injEq]at he;subst he;unfold fI at hb;split at hb
     ·rename_i e1 e2;rw[e1]at hx;rw[e2]at hy;obtain⟨_,_,rfl,_⟩:=xK hx;obtain⟨_,_,rfl,_⟩:=xK hy;refine⟨⟨(),run_eqGuard_agg w op t x y _ _ hk⟩,?_⟩;cases neg<;>subst hop
      ·rw[if_neg (by simp),run_eql_struct,show(10000:Nat)=Op.maxDepth from rfl,hr];rfl
      ·rw[if_pos rfl,run_neq_struct,show(10000:Nat)=Op.maxDepth from rfl,hr];rfl
     ·cases hb
    ·simp only[E2.mk.injEq]at he;subst he;cases hb
   case struct fs=>
    simp only at he;split at he
    ·simp only[E2.mk.injEq]at he;subst he;cases hb
    ·simp only[E2.mk.injEq]at he;subst he;unfold fI at hb;split at hb
     ·rename_i e1 e2;rw[e1]at hx;rw[e2]at hy;obtain⟨_,_,rfl,_⟩:=xK hx;obtain⟨_,_,rfl,_⟩:=xK hy;refine⟨⟨(),run_eqGuard_agg w op t x y _ _ hk⟩,?_⟩;cases neg<;>subst hop
      ·rw[if_neg (by simp),run_eql_struct,show(10000:Nat)=Op.maxDepth from rfl,hr];rfl
      ·rw[if_pos rfl,run_neq_struct,show(10000:Nat)=Op.maxDepth from rfl,hr];rfl
     ·cases hb
  obtain⟨⟨g,r1⟩,r2⟩:=run;simp[execOp,ho,hX,hY,r1,r2]
 ·trivial
theorem q53(k:IntKind)(b:Nat)(l:List AV):zei (.int k (.ofNat b)::l)=Nat.land b 255+256*zei l:=rfl
theorem qqh:∀(l:List AV) (vs:List Value) (r:Src) (acc:ByteArray),aM ι l vs->zul l=some r -> ∃bs:List UInt8,bs.length=l.length/\jV bs=zei l/\(forIn vs acc fun c (s:ByteArray)=>(match c with
   | .int .u8 n=>pure (ForInStep.yield (s.push (UInt8.ofNat n.toNat)))
   |_=>do stuck "bytesToString: byte expected";pure (ForInStep.yield s):Sem (ForInStep ByteArray))).run P w= .ok ⟨acc.data++bs.toArray⟩ w
 | [],vs,r,acc,h,_=>by simp only[aM]at h;subst h;exact⟨[],rfl,rfl,by simp⟩
 |x::l,vs,r,acc,h,hp=>by
  simp only[aM]at h;obtain⟨v,rr,rfl,hv,hr⟩:=h;have hp:zum x (zul l)=some r:=hp;unfold zum at hp;split at hp
  ·rename_i b s hs _;simp only[aP]at hv;subst hv;obtain⟨bs,b1,b2,b3⟩:=qqh l rr s (acc.push (UInt8.ofNat b)) hr hs;refine⟨UInt8.ofNat b::bs,by simp[b1],?_,?_⟩
   ·rw[qbv,q53,b2,qtk,UInt8.toNat_ofNat'];omega
   ·rw[List.forIn_cons];simp only[Int.ofNat_eq_natCast,Int.toNat_natCast,pure_bind];rw[b3];congr 2;simp[ByteArray.push]
  ·cases hp
theorem zt5{s t e:TypeId}{x:Operand}(ho:o.op=.convert s t x)(hs:P.underlying s=some (.slice e))(ht:P.underlying t=some .string)(he:P.underlying e=some (.int .u8))(hH:HR ι H w)(h:LR ι d n L a.tmps):gT P o a.eval ι w nm (ztq H ((aH d n x).f L)):=by
 have hx:=dN h x;unfold ztq;split
 ·rename_i e1;rw[e1]at hx;simp only[aP]at hx;refine⟨.string .empty,?_,qmm ⟨rfl,rfl⟩⟩;simp[execOp,ho,convert,bS hs,bS ht,bS he,hx,Conv.bytesToString]
 ·rename_i e1;rw[e1]at hx;simp only[aP]at hx;obtain⟨ad,c,hx⟩:=hx;refine⟨.string .empty,?_,qmm ⟨rfl,rfl⟩⟩;simp[execOp,ho,convert,bS hs,bS ht,bS he,hx,Conv.bytesToString,loadCells,loadCellsFrom]
 ·rename_i b i m cap ex e1;rw[e1]at hx;simp only[aP]at hx;obtain⟨_,l,h1,h2⟩:=hx;split
  ·rename_i cs hcs;split
   ·rename_i r hr;obtain⟨c1,c2⟩:=qel (hH.blk b (hH.lt h1)) hcs;have fin:∀ vs:List Value,vs.length=m->aM ι cs vs->(∀(j:Nat) (v:Value),vs[j]? =some v->w.cell? ⟨l.blk,l.base+i+j,none⟩=some v)->gT P o a.eval ι w nm (.val (.str m (zei cs))):=by
     intro vs v1 v2 v3;obtain⟨bs,b1,b2,b3⟩:=qqh (P:=P) (w:=w) cs vs r .empty v2 hr;have e0:(ByteArray.empty.data++bs.toArray).toList=bs:=by show(#[]++bs.toArray).toList=bs;simp
     refine⟨.string ⟨(ByteArray.empty.data++bs.toArray)⟩,?_,qmm ⟨by rw[e0,b1,c1],by rw[e0,b2]⟩⟩;have hl:=run_loadCells P w l.blk (l.base+i) vs v3;rw[v1]at hl;simp only[execOp,ho,convert,Sem.run_bind,bS hs,bS ht,bS he,h2,Result.andThen_ok,Conv.bytesToString,hl];rw[List.forIn_toArray];exact Eq.trans (congrArg (fun r:Result ByteArray=>(r.andThen fun a w'=>Sem.run P (pure (Value.string a)) w').andThen fun a w'=>Sem.run P (pure (Next.value a)) w') b3) rfl
    rcases c2 with rfl|⟨loc,vs,g1,g2,g3,g4,g5⟩
    ·have:cs=[]:=List.length_eq_zero_iff.1 c1;subst this;exact fin [] rfl (by simp[aM]) (by simp)
    ·rw[h1]at g1;cases g1;exact fin vs g3 g2 g5
   ·trivial
  ·trivial
 ·trivial
theorem qwr(a:Nat):∀(n i:Nat),Nat.rec (motive:=fun _=>Nat->List AV) (fun _=>[]) (fun _ ih i=>.int .u8 (.ofNat (rW a i))::ih (Nat.succ i)) n i=(List.range' i n).map fun j=>.int .u8 (.ofNat (rW a j))
 |0,i=>rfl
 |n+1,i=>by rw[List.range'_succ,List.map_cons,<-qwr a n (i+1)]
theorem qjq{m bits:Nat}{s:ByteArray}(h:xV m bits s):aM ι (qws bits m) (s.data.toList.map fun b=>Value.int .u8 (b.toNat:Int)):=by
 obtain⟨rfl,rfl⟩:=h;unfold qws;rw[qwr,<-List.range_eq_range'];refine aM.xQ (by simp) fun i v hv=>?_;have hi:i<s.data.toList.length:=by
  rcases Nat.lt_or_ge i s.data.toList.length with h|h
  ·exact h
  ·simp_all
 rw[List.getElem?_map,List.getElem?_range hi]at hv;simp only[Option.map_some,Option.some.injEq]at hv;subst hv;refine⟨_,by rw[List.getElem?_map,List.getElem?_eq_getElem hi];rfl,?_⟩;rw[qwt _ _ hi];rfl
theorem zd8{s t e:TypeId}{x:Operand}(ho:o.op=.convert s t x)(hs:P.underlying s=some .string)(ht:P.underlying t=some (.slice e))(he:P.underlying e=some (.int .u8))(h:LR ι d n L a.tmps):gT P o a.eval ι w nm (qz6 nm ((aH d n x).f L)):=by
 have hx:=dN h x;unfold qz6;split
 ·rename_i m bits e1;rw[e1]at hx;simp only[aP]at hx;obtain⟨u,hu,h1⟩:=hx;have hsz:u.size=m:=h1.1;obtain⟨c,hc⟩:∃ c,(Question.appendCap u.size 0 e).cut (w.tape w.drawn (.appendCap u.size 0 e))=u.size+c:=⟨_,rfl⟩
  let C:Array Value:=(u.data.map fun b=>Value.int .u8 (b.toNat:Int))++Array.replicate c (.int .u8 0)
  have hC:C.size=m+c:=by simp[C,<-hsz]
  let w1:World:=(w.drew).alloc (.cells C e)
  have hsh:w1.shape? w.heap.size=some (e,m+c):=by show(match(w.heap.push _)[w.heap.size]? with|some (.cells c elem _)=>some (elem,c.size)|_=>none)=_;simp[hC]
  let w2:World:=w1.freeze ⟨w.heap.size,m+c,none⟩ 1
  have hh:w2.heap[w.heap.size]? =some (.cells C e (m+c,m+c+1)):=by show((if(1:Nat)=0 then w1 else _:World)).heap[w.heap.size]? =_;show((w.heap.push _).modify _ _)[w.heap.size]? =_;rw[Array.getElem?_modify,if_pos rfl,Array.getElem?_push,if_pos rfl];rfl
  refine⟨.slice (some ⟨w.heap.size,0,none⟩) m (m+c),w2,⟨w.heap.size,0,c,1⟩,?_,⟨rfl,rfl,rfl,?_,fun k hk=>?_,rfl⟩,fun ι' hle hi=>⟨?_,?_⟩⟩
  ·have hcap:u.size+c-u.size=c:=by omega
   simp only[execOp,ho,convert,Sem.run_bind,bS hs,bS ht,bS he,hu,Result.andThen_ok,Conv.stringToBytes,run_choose_drew,Question.forced,Bool.false_eq_true,if_false,hc,hcap,newRow,run_newObj_alloc,Sem.run_pure,markStringish,run_shape];rw[show(w.drew.alloc (.cells C e)).shape? w.drew.heap.size=some (e,m+c)from hsh];simp only[run_freeze,Result.andThen_ok,hsz];rfl
  ·show(if(1:Nat)=0 then w1 else _:World).heap.size=_;show((w.heap.push _).modify _ _).size=_;simp
  ·show((if(1:Nat)=0 then w1 else _:World)).heap[k]? =_;show((w.heap.push _).modify _ _)[k]? =_;rw[Array.getElem?_modify,if_neg (show ¬w.heap.size=k by omega),Array.getElem?_push,if_neg (show ¬k=w.heap.size by omega)]
  ·simp only[aP];exact⟨Nat.le_refl _,_,hi,by simp⟩
  ·have cell:∀ i,w2.cell? ⟨w.heap.size,i,none⟩=C[i]? :=fun i=>by simp[World.cell?,hh]
   have aBo:∀ i,i<m+c->w2.frozen? ⟨w.heap.size,i,none⟩=false:=fun i hi=>by simp[World.frozen?,hh];omega
   have hl:(qws bits m).length=m:=by rw[<-(qjq (ι:=ι') h1).length];simp;exact h1.1
   refine qky (loc:=⟨w.heap.size,0,c,1⟩) hi (qjq h1) (fun v hv=>?_) (fun i v hv=>?_) (fun j hj=>?_)
   ·simp at hv;obtain⟨_,_,rfl⟩:=hv;rfl
   ·have hi':i<m:=by
     rcases Nat.lt_or_ge i m with h|h
     ·exact h
     ·rw[List.getElem?_eq_none (by simp;rw[<-hsz]at h;exact h)]at hv;cases hv
    simp only[Nat.zero_add];refine⟨?_,aBo i (by omega)⟩;rw[cell,Array.getElem?_append_left (by simp;rw[<-hsz]at hi';exact hi')];simpa using hv
   ·simp only[Nat.mul_one]at hj;simp only[Nat.zero_add,hl];refine⟨.int .u8 0,?_,aBo _ (by omega),rfl⟩;rw[cell,Array.getElem?_append_right (by simp;rw[<-hsz];exact Nat.le_add_right _ _)];have e2:(u.data.map fun b=>Value.int .u8 (b.toNat:Int)).size=m:=by simp;exact hsz
    rw[e2,show m+j-m=j by omega];simp[hj]
 ·trivial
theorem zv9{op:BinOp}{t ty:TypeId}{x y:Operand}(ho:o.op=.binOp op t x y ty)(h:LR ι d n L a.tmps):gT P o a.eval ι w nm ((vF P op t).f ((aH d n x).f L) ((aH d n y).f L)):=by
 have eqs:∀ td,P.underlying t=some td->(match td with| .bool| .pointer _| .slice _| .map .. | .func .. | .interface _=>True| .struct _| .array .. =>P.eqGuardType P.depth t=false|_=>False) ->
   gT P o a.eval ι w nm ((match op,uO P zW t with
    | .eql,⟨e⟩=>(⟨fun x y=>oL false (e x y)⟩:V2)
    | .neq,⟨e⟩=>⟨fun x y=>oL true (e x y)⟩
    |_,_=>⟨fun _ _=>.bad⟩).f ((aH d n x).f L) ((aH d n y).f L)):=by
  intro td hu hk;have hk':∀ td',P.underlying t=some td'->match td' with| .bool| .pointer _| .slice _| .map .. | .func .. | .interface _=>True| .struct _| .array .. =>P.eqGuardType P.depth t=false|_=>False:=fun td' h'=>by simp_all
  split
  ·rename_i e he;exact aHu ho false rfl he hk' ⟨td,hu⟩ h
  ·rename_i e he;exact aHu ho true rfl he hk' ⟨td,hu⟩ h
  ·trivial
 unfold vF;split
 ·split
  ·exact zea ho (.inl rfl) h
  ·exact zea ho (.inr rfl) h
  ·rename_i h1 h2;exact aIv ho ⟨fun e=>h1 e,fun e=>h2 e⟩ h
 ·exact zlx ho h
 ·rename_i hu;exact eqs _ hu trivial
 ·rename_i hu;exact eqs _ hu trivial
 ·rename_i hu;exact eqs _ hu trivial
 ·rename_i hu;exact eqs _ hu trivial
 ·rename_i hu;exact eqs _ hu trivial
 ·rename_i hu;exact eqs _ hu trivial
 ·rename_i hu;split
  ·trivial
  ·rename_i hg;exact eqs _ hu (by simpa using hg)
 ·rename_i hu;split
  ·trivial
  ·rename_i hg;exact eqs _ hu (by simpa using hg)
 ·trivial
theorem zyp{args:List Operand}{ts:List TypeId}(ho:o.op=.call {callee:=.builtin .len,args:=args.toArray,argTypes:=ts.toArray}){lk:Bool}{f:Nat->TT AV d->Hp->R0}(hf:rY P d n args ts=.q lk f)(hH:HR ι H w)(h:LR ι d n L a.tmps):gT P o a.eval ι w nm (f nm L H):=by
 unfold rY at hf;split at hf
 ·rename_i x t;split at hf
  ·rename_i hu;cases hf;exact qpr ho (.inl ⟨_,hu⟩)
  ·rename_i hu;split at hf
   ·rename_i ha;cases hf;exact qpr ho (.inr ⟨_,_,hu,ha⟩)
   ·cases hf
  ·rename_i hu;cases hf;exact zl0 ho hu h
  ·rename_i hu;cases hf;exact zt8 ho hu h
  ·rename_i hu;cases hf;exact zxv ho hu hH h
  ·cases hf
 ·cases hf
theorem zzq{args:List Operand}{ts:List TypeId}(ho:o.op=.call {callee:=.builtin .cap,args:=args.toArray,argTypes:=ts.toArray}){lk:Bool}{f:Nat->TT AV d->Hp->R0}(hf:xD P d n args ts=.q lk f)(h:LR ι d n L a.tmps):gT P o a.eval ι w nm (f nm L H):=by
 unfold xD at hf;split at hf
 ·rename_i x t;split at hf
  ·rename_i hu;cases hf;exact q51 ho ⟨_,hu⟩
  ·rename_i hu;cases hf;exact zug ho hu h
  ·cases hf
 ·cases hf
theorem zyc{args:List Operand}{ts:Array TypeId}(ho:o.op=.call {callee:=.builtin .min,args:=args.toArray,argTypes:=ts}){lk:Bool}{f:Nat->TT AV d->Hp->R0}(hf:wU d n args=.q lk f)(h:LR ι d n L a.tmps):gT P o a.eval ι w nm (f nm L H):=by
 unfold wU at hf;split at hf
 ·cases hf;exact aHV ho h
 ·cases hf
theorem zye{args:List Operand}{ts:Array TypeId}(ho:o.op=.call {callee:=.builtin .max,args:=args.toArray,argTypes:=ts}){lk:Bool}{f:Nat->TT AV d->Hp->R0}(hf:wN d n args=.q lk f)(h:LR ι d n L a.tmps):gT P o a.eval ι w nm (f nm L H):=by
 unfold wN at hf;split at hf
 ·cases hf;exact aKI ho h
 ·cases hf
theorem zzx{args:List Operand}{ts:List TypeId}{lk:Bool}{f:Nat->TT AV d->Hp->R0}(hf:wT P d n args ts=.q lk f):False:=by
 unfold wT at hf;split at hf
 ·split at hf
  ·split at hf<;>cases hf
  ·cases hf
 ·cases hf
theorem zvu{args:List Operand}{ts:List TypeId}{lk:Bool}{f:Nat->TT AV d->Hp->R0}(hf:q08 P d n args ts=.q lk f):False:=by
 unfold q08 at hf;split at hf
 ·split at hf
  ·split at hf<;>cases hf
  ·cases hf
 ·cases hf
theorem zzk{args:List Operand}{ts:List TypeId}{lk:Bool}{f:Nat->TT AV d->Hp->R0}(hf:wR P d n args ts=.q lk f):False:=by
 unfold wR at hf;split at hf
 ·split at hf
  ·split at hf<;>cases hf
  ·cases hf
 ·cases hf
theorem zzn{args:List Operand}{ts:List TypeId}{lk:Bool}{f:Nat->TT AV d->Hp->R0}(hf:xR P d n args ts=.q lk f):False:=by
 unfold xR at hf;split at hf
 ·split at hf
  ·split at hf<;>cases hf
  ·cases hf
  ·cases hf
 ·cases hf
theorem q65{b:Builtin}{args:Array Operand}{ts:Array TypeId}(ho:o.op=.call {callee:=.builtin b,args,argTypes:=ts}){lk:Bool}{f:Nat->TT AV d->Hp->R0}(hf:qd5 P d n b args.toList ts.toList=.q lk f)(hH:HR ι H w)(h:LR ι d n L a.tmps):gT P o a.eval ι w nm (f nm L H):=by
 unfold qd5 at hf;split at hf
 ·exact zyp (by simpa using ho) hf hH h
 ·exact zzq (by simpa using ho) hf h
 ·exact zyc (ts:=ts) (by simpa using ho) hf h
 ·exact zye (ts:=ts) (by simpa using ho) hf h
 ·exact(zzx hf).elim
 ·exact(zvu hf).elim
 ·exact(zzk hf).elim
 ·exact(zzn hf).elim
 ·cases hf
theorem qnt:∀ x y:List UInt8,Lib.compareBytes x y=bif Op.bytesLess x y then -1 else bif decide (x=y)then 0 else 1
 | [],[]=>by simp[Lib.compareBytes,Op.bytesLess]
 | [],_::_=>by simp[Lib.compareBytes,Op.bytesLess]
 |_::_,[]=>by simp[Lib.compareBytes,Op.bytesLess]
 |a::x,b::y=>by
  have ih:=qnt x y;simp only[Lib.compareBytes,Op.bytesLess];by_cases h1:a<b
  ·simp[h1]
  ·by_cases h2:b<a
   ·have hne:a≠b:=fun e=>by subst e;exact absurd h2 h1
    simp_all
   ·have he:a=b:=UInt8.le_antisymm (UInt8.not_lt.1 h2) (UInt8.not_lt.1 h1);simp_all
theorem zfj{f:FuncId}(h:zmt P f=true)(s t:ByteArray)(w:World):(callFunc f #[.string s,.string t]).run P w=.ok (.value (.int .i64 (Lib.compareBytes s.data.toList t.data.toList))) w:=by
 unfold zmt at h;split at h
 ·rename_i fn hfn;simp only[Bool.and_eq_true,beq_iff_eq,Option.isNone_iff_eq_none]at h;obtain⟨⟨h1,h2⟩,h3⟩:=h;have hnx:Extern.findNext fn=none:=by
   unfold Extern.findNext;rw[h2,h3];have e1:Extern.allNextRows.lookup qns=none:=by decide +kernel
   have e2:Extern.allNextRows.lookup "" =none:=by decide +kernel
   simp only[e1,e2];rfl
  have hfd:Extern.find fn=some Extern.BytealgCompare.compare:=by
   unfold Extern.find;rw[h2];have e1:(Extern.allGenericRows.lookup qns)=none:=by decide +kernel
   have e2:(Extern.allTypedRows.lookup qns)=none:=by decide +kernel
   have e3:Extern.allRows.lookup qns=some Extern.BytealgCompare.compare:=by kernel_rfl
   simp only[e1,e2,e3];rfl
  have hname:¬ fn.name = "runtime.NumGoroutine" :=by rw[h2];decide +kernel
  have hr:=Lib.run_compareString (P:=P) s t w;simp[callFunc,hfn,hname,h1,hnx,hfd,hr,mark,Sem.run]
 ·cases h
theorem aKJ{f:FuncId}{args:Array Operand}{ts:Array TypeId}(ho:o.op=.call {callee:=.value (.func f),args,argTypes:=ts})(hc:zmt P f=true)(h:LR ι d n L a.tmps):gT P o a.eval ι w nm (aD8 ((rO d n args.toList).f L)):=by
 have ha:=qco h args.toList;unfold aD8;split
 ·rename_i n1 a1 m1 b1 e;rw[e]at ha;obtain⟨v1,r1,e1,⟨s,rfl,hs⟩,v2,r2,rfl,⟨t,rfl,ht⟩,rfl⟩:=ha;refine⟨.int .i64 (Lib.compareBytes s.data.toList t.data.toList),?_,?_⟩
  ·have hargs:args.map a.eval= #[.string s,.string t]:=by
    have:args.map a.eval=(args.toList.map a.eval).toArray:=by rw[<-Array.toList_map]
    rw[this,e1]
   have hr:=zfj hc s t w;have hev:a.eval (.func f)=.func (.func f) #[] #[]:=rfl;simp only[execOp,ho,resolve,hev,Deferred.ofValue,hargs];trivial
  ·have hl:=xV.less hs ht;have he:eqS n1 a1 m1 b1=decide (s.data.toList=t.data.toList):=by
    rw[xV.eq hs ht,Bool.eq_iff_iff];simp
   rw[hl,he,qnt];rfl
 ·trivial
theorem zua{x:Operand}(ho:o.op=.entry x)(hH:HR ι H w)(h:LR ι d n L a.tmps):gT P o a.eval ι w nm (aEY H ((aH d n x).f L)):=by
 have hx:=dN h x;unfold aEY;split
 ·rename_i b off e1;rw[e1]at hx;simp only[aP]at hx;obtain⟨loc,h1,h2⟩:=hx;have hb:=hH.blk b (hH.lt h1);cases ho0:Nat.beq off 0 with
  |false=>trivial
  |true=>
   obtain rfl:=Nat.eq_of_beq_eq_true ho0;split
   ·rename_i m since pos hg;rw[hg]at hb;obtain⟨l',r,g1,g0,g2,g3⟩:=hb;rw[h1]at g1;cases g1;rw[g0,Nat.add_zero]at h2;split
    ·rename_i m p;obtain⟨lm,k1,rfl⟩:=g3;have hm:=hH.blk m (hH.lt k1);split
     ·rename_i es clock hgm;rw[hgm]at hm;obtain⟨l2,ES,j1,j2,j3⟩:=hm;rw[k1]at j1;cases j1;cases hcs:Nat.beq clock since with
      |false=>trivial
      |true=>
       obtain rfl:=Nat.eq_of_beq_eq_true hcs;split
       ·rename_i e;simp only[bW]at j3;obtain⟨E,_,rfl,q1,q2,q3,rfl⟩:=j3;cases hp:Nat.beq e.born p with
        |false=>trivial
        |true=>
         have hp:=Nat.eq_of_beq_eq_true hp;have hp:p=E.born:=by omega
         subst hp;refine⟨.tuple #[E.key,E.val],?_,?_⟩
         ·simp[execOp,ho,h2,Instr.entry,getObj,Sem.run,g2,j2]
         ·simp only[aP,aM];exact⟨_,⟨_,_,rfl,q1,_,_,rfl,q2,rfl⟩,rfl⟩
       ·trivial
     ·trivial
    ·trivial
   ·trivial
 ·trivial
theorem zun{lk:Bool}{f:Nat->TT AV d->Hp->R0}(hf:gP P d n o=.q lk f)(hH:HR ι H w)(h:LR ι d n L a.tmps):gT P o a.eval ι w nm (f nm L H):=by
 unfold gP at hf;split at hf
 ·rename_i x ho;cases hf;exact zp6 (.inl ho) h
 ·rename_i x ho;cases hf;exact zp6 (.inr ho) h
 ·rename_i ho;cases hf;exact zxu ho h
 ·rename_i ho;unfold q3h at hf;split at hf
  ·rename_i hz;cases hf;exact zuh ho hz
  ·cases hf
 ·rename_i ho;unfold aAE at hf;split at hf
  ·rename_i k g e1 e2 e3;cases hf;have:=zxz (P:=P) (w:=w) (nm:=nm) ho k h;rw[e3]at this;exact this
  ·rename_i e1 e2 e3;cases hf;have:=zx0 (P:=P) (w:=w) (nm:=nm) ho h;rw[e3]at this;exact this
  ·cases hf
 ·rename_i ho;unfold q3g at hf;split at hf
  ·rename_i e1 e2;split at hf
   ·rename_i e3;split at hf
    ·rename_i e4;cases hf;exact zl2 ho e1 e2 e3 e4 h
    ·cases hf
   ·cases hf
  ·rename_i e1 e2;split at hf
   ·rename_i e3;split at hf
    ·rename_i e4;cases hf;exact zl3 ho e1 e2 e3 e4 h
    ·cases hf
   ·cases hf
  ·cases hf
 ·rename_i ho;unfold qev at hf;split at hf
  ·rename_i e1;split at hf
   ·rename_i s z e2 e3;cases hc:(Nat.ble (_*s) 65536&&Nat.beq z.length s)with
    |false=>rw[hc]at hf;cases hf
    |true=>
     rw[hc]at hf;simp only[cond_true]at hf;simp only[Bool.and_eq_true]at hc;split at hf
     ·rename_i e4;cases hf;exact qvm ho e1 e3 e2 (sH hc.2) (nN hc.1) e4 h
     ·cases hf
   ·cases hf
  ·cases hf
 ·rename_i ho;unfold zdr at hf;split at hf
  ·rename_i e1 e2 e3;cases hf;have:=zt6 (P:=P) (nm:=nm) ho e1 e2 hH h;rw[e3]at this;exact this
  ·rename_i e1 e2 e3;cases hf;have:=zt7 (P:=P) (nm:=nm) ho e1 hH h;rw[e3]at this;exact this
  ·cases hf
 ·unfold qva at hf;split at hf<;>cases hf
 ·rename_i ho;cases hf;exact q5y ho h
 ·rename_i ho;cases hf;exact zv9 ho h
 ·rename_i ho;cases hf;exact aPA ho h
 ·rename_i ho;unfold qkq at hf;split at hf
  ·rename_i e1 e2 e3;cases hf;have:=zuf (P:=P) (w:=w) (nm:=nm) ho e1 e2 h;rw[e3]at this;exact this
  ·rename_i e1 e2 e3;cases hf;have:=zue (P:=P) (w:=w) (nm:=nm) ho e1 e2 h;rw[e3]at this;exact this
  ·rename_i e1 e2 e3;split at hf
   ·rename_i e4;cases hf;have:=zd8 (P:=P) (w:=w) (nm:=nm) ho e1 e2 e4 h;rw[e3]at this;exact this
   ·cases hf
  ·rename_i e1 e2 e3;split at hf
   ·rename_i e4;split at hf
    ·cases hf;have:=zt5 (P:=P) (nm:=nm) ho e1 e2 e4 hH h;rw[e3]at this;exact this
    ·cases hf
   ·cases hf
  ·cases hf
 ·rename_i ho;unfold qcy at hf;split at hf
  ·cases hf
  ·rename_i hn e1 e2;cases hf;have:=qmq (P:=P) (w:=w) (nm:=nm) ho e1 (fun ms e=>hn ms (by rw[e])) h;rw[e2]at this;exact this
  ·cases hf
 ·rename_i ho;cases hf;exact q50 ho h
 ·rename_i ho;cases hf;exact zeb ho
 ·rename_i ho;unfold qf5 at hf;split at hf
  ·rename_i e1 e2 e3;split at hf
   ·rename_i z w' s e4 e5 e6;cases hc:Nat.beq z.length s with
    |false=>rw[hc]at hf;cases hf
    |true=>rw[hc]at hf;cases hf;have:=zly (P:=P) (w:=w) (nm:=nm) ho e1 e4 e5 e6 (sH hc) h;rw[e2,e3]at this;exact this
   ·cases hf
  ·cases hf
 ·rename_i ho;unfold q3c at hf;split at hf
  ·rename_i e1 e2 e3 e4;split at hf
   ·cases hf;have:=q5x (P:=P) (w:=w) (nm:=nm) ho e1 h;rw[e2,e3,e4]at this;exact this
   ·cases hf
  ·rename_i e1 e2 e3 e4 e5;split at hf
   ·rename_i e6;cases hf;have:=zd9 (P:=P) (w:=w) (nm:=nm) ho e1 e6 h;rw[e2,e3,e4,e5]at this;exact this
   ·cases hf
  ·rename_i e1 e2 e3 e4 e5;split at hf
   ·rename_i e6;cases hf;have:=qpq (P:=P) (w:=w) (nm:=nm) ho (.inl e1) e6 h;rw[e2,e3,e4,e5]at this;exact this
   ·cases hf
  ·rename_i e1 e2 e3 e4 e5;split at hf
   ·rename_i e7;split at hf
    ·rename_i e6;cases hf;have:=qpq (P:=P) (w:=w) (nm:=nm) ho (.inr ⟨_,e1,e7⟩) e6 h;rw[e2,e3,e4,e5]at this;exact this
    ·cases hf
   ·cases hf
  ·cases hf
 ·rename_i ho;unfold qek at hf;split at hf
  ·rename_i e1 e2;split at hf
   ·rename_i e3;split at hf
    ·rename_i e4;cases hf;have:=q0m (P:=P) (w:=w) (nm:=nm) ho e1 e3 e4 h;rw[e2]at this;exact this
    ·cases hf
   ·cases hf
  ·cases hf
 ·rename_i ho;unfold qvd at hf;split at hf
  ·rename_i e1 e2;split at hf
   ·rename_i e3;cases hf;have:=zt9 (P:=P) (w:=w) (nm:=nm) ho e1 e3 h;rw[e2]at this;exact this
   ·cases hf
  ·cases hf
 ·rename_i ho;unfold qej at hf;split at hf
  ·rename_i e1 e2 e3;split at hf
   ·rename_i e4;cases hf;have:=zxx (P:=P) (w:=w) (nm:=nm) ho e1 e4 h;rw[e2,e3]at this;exact this
   ·cases hf
  ·rename_i e1 e2 e3;split at hf
   ·rename_i e4;cases hf;have:=zxy (P:=P) (w:=w) (nm:=nm) ho e1 e4 h;rw[e2,e3]at this;exact this
   ·cases hf
  ·cases hf
 ·rename_i ho;unfold qvc at hf;split at hf
  ·rename_i e1 e2 e3;cases hf;have:=zl1 (P:=P) (w:=w) (nm:=nm) ho e1 h;rw[e2,e3]at this;exact this
  ·rename_i e1 e2 e3;split at hf
   ·rename_i e4;cases hf;have:=zxw (P:=P) (w:=w) (nm:=nm) ho e1 e4 h;rw[e2,e3]at this;exact this
   ·cases hf
  ·cases hf
 ·rename_i ho;unfold qsv at hf;split at hf
  ·rename_i e1 e2 e3;split at hf
   ·rename_i e4 e5;cases hf;have:=zlz (P:=P) (nm:=nm) ho e1 e4 e5 hH h;rw[e2,e3]at this;exact this
   ·cases hf
  ·cases hf
 ·unfold qdk at hf;split at hf<;>first|(cases hf;done)|(split at hf<;>cases hf)
 ·unfold qdk at hf;split at hf<;>first|(cases hf;done)|(split at hf<;>cases hf)
 ·unfold qhy at hf;split at hf<;>first|(cases hf;done)|(split at hf<;>cases hf)
 ·cases hf
 ·rename_i ho;cases hf;exact zec ho h
 ·unfold q3d at hf;split at hf<;>cases hf
 ·unfold zlp at hf;split at hf<;>cases hf
 ·rename_i ho;cases hf;exact zua ho hH h
 ·rename_i ho;exact q65 ho hf hH h
 ·rename_i ho;unfold q3f at hf;split at hf
  ·rename_i g e1 e2;cases hf;have:=aKJ (P:=P) (w:=w) (nm:=nm) ho e2 h;rw[e1]at this;exact this
  ·cases hf
 ·cases hf
 ·cases hf
end Go.Ev
end
section
namespace Go.Ev
open Go.RowKit
variable {P:Program} {w:World} {ι:Im} {o:Oper} {a:Act} {d n:Nat} {L:TT AV d} {H:Hp}
def q8(P:Program)(o:Oper)(ρ:Operand->Value)(ι:Im)(H:Hp)(w:World):R1->Prop
 | .bad=>True
 | .ok v H'=>∃ N V w' ι',(execOp ρ o).run P w=.ok N w'/\(N=.value V\/(N=.skip/\V=Go.undef))/\aP ι' v V/\HR ι' H' w'/\Fr ι ι' H H' w w'
theorem qdj(P:Program){b i:Nat}{l:List AV}{vs:List Value}{loc:Loc}(hH:HR ι H w)(hb:ι b=some loc)(hr:aM ι l vs)(h1:∀ v∈vs,v.oneCell=true){v u:AV}{H':Hp}(h:storeAt H b i l v=.ok u H'):u=v/\∃ w',(storeCells ⟨loc.blk,loc.base+i,none⟩ vs).run P w=.ok () w'/\HR ι H' w'/\Fr ι ι H H' w w':=by
 have hlt:=hH.lt hb;have hB:=hH.blk b hlt;unfold storeAt at h;split at h
 ·rename_i blk hblk;obtain⟨rfl,rfl⟩:=h;refine⟨rfl,?_⟩;unfold vS at hblk;split at hblk
  ·rename_i dd nn c zz hg;cases hle:Nat.ble (i+l.length) nn with
   |false=>rw[hle]at hblk;cases hblk
   |true=>
    rw[hle]at hblk;simp only[cond_true,Option.some.injEq]at hblk;subst hblk;have hle:=nN hle;rw[hg]at hB;obtain⟨l',b1,b2,b3,b4⟩:=hB;rw[hb]at b1;cases b1;have hlen:=hr.length;obtain⟨w',r1,r2⟩:=qgu P loc.blk vs w (loc.base+i) 0 (fun j hj=>by
     obtain⟨V,c1,c2,c3,c4⟩:=b3 (i+j) (by omega);refine⟨V,?_,?_⟩
     ·rw[show loc.base+i+0+j=loc.base+(i+j)by omega];exact c1
     ·rw[show loc.base+i+0+j=loc.base+(i+j)by omega];exact c4 rfl) h1
    rw[Nat.add_zero]at r2;refine⟨w',r1,hH.put hlt (by rw[hg];rfl) hb _ r2.os r2.tape r2.output r2.size r2.keep ?_⟩;refine⟨loc,hb,b2,fun j hj=>?_,fun _ j hj=>?_⟩
    ·rw[qg4 _ _ _ _ (by omega) (by omega),r2.cell,r2.frozen];obtain⟨V,c1,c2,c3,c4⟩:=b3 j hj;by_cases hin:i<=j/\j<i+l.length
     ·rw[if_pos hin,if_pos (by omega)];have hg':l[j-i]? =some (l.getD (j-i) .undef):=by
       have:j-i<l.length:=by omega
       simp[this]
      obtain⟨V',d1,d2⟩:=hr.get _ _ hg';refine⟨V',?_,d2,h1 V' (List.mem_of_getElem? d1),c4⟩;rw[show loc.base+j-(loc.base+i)=j-i by omega,List.getD_eq_getElem?_getD,d1];rfl
     ·rw[if_neg hin,if_neg (by omega)];simp_all
    ·rw[r2.cell,r2.frozen,if_neg (by omega)];simp_all
  ·cases hblk
 ·cases h
theorem znb{t:TypeId}{x y:Operand}(ho:o.op=.store t x y)(hz:gK P t=some 1)(hH:HR ι H w)(h:LR ι d n L a.tmps):q8 P o a.eval ι H w (gJ H ((aH d n x).f L) ((aH d n y).f L)):=by
 have hx:=dN h x;have hy:=dN h y;unfold gJ;split<;>first|trivial|skip
 rename_i b i e1 hn1 hn2 wF hn4;rw[e1]at hx;simp only[aP]at hx;obtain⟨loc,h1,h2⟩:=hx;have hp:((aH d n y).f L).plain=true:=by
  unfold AV.plain;split
  ·simp_all
  ·simp_all
  ·trivial
  ·simp_all
  ·rfl
 obtain⟨o1,o2⟩:=hy.one hp;cases hs:storeAt H b i [(aH d n y).f L] .undef with
 |bad=>trivial
 |ok u H'=>obtain⟨rfl,w',r1,r2,r3⟩:=qdj P hH h1 (aM.singleton hy) (by simpa using o1) hs;refine⟨.skip,Go.undef,w',ι,?_,.inr ⟨rfl,rfl⟩,by simp[aP,Go.undef],r2,r3⟩;simp[execOp,ho,Instr.storeAt,h2,Instr.sureAddr,storeVar,o2,mJ hz,r1]
theorem zna{t:TypeId}{x y:Operand}(ho:o.op=.store t x y){k:Nat}(hz:gK P t=some k)(hH:HR ι H w)(h:LR ι d n L a.tmps):q8 P o a.eval ι H w (dY k H ((aH d n x).f L) ((aH d n y).f L)):=by
 have hx:=dN h x;have hy:=dN h y;unfold dY;split
 ·rename_i b i l e1 e2;rw[e1]at hx;simp only[aP]at hx;obtain⟨loc,h1,h2⟩:=hx;rw[e2]at hy;obtain⟨vs,v1,v2,v3⟩:=xK hy;cases hk:Nat.beq l.length k with
  |false=>trivial
  |true=>
   have hk:=sH hk;cases hs:storeAt H b i l .undef with
   |bad=>trivial
   |ok u H'=>
    obtain⟨rfl,w',r1,r2,r3⟩:=qdj P hH h1 v1 v3 hs;refine⟨.skip,Go.undef,w',ι,?_,.inr ⟨rfl,rfl⟩,by simp[aP,Go.undef],r2,r3⟩;have hl:vs.length=k:=by rw[v1.length,hk]
    simp[execOp,ho,Instr.storeAt,h2,Instr.sureAddr,storeVar,v2,Value.cells,mJ hz,hl,r1]
 ·trivial
theorem qwe(need:Nat):∀(r c X:Nat),c<=X->need+(need+768) / 4<=X->Builtin.growBy need r c<=X
 |0,c,X,h,_=>h
 |r+1,c,X,h,k=>by
  unfold Builtin.growBy;split
  ·exact h
  ·exact qwe need r _ X (by omega) k
theorem qpz{need old:Nat}(h:old<need):Builtin.nextslicecap need old<=3*need:=by
 unfold Builtin.nextslicecap;split
 ·omega
 ·split
  ·omega
  ·exact qwe need 4 old _ (by omega) (by omega)
theorem q26{z:Nat}{x:AV}{X:Value}(hx:aP ι x X)(hH:HR ι H w){s:Src}(h:zlg z H x=some s)(hz1:(∃m b,x=.str m b)->z=1):∃vs:List Value,aM ι s.l vs/\(∀v∈vs,v.oneCell=true)/\vs.length=s.n*z/\(Builtin.lenOf X).run P w=.ok s.n w /\ ∀k,k<=s.n->(Builtin.firstCells z k X).run P w=.ok (vs.take (k*z)).toArray w:=by
 unfold zlg at h;split at h
 ·simp only[Option.some.injEq]at h;subst h;simp only[aP]at hx;subst hx;exact⟨[],by simp[aM],by simp,by simp,by simp[Builtin.lenOf],fun k _=>by simp[Builtin.firstCells]⟩
 ·simp only[Option.some.injEq]at h;subst h;simp only[aP]at hx;obtain⟨ad,c,rfl⟩:=hx;refine⟨[],by simp[aM],by simp,by simp,by simp[Builtin.lenOf],fun k hk=>?_⟩;have:k=0:=by simpa using hk
  subst this;simp[Builtin.firstCells,loadCells,loadCellsFrom]
 ·rename_i b i m cap ex;obtain⟨_,loc,h1,rfl⟩:=hx;split at h
  ·rename_i cs hcs;simp only[Option.some.injEq]at h;subst h;obtain⟨c1,c2⟩:=qel (hH.blk b (hH.lt h1)) hcs;have fin:∀ vs:List Value,vs.length=m*z->aM ι cs vs->(∀v∈vs,v.oneCell=true)->(∀(j:Nat) (v:Value),vs[j]? =some v->w.cell? ⟨loc.blk,loc.base+i+j,none⟩=some v) ->
     ∃vs:List Value,aM ι cs vs/\(∀v∈vs,v.oneCell=true)/\vs.length=m*z/\(Builtin.lenOf (.slice (some ⟨loc.blk,loc.base+i,none⟩) m (if ex then cap else cap+loc.ext))).run P w=.ok m w /\
      ∀k,k<=m->(Builtin.firstCells z k (.slice (some ⟨loc.blk,loc.base+i,none⟩) m (if ex then cap else cap+loc.ext))).run P w=.ok (vs.take (k*z)).toArray w:=by
    intro vs v1 v2 v3 v4;refine⟨vs,v2,v3,v1,by simp[Builtin.lenOf],fun k hk=>?_⟩;have hkz:k*z<=m*z:=Nat.mul_le_mul_right z hk;have hlen:(vs.take (k*z)).length=k*z:=by rw[List.length_take];omega
    have:=run_loadCells P w loc.blk (loc.base+i) (vs.take (k*z)) (fun j v hv=>v4 j v (by
     rw[List.getElem?_take]at hv;split at hv
     ·exact hv
     ·cases hv))
    rw[hlen]at this;trivial
   rcases c2 with c2|⟨sV,vs,g1,g2,g3,g4,g5⟩
   ·have c2:m*z=0:=c2;have:cs=[]:=List.length_eq_zero_iff.1 (by rw[c1];exact c2);subst this;exact fin [] (by simp[c2]) (by simp[aM]) (by simp) (by simp)
   ·rw[h1]at g1;cases g1;exact fin vs g3 g2 g4 g5
  ·cases h
 ·rename_i m bits;simp only[Option.some.injEq]at h;subst h;have hz:z=1:=hz1 ⟨_,_,rfl⟩;subst hz;obtain⟨s,rfl,hs⟩:=hx;have hsz:s.size=m:=hs.1;refine⟨_,qjq hs,fun v hv=>?_,?_,by simp[Builtin.lenOf,hsz],fun k hk=>?_⟩
  ·simp at hv;obtain⟨_,_,rfl⟩:=hv;rfl
  ·simp;exact hsz
  ·simp only[Builtin.firstCells,Sem.run_pure];congr 1;apply Array.ext';simp
 ·cases h
theorem qtp{e:TypeId}{ap:Ap}(hap:apS P e=some ap)(hH:HR ι H w){old:List AV}{iG:List Value}(ho:aM ι old iG)(ho1:∀ v∈iG,v.oneCell=true){x:Src}{oN:List Value}(hx:aM ι x.l oN)(hx1:∀ v∈oN,v.oneCell=true){need:Nat}(hn:iG.length+oN.length=need*ap.z){v:AV}{H':Hp}(h:grow ap.z H old x need=.ok v H')(newCap:Nat)(hc:need<=newCap){zv:Value}(hzv:(P.info? e).bind (·.zero)=some zv)(w1:World)(hw1:w1=w.drew):∃ι',aP ι' v (.slice (some ⟨w.heap.size,0,none⟩) need newCap)/\HR ι' H' (w1.alloc (.cells (iG.toArray++oN.toArray++Builtin.zeroCells zv.cells (newCap-need)) e)) /\ Fr ι ι' H H' w (w1.alloc (.cells (iG.toArray++oN.toArray++Builtin.zeroCells zv.cells (newCap-need)) e)):=by
 subst hw1;unfold grow at h
 ·
  obtain⟨rfl,rfl⟩:=h;have hlt:gU (H.nx):=nR;unfold apS at hap;split at hap
  ·rename_i z ww zl e1 e2 e3;cases hb:Nat.beq zl.length z with
   |false=>rw[hb]at hap;cases hap
   |true=>
    rw[hb]at hap;simp only[cond_true,Option.some.injEq]at hap;subst hap;have hb:=sH hb;obtain⟨zv',z1,z2,z3⟩:=qcn (ι:=ι) e3;rw[hzv]at z1;cases z1;have hzl:zv.cells.size=z:=by have:=z2.length;simp at this;omega
    have hzc:Builtin.zeroCells zv.cells (newCap-need)=(gD zv.cells.toList (newCap-need)).toArray:=by have:=range_zero zv.cells (newCap-need) z hzl;unfold Builtin.zeroCells;rw[hzl]at this ⊢;exact this
    rw[hzc]
    let loc:Loc:=⟨w.heap.size,0,newCap-need,z⟩
    let W:World:=w.drew.alloc (.cells (iG.toArray++oN.toArray++(gD zv.cells.toList (newCap-need)).toArray) e)
    have cell:∀ i,W.cell? ⟨w.heap.size,i,none⟩=(iG++oN++gD zv.cells.toList (newCap-need))[i]? :=fun i=>by show(w.drew.alloc _).cell? ⟨w.drew.heap.size,i,none⟩=_;rw[World.cell?_alloc_new];simp
    have aBo:∀ i,W.frozen? ⟨w.heap.size,i,none⟩=false:=fun i=>by show(w.drew.alloc _).frozen? ⟨w.drew.heap.size,i,none⟩=_;rw[World.frozen?_alloc_new]
    have key:=hH.push (w':=W) hlt loc (aD z (old++x.l)) rfl rfl rfl (by show w.heap.size<(w.drew.alloc _).heap.size;simp) (fun c hc'=>Below.heap_alloc w.drew _ c hc') rfl
     (qky (vs:=iG++oN) (loc:=loc) (Im.bD _ _ _) (aM.mono (Im.iL loc (hH.fresh _ (Nat.le_refl _))) _ _ (ho.append hx)) (fun v hv=>by
      rcases List.mem_append.1 hv with hv|hv
      ·exact ho1 v hv
      ·exact hx1 v hv) (fun i v hv=>by
      rw[Nat.zero_add];refine⟨?_,aBo i⟩;rw[cell];have hi:i<(iG++oN).length:=by
       rcases Nat.lt_or_ge i (iG++oN).length with h|h
       ·exact h
       ·simp_all
      rw[List.getElem?_append_left hi];exact hv) (fun j hj=>by
      have hj:j<(newCap-need)*z:=hj;rw[Nat.zero_add,cell];have hl2:(iG++oN).length=(old++x.l).length:=by rw[List.length_append,List.length_append,ho.length,hx.length]
      rw[List.getElem?_append_right (by omega),hl2,Nat.add_sub_cancel_left];have:j<(gD zv.cells.toList (newCap-need)).length:=by rw[qb4];simpa [hzl] using hj
      exact⟨_,List.getElem?_eq_getElem this,aBo _,z3 _ (qf6 (List.getElem_mem this))⟩))
    refine⟨ι.set H.nx loc,?_,key.1,key.2⟩;refine⟨Nat.le_refl _,loc,Im.bD _ _ _,?_⟩;simp[loc];omega
  ·cases hap
theorem qew{t u e ty:TypeId}(ht:P.underlying t=some (.slice e)){td:TypeDesc}(hu:P.underlying u=some td)(htd:td=.string\/∃ e',td=.slice e'){z:Nat}(hz:gK P e=some z)(base:Option Addr)(len C:Nat)(X:Value){m:Nat}{vs:List Value}(hl:(Builtin.lenOf X).run P w=.ok m w)(hf:(Builtin.firstCells z m X).run P w=.ok vs.toArray w)(hle:len+m<=C){w':World}(hst:∀ ad,base=some ad->(storeCells (ad.add (len*z)) vs).run P w=.ok () w')(hno:base=none->w'=w):(Builtin.append_ #[t,u] ty #[.slice base len C,X]).run P w=.ok (.slice base (len+m) C) w':=by
 cases base with
 |none=>
  rw[hno rfl];rcases htd with rfl|⟨e',rfl⟩
  all_goals simp[Builtin.append_,bS ht,bS hu,mJ hz,hl,hf,hle]
 |some ad=>
  have hst:=hst ad rfl;rcases htd with rfl|⟨e',rfl⟩
  all_goals simp[Builtin.append_,bS ht,bS hu,mJ hz,hl,hf,hle,hst]
set_option maxHeartbeats 1000000 in
theorem qgv{t u e ty:TypeId}(ht:P.underlying t=some (.slice e)){td:TypeDesc}(hu:P.underlying u=some td)(htd:td=.string\/∃ e',td=.slice e'){z b:Nat}(hz:gK P e=some z)(hb:qih P e=some b){zv:Value}(hzv:(P.info? e).bind (·.zero)=some zv)(base:Option Addr)(len C:Nat)(X:Value){m:Nat}{vs iG:List Value}(hl:(Builtin.lenOf X).run P w=.ok m w)(hf:(Builtin.firstCells z m X).run P w.drew=.ok vs.toArray w.drew)(hof:(Builtin.firstCells z len (.slice base len C)).run P w.drew=.ok iG.toArray w.drew)(hgt:¬ len+m<=C)(hbig:(len+m)*b<=1099511627776)(hbig2:len+m<=1099511627776):∃newCap,len+m<=newCap/\(Builtin.append_ #[t,u] ty #[.slice base len C,X]).run P w=.ok (.slice (some ⟨w.heap.size,0,none⟩) (len+m) newCap) (w.drew.alloc (.cells (iG.toArray++vs.toArray++Builtin.zeroCells zv.cells (newCap-(len+m))) e)):=by
 obtain⟨ti,ti1,ti2⟩:=qs2 (P:=P) hb;have hnc:=qpz (need:=len+m) (old:=C) (by omega);have h2:¬(2 ^ 48<Builtin.nextslicecap (len+m) C*ti.bytes):=by have hm:Builtin.nextslicecap (len+m) C*ti.bytes<=3*(len+m)*ti.bytes:=Nat.mul_le_mul_right _ hnc;rw[ti2]at hm ⊢;have:3*(len+m)*b=3*((len+m)*b):=Nat.mul_assoc _ _ _;omega
 refine⟨(Question.appendCap (len+m) C e).cut (w.tape w.drawn (.appendCap (len+m) C e)),by simp only[Question.cut];omega,?_⟩;generalize hcap:(Question.appendCap (len+m) C e).cut (w.tape w.drawn (.appendCap (len+m) C e))=cap;rcases htd with rfl|⟨e',rfl⟩
 all_goals
  simp[Builtin.append_,bS ht,bS hu,mJ hz,hl,hgt,ti1,h2,Question.forced,hcap,hof,hf,yZ hzv,newRow];rw[if_neg (by omega),<-Array.append_assoc];simp
theorem qnw{e:TypeId}{ap:Ap}(h:apS P e=some ap):gK P e=some ap.z/\qih P e=some ap.w/\zV P e=some ap.zl/\ap.zl.length=ap.z/\∃ zv,(P.info? e).bind (·.zero)=some zv:=by
 unfold apS at h;split at h
 ·rename_i z ww zl e1 e2 e3;cases hb:Nat.beq zl.length z with
  |false=>rw[hb]at h;cases h
  |true=>rw[hb]at h;simp only[cond_true,Option.some.injEq]at h;subst h;obtain⟨zv,z1,_⟩:=qcn (ι:=fun _=>none) e3;simp_all
 ·cases h
theorem HR.drew(h:HR ι H w):HR ι H w.drew:=
 ⟨h.top,fun b hb=>(h.blk b hb).keep fun _ _ _=>rfl,h.low,h.inj,h.fresh,h.free⟩
theorem zej{b i len cap:Nat}{loc:Loc}{z:Nat}(hH:HR ι H w)(hb:ι b=some loc)(hend:qgx (H.get b) (i+cap*z) z=true){old:List AV}(hold:gN (H.get b) i (len*z)=some old){x:Src}{oN:List Value}(hx:aM ι x.l oN)(hx1:∀ v∈oN,v.oneCell=true)(hxn:oN.length=x.n*z)(hlc:len<=cap)(hgt:¬ len+x.n<=cap)(hfit:len+x.n<=cap+loc.ext){v:AV}{H':Hp}(h:grow z (H.put b .dead) old x (len+x.n)=.ok v H'):∃w' ι',(storeCells ⟨loc.blk,loc.base+i+len*z,none⟩ oN).run P w=.ok () w'/\aP ι' v (.slice (some ⟨loc.blk,loc.base+i,none⟩) (len+x.n) (cap+loc.ext))/\HR ι' H' w'/\Fr ι ι' H H' w w':=by
 have hlt:=hH.lt hb;have hB:=hH.blk b hlt;unfold qgx at hend;split at hend
 ·rename_i dd nn c z' hg;simp only[Bool.and_eq_true]at hend;have e1:=sH hend.1;have e2:=sH hend.2;have hwr:(H.get b).wr=true:=by rw[hg];rfl
  obtain⟨ol,ov⟩:=qel hB hold;rw[hg]at hB;obtain⟨l',b1,⟨b2,b2'⟩,b3,b4⟩:=hB;rw[hb]at b1;cases b1;have hz:loc.z=z:=by rw[b2',e2]
  have aIT:(len+x.n)*z=len*z+x.n*z:=Nat.add_mul _ _ _;have bHj:(cap+loc.ext)*z=cap*z+loc.ext*z:=Nat.add_mul _ _ _;have bHN:(len+x.n)*z<=(cap+loc.ext)*z:=Nat.mul_le_mul_right z hfit
  -- every cell up to the end of the room is there
  have there:∀ j,j<nn+loc.ext*z->∃ u,w.cell? ⟨loc.blk,loc.base+j,none⟩=some u/\w.frozen? ⟨loc.blk,loc.base+j,none⟩=false/\u.oneCell=true:=by
   intro j hj;by_cases hjn:j<nn
   ·obtain⟨V,c1,_,c3,c4⟩:=b3 j hjn;exact⟨V,c1,c4 rfl,c3⟩
   ·obtain⟨V,c1,c2⟩:=b4 rfl (j-nn) (by rw[hz];omega);simp_all
  obtain⟨w',r1,r2⟩:=qgu P loc.blk oN w (loc.base+i+len*z) 0 (fun j hj=>by obtain⟨u,c1,c2,_⟩:=there (i+len*z+j) (by omega);rw[show loc.base+i+len*z+0+j=loc.base+(i+len*z+j)by omega];exact⟨u,c1,c2⟩) hx1;rw[Nat.add_zero]at r2;unfold grow at h
  ·
   obtain⟨rfl,rfl⟩:=h;have hnx:gU (H.nx):=nR;obtain⟨k1,k2⟩:=hH.kill hlt hwr;have hnone:=hH.fresh H.nx (Nat.le_refl _)
   let sV:Loc:=⟨loc.blk,loc.base+i,cap+loc.ext-(len+x.n),z⟩
   have hle:ι.le (ι.set H.nx sV):=Im.iL sV hnone;have aA9:(H.put b .dead).get H.nx=.dead:=k1.free _ (Nat.le_refl _) hnx
   -- the cells that were there
   obtain⟨iG,o1,o2,o3,o4⟩:∃ iG,aM ι old iG/\iG.length=len*z/\(∀v∈iG,v.oneCell=true)/\∀(j:Nat) (v:Value),iG[j]? =some v->w.cell? ⟨loc.blk,loc.base+i+j,none⟩=some v:=by
    rcases ov with ov|⟨l2,iG,g1,g2,g3,g4,g5⟩
    ·have:old=[]:=List.length_eq_zero_iff.1 (by rw[ol];exact ov);subst this;exact⟨[],by simp[aM],by simpa using ov.symm,by simp,by simp⟩
    ·rw[hb]at g1;cases g1;exact⟨iG,g2,g3,g4,g5⟩
   have hlen:(old++x.l).length=(len+x.n)*z:=by rw[List.length_append,ol,<-hx.length,hxn,aIT]
   have cell:∀ j,w'.cell? ⟨loc.blk,loc.base+i+j,none⟩=if len*z<=j/\j<len*z+oN.length then some (oN.getD (j-len*z) Go.undef)else w.cell? ⟨loc.blk,loc.base+i+j,none⟩:=fun j=>by
    rw[r2.cell];by_cases hc:len*z<=j/\j<len*z+oN.length
    ·rw[if_pos hc,if_pos (by omega),show loc.base+i+j-(loc.base+i+len*z)=j-len*z by omega]
    ·rw[if_neg hc,if_neg (by omega)]
   have hbr:BR (ι.set H.nx sV) w' H.nx (aD z (old++x.l)):=by
    refine qky (vs:=iG++oN) (loc:=sV) (Im.bD _ _ _) (aM.mono hle _ _ (o1.append hx)) (fun v hv=>by
     rcases List.mem_append.1 hv with hv|hv
     ·exact o3 v hv
     ·exact hx1 v hv) (fun j v hv=>?_) (fun j hj=>?_)
    ·show w'.cell? ⟨loc.blk,loc.base+i+j,none⟩=some v/\w'.frozen? ⟨loc.blk,loc.base+i+j,none⟩=false;have hj:j<(iG++oN).length:=by
      rcases Nat.lt_or_ge j (iG++oN).length with h|h
      ·exact h
      ·simp_all
     rw[List.length_append,o2,hxn]at hj;refine⟨?_,?_⟩
     ·rw[cell];by_cases hc:j<len*z
      ·rw[if_neg (by omega)];simp_all
      ·rw[if_pos (by omega)];rw[List.getElem?_append_right (by omega),o2]at hv;simp_all
     ·rw[r2.frozen];obtain⟨_,_,c2,_⟩:=there (i+j) (by omega);rw[Nat.add_assoc];exact c2
    ·show ∃V,w'.cell? ⟨loc.blk,loc.base+i+((old++x.l).length+j),none⟩=some V/\w'.frozen? ⟨loc.blk,loc.base+i+((old++x.l).length+j),none⟩=false/\V.oneCell=true;have hj:j<(cap+loc.ext-(len+x.n))*z:=hj;have aZX:(cap+loc.ext-(len+x.n))*z=(cap+loc.ext)*z-(len+x.n)*z:=Nat.sub_mul _ _ _;rw[cell,r2.frozen,if_neg (by omega),hlen];obtain⟨u,c1,c2⟩:=there (i+((len+x.n)*z+j)) (by omega);rw[Nat.add_assoc];simp_all
   have hadd:=k1.add (w':=w') hnx hnone aA9 (Nat.le_succ _) hnx (Nat.lt_succ_self _) sV (aD z (old++x.l)) (by rw[r2.size];exact Nat.le_refl _)
    (fun c m hc h1 h2=>r2.keep _ fun he=>by
     rw[Hp.get_put _ _ _ _ hlt hc]at h1;by_cases zK:c=b
     ·subst zK;simp[bQ.dG]at h1
     ·rw[if_neg zK]at h1;exact zK (hH.inj b c loc m hlt hc hwr h1 hb h2 he.symm).symm)
    (fun _=>by rw[r2.size];exact hH.low b loc hlt (bQ.bE hwr) hb)
    (fun c m hc h1 h2 he=>by
     rw[Hp.get_put _ _ _ _ hlt hc]at h1;by_cases zK:c=b
     ·subst zK;simp[bQ.dG]at h1
     ·rw[if_neg zK]at h1;exact zK (hH.inj b c loc m hlt hc hwr h1 hb h2 he.symm).symm) hbr
   refine⟨w',ι.set H.nx sV,r1,?_,hadd,⟨hle,Nat.le_succ _,fun c h1 h2=>?_,r2.os,r2.tape,r2.output,by rw[r2.size];exact Nat.le_refl _,fun c hc h1=>r2.keep c fun he=>h1 b loc hlt hwr hb he.symm,fun c m hc h1 h2=>?_,fun c m hc h1 h2=>?_⟩⟩
   ·simp only[aP];refine⟨Nat.le_refl _,sV,Im.bD _ _ _,?_⟩;simp[sV];omega
   ·by_cases e:c=H.nx
    ·omega
    ·rw[Im.dQ _ _ e]at h2;exact absurd h1 h2
   ·have hgc:(aT (H.put b .dead) (aD z (old++x.l))).get c=if c=H.nx then aD z (old++x.l)else(H.put b .dead).get c:=by exact Mem.get_put _ _ _ _
    by_cases e:c=H.nx
    ·subst e;rw[Im.bD]at h2;cases h2;exact .inr ⟨b,loc,hlt,hwr,hb,rfl⟩
    ·rw[hgc,if_neg e,Hp.get_put _ _ _ _ hlt hc]at h1;rw[Im.dQ _ _ e]at h2;by_cases zK:c=b
     ·subst zK;simp[bQ.wr]at h1
     ·rw[if_neg zK]at h1;exact .inr ⟨c,m,hc,h1,h2,rfl⟩
   ·have hgc:(aT (H.put b .dead) (aD z (old++x.l))).get c=if c=H.nx then aD z (old++x.l)else(H.put b .dead).get c:=by exact Mem.get_put _ _ _ _
    by_cases e:c=H.nx
    ·subst e;rw[Im.bD]at h2;cases h2;exact .inr ⟨b,loc,hlt,bQ.bE hwr,hb,rfl⟩
    ·rw[hgc,if_neg e,Hp.get_put _ _ _ _ hlt hc]at h1;rw[Im.dQ _ _ e]at h2;by_cases zK:c=b
     ·subst zK;simp[bQ.dG]at h1
     ·rw[if_neg zK]at h1;exact .inr ⟨c,m,hc,h1,h2,rfl⟩
 ·cases hend
theorem qmb{z:Nat}{x:AV}{X:Value}(hx:aP ι x X)(hH:HR ι H w){s:Src}(h:jA z H x=some s):∃vs:List Value,aM ι s.l vs/\(∀v∈vs,v.oneCell=true)/\vs.length=s.n*z/\(Builtin.lenOf X).run P w=.ok s.n w /\ ∀k,k<=s.n->(Builtin.firstCells z k X).run P w=.ok (vs.take (k*z)).toArray w:=by
 unfold jA at h;split at h
 ·cases hz:Nat.beq z 1 with
  |false=>rw[hz]at h;cases h
  |true=>rw[hz]at h;exact q26 hx hH h (fun _=>sH hz)
 ·rename_i hn;exact q26 hx hH h (fun⟨m,b,e⟩=>absurd e (hn m b))
theorem zp9{b i len:Nat}{z:Nat}{loc:Loc}{C:Nat}(hH:HR ι H w)(hb:ι b=some loc){old:List AV}(h:gN (H.get b) i (len*z)=some old):∃iG,aM ι old iG/\(∀v∈iG,v.oneCell=true)/\iG.length=len*z/\(Builtin.firstCells z len (.slice (some ⟨loc.blk,loc.base+i,none⟩) len C)).run P w=.ok iG.toArray w:=by
 obtain⟨ol,ov⟩:=qel (hH.blk b (hH.lt hb)) h;have fin:∀ iG:List Value,iG.length=len*z->(∀(j:Nat) (v:Value),iG[j]? =some v->w.cell? ⟨loc.blk,loc.base+i+j,none⟩=some v)->(Builtin.firstCells z len (.slice (some ⟨loc.blk,loc.base+i,none⟩) len C)).run P w=.ok iG.toArray w:=fun iG h1 h2=>by have:=run_loadCells P w loc.blk (loc.base+i) iG h2;rw[h1]at this;trivial
 rcases ov with ov|⟨l2,iG,g1,g2,g3,g4,g5⟩
 ·have:old=[]:=List.length_eq_zero_iff.1 (by rw[ol];exact ov);subst this;exact⟨[],by simp[aM],by simp,by simpa using ov.symm,fin [] (by simpa using ov.symm) (by simp)⟩
 ·rw[hb]at g1;cases g1;exact⟨iG,g2,g4,g3,fin iG g3 g5⟩
theorem q4s{t u e:TypeId}{x y:Operand}(ho:o.op=.call {callee:=.builtin .append,args:= #[x,y],argTypes:= #[t,u]})(ht:P.underlying t=some (.slice e)){td:TypeDesc}(hu:P.underlying u=some td)(htd:td=.string\/∃ e',td=.slice e'){ap:Ap}(hap:apS P e=some ap)(hH:HR ι H w)(h:LR ι d n L a.tmps):q8 P o a.eval ι H w (gV ap.z ap.w H ((aH d n x).f L) (jA ap.z H ((aH d n y).f L))):=by
 have hx:=dN h x;have hy:=dN h y;obtain⟨a1,a2,a3,a4,zv,a5⟩:=qnw hap;have run:∀ S V w',a.eval x=S->(Builtin.append_ #[t,u] o.type #[S,a.eval y]).run P w=.ok V w'->(execOp a.eval o).run P w=.ok (.value V) w':=fun S V w' h1 h2=>by simp[execOp,ho,resolve,invoke,builtin,h1,h2]
 cases hs:jA ap.z H ((aH d n y).f L)with
 |none=>trivial
 |some s=>
  obtain⟨oN,x1,x2,x3,x4,x5⟩:=qmb (P:=P) hy hH hs;obtain⟨bSJ,x1',x2',x3',x4',x5'⟩:=qmb (P:=P) hy hH.drew hs;have x5:=x5 s.n (Nat.le_refl _);have x5':=x5' s.n (Nat.le_refl _);rw[<-x3,List.take_length]at x5;rw[<-x3',List.take_length]at x5';cases hv:gV ap.z ap.w H ((aH d n x).f L) (some s)with
  |bad=>trivial
  |ok v H'=>
   unfold gV at hv;simp only at hv;split at hv
   ·rename_i e1;rw[e1]at hx;simp only[aP]at hx;cases hn:Nat.beq s.n 0 with
    |true=>have hn:=sH hn;rw[hn]at hv;obtain⟨rfl,rfl⟩:=hv;have r:=qew (ty:=o.type) ht hu htd a1 none 0 0 (a.eval y) x4 x5 (by omega) (w':=w) (fun _ h=>by cases h) (fun _=>rfl);rw[hn]at r;exact⟨_,.slice none 0 0,w,ι,run _ _ _ hx r,.inl rfl,by simp only[aP],hH,Fr.refl _ _ _⟩
    |false=>
     rw[hn]at hv;simp only[cond_false]at hv;have hn:=qt3 hn;cases hbg:(Nat.ble (Nat.mul s.n ap.w) fD&&Nat.ble s.n fD)with
     |false=>rw[hbg]at hv;cases hv
     |true=>rw[hbg]at hv;simp only[cond_true]at hv;simp only[Bool.and_eq_true]at hbg;have g1:s.n*ap.w<=1099511627776:=nN hbg.1;have g2:s.n<=1099511627776:=nN hbg.2;obtain⟨nc,c1,c2⟩:=qgv (ty:=o.type) (iG:=[]) ht hu htd a1 a2 a5 none 0 0 (a.eval y) x4 x5' (by simp[Builtin.firstCells]) (by omega) (by rw[Nat.zero_add];exact g1) (by omega);rw[Nat.zero_add]at c1 c2;obtain⟨ι',d1,d2,d3⟩:=qtp hap hH (iG:=[]) (show aM ι [] []by simp[aM]) (by simp) x1' x2' (by simp[x3']) hv nc c1 a5 w.drew rfl;exact⟨_,_,_,ι',run _ _ _ hx c2,.inl rfl,d1,d2,d3⟩
   ·rename_i b i len cap ex e1;rw[e1]at hx;simp only[aP]at hx;obtain⟨hlc,loc,h1,h2⟩:=hx;cases hin:Nat.ble (len+s.n) cap with
    |true=>
     rw[hin]at hv;simp only[cond_true]at hv;have hin:=nN hin;obtain⟨rfl,w',r1,r2,r3⟩:=qdj P hH h1 x1 x2 hv;have r:=qew (ty:=o.type) ht hu htd a1 (some ⟨loc.blk,loc.base+i,none⟩) len (if ex then cap else cap+loc.ext) (a.eval y) x4 x5 (by split<;>omega) (w':=w')
      (fun ad h=>by cases h;rw[addr_add,Nat.add_assoc];exact r1) (fun h=>by cases h)
     refine⟨_,_,w',ι,run _ _ _ h2 r,.inl rfl,?_,r2,r3⟩;simp only[aP];exact⟨hin,loc,h1,rfl⟩
    |false=>
     rw[hin]at hv;simp only[cond_false]at hv;have hin:=zzv hin;cases hbg:(Nat.ble (Nat.mul (len+s.n) ap.w) fD&&Nat.ble (len+s.n) fD)with
     |false=>rw[hbg]at hv;cases hv
     |true=>
      rw[hbg]at hv;simp only[cond_true]at hv;simp only[Bool.and_eq_true]at hbg;have g1:(len+s.n)*ap.w<=1099511627776:=nN hbg.1;have g2:len+s.n<=1099511627776:=nN hbg.2;split at hv
      ·cases hv
      ·rename_i old hold;have grown:∀ C,¬len+s.n<=C->a.eval x=.slice (some ⟨loc.blk,loc.base+i,none⟩) len C->∀(H1:Hp),HR ι H1 w->Fr ι ι H H1 w w->grow ap.z H1 old s (len+s.n)=.ok v H'->q8 P o a.eval ι H w (.ok v H'):=by
        intro C hC hxC H1 hH1 hF1 hg;obtain⟨iG,o1,o2,o3,o4⟩:=zp9 (P:=P) (w:=w.drew) (C:=C) hH.drew h1 hold;obtain⟨nc,c1,c2⟩:=qgv (ty:=o.type) ht hu htd a1 a2 a5 (some ⟨loc.blk,loc.base+i,none⟩) len C (a.eval y) x4 x5' o4 hC g1 g2;obtain⟨ι',d1,d2,d3⟩:=qtp hap hH1 o1 o2 x1' x2' (by rw[o3,x3',Nat.add_mul]) hg nc c1 a5 w.drew rfl;exact⟨_,_,_,ι',run _ _ _ hxC c2,.inl rfl,d1,d2,hF1.trans d3⟩
       cases ex with
       |true=>exact grown cap hin (by simpa using h2) H hH (Fr.refl _ _ _) hv
       |false=>
        cases hend:qgx (H.get b) (i+cap*ap.z) ap.z with
        |false=>rw[hend]at hv;cases hv
        |true=>
         rw[hend]at hv;simp only[cond_true]at hv;by_cases hfit:len+s.n<=cap+loc.ext
         ·obtain⟨w',ι',q1,q2,q3,q4⟩:=zej (P:=P) hH h1 hend hold x1 x2 x3 hlc hin hfit hv;have r:=qew (ty:=o.type) ht hu htd a1 (some ⟨loc.blk,loc.base+i,none⟩) len (cap+loc.ext) (a.eval y) x4 x5 hfit (w':=w')
           (fun ad h=>by cases h;rw[addr_add];exact q1) (fun h=>by cases h)
          exact⟨_,_,w',ι',run _ _ _ h2 r,.inl rfl,q2,q3,q4⟩
         ·have hwr:(H.get b).wr=true:=by
           unfold qgx at hend;split at hend
           ·rename_i hg;rw[hg];rfl
           ·cases hend
          obtain⟨k1,k2⟩:=hH.kill (hH.lt h1) hwr;exact grown _ hfit h2 _ k1 k2 hv
   ·cases hv
theorem zzf{t u e:TypeId}{x y:Operand}(ho:o.op=.call {callee:=.builtin .copy,args:= #[x,y],argTypes:= #[t,u]})(ht:P.underlying t=some (.slice e)){z:Nat}(hz:gK P e=some z)(hH:HR ι H w)(h:LR ι d n L a.tmps):q8 P o a.eval ι H w (copyV z H ((aH d n x).f L) (jA z H ((aH d n y).f L))):=by
 have hx:=dN h x;have hy:=dN h y;cases hs:jA z H ((aH d n y).f L)with
 |none=>cases (aH d n x).f L<;>trivial
 |some s=>
  obtain⟨oN,x1,x2,x3,x4,x5⟩:=qmb (P:=P) hy hH hs;unfold copyV;split
  ·rename_i s' b i m cap ex e0 e1;cases e0;rw[e1]at hx;simp only[aP]at hx;obtain⟨_,loc,h1,h2⟩:=hx;cases hst:storeAt H b i (s.l.take (Nat.mul (min s.n m) z)) (i64 (min s.n m))with
   |bad=>trivial
   |ok v H'=>obtain⟨rfl,w',r1,r2,r3⟩:=qdj P hH h1 (x1.take _) (fun v hv=>x2 v (List.mem_of_mem_take hv)) hst;refine⟨.value (.int .i64 ((min s.n m:Nat):Int)),_,w',ι,?_,.inl rfl,rX _ _,r2,r3⟩;have x5:=x5 (min s.n m) (Nat.min_le_left _ _);have r1:(storeCells ⟨loc.blk,loc.base+i,none⟩ (oN.take (min s.n m*z))).run P w=.ok () w':=r1;simp only[execOp,ho,resolve,invoke,builtin,Sem.run_bind,Sem.run_pure,Result.andThen_ok,List.map_toArray,List.map_cons,List.map_nil,Builtin.copy_,h2];simp only[List.getElem?_toArray,List.getElem?_cons_zero,List.getElem?_cons_succ,Sem.run_bind,bS ht,x4,mJ hz,Result.andThen_ok];rw[show s.n.min m=min s.n m from rfl,x5];simp[r1,goInt]
  ·rename_i s' e0 e1;rw[e1]at hx;simp only[aP]at hx;refine⟨.value (.int .i64 0),_,w,ι,?_,.inl rfl,rX _ _,hH,Fr.refl _ _ _⟩;have x5:=x5 0 (Nat.zero_le _);simp only[execOp,ho,resolve,invoke,builtin,Sem.run_bind,Sem.run_pure,Result.andThen_ok,List.map_toArray,List.map_cons,List.map_nil,Builtin.copy_,hx];simp only[List.getElem?_toArray,List.getElem?_cons_zero,List.getElem?_cons_succ,Sem.run_bind,bS ht,x4,mJ hz,Result.andThen_ok];rw[show s.n.min 0=0 from Nat.min_zero _,x5];rfl
  ·rename_i s' e0 e1;rw[e1]at hx;simp only[aP]at hx;obtain⟨ad,c,hx⟩:=hx;refine⟨.value (.int .i64 0),_,w,ι,?_,.inl rfl,rX _ _,hH,Fr.refl _ _ _⟩;have x5:=x5 0 (Nat.zero_le _);simp only[execOp,ho,resolve,invoke,builtin,Sem.run_bind,Sem.run_pure,Result.andThen_ok,List.map_toArray,List.map_cons,List.map_nil,Builtin.copy_,hx];simp only[List.getElem?_toArray,List.getElem?_cons_zero,List.getElem?_cons_succ,Sem.run_bind,bS ht,x4,mJ hz,Result.andThen_ok];rw[show s.n.min 0=0 from Nat.min_zero _,x5];simp[goInt,storeCells]
  ·trivial
/- maps -/
theorem qc7{b:Nat}{es:List kH}{clock:Nat}{loc:Loc}(hH:HR ι H w)(hb:ι b=some loc)(hg:H.get b=.map es clock)(es':List kH)(clock':Nat){ES':List MapEntry}(hE:bW ι es' ES'):HR ι (H.put b (.map es' clock')) {w with heap:=w.heap.setIfInBounds loc.blk (.map ES'.toArray clock')}/\Fr ι ι H (H.put b (.map es' clock')) w {w with heap:=w.heap.setIfInBounds loc.blk (.map ES'.toArray clock')}:=by
 have hlt:=hH.lt hb;have hwr:(H.get b).wr=true:=by rw[hg];rfl
 have hlow:=hH.low b loc hlt (bQ.bE hwr) hb;refine hH.put hlt hwr hb _ rfl rfl rfl (by simp) (fun c hc=>?_) ⟨loc,ES',hb,?_,hE⟩
 ·show(w.heap.setIfInBounds loc.blk _)[c]? =_;rw[Array.getElem?_setIfInBounds_ne (Ne.symm hc)]
 ·simp_all
theorem bW.set:∀{es:List kH} {ES:List MapEntry},bW ι es ES->∀(i:Nat) (x:kH) (e:MapEntry),aP ι x.key e.key->aP ι x.val e.val->e.born=x.born->bW ι (es.set i x) (ES.set i e)
 | [],ES,h,i,x,e,_,_,_=>by simp only[bW]at h;subst h;simp[bW]
 |y::es,ES,h,i,x,e,h1,h2,h3=>by
  obtain⟨e0,r,rfl,g1,g2,g3,g4⟩:=h;cases i with
  |zero=>simp only[List.set_cons_zero,bW];exact⟨e,r,rfl,h1,h2,h3,g4⟩
  |succ i=>simp only[List.set_cons_succ,bW];exact⟨e0,r.set i e,rfl,g1,g2,g3,bW.set g4 i x e h1 h2 h3⟩
theorem bW.snoc:∀{es:List kH} {ES:List MapEntry},bW ι es ES->∀(x:kH) (e:MapEntry),aP ι x.key e.key->aP ι x.val e.val->e.born=x.born->bW ι (es++[x]) (ES++[e])
 | [],ES,h,x,e,h1,h2,h3=>by simp only[bW]at h;subst h;simp only[List.nil_append,bW];exact⟨e,[],rfl,h1,h2,h3,rfl⟩
 |y::es,ES,h,x,e,h1,h2,h3=>by obtain⟨e0,r,rfl,g1,g2,g3,g4⟩:=h;simp only[List.cons_append,bW];exact⟨e0,r++[e],rfl,g1,g2,g3,bW.snoc g4 x e h1 h2 h3⟩
theorem bW.erase:∀{es:List kH} {ES:List MapEntry},bW ι es ES->∀(i:Nat),bW ι (es.eraseIdx i) (ES.eraseIdx i)
 | [],ES,h,i=>by simp only[bW]at h;subst h;simp[bW]
 |y::es,ES,h,i=>by
  obtain⟨e0,r,rfl,g1,g2,g3,g4⟩:=h;cases i with
  |zero=>simpa using g4
  |succ i=>simp only[List.eraseIdx_cons_succ,bW];exact⟨e0,r.eraseIdx i,rfl,g1,g2,g3,bW.erase g4 i⟩
/- keys that are the same -/
theorem q3b{x y:AV}(h:zlo x y=true){X Y:Value}(hx:aP ι x X)(hy:aP ι y Y):X=Y/\∀ k,Instr.sameBits k X X=true:=by
 unfold zlo at h;split at h
 ·simp only[Bool.and_eq_true]at h;have:=zm8 h.1;subst this;have h2:=h.2;rw[zO]at h2;simp only[aP]at hx hy;subst hx hy;obtain rfl:=eq_of_beq h2;exact⟨rfl,fun k=>by cases k<;>simp[Instr.sameBits]⟩
 ·simp only[aP]at hx hy;obtain⟨s,rfl,h1⟩:=hx;obtain⟨u,rfl,h2⟩:=hy;rw[h1.eq h2]at h;have e:s=u:=by
   have:s.data.toList=u.data.toList:=by simpa using h
   cases s;cases u;simp at this;rw[this]
  subst e;exact⟨rfl,fun k=>by cases k<;>simp[Instr.sameBits,beq_toListBytes]⟩
 ·simp only[aP]at hx hy;subst hx hy;obtain rfl:=eq_of_beq h;exact⟨rfl,fun k=>by cases k<;>simp[Instr.sameBits]⟩
 ·cases h
theorem q3a:∀{l m:List AV} {vs us:List Value},q5q l m=true->aM ι l vs->aM ι m us->vs=us/\∀ k,(vs.zip vs).all (fun(x,y)=>Instr.sameBits k x y)=true
 | [],[],vs,us,_,h1,h2=>by simp only[aM]at h1 h2;subst h1 h2;exact⟨rfl,fun _=>rfl⟩
 | [],_::_,vs,us,h,_,_=>by simp[q5q]at h
 |_::_,[],vs,us,h,_,_=>by simp[q5q]at h
 |x::l,y::m,vs,us,h,h1,h2=>by obtain⟨v,r,rfl,a1,a2⟩:=h1;obtain⟨u,r',rfl,b1,b2⟩:=h2;simp only[q5q,Bool.and_eq_true]at h;obtain⟨c1,c2⟩:=q3b h.1 a1 b1;obtain⟨d1,d2⟩:=q3a h.2 a2 b2;simp_all
theorem qpo{x y:AV}(h:sameKey x y=true){X Y:Value}(hx:aP ι x X)(hy:aP ι y Y):Instr.sameBits 10000 X Y=true:=by
 unfold sameKey at h;split at h
 ·obtain⟨vs,a1,rfl,_⟩:=xK hx;obtain⟨us,b1,rfl,_⟩:=xK hy;obtain⟨rfl,c⟩:=q3a h a1 b1;simp only[Instr.sameBits,Bool.and_eq_true];simp_all
 ·obtain⟨rfl,c⟩:=q3b h hx hy;exact c 10000
theorem qjh(ES:List MapEntry)(i:Nat)(E:MapEntry)(h:ES[i]? =some E)(f:MapEntry->MapEntry):ES.modify i f=ES.set i (f E):=by
 apply List.ext_getElem?;intro j;rw[List.getElem?_modify,List.getElem?_set];by_cases e:i=j
 ·subst e;have hlt:=(List.getElem?_eq_some_iff.1 h).1;simp only[if_true,hlt];rw[h];rfl
 ·simp[e]
theorem zzd{t kt et:TypeId}{x y z:Operand}(ho:o.op=.mapUpdate t x y z\/o.op=.insert t x y z)(ht:P.underlying t=some (.map kt et)){ky:Ky}(hky:qT P kt=some ky)(hH:HR ι H w)(h:LR ι d n L a.tmps):q8 P o a.eval ι H w (mI ky H ((aH d n x).f L) ((aH d n y).f L) ((aH d n z).f L)):=by
 have hx:=dN h x;have hy:=dN h y;have hz:=dN h z;have hrun:(execOp a.eval o).run P w=((Instr.mapUpdate t (a.eval x) (a.eval y) (a.eval z)).run P w).andThen fun _ w=>.ok .skip w:=by rcases ho with ho|ho<;>simp[execOp,ho]
 unfold mI;split
 ·rename_i b e1;rw[e1]at hx;simp only[aP]at hx;obtain⟨loc,h1,h2⟩:=hx;have hb:=hH.blk b (hH.lt h1);split
  ·rename_i es clock hg;rw[hg]at hb;obtain⟨l',ES,g1,g2,g3⟩:=hb;rw[h1]at g1;cases g1;split
   ·rename_i hit hf;obtain⟨c1,R,c2,c3⟩:=qe1 hky hy g3 hf;obtain⟨V,E,rfl,d1,d2,d3,d4,d5,d6⟩:=c3;cases hsk:sameKey hit.x.key ((aH d n y).f L)with
    |false=>trivial
    |true=>have hsb:=qpo hsk d3 hy;obtain⟨m1,m2⟩:=qc7 hH h1 hg (es.set hit.i ⟨(aH d n y).f L,(aH d n z).f L,hit.x.born⟩) clock (g3.set hit.i _ ⟨a.eval y,a.eval z,E.born⟩ hy hz d6);refine⟨.skip,Go.undef,_,ι,?_,.inr ⟨rfl,rfl⟩,by simp[aP,Go.undef],m1,m2⟩;rw[hrun,h2];have hmod:=qjh ES hit.i E d2 (fun e=>{e with key:=a.eval y,val:=a.eval z});simp[Instr.mapUpdate,bS ht,getObj,setObj,Sem.run,g2,c1,c2,d2,Instr.keyThatStays,hsb,hmod]
   ·rename_i hf;obtain⟨c1,R,c2,c3⟩:=qe1 hky hy g3 hf;simp only[q1i]at c3;subst c3;obtain⟨m1,m2⟩:=qc7 hH h1 hg (es++[⟨(aH d n y).f L,(aH d n z).f L,clock⟩]) (clock+1) (g3.snoc _ ⟨a.eval y,a.eval z,clock⟩ hy hz rfl);refine⟨.skip,Go.undef,_,ι,?_,.inr ⟨rfl,rfl⟩,by simp[aP,Go.undef],m1,m2⟩;rw[hrun,h2];simp[Instr.mapUpdate,bS ht,getObj,setObj,Sem.run,g2,c1,c2]
   ·trivial
  ·trivial
 ·trivial
theorem zvm{t kt et:TypeId}{x:Operand}(ho:o.op=.range t x)(ht:P.underlying t=some (.map kt et))(hH:HR ι H w)(h:LR ι d n L a.tmps):q8 P o a.eval ι H w (zd4 H ((aH d n x).f L)):=by
 have hx:=dN h x;unfold zd4;split
 ·rename_i e1;rw[e1]at hx;simp only[aP]at hx;obtain⟨m1,m2⟩:=hH.push (w':=w.alloc (.mapIter none 0 #[] 0)) nR ⟨w.heap.size,0,0,0⟩ (.fK 0 0 0) rfl rfl rfl (by simp) (fun c hc=>Below.heap_alloc w _ c hc) rfl ⟨_,none,Im.bD _ _ _,rfl,by show(w.heap.push _)[w.heap.size]? =_;simp,rfl⟩;refine⟨.value (.pointer (some ⟨w.heap.size,0,none⟩)),_,_,_,?_,.inl rfl,?_,m1,m2⟩
  ·simp[execOp,ho,hx,Instr.range,bS ht]
  ·simp only[aP];exact⟨_,Im.bD _ _ _,rfl⟩
 ·rename_i b e1;rw[e1]at hx;simp only[aP]at hx;obtain⟨loc,h1,h2⟩:=hx;have hb:=hH.blk b (hH.lt h1);split
  ·rename_i es clock hg;rw[hg]at hb;obtain⟨l',ES,g1,g2,g3⟩:=hb;rw[h1]at g1;cases g1;have hne:b≠H.nx:=fun e=>by rw[e,hH.fresh _ (Nat.le_refl _)]at h1;cases h1
   obtain⟨m1,m2⟩:=hH.push (w':=w.alloc (.mapIter (some loc.blk) clock #[] clock)) nR ⟨w.heap.size,0,0,0⟩ (.fK (Nat.succ b) clock 0) rfl rfl rfl (by simp) (fun c hc=>Below.heap_alloc w _ c hc) rfl ⟨_,some loc.blk,Im.bD _ _ _,rfl,by show(w.heap.push _)[w.heap.size]? =_;simp,loc,by rw[Im.dQ _ _ hne];exact h1,rfl⟩;refine⟨.value (.pointer (some ⟨w.heap.size,0,none⟩)),_,_,_,?_,.inl rfl,?_,m1,m2⟩
   ·simp[execOp,ho,h2,Instr.range,bS ht,Sem.run,getObj,g2]
   ·simp only[aP];exact⟨_,Im.bD _ _ _,rfl⟩
  ·trivial
 ·trivial
theorem zze{x:Operand}(ho:o.op=.next x false)(hH:HR ι H w)(h:LR ι d n L a.tmps):q8 P o a.eval ι H w (zut H ((aH d n x).f L)):=by
 have hx:=dN h x;unfold zut;split
 ·rename_i b off e1;rw[e1]at hx;simp only[aP]at hx;obtain⟨loc,h1,h2⟩:=hx;have hb:=hH.blk b (hH.lt h1);cases ho0:Nat.beq off 0 with
  |false=>trivial
  |true=>
   obtain rfl:=Nat.eq_of_beq_eq_true ho0;split
   ·rename_i m since pos hg;rw[hg]at hb;obtain⟨l',r,g1,g0,g2,g3⟩:=hb;rw[h1]at g1;cases g1;rw[g0,Nat.add_zero]at h2;cases m with
    |zero=>
     subst g3;refine⟨.value (.tuple #[.bool false]),_,_,ι,?_,.inl rfl,?_,hH,Fr.refl _ _ _⟩
     ·simp[execOp,ho,h2,Instr.next,getObj,Sem.run,g2]
     ·simp only[aP,aM];exact⟨_,⟨_,_,rfl,rfl,rfl⟩,rfl⟩
    |succ m=>
     obtain⟨lm,k1,rfl⟩:=g3;have hm:=hH.blk m (hH.lt k1);simp only;split
     ·rename_i es clock hgm;rw[hgm]at hm;obtain⟨l2,ES,j1,j2,j3⟩:=hm;rw[k1]at j1;cases j1;cases hcs:Nat.beq clock since with
      |false=>trivial
      |true=>
       obtain rfl:=Nat.eq_of_beq_eq_true hcs;unfold zx7;split
       ·simp only[bW]at j3;subst j3;refine⟨.value (.tuple #[.bool false]),_,_,ι,?_,.inl rfl,?_,hH,Fr.refl _ _ _⟩
        ·simp[execOp,ho,h2,Instr.next,getObj,Sem.run,g2,j2,choose,Question.forced]
        ·simp only[aP,aM];exact⟨_,⟨_,_,rfl,rfl,rfl⟩,rfl⟩
       ·rename_i e;simp only[bW]at j3;obtain⟨E,_,rfl,q1,q2,q3,rfl⟩:=j3;cases hbl:Nat.blt e.born clock with
        |false=>trivial
        |true=>
         have hbl:=nN hbl;rw[<-q3]at hbl;simp only[cond_true];cases pos with
         |zero=>
          have hwr:(H.get b).wr=true:=by rw[hg];rfl
          have hlow:=hH.low b loc (hH.lt h1) (bQ.bE hwr) h1;obtain⟨m1,m2⟩:=hH.put (w':={w with heap:=w.heap.setIfInBounds loc.blk (.mapIter (some lm.blk) clock #[E.born] clock)}) (hH.lt h1) hwr h1 (.fK (Nat.succ m) clock (Nat.succ e.born)) rfl rfl rfl (by simp) (fun c hc=>by
           rw[Array.getElem?_setIfInBounds_ne (Ne.symm hc)]) ⟨loc,some lm.blk,h1,g0,by
           rw[Array.getElem?_setIfInBounds_self_of_lt hlow,q3],lm,k1,rfl⟩
          refine⟨.value (.tuple #[.bool true,E.key,E.val]),_,_,ι,?_,.inl rfl,?_,m1,m2⟩
          ·have hnl:¬ clock<=E.born:=by omega
           simp[execOp,ho,h2,Instr.next,getObj,setObj,Sem.run,g2,j2,choose,Question.forced,hnl,show E.born<clock from hbl]
          ·simp only[aP,aM];exact⟨_,⟨_,_,rfl,rfl,_,_,rfl,q1,_,_,rfl,q2,rfl⟩,rfl⟩
         |succ p=>
          cases hp:Nat.beq (p+1) (Nat.succ e.born)with
          |false=>trivial
          |true=>
           have hp:p+1=e.born+1:=Nat.eq_of_beq_eq_true hp;have hp:p=E.born:=by omega
           subst hp;refine⟨.value (.tuple #[.bool false]),_,_,ι,?_,.inl rfl,?_,hH,Fr.refl _ _ _⟩
           ·have hnl:¬ clock<=E.born:=by omega
            simp[execOp,ho,h2,Instr.next,getObj,Sem.run,g2,j2,choose,Question.forced,hnl]
           ·simp only[aP,aM];exact⟨_,⟨_,_,rfl,rfl,rfl⟩,rfl⟩
       ·trivial
     ·trivial
   ·trivial
 ·trivial
theorem zvn{t kt et:TypeId}{x y:Operand}(ho:o.op=.mapEntry t x y)(ht:P.underlying t=some (.map kt et)){ky:Ky}(hky:qT P kt=some ky){z:Value}(hz:(P.info? et).bind (·.zero)=some z)(hH:HR ι H w)(h:LR ι d n L a.tmps):q8 P o a.eval ι H w (zf7 ky (qs8 z) H ((aH d n x).f L) ((aH d n y).f L)):=by
 have hx:=dN h x;have hy:=dN h y;unfold zf7;split
 ·rename_i b e1;rw[e1]at hx;simp only[aP]at hx;obtain⟨loc,h1,h2⟩:=hx;have hb:=hH.blk b (hH.lt h1);split
  ·rename_i es clock hg;rw[hg]at hb;obtain⟨l',ES,g1,g2,g3⟩:=hb;rw[h1]at g1;cases g1;split
   ·rename_i hit hf;obtain⟨c1,R,c2,c3⟩:=qe1 hky hy g3 hf;obtain⟨V,E,rfl,d1,d2,d3,d4,d5,d6⟩:=c3;cases hsk:sameKey hit.x.key ((aH d n y).f L)with
    |false=>trivial
    |true=>
     have hsb:=qpo hsk d3 hy;obtain⟨m1,m2⟩:=qc7 hH h1 hg (es.set hit.i ⟨(aH d n y).f L,hit.x.val,hit.x.born⟩) clock (g3.set hit.i _ ⟨a.eval y,E.val,E.born⟩ hy (by rw[d5];exact d4) d6);refine⟨.value (.tuple #[V,.int .i64 (E.born:Int)]),_,_,ι,?_,.inl rfl,?_,m1,m2⟩
     ·have hmod:=qjh ES hit.i E d2 (fun e=>{e with key:=a.eval y});simp[execOp,ho,h2,Instr.mapEntry,bS ht,getObj,setObj,Sem.run,g2,c1,c2,d2,Instr.keyThatStays,hsb,hmod,goInt]
     ·simp only[aP,aM];simp_all
   ·rename_i hf;obtain⟨c1,R,c2,c3⟩:=qe1 hky hy g3 hf;simp only[q1i]at c3;subst c3;obtain⟨m1,m2⟩:=qc7 hH h1 hg (es++[⟨(aH d n y).f L,qs8 z,clock⟩]) (clock+1) (g3.snoc _ ⟨a.eval y,z,clock⟩ hy (qfl z) rfl);refine⟨.value (.tuple #[z,.int .i64 (clock:Int)]),_,_,ι,?_,.inl rfl,?_,m1,m2⟩
    ·simp[execOp,ho,h2,Instr.mapEntry,bS ht,getObj,setObj,Sem.run,g2,c1,c2,yZ hz,goInt]
    ·simp only[aP,aM];exact⟨[z,.int .i64 (clock:Int)],⟨z,_,rfl,qfl z,_,_,rfl,rfl,rfl⟩,rfl⟩
   ·trivial
  ·trivial
 ·trivial
theorem qu0{k:Nat}:∀(es:List kH) (ES:List MapEntry) (i:Nat) (hit:wD),bW ι es ES->zdh k es i=some hit -> ∃E j,hit.i=i+j/\ES[j]? =some E/\ES.findIdx? (fun e=>(e.born:Int)==(k:Int))=some j/\aP ι hit.x.key E.key/\E.born=hit.x.born
 | [],ES,i,hit,hE,hs=>by trivial
 |x::es,ES,i,hit,hE,hs=>by
  obtain⟨e,r,rfl,h1,h2,h3,h4⟩:=hE;have hs:(bif Nat.beq x.born k then some ⟨i,x⟩else zdh k es (i+1))=some hit:=hs;cases hk:Nat.beq x.born k with
  |true=>rw[hk]at hs;simp only[cond_true,Option.some.injEq]at hs;subst hs;have:=sH hk;exact⟨e,0,rfl,rfl,by simp[List.findIdx?_cons,h3,this],h1,h3⟩
  |false=>
   rw[hk]at hs;simp only[cond_false]at hs;have hne:=qt3 hk;obtain⟨E,j,a1,a2,a3,a4,a5⟩:=qu0 es r (i+1) hit h4 hs;refine⟨E,j+1,by omega,by simpa using a2,?_,a4,a5⟩;have hb:(((e.born:Int))==(k:Int))=false:=by rw[h3];simp;omega
   rw[List.findIdx?_cons,hb,a3];rfl
theorem zgg{t:TypeId}{x y z:Operand}(ho:o.op=.entryStore t x y z)(hH:HR ι H w)(h:LR ι d n L a.tmps):q8 P o a.eval ι H w (qtv H ((aH d n x).f L) ((aH d n y).f L) ((aH d n z).f L)):=by
 have hx:=dN h x;have hy:=dN h y;have hz:=dN h z;unfold qtv;split
 ·rename_i b kk m e1 e2;rw[e1]at hx;rw[e2]at hy;simp only[aP]at hx hy;obtain⟨loc,h1,h2⟩:=hx;have hb:=hH.blk b (hH.lt h1);split
  ·rename_i es clock hg;rw[hg]at hb;obtain⟨l',ES,g1,g2,g3⟩:=hb;rw[h1]at g1;cases g1;split
   ·rename_i hit hf;obtain⟨E,j,a1,a2,a3,a4,a5⟩:=qu0 es ES 0 hit g3 hf;obtain⟨m1,m2⟩:=qc7 hH h1 hg (es.set hit.i ⟨hit.x.key,(aH d n z).f L,hit.x.born⟩) clock (g3.set hit.i _ ⟨E.key,a.eval z,E.born⟩ a4 hz a5);refine⟨.skip,Go.undef,_,ι,?_,.inr ⟨rfl,rfl⟩,by simp[aP,Go.undef],m1,m2⟩;have hmod:=qjh ES j E a2 (fun e=>{e with val:=a.eval z});simp[execOp,ho,h2,hy,Instr.entryStore,getObj,setObj,Sem.run,g2,asInt,asIntOf,a3,hmod,a1]
   ·trivial
  ·trivial
 ·trivial
theorem aJ0{t kt et:TypeId}{x y:Operand}{ts:Array TypeId}(ho:o.op=.call {callee:=.builtin .delete,args:= #[x,y],argTypes:=ts})(hts:ts[0]? =some t)(ht:P.underlying t=some (.map kt et)){ky:Ky}(hky:qT P kt=some ky)(hH:HR ι H w)(h:LR ι d n L a.tmps):q8 P o a.eval ι H w (aEg ky H ((aH d n x).f L) ((aH d n y).f L)):=by
 have hx:=dN h x;have hy:=dN h y;unfold aEg;split
 ·rename_i b e1;rw[e1]at hx;simp only[aP]at hx;obtain⟨loc,h1,h2⟩:=hx;have hb:=hH.blk b (hH.lt h1);split
  ·rename_i es clock hg;rw[hg]at hb;obtain⟨l',ES,g1,g2,g3⟩:=hb;rw[h1]at g1;cases g1;split
   ·rename_i hit hf;obtain⟨c1,R,c2,c3⟩:=qe1 hky hy g3 hf;obtain⟨V,E,rfl,d1,d2,d3,d4,d5,d6⟩:=c3;obtain⟨m1,m2⟩:=qc7 hH h1 hg (es.eraseIdx hit.i) clock (g3.erase hit.i);refine⟨.value (.tuple #[]),_,_,ι,?_,.inl rfl,by simp[aP],m1,m2⟩;have hlt:=(List.getElem?_eq_some_iff.1 d2).1;simp[execOp,ho,resolve,invoke,builtin,Builtin.delete_,h2,hts,bS ht,getObj,setObj,Sem.run,g2,c1,c2]
   ·rename_i hf;obtain⟨c1,R,c2,c3⟩:=qe1 hky hy g3 hf;simp only[q1i]at c3;subst c3;obtain⟨m1,m2⟩:=qc7 hH h1 hg es clock g3;refine⟨.value (.tuple #[]),_,_,ι,?_,.inl rfl,by simp[aP],m1,m2⟩;simp[execOp,ho,resolve,invoke,builtin,Builtin.delete_,h2,hts,bS ht,getObj,setObj,Sem.run,g2,c1,c2]
   ·trivial
  ·trivial
 ·trivial
theorem qfd(zv:Value)(k:Nat):Builtin.zeroCells zv.cells k=(gD zv.cells.toList k).toArray:=by have:=range_zero zv.cells k zv.cells.size rfl;trivial
theorem znc{t k e:TypeId}{x:Operand}(ho:o.op=.call {callee:=.builtin .clear,args:= #[x],argTypes:= #[t]})(ht:P.underlying t=some (.map k e))(hH:HR ι H w)(h:LR ι d n L a.tmps):q8 P o a.eval ι H w (zgt H ((aH d n x).f L)):=by
 have hx:=dN h x;unfold zgt;split
 ·rename_i e1;rw[e1]at hx;simp only[aP]at hx;refine⟨.value (.tuple #[]),_,w,ι,?_,.inl rfl,by simp[aP],hH,Fr.refl _ _ _⟩;simp[execOp,ho,resolve,invoke,builtin,Builtin.clear_,hx,bS ht]
 ·rename_i b e1;rw[e1]at hx;simp only[aP]at hx;obtain⟨loc,h1,h2⟩:=hx;have hb:=hH.blk b (hH.lt h1);split
  ·rename_i es clock hg;rw[hg]at hb;obtain⟨l',ES,g1,g2,g3⟩:=hb;rw[h1]at g1;cases g1;obtain⟨m1,m2⟩:=qc7 hH h1 hg [] clock (ES':=[]) (by simp[bW]);refine⟨.value (.tuple #[]),_,_,ι,?_,.inl rfl,by simp[aP],m1,m2⟩;simp[execOp,ho,resolve,invoke,builtin,Builtin.clear_,h2,bS ht,getObj,setObj,Sem.run,g2]
  ·trivial
 ·trivial
theorem zgh{t e:TypeId}{x:Operand}(ho:o.op=.call {callee:=.builtin .clear,args:= #[x],argTypes:= #[t]})(ht:P.underlying t=some (.slice e)){ap:Ap}(hap:apS P e=some ap)(hH:HR ι H w)(h:LR ι d n L a.tmps):q8 P o a.eval ι H w (qhj ap.zl H ((aH d n x).f L)):=by
 have hx:=dN h x;obtain⟨a1,a2,a3,a4,_⟩:=qnw hap;obtain⟨zv,z1,z2,z3⟩:=qcn (ι:=ι) a3;unfold qhj;split
 ·rename_i e1;rw[e1]at hx;simp only[aP]at hx;refine⟨.value (.tuple #[]),_,w,ι,?_,.inl rfl,by simp[aP],hH,Fr.refl _ _ _⟩;simp[execOp,ho,resolve,invoke,builtin,Builtin.clear_,hx,bS ht]
 ·rename_i b i m cap ex e1;rw[e1]at hx;simp only[aP]at hx;obtain⟨_,loc,h1,h2⟩:=hx;cases hm:Nat.beq m 0 with
  |true=>have hm:=sH hm;subst hm;refine⟨.value (.tuple #[]),_,w,ι,?_,.inl rfl,by simp[aP],hH,Fr.refl _ _ _⟩;simp[execOp,ho,resolve,invoke,builtin,Builtin.clear_,h2,bS ht]
  |false=>
   have hm:=qt3 hm;cases hst:storeAt H b i (bC ap.zl m) .undef with
   |bad=>trivial
   |ok v H'=>obtain⟨rfl,w',r1,r2,r3⟩:=qdj P hH h1 (qhz z2 m) (fun v hv=>z3 v (qf6 hv)) hst;refine⟨.value (.tuple #[]),_,w',ι,?_,.inl rfl,by simp[aP],r2,r3⟩;obtain⟨m',rfl⟩:∃ m',m=m'+1:=⟨m-1,by omega⟩;simp[execOp,ho,resolve,invoke,builtin,Builtin.clear_,h2,bS ht,yZ z1,qfd,r1]
 ·trivial
theorem qg8{t u e ty:TypeId}(ht:P.underlying t=some (.slice e)){kk:IntKind}(hu:P.underlying u=some (.int kk)){z b:Nat}(hz:gK P e=some z)(hb:qih P e=some b){zv:Value}(hzv:(P.info? e).bind (·.zero)=some zv){zl:List AV}(hzr:aM ι zl zv.cells.toList)(hzl:zl.length=z)(base:Option Addr)(len C:Nat){k2:IntKind}{m:Nat}(hm:m<=1099511627776)(hmb:m*b<=1099511627776)(hle:len+m<=C){w':World}(hst:∀ ad,base=some ad->(storeCells (ad.add (len*z)) (gD zv.cells.toList m)).run P w=.ok () w')(hno:base=none->w'=w):(Builtin.append_ #[t,u] ty #[.slice base len C,.int k2 (m:Int)]).run P w=.ok (.slice base (len+m) C) w':=by
 obtain⟨ti,ti1,ti2⟩:=qs2 (P:=P) hb;have w1:IntKind.i64.wrap (m:Int)=m:=IntWalk.i64_in _ (by omega);have hlt:¬((m:Int)<0):=by omega
 have hbig:¬(281474976710656<(m:Int)*(ti.bytes:Int)):=by rw[ti2];omega
 have hsz:zv.cells.size=z:=by have:=hzr.length;simp at this;omega
 have hnil:m*z=0->gD zv.cells.toList m=[]:=fun h0=>List.length_eq_zero_iff.1 (by rw[qb4];simp[hsz,h0]);by_cases h0:m*z=0
 ·have hr:=hnil h0;cases base with
  |none=>rw[hno rfl];simp[Builtin.append_,bS ht,bS hu,mJ hz,asInt,asIntOf,w1,hlt,ti1,hbig,h0,hle]
  |some ad=>have hst:=hst ad rfl;rw[hr]at hst;simp[Builtin.append_,bS ht,bS hu,mJ hz,asInt,asIntOf,w1,hlt,ti1,hbig,h0,hle,hst]
 ·cases base with
  |none=>rw[hno rfl];simp[Builtin.append_,bS ht,bS hu,mJ hz,asInt,asIntOf,w1,hlt,ti1,hbig,hle,yZ hzv]
  |some ad=>have hst:=hst ad rfl;simp[Builtin.append_,bS ht,bS hu,mJ hz,asInt,asIntOf,w1,hlt,ti1,hbig,h0,hle,yZ hzv,qfd,hst]
set_option maxHeartbeats 1000000 in
theorem qj0{t u e ty:TypeId}(ht:P.underlying t=some (.slice e)){kk:IntKind}(hu:P.underlying u=some (.int kk)){z b:Nat}(hz:gK P e=some z)(hb:qih P e=some b){zv:Value}(hzv:(P.info? e).bind (·.zero)=some zv){zl:List AV}(hzr:aM ι zl zv.cells.toList)(hzl:zl.length=z)(base:Option Addr)(len C:Nat){k2:IntKind}{m:Nat}{iG:List Value}(hm:m<=1099511627776)(hmb:m*b<=1099511627776)(hof:(Builtin.firstCells z len (.slice base len C)).run P w.drew=.ok iG.toArray w.drew)(hgt:¬ len+m<=C)(hbig:(len+m)*b<=1099511627776)(hbig2:len+m<=1099511627776):∃newCap,len+m<=newCap/\(Builtin.append_ #[t,u] ty #[.slice base len C,.int k2 (m:Int)]).run P w=.ok (.slice (some ⟨w.heap.size,0,none⟩) (len+m) newCap) (w.drew.alloc (.cells (iG.toArray++(gD zv.cells.toList m).toArray++Builtin.zeroCells zv.cells (newCap-(len+m))) e)):=by
 obtain⟨ti,ti1,ti2⟩:=qs2 (P:=P) hb;have w1:IntKind.i64.wrap (m:Int)=m:=IntWalk.i64_in _ (by omega);have hlt:¬((m:Int)<0):=by omega
 have hb2:¬(281474976710656<(m:Int)*(ti.bytes:Int)):=by
  rw[ti2];have:((m*b:Nat):Int)<=281474976710656:=by omega
  have e:((m*b:Nat):Int)=(m:Int)*(b:Int):=by simp
  omega
 have hsz:zv.cells.size=z:=by have:=hzr.length;simp at this;omega
 have hnil:m*z=0->gD zv.cells.toList m=[]:=fun h0=>List.length_eq_zero_iff.1 (by rw[qb4];simp[hsz,h0]);have hnc:=qpz (need:=len+m) (old:=C) (by omega);have h2:¬(2 ^ 48<Builtin.nextslicecap (len+m) C*ti.bytes):=by have hm:Builtin.nextslicecap (len+m) C*ti.bytes<=3*(len+m)*ti.bytes:=Nat.mul_le_mul_right _ hnc;rw[ti2]at hm ⊢;have:3*(len+m)*b=3*((len+m)*b):=Nat.mul_assoc _ _ _;omega
 refine⟨(Question.appendCap (len+m) C e).cut (w.tape w.drawn (.appendCap (len+m) C e)),by simp only[Question.cut];omega,?_⟩;generalize hcap:(Question.appendCap (len+m) C e).cut (w.tape w.drawn (.appendCap (len+m) C e))=cap;by_cases h0:m*z=0
 ·rw[hnil h0];simp[Builtin.append_,bS ht,bS hu,mJ hz,asInt,asIntOf,w1,hlt,ti1,hb2,hgt,h2,Question.forced,hcap,hof,h0,yZ hzv,newRow];intro hbad;omega
 ·simp[Builtin.append_,bS ht,bS hu,mJ hz,asInt,asIntOf,w1,hlt,ti1,hb2,hgt,h2,Question.forced,hcap,hof,h0,yZ hzv,newRow];rw[if_neg (by omega),qfd zv m,<-Array.append_assoc];simp
theorem zzg{t u e:TypeId}{x y:Operand}(ho:o.op=.call {callee:=.builtin .append,args:= #[x,y],argTypes:= #[t,u]})(ht:P.underlying t=some (.slice e)){kk:IntKind}(hu:P.underlying u=some (.int kk)){ap:Ap}(hap:apS P e=some ap)(hH:HR ι H w)(h:LR ι d n L a.tmps):q8 P o a.eval ι H w (gV ap.z ap.w H ((aH d n x).f L) (qqn ap.w ap.zl ((aH d n y).f L))):=by
 have hx:=dN h x;have hy:=dN h y;obtain⟨a1,a2,a3,a4,_⟩:=qnw hap;obtain⟨zv,a5,z2,z3⟩:=qcn (ι:=ι) a3;cases hs:qqn ap.w ap.zl ((aH d n y).f L)with
 |none=>trivial
 |some s=>
  unfold qqn at hs;split at hs
  ·rename_i k2 m e2;rw[e2]at hy;simp only[aP]at hy;cases hmm:(Nat.ble m fD&&Nat.ble (Nat.mul m ap.w) fD)with
   |false=>rw[hmm]at hs;cases hs
   |true=>
    rw[hmm]at hs;simp only[cond_true,Option.some.injEq]at hs;subst hs;simp only[Bool.and_eq_true]at hmm;have m1:m<=1099511627776:=nN hmm.1;have m2:m*ap.w<=1099511627776:=nN hmm.2;have hy:a.eval y=.int k2 (m:Int):=hy;have run:∀ S V w',a.eval x=S->(Builtin.append_ #[t,u] o.type #[S,.int k2 (m:Int)]).run P w=.ok V w'->(execOp a.eval o).run P w=.ok (.value V) w':=fun S V w' h1 h2=>by simp[execOp,ho,resolve,invoke,builtin,h1,hy,h2]
    have x1:=qhz z2 m;have x2:∀ v∈gD zv.cells.toList m,v.oneCell=true:=fun v hv=>z3 v (qf6 hv);have x3:(gD zv.cells.toList m).length=m*ap.z:=by rw[qb4,z2.length,a4]
    cases hv:gV ap.z ap.w H ((aH d n x).f L) (some ⟨m,bC ap.zl m⟩)with
    |bad=>trivial
    |ok v H'=>
     unfold gV at hv;simp only at hv;split at hv
     ·rename_i e1;rw[e1]at hx;simp only[aP]at hx;cases hn:Nat.beq m 0 with
      |true=>have hn:=sH hn;subst hn;simp only[show Nat.beq 0 0=true from rfl,cond_true,R1.ok.injEq]at hv;obtain⟨rfl,rfl⟩:=hv;have r:=qg8 (P:=P) (ty:=o.type) (k2:=k2) ht hu a1 a2 a5 z2 a4 none 0 0 m1 m2 (by omega) (w':=w) (fun _ h=>by cases h) (fun _=>rfl);exact⟨_,.slice none 0 0,w,ι,run _ _ _ hx r,.inl rfl,by simp only[aP],hH,Fr.refl _ _ _⟩
      |false=>
       rw[hn]at hv;simp only[cond_false]at hv;have hn:=qt3 hn;cases hbg:(Nat.ble (Nat.mul m ap.w) fD&&Nat.ble m fD)with
       |false=>rw[hbg]at hv;cases hv
       |true=>rw[hbg]at hv;simp only[cond_true]at hv;obtain⟨nc,c1,c2⟩:=qj0 (P:=P) (w:=w) (ty:=o.type) (k2:=k2) (iG:=[]) ht hu a1 a2 a5 z2 a4 none 0 0 m1 m2 (by simp[Builtin.firstCells]) (by omega) (by rw[Nat.zero_add];exact m2) (by omega);rw[Nat.zero_add]at c1 c2;obtain⟨ι',d1,d2,d3⟩:=qtp hap hH (iG:=[]) (show aM ι [] []by simp[aM]) (by simp) x1 x2 (by simp[x3]) hv nc c1 a5 w.drew rfl;exact⟨_,_,_,ι',run _ _ _ hx c2,.inl rfl,d1,d2,d3⟩
     ·rename_i b i len cap ex e1;rw[e1]at hx;simp only[aP]at hx;obtain⟨hlc,loc,h1,h2⟩:=hx;cases hin:Nat.ble (len+m) cap with
      |true=>
       rw[hin]at hv;simp only[cond_true]at hv;have hin:=nN hin;obtain⟨rfl,w',r1,r2,r3⟩:=qdj P hH h1 x1 x2 hv;have r:=qg8 (P:=P) (ty:=o.type) (k2:=k2) ht hu a1 a2 a5 z2 a4 (some ⟨loc.blk,loc.base+i,none⟩) len (if ex then cap else cap+loc.ext) m1 m2 (by split<;>omega) (w':=w')
        (fun ad h=>by cases h;rw[addr_add,Nat.add_assoc];exact r1) (fun h=>by cases h)
       refine⟨_,_,w',ι,run _ _ _ h2 r,.inl rfl,?_,r2,r3⟩;simp only[aP];exact⟨hin,loc,h1,rfl⟩
      |false=>
       rw[hin]at hv;simp only[cond_false]at hv;have hin:=zzv hin;cases hbg:(Nat.ble (Nat.mul (len+m) ap.w) fD&&Nat.ble (len+m) fD)with
       |false=>rw[hbg]at hv;cases hv
       |true=>
        rw[hbg]at hv;simp only[cond_true]at hv;simp only[Bool.and_eq_true]at hbg;have g1:(len+m)*ap.w<=1099511627776:=nN hbg.1;have g2:len+m<=1099511627776:=nN hbg.2;split at hv
        ·cases hv
        ·rename_i old hold;have grown:∀ C,¬len+m<=C->a.eval x=.slice (some ⟨loc.blk,loc.base+i,none⟩) len C->∀(H1:Hp),HR ι H1 w->Fr ι ι H H1 w w->grow ap.z H1 old ⟨m,bC ap.zl m⟩ (len+m)=.ok v H'->q8 P o a.eval ι H w (.ok v H'):=by
          intro C hC hxC H1 hH1 hF1 hg;obtain⟨iG,o1,o2,o3,o4⟩:=zp9 (P:=P) (w:=w.drew) (C:=C) hH.drew h1 hold;obtain⟨nc,c1,c2⟩:=qj0 (P:=P) (w:=w) (ty:=o.type) (k2:=k2) ht hu a1 a2 a5 z2 a4 (some ⟨loc.blk,loc.base+i,none⟩) len C m1 m2 o4 hC g1 g2;obtain⟨ι',d1,d2,d3⟩:=qtp hap hH1 o1 o2 x1 x2 (by rw[o3,x3,Nat.add_mul]) hg nc c1 a5 w.drew rfl;exact⟨_,_,_,ι',run _ _ _ hxC c2,.inl rfl,d1,d2,hF1.trans d3⟩
         cases ex with
         |true=>simp only[cond_true]at hv;exact grown cap hin (by simpa using h2) H hH (Fr.refl _ _ _) hv
         |false=>
          simp only[cond_false]at hv;cases hend:qgx (H.get b) (i+cap*ap.z) ap.z with
          |false=>rw[hend]at hv;cases hv
          |true=>
           rw[hend]at hv;simp only[cond_true]at hv;simp only[Bool.false_eq_true,if_false]at h2;by_cases hfit:len+m<=cap+loc.ext
           ·obtain⟨w',ι',q1,q2,q3,q4⟩:=zej (P:=P) (x:=⟨m,bC ap.zl m⟩) hH h1 hend hold x1 x2 x3 hlc hin hfit hv;have r:=qg8 (P:=P) (ty:=o.type) (k2:=k2) ht hu a1 a2 a5 z2 a4 (some ⟨loc.blk,loc.base+i,none⟩) len (cap+loc.ext) m1 m2 hfit (w':=w')
             (fun ad h=>by cases h;rw[addr_add];exact q1) (fun h=>by cases h)
            exact⟨_,_,w',ι',run _ _ _ h2 r,.inl rfl,q2,q3,q4⟩
           ·have hwr:(H.get b).wr=true:=by
             unfold qgx at hend;split at hend
             ·rename_i hg;rw[hg];rfl
             ·cases hend
            obtain⟨k1,k2⟩:=hH.kill (hH.lt h1) hwr;exact grown _ hfit h2 _ k1 k2 hv
     ·cases hv
  ·cases hs
def Post(ι:Im)(H:Hp)(w:World)(v:AV)(H':Hp):Ending->World->Prop
 | .returned V,w'=>∃ ι',aP ι' v V/\HR ι' H' w'/\Fr ι ι' H H' w w'
 |_,_=>False
structure yN(P:Program)(call:Call):Prop where
 fn:∀ f args H v H',call (.f f) args H=.ok v H'->∀ ι w bI,HR ι H w->aM ι args bI ->
  (callFunc f bI.toArray).run P w=.ok (.enter f bI.toArray) w/\∀ m,CallsIn Fence.wide m P f bI.toArray w (Post ι H w v H')
 yd:∀ b args H v H',call (.y b) args H=.ok v H'->∀ ι w bI loc,HR ι H w->aM ι args bI->ι b=some loc ->
  ∃f tmps assign body,(Instr.yield loc.blk bI.toArray).run P w=.ok (.round loc.blk f tmps assign body) w /\
   ∀m,RoundIn Fence.wide m P loc.blk f tmps assign body w (Post ι H w v H')
 df:∀ f args H v H',call (.d f) args H=.ok v H'->∀ ι w bI,HR ι H w->aM ι args bI ->
  (callFunc f bI.toArray).run P w=.ok (.enter f bI.toArray) w/\∀ m,CallsDIn Fence.wide m P f bI.toArray .returning w (fun e u' w'=>u'=.returning/\Post ι H w v H' e w')
structure Fence.dL(F:Fence):Prop where
 eq:∃ r,F={Fence.wide with round:=r}
theorem Fence.wZ:Fence.dL Fence.wide:=⟨none,rfl⟩
theorem Fence.mW(l:Nat):Fence.dL (Fence.wide.inRound l):=⟨some l,rfl⟩
theorem Fence.dL.fn{F:Fence}(h:Fence.dL F)(f:FuncId):F.fn f:=by obtain⟨r,rfl⟩:=h;trivial
theorem Fence.dL.depth{F:Fence}(h:Fence.dL F):F.depth=none:=by obtain⟨r,rfl⟩:=h;rfl
theorem Fence.dL.calls{F:Fence}(h:Fence.dL F){m:Nat}{f:FuncId}{args:Array Value}{R:Ending->World->Prop}(k:CallsIn Fence.wide m P f args w R):CallsIn F m P f args w R:=by obtain⟨r,rfl⟩:=h;exact k
theorem Fence.dL.round{F:Fence}(h:Fence.dL F){m l:Nat}{f:FuncId}{tmps:Array Value}{assign body:Code}{R:Ending->World->Prop}(k:RoundIn Fence.wide m P l f tmps assign body w R):RoundIn F m P l f tmps assign body w R:=by obtain⟨r,rfl⟩:=h;exact k
theorem qcv{F:Fence}{ρ:Operand->Value}(h:∀ c,o.op≠ .defer c):o.semAt F.round ρ=execOp ρ o:=by
 cases F.round with
 |none=>exact Oper.semAt_none ..
 |some l=>exact Oper.semAt_some l ρ o h
def Nx(ι:Im)(H:Hp)(w:World)(a:Act)(o:Oper)(v:AV)(H':Hp)(next:Act->World->Prop):Prop:=
 ∀V w' ι',aP ι' v V->HR ι' H' w'->Fr ι ι' H H' w w'->next (a.put o.dst V) w'
theorem qc0{F:Fence}(hF:Fence.dL F)(hd:∀ c,o.op≠ .defer c){v:AV}{H':Hp}(h:q8 P o a.eval ι H w (.ok v H')){m:Nat}{next:Act->World->Prop}{Q:Exit->Act->World->Prop}(hn:Nx ι H w a o v H' next):o.wpIn F m P a w next Q:=by
 obtain⟨N,V,w',ι',h1,h2,h3,h4,h5⟩:=h;refine⟨fun f _=>hF.fn f,?_⟩;rw[qcv hd,h1];rcases h2 with rfl|⟨rfl,rfl⟩
 ·exact hn _ _ _ h3 h4 h5
 ·exact hn _ _ _ h3 h4 h5
theorem qvo{v:AV}{H':Hp}{next:Act->World->Prop}{Q:Exit->Act->World->Prop}(hn:Nx ι H w a o v H' next):∀e w',Post ι H w v H' e w'->(match e,w' with
   | .returned v,w''=>next (a.put o.dst v) w''
   | .panicked chain,w''=>Q (.panic chain) a w''
   | .outgrown,_=>LetsOut Q):=by
 intro e w' h;cases e with
 |returned V=>obtain⟨ι',h1,h2,h3⟩:=h;exact hn _ _ _ h1 h2 h3
 |panicked=>exact h.elim
 |outgrown=>exact h.elim
theorem zcy{F:Fence}(hF:Fence.dL F){c:Go.Call}(ho:o.op=.call c){x:Operand}(hc:c.callee=.value x){call:Call}(hC:yN P call)(hH:HR ι H w){fv:AV}(hx:aP ι fv (a.eval x)){args:List AV}(ha:aM ι args (c.args.toList.map a.eval)){v:AV}{H':Hp}(h:vQ call fv args H=.ok v H'){m:Nat}{next:Act->World->Prop}{Q:Exit->Act->World->Prop}(hn:Nx ι H w a o v H' next):o.wpIn F m P a w next Q:=by
 refine⟨fun f _=>hF.fn f,?_⟩;rw[qcv (by intro c';rw[ho];exact fun h=>by cases h)];have hargs:c.args.map a.eval=(c.args.toList.map a.eval).toArray:=by rw[<-Array.toList_map]
 unfold vQ at h;split at h
 ·rename_i g first cap
  obtain⟨A,C,h1,h2,h3⟩:=hx;obtain⟨c1,c2⟩:=hC.fn _ _ _ _ _ h ι w (A++c.args.toList.map a.eval++C) hH ((h1.append ha).append h2);have:(execOp a.eval o).run P w=.ok (.enter g (A++c.args.toList.map a.eval++C).toArray) w:=by simp only[execOp,ho,resolve,hc,h3,Deferred.ofValue,hargs];simpa [invoke] using c1
  rw[this];exact⟨by simp[hF.depth],CallsIn.mono (hF.calls (c2 _)) (qvo hn)⟩
 ·rename_i b;obtain⟨loc,h1,h3⟩:=hx;obtain⟨f,tmps,assign,body,c1,c2⟩:=hC.yd _ _ _ _ _ h ι w _ loc hH ha h1;have:(execOp a.eval o).run P w=.ok (.round loc.blk f tmps assign body) w:=by
   simp only[execOp,ho,resolve,hc,h3,Deferred.ofValue,hargs];simpa [invoke] using c1
  rw[this];exact⟨by simp[hF.depth],RoundIn.mono (hF.round (c2 _)) (qvo hn)⟩
 ·cases h
end Go.Ev
end
section
namespace Go.Ev
open Go.RowKit
variable {P:Program} {w:World} {ι:Im} {o:Oper} {a:Act} {d n:Nat} {L:TT AV d} {H:Hp} {call:Call} {F:Fence} {m:Nat} {next:Act->World->Prop} {Q:Exit->Act->World->Prop}
theorem zzy{args:List Operand}{ts:List TypeId}(ho:o.op=.call {callee:=.builtin .append,args:=args.toArray,argTypes:=ts.toArray}){f:Call->TT AV d->Hp->R1}(hf:wT P d n args ts=.e f)(hH:HR ι H w)(h:LR ι d n L a.tmps):q8 P o a.eval ι H w (f call L H):=by
 unfold wT at hf;split at hf
 ·split at hf
  ·rename_i e1;split at hf
   ·rename_i e2 e3;cases hf;exact zzg ho e1 e3 e2 hH h
   ·rename_i e2 e3;cases hf;exact q4s ho e1 e3 (.inr ⟨_,rfl⟩) e2 hH h
   ·rename_i e2 e3;cases hf;exact q4s ho e1 e3 (.inl rfl) e2 hH h
   ·cases hf;trivial
  ·cases hf;trivial
 ·cases hf;trivial
theorem zvv{args:List Operand}{ts:List TypeId}(ho:o.op=.call {callee:=.builtin .copy,args:=args.toArray,argTypes:=ts.toArray}){f:Call->TT AV d->Hp->R1}(hf:q08 P d n args ts=.e f)(hH:HR ι H w)(h:LR ι d n L a.tmps):q8 P o a.eval ι H w (f call L H):=by
 unfold q08 at hf;split at hf
 ·split at hf
  ·rename_i e1;split at hf
   ·rename_i e2;cases hf;exact zzf ho e1 e2 hH h
   ·cases hf;trivial
  ·cases hf;trivial
 ·cases hf;trivial
theorem zzl{args:List Operand}{ts:List TypeId}(ho:o.op=.call {callee:=.builtin .delete,args:=args.toArray,argTypes:=ts.toArray}){f:Call->TT AV d->Hp->R1}(hf:wR P d n args ts=.e f)(hH:HR ι H w)(h:LR ι d n L a.tmps):q8 P o a.eval ι H w (f call L H):=by
 unfold wR at hf;split at hf
 ·split at hf
  ·rename_i e1;split at hf
   ·rename_i e2;cases hf;exact aJ0 ho (by simp) e1 e2 hH h
   ·cases hf;trivial
  ·cases hf;trivial
 ·cases hf;trivial
theorem zzo{args:List Operand}{ts:List TypeId}(ho:o.op=.call {callee:=.builtin .clear,args:=args.toArray,argTypes:=ts.toArray}){f:Call->TT AV d->Hp->R1}(hf:xR P d n args ts=.e f)(hH:HR ι H w)(h:LR ι d n L a.tmps):q8 P o a.eval ι H w (f call L H):=by
 unfold xR at hf;split at hf
 ·split at hf
  ·rename_i e1;split at hf
   ·rename_i e2;cases hf;exact zgh ho e1 e2 hH h
   ·cases hf;trivial
  ·rename_i e1;cases hf;exact znc ho e1 hH h
  ·cases hf;trivial
 ·cases hf;trivial
theorem zyq{args:List Operand}{ts:List TypeId}{f:Call->TT AV d->Hp->R1}(hf:rY P d n args ts=.e f):f call L H=.bad:=by
 unfold rY at hf;split at hf
 ·split at hf
  ·cases hf
  ·split at hf<;>cases hf;rfl
  ·cases hf
  ·cases hf
  ·cases hf
  ·cases hf;rfl
 ·cases hf;rfl
theorem zzr{args:List Operand}{ts:List TypeId}{f:Call->TT AV d->Hp->R1}(hf:xD P d n args ts=.e f):f call L H=.bad:=by
 unfold xD at hf;split at hf
 ·split at hf
  ·cases hf
  ·cases hf
  ·cases hf;rfl
 ·cases hf;rfl
theorem zyd{args:List Operand}{f:Call->TT AV d->Hp->R1}(hf:wU d n args=.e f):f call L H=.bad:=by
 unfold wU at hf;split at hf
 ·cases hf
 ·cases hf;rfl
theorem zyf{args:List Operand}{f:Call->TT AV d->Hp->R1}(hf:wN d n args=.e f):f call L H=.bad:=by
 unfold wN at hf;split at hf
 ·cases hf
 ·cases hf;rfl
theorem q66{b:Builtin}{args:Array Operand}{ts:Array TypeId}(ho:o.op=.call {callee:=.builtin b,args,argTypes:=ts}){f:Call->TT AV d->Hp->R1}(hf:qd5 P d n b args.toList ts.toList=.e f)(hH:HR ι H w)(h:LR ι d n L a.tmps):q8 P o a.eval ι H w (f call L H):=by
 unfold qd5 at hf;split at hf
 ·rw[zyq hf];trivial
 ·rw[zzr hf];trivial
 ·rw[zyd hf];trivial
 ·rw[zyf hf];trivial
 ·exact zzy (by simpa using ho) hf hH h
 ·exact zvv (by simpa using ho) hf hH h
 ·exact zzl (by simpa using ho) hf hH h
 ·exact zzo (by simpa using ho) hf hH h
 ·cases hf;trivial
theorem zx1{f:Call->TT AV d->Hp->R1}(hf:gP P d n o=.e f)(hC:yN P call)(hF:Fence.dL F)(hH:HR ι H w)(h:LR ι d n L a.tmps){v:AV}{H':Hp}(he:f call L H=.ok v H')(hn:Nx ι H w a o v H' next):o.wpIn F m P a w next Q:=by
 have bad:dV d=.e f->False:=fun e=>by cases e;cases he
 unfold gP at hf;split at hf
 ·cases hf
 ·cases hf
 ·cases hf
 ·unfold q3h at hf;split at hf
  ·cases hf
  ·exact(bad hf).elim
 ·unfold aAE at hf;split at hf
  ·cases hf
  ·cases hf
  ·exact(bad hf).elim
 ·unfold q3g at hf;split at hf
  ·split at hf
   ·split at hf
    ·cases hf
    ·exact(bad hf).elim
   ·exact(bad hf).elim
  ·split at hf
   ·split at hf
    ·cases hf
    ·exact(bad hf).elim
   ·exact(bad hf).elim
  ·exact(bad hf).elim
 ·unfold qev at hf;split at hf
  ·split at hf
   ·rename_i s z e2 e3;cases hc:(Nat.ble (_*s) 65536&&Nat.beq z.length s)with
    |false=>rw[hc]at hf;exact(bad hf).elim
    |true=>
     rw[hc]at hf;simp only[cond_true]at hf;split at hf
     ·cases hf
     ·exact(bad hf).elim
   ·exact(bad hf).elim
  ·exact(bad hf).elim
 ·unfold zdr at hf;split at hf
  ·cases hf
  ·cases hf
  ·exact(bad hf).elim
 ·rename_i ho;refine qc0 hF (by intro c;rw[ho];exact fun h=>by cases h) ?_ hn;unfold qva at hf;split at hf
  ·rename_i e1 e2 e3 e4;cases hf;have:=zna (P:=P) ho e2 hH h;rw[e3,e4]at this;rw[<-he];exact this
  ·rename_i e1 e2 e3 e4;cases hf;have:=znb (P:=P) ho e2 hH h;rw[e3,e4]at this;rw[<-he];exact this
  ·exact(bad hf).elim
 ·cases hf
 ·cases hf
 ·cases hf
 ·unfold qkq at hf;split at hf
  ·cases hf
  ·cases hf
  ·split at hf
   ·cases hf
   ·exact(bad hf).elim
  ·split at hf
   ·split at hf
    ·cases hf
    ·exact(bad hf).elim
   ·exact(bad hf).elim
  ·exact(bad hf).elim
 ·unfold qcy at hf;split at hf
  ·exact(bad hf).elim
  ·cases hf
  ·exact(bad hf).elim
 ·cases hf
 ·cases hf
 ·unfold qf5 at hf;split at hf
  ·split at hf
   ·rename_i z w' s e4 e5 e6;cases hc:Nat.beq z.length s with
    |false=>rw[hc]at hf;exact(bad hf).elim
    |true=>rw[hc]at hf;cases hf
   ·exact(bad hf).elim
  ·exact(bad hf).elim
 ·unfold q3c at hf;split at hf
  ·split at hf
   ·cases hf
   ·exact(bad hf).elim
  ·split at hf
   ·cases hf
   ·exact(bad hf).elim
  ·split at hf
   ·cases hf
   ·exact(bad hf).elim
  ·split at hf
   ·split at hf
    ·cases hf
    ·exact(bad hf).elim
   ·exact(bad hf).elim
  ·exact(bad hf).elim
 ·unfold qek at hf;split at hf
  ·split at hf
   ·split at hf
    ·cases hf
    ·exact(bad hf).elim
   ·exact(bad hf).elim
  ·exact(bad hf).elim
 ·unfold qvd at hf;split at hf
  ·split at hf
   ·cases hf
   ·exact(bad hf).elim
  ·exact(bad hf).elim
 ·unfold qej at hf;split at hf
  ·split at hf
   ·cases hf
   ·exact(bad hf).elim
  ·split at hf
   ·cases hf
   ·exact(bad hf).elim
  ·exact(bad hf).elim
 ·unfold qvc at hf;split at hf
  ·cases hf
  ·split at hf
   ·cases hf
   ·exact(bad hf).elim
  ·exact(bad hf).elim
 ·unfold qsv at hf;split at hf
  ·split at hf
   ·cases hf
   ·exact(bad hf).elim
  ·exact(bad hf).elim
 ·rename_i ho;refine qc0 hF (by intro c;rw[ho];exact fun h=>by cases h) ?_ hn;unfold qdk at hf;split at hf
  ·rename_i e1 e2 e3 e4;split at hf
   ·rename_i e5;cases hf;have:=zzd (P:=P) (.inl ho) e1 e5 hH h;rw[e2,e3,e4]at this;rw[<-he];exact this
   ·exact(bad hf).elim
  ·exact(bad hf).elim
 ·rename_i ho;refine qc0 hF (by intro c;rw[ho];exact fun h=>by cases h) ?_ hn;unfold qdk at hf;split at hf
  ·rename_i e1 e2 e3 e4;split at hf
   ·rename_i e5;cases hf;have:=zzd (P:=P) (.inr ho) e1 e5 hH h;rw[e2,e3,e4]at this;rw[<-he];exact this
   ·exact(bad hf).elim
  ·exact(bad hf).elim
 ·rename_i ho;refine qc0 hF (by intro c;rw[ho];exact fun h=>by cases h) ?_ hn;unfold qhy at hf;split at hf
  ·rename_i e1 e2 e3;split at hf
   ·rename_i e5 e6;cases hf;have:=zvn (P:=P) ho e1 e5 e6 hH h;rw[e2,e3]at this;rw[<-he];exact this
   ·exact(bad hf).elim
  ·exact(bad hf).elim
 ·rename_i ho;refine qc0 hF (by intro c;rw[ho];exact fun h=>by cases h) ?_ hn;cases hf;rw[<-he];exact zgg ho hH h
 ·cases hf
 ·rename_i ho;refine qc0 hF (by intro c;rw[ho];exact fun h=>by cases h) ?_ hn;unfold q3d at hf;split at hf
  ·rename_i e1 e2;cases hf;have:=zvm (P:=P) ho e1 hH h;rw[e2]at this;rw[<-he];exact this
  ·exact(bad hf).elim
 ·rename_i ho;refine qc0 hF (by intro c;rw[ho];exact fun h=>by cases h) ?_ hn;unfold zlp at hf;split at hf
  ·rename_i e2;cases hf;have:=zze (P:=P) ho hH h;rw[e2]at this;rw[<-he];exact this
  ·exact(bad hf).elim
 ·cases hf
 ·rename_i ho;refine qc0 hF (by intro c;rw[ho];exact fun h=>by cases h) ?_ hn;rw[<-he];exact q66 ho hf hH h
 ·rename_i g args ts ho;unfold q3f at hf;split at hf
  ·cases hf
  ·rename_i gg e1 e2;cases hf;have ha:=qco h args.toList;rw[e1]at ha;refine zcy hF ho rfl hC hH (fv:=.fn g [] []) ?_ ha ?_ hn
   ·simp only[aP,aM];exact⟨[],[],rfl,rfl,rfl⟩
   ·simpa [vQ] using he
 ·rename_i x args ts _ ho;cases hf;exact zcy hF ho rfl hC hH (dN h x) (qco h _) he hn
 ·exact(bad hf).elim
end Go.Ev
end
section
namespace Go.Ev
open Go.RowKit
variable {P:Program} {w:World} {ι:Im} {o:Oper} {a:Act} {d n:Nat} {L:TT AV d} {H:Hp} {call:Call} {F:Fence} {m:Nat} {K:Act->World->Prop} {Q:Exit->Act->World->Prop} {ops:Array Oper}
theorem qg9(h:LR ι d n L a.tmps)(t:Option Tmp){v:AV}{V:Value}(hv:aP ι v V):LR ι d n ((dR d n t).f L v) (a.put t V).tmps:=by
 cases t with
 |none=>exact h
 |some t=>
  unfold dR;simp only[Act.put];cases hb:Nat.blt t n with
  |true=>simp only[cond_true];exact h.set (rU hb) hv
  |false=>rw[Array.setIfInBounds_eq_of_size_le (by rw[h.size];exact Nat.le_of_not_lt (q69 hb))];exact h
theorem put_defers(a:Act)(t:Option Tmp)(V:Value):(a.put t V).defers=a.defers:=by cases t<;>rfl
theorem qht(h:LR ι d n L a.tmps){b:Bool}(hw:(qV d n ops o).f L=some b):Region.wanted o (yielded ops a.tmps)=b:=by
 unfold qV at hw;unfold Region.wanted;split at hw
 ·rename_i hg;rw[hg];simpa using hw
 ·rename_i j want hg;rw[hg];simp only;split at hw
  ·rename_i t ht;cases hb:Nat.blt t n with
   |false=>rw[hb]at hw;cases hw
   |true=>
    rw[hb]at hw;simp only[cond_true]at hw;have hlt:=rU hb;have hr:=h.get t hlt;have hy:yielded ops a.tmps j=(match a.tmps[t]? with|some (.bool b)=>some b|_=>none):=by unfold yielded;rw[ht];rfl
    have hsz:t<a.tmps.size:=by rw[h.size];exact hlt
    rw[hy];rw[Array.getD_eq_getD_getElem?,Array.getElem?_eq_getElem hsz]at hr;rw[Array.getElem?_eq_getElem hsz];simp only[Option.getD_some]at hr;split at hw
    ·rename_i b' hb';rw[hb']at hr;rw[hr];simp only[Option.some.injEq]at hw;rw[<-hw];cases b'<;>cases want<;>rfl
    ·rename_i hb';rw[hb']at hr;rw[hr];simp only[Option.some.injEq]at hw;rw[<-hw];cases want<;>rfl
    ·cases hw
  ·cases hw
def Then(ι:Im)(H:Hp)(w:World)(a:Act)(d n:Nat)(L':TT AV d)(H':Hp)(K:Act->World->Prop):Prop:=
 ∀a' w' ι',LR ι' d n L' a'.tmps->a'.defers=a.defers->HR ι' H' w'->Fr ι ι' H H' w w'->K a' w'
theorem aJf{lk:Bool}{f:Nat->TT AV d->Hp->R0}(hf:gP P d n o=.q lk f)(hF:Fence.dL F)(hH:HR ι H w)(h:LR ι d n L a.tmps){put:TT AV d->AV->TT AV d}(hp:dR d n o.dst=⟨put⟩){L':TT AV d}{H':Hp}(he:doQ put L H (f H.nx L H)=.ok L' H')(hK:Then ι H w a d n L' H' K):o.wpIn F m P a w K Q:=by
 have hq:=zun (nm:=H.nx) hf hH h;have hnd:∀ c,o.op≠ .defer c:=fun c hc=>by unfold gP at hf;rw[hc]at hf;cases hf
 have hput:∀{ι':Im} (_:ι.le ι') {v:AV} {V:Value},aP ι' v V->LR ι' d n (put L v) (a.put o.dst V).tmps:=fun hle v V hv=>by have:=qg9 (a:=a) (h.mono hle) o.dst hv;simp_all
 refine⟨fun f _=>hF.fn f,?_⟩;rw[qcv hnd];unfold doQ at he;split at he
 ·cases he
 ·rename_i v hr;rw[hr]at hq;obtain⟨V,h1,h2⟩:=hq;rw[h1];cases he;exact hK _ _ ι (hput (Im.le_refl _) h2) (put_defers ..) hH (Fr.refl ..)
 ·rename_i v b hr;rw[hr]at hq
  ·
   cases he;obtain⟨V,w',l,h1,h2,h3⟩:=hq;rw[h1];have hnx:gU (H.nx):=nR;obtain⟨h4,h5⟩:=h3 (ι.set H.nx l) (Im.iL l (hH.fresh _ (Nat.le_refl _))) (Im.bD ..);obtain⟨k1,k2⟩:=hH.push hnx l b h2.os h2.tape h2.output (by rw[h2.size];exact Nat.lt_succ_self _) h2.keep h2.blk h5;exact hK _ _ _ (hput (Im.iL l (hH.fresh _ (Nat.le_refl _))) h4) (put_defers ..) k1 k2
theorem zld(hC:yN P call)(hF:Fence.dL F)(hH:HR ι H w)(h:LR ι d n L a.tmps){L':TT AV d}{H':Hp}(he:(vN P d n ops o).f call L H=.ok L' H')(hK:Then ι H w a d n L' H' K):if Region.wanted o (yielded ops a.tmps)then o.wpIn F m P a w K Q else(∀f,o.about P w a.eval=some f->F.fn f)/\K (a.put o.dst Go.undef) w:=by
 have hput:∀{put:TT AV d->AV->TT AV d} (_:dR d n o.dst=⟨put⟩) {ι':Im} (_:ι.le ι') {v:AV} {V:Value},aP ι' v V->LR ι' d n (put L v) (a.put o.dst V).tmps:=fun hp ι' hle v V hv=>by have:=qg9 (a:=a) (h.mono hle) o.dst hv;simp_all
 have aDe:∀{put:TT AV d->AV->TT AV d} (_:dR d n o.dst=⟨put⟩),L'=put L .undef->H'=H->K (a.put o.dst Go.undef) w:=fun hp h1 h2=>by subst h1;subst h2;exact hK _ _ ι (hput hp (Im.le_refl _) (by simp only[aP];rfl)) (put_defers ..) hH (Fr.refl ..)
 have heff:∀{put:TT AV d->AV->TT AV d} (_:dR d n o.dst=⟨put⟩) {f:Call->TT AV d->Hp->R1} (_:gP P d n o=.e f),doE put L (f call L H)=.ok L' H'->o.wpIn F m P a w K Q:=fun hp f hf hd=>by
  unfold doE at hd;split at hd
  ·cases hd
  ·rename_i v H1 hr;cases hd;exact zx1 hf hC hF hH h hr fun V w' ι' r1 r2 r3=>hK _ _ ι' (hput hp r3.le r1) (put_defers ..) r2 r3
 unfold vN at he;split at he
 ·rename_i f put hf hg hp;simp only[Region.wanted,hg,if_true];exact aJf hf hF hH h hp he hK
 ·rename_i f put hf hg hp;simp only[Region.wanted,hg,if_true];simp_all
 ·rename_i f _ wf put hf hg hw hp;simp only[ifW]at he;split at he
  ·rename_i hwt;rw[qht (o:=o) (ops:=ops) h (by rw[hw];exact hwt),if_pos rfl];exact aJf hf hF hH h hp he hK
  ·rename_i hwt;rw[qht (o:=o) (ops:=ops) h (by rw[hw];exact hwt)];cases he;exact⟨fun f _=>hF.fn f,aDe hp rfl rfl⟩
  ·cases he
 ·rename_i f _ wf put hf hg hw hp;simp only[ifW]at he;split at he
  ·rename_i hwt;rw[qht (o:=o) (ops:=ops) h (by rw[hw];exact hwt),if_pos rfl];simp_all
  ·rename_i hwt;rw[qht (o:=o) (ops:=ops) h (by rw[hw];exact hwt)];cases he;exact⟨fun f _=>hF.fn f,aDe hp rfl rfl⟩
  ·cases he
end Go.Ev
end
section
namespace Go.Ev
open Go.RowKit
/- bits -/
theorem qng(m i:Nat):hasB m i=m.testBit i:=by unfold hasB Nat.testBit;rw[show Nat.land (Nat.shiftRight m i) 1=(m >>> i) &&& 1 from rfl,Nat.and_comm 1,Nat.and_one_is_mod];rcases Nat.mod_two_eq_zero_or_one (m >>> i)with h|h<;>rw[h]<;>rfl
theorem qtn(a b i:Nat):hasB (Nat.lor a b) i=(hasB a i||hasB b i):=by simp only[qng];exact Nat.testBit_or a b i
theorem qfv(m j i:Nat):hasB (qU m j) i=(hasB m i||decide (j=i)):=by unfold qU;rw[qtn];congr 1;rw[qng,show Nat.shiftLeft 1 j=1 <<< j from rfl,Nat.one_shiftLeft,Nat.testBit_two_pow]
theorem qwb(i:Nat):hasB 0 i=false:=by rw[qng];exact Nat.zero_testBit i
theorem zlb{m k:Nat}(h:zT m k=true){i:Nat}(hi:hasB m i=true):hasB k i=true:=by have:=Nat.eq_of_beq_eq_true h;rw[<-this,qtn,hi];rfl
/- masks -/
theorem qj5(l:List Oper):∀ ms i,i<ms.length->(xL ms l).getD i 0=ms.getD i 0:=by
 induction l with
 |nil=>intro ms i _;rfl
 |cons o r ih=>intro ms i hi;rw[xL,ih _ _ (by simp;omega),List.getD_eq_getElem?_getD,List.getD_eq_getElem?_getD,List.getElem?_append_left hi]
theorem qgw{ms ms':List Nat}:∀(l:List Nat) (s:Nat),(∀j∈l,ms.getD j 0=ms'.getD j 0) -> l.foldl (fun s j=>Nat.lor (qU s j) (ms.getD j 0)) s=l.foldl (fun s j=>Nat.lor (qU s j) (ms'.getD j 0)) s
 | [],_,_=>rfl
 |j::l,s,h=>by simp only[List.foldl_cons];rw[h j (by simp)];exact qgw l _ fun x hx=>h x (by simp[hx])
theorem qv5(l:List Oper):∀ ms i o,l[i]? =some o->(∀j∈tJ o,j<ms.length+i)->(xL ms l).getD (ms.length+i) 0=qp3 (xL ms l) o:=by
 induction l with
 |nil=>intro ms i o h;simp at h
 |cons o' r ih=>
  intro ms i o h hj;rw[xL];cases i with
  |zero=>simp at h;subst h;rw[Nat.add_zero,qj5 _ _ _ (by simp)];simp only[List.getD_eq_getElem?_getD,List.getElem?_concat_length,Option.getD_some];refine qgw _ _ fun j hj'=>?_;have:=hj j hj';rw[qj5 _ _ _ (by simp;omega),List.getD_eq_getElem?_getD,List.getD_eq_getElem?_getD,List.getElem?_append_left this]
  |succ i=>have:=ih (ms++[qp3 ms o']) i o h (fun j hj'=>by have:=hj j hj';simp;omega);rw[show(ms++[qp3 ms o']).length+i=ms.length+(i+1)by simp;omega]at this;exact this
theorem qwc(ms:List Nat)(k:Nat):∀(l:List Nat) (s:Nat),hasB (l.foldl (fun s j=>Nat.lor (qU s j) (ms.getD j 0)) s) k=true↔hasB s k=true\/∃ j∈l,k=j\/hasB (ms.getD j 0) k=true
 | [],s=>by simp
 |j::l,s=>by
  rw[List.foldl_cons,qwc ms k l,qtn,qfv];simp only[Bool.or_eq_true,decide_eq_true_eq,List.mem_cons,exists_eq_or_imp];constructor
  ·rintro (((h|h)|h)|h)
   ·exact .inl h
   ·omega
   ·simp_all
   ·simp_all
  ·rintro (h|(h|h)|h)
   ·simp_all
   ·omega
   ·simp_all
   ·exact .inr h
theorem q0y(ms:List Nat)(o:Oper)(k:Nat):hasB (qp3 ms o) k=true↔∃ j∈tJ o,k=j\/hasB (ms.getD j 0) k=true:=by unfold qp3;rw[qwc,qwb];simp
theorem qwz:∀(l:List Oper) (k:Nat),qqj k l=true->∀ i o,l[i]? =some o->∀ j∈tJ o,j<k+i
 | [],_,_,i,o,h,j,hj=>by simp at h
 |o'::r,k,hb,i,o,h,j,hj=>by
  simp only[qqj,Bool.and_eq_true,List.all_eq_true]at hb;cases i with
  |zero=>simp at h;subst h;exact Nat.le_of_ble_eq_true (hb.1 j hj)
  |succ i=>simp at h;have:=qwz r (k+1) hb.2 i o h j hj;omega
structure yH(ops:Array Oper)(ms:List Nat):Prop where
 back:∀ i o,ops[i]? =some o->∀ j∈tJ o,j<i
 mask:∀ i o k,ops[i]? =some o->(hasB (ms.getD i 0) k=true↔∃ j∈tJ o,k=j\/hasB (ms.getD j 0) k=true)
 tmps:∀ i k o' o t,ops[i]? =some o'->ops[k]? =some o->o'.dst=some t->i=k\/hasB (ms.getD k 0) i=true\/hasB (ms.getD i 0) k=true\/(t∉kJ ops o/\o.dst≠some t)
theorem yH.of{ops:Array Oper}(h1:qqj 0 ops.toList=true)(h2:q2y ops (xL [] ops.toList)=true):yH ops (xL [] ops.toList):=by
 have hb:∀ i o,ops[i]? =some o->∀ j∈tJ o,j<i:=fun i o h j hj=>by have:=qwz ops.toList 0 h1 i o (by simpa using h) j hj;omega
 refine⟨hb,fun i o k h=>?_,fun i k o' o t hi hk ht=>?_⟩
 ·have:=qv5 ops.toList [] i o (by simpa using h) (fun j hj=>by have:=hb i o h j hj;simpa using this);simp only[List.length_nil,Nat.zero_add]at this;rw[this,q0y]
 ·unfold q2y at h2;rw[List.all_eq_true]at h2;have hlk:k<ops.size:=(Array.getElem?_eq_some_iff.1 hk).1;have hli:i<ops.size:=(Array.getElem?_eq_some_iff.1 hi).1;have h3:=h2 k (List.mem_range.2 hlk);rw[hk]at h3;simp only[List.all_eq_true]at h3;have h4:=h3 i (List.mem_range.2 hli);rw[hi]at h4;simp only[ht,Bool.or_eq_true,Bool.not_eq_true',Bool.or_eq_false_iff]at h4;rcases h4 with((h4|h4)|h4)|h4
  ·simp_all
  ·simp_all
  ·simp_all
  ·simp_all
variable {ops:Array Oper} {ms:List Nat}
theorem yH.ex(h:yH ops ms){i j:Nat}{o:Oper}(ho:ops[i]? =some o)(hj:j∈tJ o):∃ o',ops[j]? =some o':=by have h1:=h.back i o ho j hj;have h2:i<ops.size:=(Array.getElem?_eq_some_iff.1 ho).1;exact⟨ops[j]'(by omega),Array.getElem?_eq_getElem (by omega)⟩
theorem yH.aEs(h:yH ops ms):∀ i o k,ops[i]? =some o->hasB (ms.getD i 0) k=true->k<i:=by
 intro i
 induction i using Nat.strongRecOn with
 |ind i ih=>
  intro o k ho hk;obtain⟨j,hj,h1⟩:=(h.mask i o k ho).1 hk;have hlt:=h.back i o ho j hj;rcases h1 with rfl|h1
  ·exact hlt
  ·obtain⟨o',ho'⟩:=h.ex ho hj;exact Nat.lt_trans (ih j hlt o' k ho' h1) hlt
def Shut(ops:Array Oper)(S:Nat->Prop):Prop:=∀ i o,ops[i]? =some o->S i->∀ j∈tJ o,S j
theorem yH.sS(h:yH ops ms){S:Nat->Prop}(hS:Shut ops S):∀ i o k,ops[i]? =some o->(∀j∈tJ o,S j)->hasB (ms.getD i 0) k=true->S k:=by
 intro i
 induction i using Nat.strongRecOn with
 |ind i ih=>
  intro o k ho hc hk;obtain⟨j,hj,h1⟩:=(h.mask i o k ho).1 hk;have hlt:=h.back i o ho j hj;rcases h1 with rfl|h1
  ·exact hc _ hj
  ·obtain⟨o',ho'⟩:=h.ex ho hj;exact ih j hlt o' k ho' (hS j o' ho' (hc j hj)) h1
theorem yH.pZ(h:yH ops ms){S:Nat->Prop}(hS:Shut ops S){i:Nat}{o:Oper}{k:Nat}(ho:ops[i]? =some o)(hi:S i)(hk:hasB (ms.getD i 0) k=true):S k:=
 h.sS hS i o k ho (hS i o ho hi) hk
/- projections -/
theorem qmt{d n:Nat}{L L':TT AV d}:∀(ts:List Tmp),(∀t∈ts,t<n->(dI d t).f L=(dI d t).f L')->(l9 d n ts).f L=(l9 d n ts).f L'
 | [],_=>rfl
 |t::r,h=>by
  unfold l9;have ih:=qmt r fun x hx=>h x (by simp[hx]);cases hb:Nat.blt t n with
  |true=>simp_all
  |false=>simp only[cond_false];exact ih
theorem qvn{d n:Nat}(hn:n<=8 ^ d){L:TT AV d}{i:Nat}(hi:i<8 ^ d):∀(ts:List Tmp),(dI d i).f ((l9 d n ts).f L)=if i∈ts/\i<n then(dI d i).f L else .undef
 | []=>by simp[l9,qgc]
 |t::r=>by
  unfold l9;have ih:=qvn (n:=n) hn (L:=L) hi r;cases hb:Nat.blt t n with
  |true=>
   simp only[cond_true];rw[qef _ _ _ _ _ hi (by have:=rU hb;omega)];by_cases e:i=t
   ·simp_all
   ·simp_all
  |false=>
   simp only[cond_false];rw[ih];have hb:=q69 hb;by_cases e:i=t
   ·subst e;simp[hb]
   ·simp[e]
def wO(ts:List Tmp)(tmps:Array Value):Array Value:=Array.ofFn (n:=tmps.size) fun i=>if i.1∈ts then tmps[i]else Go.undef
theorem qga(ts:List Tmp)(tmps:Array Value):(wO ts tmps).size=tmps.size:=by simp[wO]
theorem qms(ts:List Tmp)(tmps:Array Value)(i:Nat):(wO ts tmps).getD i Go.undef=if i∈ts then tmps.getD i Go.undef else Go.undef:=by
 simp only[wO,Array.getD_eq_getD_getElem?,Array.getElem?_ofFn];by_cases h:i<tmps.size
 ·simp_all
 ·rw[dif_neg h];simp[Array.getElem?_eq_none (Nat.le_of_not_lt h)]
theorem LR.proj{ι:Im}{d n:Nat}{L:TT AV d}{tmps:Array Value}(h:LR ι d n L tmps)(ts:List Tmp):LR ι d n ((l9 d n ts).f L) (wO ts tmps):=by
 refine⟨by rw[qga,h.size],h.fits,fun i hi=>?_⟩;rw[qvn h.fit (Nat.lt_of_lt_of_le hi h.fit),qms];have hr:=h.get i hi;by_cases h1:i∈ts
 ·by_cases h2:i<n
  ·simp_all
  ·omega
 ·rw[if_neg (by simp[h1]),if_neg h1];simp only[aP];rfl
theorem zf5(a:Act)(ts:List Tmp)(x:Operand)(hx:∀ t,zw4 x=some t->t∈ts):({a with tmps:=wO ts a.tmps}:Act).eval x=a.eval x:=by
 cases x with
 |tmp t=>have:=hx t rfl;show(wO ts a.tmps).getD t Go.undef=a.tmps.getD t Go.undef;rw[qms,if_pos this]
 |_=>rfl
theorem qum(a:Act)(o:Oper):Region.wanted o (yielded ops (wO (kJ ops o) a.tmps))=Region.wanted o (yielded ops a.tmps):=by
 unfold Region.wanted;cases hg:o.guard with
 |none=>rfl
 |some gw=>
  obtain⟨g,want⟩:=gw;have hy:yielded ops (wO (kJ ops o) a.tmps) g=yielded ops a.tmps g:=by
   unfold yielded;cases ht:(ops[g]?).bind (·.dst)with
   |none=>rfl
   |some t=>
    have hm:t∈kJ ops o:=by simp[kJ,hg,ht]
    show(match(wO (kJ ops o) a.tmps)[t]? with|some (.bool b)=>some b|_=>none)=(match a.tmps[t]? with|some (.bool b)=>some b|_=>none);have h1:=qms (kJ ops o) a.tmps t;rw[if_pos hm]at h1;rw[Array.getD_eq_getD_getElem?,Array.getD_eq_getD_getElem?]at h1;by_cases hl:t<a.tmps.size
    ·rw[Array.getElem?_eq_getElem (by rw[qga];exact hl),Array.getElem?_eq_getElem hl]at h1 ⊢;simp_all
    ·rw[Array.getElem?_eq_none (by rw[qga];exact Nat.le_of_not_lt hl),Array.getElem?_eq_none (Nat.le_of_not_lt hl)]
  simp only[hy]
theorem qnl(a:Act)(o:Oper)(hs:∀ cs b,o.op≠ .select cs b):execOp ({a with tmps:=wO (kJ ops o) a.tmps}:Act).eval o=execOp a.eval o:=
 execOp_congr o hs fun x hx=>zf5 a _ x fun t ht=>by exact List.mem_append_left _ (List.mem_filterMap.2 ⟨x,by simpa using hx,ht⟩)
/- a quiet operation that does not look -/
theorem q0w{P:Program}{d n:Nat}{args:List Operand}{ts:List TypeId}{f:Nat->TT AV d->Hp->R0}(hf:rY P d n args ts=.q false f)(nm:Nat)(L:TT AV d)(H H':Hp):f nm L H=f nm L H':=by
 unfold rY at hf;split at hf
 ·split at hf
  ·cases hf;rfl
  ·split at hf<;>cases hf;rfl
  ·cases hf;rfl
  ·cases hf;rfl
  ·cases hf
  ·cases hf
 ·cases hf
theorem qpx{P:Program}{d n:Nat}{o:Oper}{f:Nat->TT AV d->Hp->R0}(hf:gP P d n o=.q false f)(nm:Nat)(L:TT AV d)(H H':Hp):f nm L H=f nm L H':=by
 unfold gP at hf;split at hf
 all_goals first
  |(cases hf;done)
  |(cases hf;rfl)
  |(unfold q3d at hf;split at hf<;>(cases hf;done))
  |(unfold zlp at hf;split at hf<;>(cases hf;done))
  |(unfold zp4 at hf;cases hf;done)
  |(unfold zxf at hf;(repeat' split at hf)<;>first|(cases hf;done)|(cases hf;rfl))
  |(unfold zty at hf;(repeat' split at hf)<;>first|(cases hf;done)|(cases hf;rfl))
  |(unfold q3h at hf;(repeat' split at hf)<;>first|(cases hf;done)|(cases hf;rfl))
  |(unfold aAE at hf;(repeat' split at hf)<;>first|(cases hf;done)|(cases hf;rfl))
  |(unfold q3g at hf;(repeat' split at hf)<;>first|(cases hf;done)|(cases hf;rfl))
  |(unfold qev at hf;simp only[Bool.cond_eq_ite]at hf;(repeat' split at hf)<;>first|(cases hf;done)|(cases hf;rfl))
  |(unfold zdr at hf;(repeat' split at hf)<;>first|(cases hf;done)|(cases hf;rfl))
  |(unfold qva at hf;(repeat' split at hf)<;>first|(cases hf;done)|(cases hf;rfl))
  |(unfold qmi at hf;(repeat' split at hf)<;>first|(cases hf;done)|(cases hf;rfl))
  |(unfold zds at hf;(repeat' split at hf)<;>first|(cases hf;done)|(cases hf;rfl))
  |(unfold zxd at hf;(repeat' split at hf)<;>first|(cases hf;done)|(cases hf;rfl))
  |(unfold qkq at hf;(repeat' split at hf)<;>first|(cases hf;done)|(cases hf;rfl))
  |(unfold qcy at hf;(repeat' split at hf)<;>first|(cases hf;done)|(cases hf;rfl))
  |(unfold qvb at hf;(repeat' split at hf)<;>first|(cases hf;done)|(cases hf;rfl))
  |(unfold q3e at hf;(repeat' split at hf)<;>first|(cases hf;done)|(cases hf;rfl))
  |(unfold qf5 at hf;simp only[Bool.cond_eq_ite]at hf;(repeat' split at hf)<;>first|(cases hf;done)|(cases hf;rfl))
  |(unfold q3c at hf;(repeat' split at hf)<;>first|(cases hf;done)|(cases hf;rfl))
  |(unfold qek at hf;(repeat' split at hf)<;>first|(cases hf;done)|(cases hf;rfl))
  |(unfold qvd at hf;(repeat' split at hf)<;>first|(cases hf;done)|(cases hf;rfl))
  |(unfold qej at hf;(repeat' split at hf)<;>first|(cases hf;done)|(cases hf;rfl))
  |(unfold qvc at hf;(repeat' split at hf)<;>first|(cases hf;done)|(cases hf;rfl))
  |(unfold qsv at hf;(repeat' split at hf)<;>first|(cases hf;done)|(cases hf;rfl))
  |(unfold qdk at hf;(repeat' split at hf)<;>first|(cases hf;done)|(cases hf;rfl))
  |(unfold qhy at hf;(repeat' split at hf)<;>first|(cases hf;done)|(cases hf;rfl))
  |(unfold qmj at hf;(repeat' split at hf)<;>first|(cases hf;done)|(cases hf;rfl))
  |(unfold qsw at hf;(repeat' split at hf)<;>first|(cases hf;done)|(cases hf;rfl))
  |(unfold xD at hf;(repeat' split at hf)<;>first|(cases hf;done)|(cases hf;rfl))
  |(unfold wU at hf;(repeat' split at hf)<;>first|(cases hf;done)|(cases hf;rfl))
  |(unfold wN at hf;(repeat' split at hf)<;>first|(cases hf;done)|(cases hf;rfl))
  |(unfold wT at hf;(repeat' split at hf)<;>first|(cases hf;done)|(cases hf;rfl))
  |(unfold q08 at hf;(repeat' split at hf)<;>first|(cases hf;done)|(cases hf;rfl))
  |(unfold wR at hf;(repeat' split at hf)<;>first|(cases hf;done)|(cases hf;rfl))
  |(unfold xR at hf;(repeat' split at hf)<;>first|(cases hf;done)|(cases hf;rfl))
  |(unfold q3f at hf;(repeat' split at hf)<;>first|(cases hf;done)|(cases hf;rfl))
  |skip
 unfold qd5 at hf;split at hf
 ·exact q0w hf nm L H H'
 all_goals first
  |(cases hf;done)
  |(unfold xD at hf;(repeat' split at hf)<;>first|(cases hf;done)|(cases hf;rfl))
  |(unfold wU at hf;(repeat' split at hf)<;>first|(cases hf;done)|(cases hf;rfl))
  |(unfold wN at hf;(repeat' split at hf)<;>first|(cases hf;done)|(cases hf;rfl))
  |(unfold wT at hf;(repeat' split at hf)<;>first|(cases hf;done)|(cases hf;rfl))
  |(unfold q08 at hf;(repeat' split at hf)<;>first|(cases hf;done)|(cases hf;rfl))
  |(unfold wR at hf;(repeat' split at hf)<;>first|(cases hf;done)|(cases hf;rfl))
  |(unfold xR at hf;(repeat' split at hf)<;>first|(cases hf;done)|(cases hf;rfl))
end Go.Ev
end
