/-
 For ReachesGoals: the evaluator and its soundness, part 2 of 4: what a run of the abstract evaluator answers, the model's run answers, in every world and on every schedule. No conditions beyond those that each theorem states.
-/
import Derived.Test.YtnojgpkbpnimhaaGreatEv1
import Derived.Laws.NewFold
import Derived.Lib.Bytealg
import Derived.KernelRfl
import Derived.CallsIn
import Derived.OrdersIn
import Derived.TacticsIn
import Derived.RangeFuncLeaves
section
namespace Go.Ev
open Go.RowKit
variable {P:Program} {w:World} {ι:Im} {o:Oper} {a:Act} {nm:Nat} {d n:Nat} {L:TT AV d} {H:Hp}
theorem qx8{t e:TypeId}{len:Nat}{ps:Array (Nat×Operand)}(u:o.op=.buildSlice t len ps)(y:P.underlying t=some (.slice e)){z:List AV}(A:qj8 P e=some z){s:Nat}(B:jA P e=some s)(g:z.length=s)(D:len*s<=65536){r:RdP d}(E:qqx d n (fun i=>some (i*s,s)) ps.toList=some r)(h:LR ι d n L a.tmps):iU P o a.eval ι w nm (rJ len nm (bH (aS z len) (r.f L))):=by
 obtain⟨f,J,p,K⟩:=qcz (ι:=ι) A;have H:f.cells.toList.length=s:=by rw[p.length,g]
 cases Q:bH (aS z len) (r.f L)with
 |none=>trivial
 |some c=>
  obtain⟨M,l,N,O⟩:=qfn (C:=(gZ f.cells.toList len).toArray) (qjs h _ _ _ E) (by simpa using qej p len) (fun v F=>K v (qhk (by simpa using F))) Q;refine⟨.slice (some ⟨w.heap.size,0,none⟩) len len,w.alloc (.cells M.toList.toArray e),⟨w.heap.size,0,0,0⟩,?_,New.alloc w _ 0 0,fun G j m=>⟨?_,qgs N O e nm 0 G j m⟩⟩
  ·have b:¬(len*s>2 ^ 24):=by omega
   simp only[execOp,u,Instr.buildSlice,Sem.run_bind,dX y,Result.andThen_ok,qR B,pg b,Sem.run_pure,lAH,Sem.run_ite];by_cases q:len*s=0
   ·have k:(gZ f.cells.toList len)=[]:=tu.1 (by grind [qce]);rw[k]at l;have I:Array.map (fun x=>(#[]:Array Value)[x%(#[]:Array Value).size]!) (Array.range 0)= #[]:=by grind
    simp only[q,mg];rw[I,l];rfl
   ·simp only[q,lEB,qdf J,Result.andThen_ok];rw[range_zero f.cells len s (by grind),l];rfl
  ·simp only[aO];exact⟨lu _,_,m,by simp⟩
theorem z2t{t:TypeId}{x:Operand}{f:Nat}(i:o.op=.field t x f){c:Array Field}(j:P.underlying t=some (.struct c)){b:Field}(k:c[f]? =some b)(h:LR ι d n L a.tmps):iU P o a.eval ι w nm (zlo (qpg P b.type) b.offset ((aM d n x).f L)):=by
 have g:=fK h x;unfold zlo;split
 ·rename_i l e;rw[e]at g;obtain⟨vs,m,p,q⟩:=qee g;split
  ·rename_i v s;obtain⟨V,r,u⟩:=qk3 m q s;exact⟨V,by simp[execOp,i,Instr.field,dX j,k,p,asAgg,r],u⟩
  ·trivial
 ·trivial
theorem z7n{t e:TypeId}{x y:Operand}(g:o.op=.index t x y){len:Nat}(j:P.underlying t=some (.array len e)){z:Nat}(m:jA P e=some z)(h:LR ι d n L a.tmps):iU P o a.eval ι w nm (aIR (qpg P e) len z ((aM d n x).f L) ((aM d n y).f L)):=by
 have f:=fK h x;have b:=fK h y;unfold aIR;split
 ·rename_i l k i q s;rw[q]at f;rw[s]at b;simp only[aO]at b;obtain⟨vs,u,A,B⟩:=qee f;cases E:Nat.blt i len with
  |false=>trivial
  |true=>
   have c:=yE E;split
   ·rename_i v C;obtain⟨V,r,D⟩:=qk3 u B C;refine⟨V,?_,D⟩;have p:∀ w,(part e vs.toArray (i*z)).run P w=.ok V w:=r;simp[execOp,g,Instr.index,dX j,A,b,asIntOf,qR m,c,p]
   ·trivial
 ·trivial
/- len, cap, min, max -/
theorem qr6{x:Operand}{t:TypeId}{m:Nat}(d:o.op=.call {callee:=.builtin .len,args:= #[x],argTypes:= #[t]})(c:(∃e,P.underlying t=some (.array m e))\/∃ b e,P.underlying t=some (.pointer b)/\P.underlying b=some (.array m e)):iU P o a.eval ι w nm (.val (i64 m)):=by
 refine⟨_,?_,qco _ _⟩;rcases c with⟨e,c⟩|⟨b,e,c,f⟩
 ·simp[execOp,d,resolve,invoke,builtin,Builtin.len_,dX c,goInt]
 ·simp[execOp,d,resolve,invoke,builtin,Builtin.len_,dX c,dX f,goInt]
theorem zaj{x:Operand}{t:TypeId}{m:Nat}(c:o.op=.call {callee:=.builtin .cap,args:= #[x],argTypes:= #[t]})(b:∃ e,P.underlying t=some (.array m e)):iU P o a.eval ι w nm (.val (i64 m)):=by refine⟨_,?_,qco _ _⟩;obtain⟨e,b⟩:=b;simp[execOp,c,resolve,invoke,builtin,Builtin.cap_,dX b,goInt]
theorem zsk{x:Operand}{t:TypeId}(c:o.op=.call {callee:=.builtin .len,args:= #[x],argTypes:= #[t]})(f:P.underlying t=some .string)(h:LR ι d n L a.tmps):iU P o a.eval ι w nm (lG ((aM d n x).f L)):=by
 have b:=fK h x;unfold lG;split
 ·rename_i e;rw[e]at b;simp only[aO]at b;obtain⟨s,g,i,_⟩:=b;refine⟨_,?_,qco _ _⟩;have:s.size=_:=i;simp[execOp,c,resolve,invoke,builtin,Builtin.len_,dX f,goInt,g,this]
 ·trivial
theorem z2s{x:Operand}{t e:TypeId}(c:o.op=.call {callee:=.builtin .len,args:= #[x],argTypes:= #[t]})(f:P.underlying t=some (.slice e))(h:LR ι d n L a.tmps):iU P o a.eval ι w nm (aD ((aM d n x).f L)):=by
 have b:=fK h x;unfold aD;split
 ·rename_i e;rw[e]at b;simp only[aO]at b;obtain⟨_,l,_,g⟩:=b;exact⟨_,by simp[execOp,c,resolve,invoke,builtin,Builtin.len_,dX f,goInt,g],qco _ _⟩
 ·rename_i e;rw[e]at b;simp only[aO]at b;exact⟨_,by simp[execOp,c,resolve,invoke,builtin,Builtin.len_,dX f,goInt,b],qco _ _⟩
 ·rename_i e;rw[e]at b;simp only[aO]at b;obtain⟨_,_,g⟩:=b;exact⟨_,by simp[execOp,c,resolve,invoke,builtin,Builtin.len_,dX f,goInt,g],qco _ _⟩
 ·trivial
theorem dS.length:∀{es:List gD} {a:List MapEntry},dS ι es a->a.length=es.length
 | [],a,h=>by grind [dS]
 |x::es,a,h=>by obtain⟨e,r,rfl,_,_,_,b⟩:=h;simp[dS.length b]
theorem z7m{x:Operand}{t k e:TypeId}(f:o.op=.call {callee:=.builtin .len,args:= #[x],argTypes:= #[t]})(g:P.underlying t=some (.map k e))(i:HR ι H w)(h:LR ι d n L a.tmps):iU P o a.eval ι w nm (aBG H ((aM d n x).f L)):=by
 have b:=fK h x;unfold aBG;split
 ·rename_i e;rw[e]at b;simp only[aO]at b;exact⟨_,by simp[execOp,f,resolve,invoke,builtin,Builtin.len_,dX g,goInt,b],qco _ _⟩
 ·rename_i m e;rw[e]at b;simp only[aO]at b;obtain⟨l,p,s⟩:=b;have j:=i.blk m (i.lt p);split
  ·rename_i es c u;rw[u]at j;obtain⟨z,A,q,v,y⟩:=j;rw[p]at q;cases q;have r:=y.length;refine⟨_,?_,qco _ _⟩;simp[execOp,f,resolve,invoke,builtin,Builtin.len_,dX g,goInt,s,getObj,Sem.run,v,r]
  ·trivial
 ·trivial
theorem z2w{x:Operand}{t e:TypeId}(c:o.op=.call {callee:=.builtin .cap,args:= #[x],argTypes:= #[t]})(f:P.underlying t=some (.slice e))(h:LR ι d n L a.tmps):iU P o a.eval ι w nm (dU ((aM d n x).f L)):=by
 have b:=fK h x;unfold dU;split
 ·rename_i e;rw[e]at b;simp only[aO]at b;obtain⟨_,l,_,g⟩:=b;exact⟨_,by simp[execOp,c,resolve,invoke,builtin,Builtin.cap_,dX f,goInt,g],qco _ _⟩
 ·rename_i e;rw[e]at b;simp only[aO]at b;exact⟨_,by simp[execOp,c,resolve,invoke,builtin,Builtin.cap_,dX f,goInt,b],qco _ _⟩
 ·trivial
theorem q8z:∀(l:List AV) (b:List Value) (x:AV) (X:Value) (v:AV),aL ι l b->aO ι x X->qL o7 x l=.val v->∃ V,(b.foldlM Builtin.min2 X).run P w=.ok V w/\aO ι v V
 | [],b,x,X,v,hl,hx,h=>by simp only[aL]at hl;subst hl;have h:R0.val x=.val v:=h;cases h;exact⟨X,by simp,hx⟩
 |y::l,b,x,X,v,hl,hx,h=>by
  obtain⟨Y,r,rfl,c,e⟩:=hl;have h:(match o7 x y with| .val z=>qL o7 z l|_=>.bad)=.val v:=h;split at h
  ·rename_i z a;have d:∃ Z,(Builtin.min2 X Y).run P w=.ok Z w/\aO ι z Z:=by
    unfold o7 at a;split at a
    ·simp only[R0.val.injEq]at a;subst a;simp only[aO]at hx c;subst hx c;refine⟨_,rfl,?_⟩
     grind [aO,qel]
    ·cases a
   obtain⟨Z,f,g⟩:=d;obtain⟨V,i,j⟩:=q8z l r z Z v e g h;exact⟨V,by rw[List.foldlM_cons,Sem.run_bind,f];exact i,j⟩
  ·cases h
theorem q80:∀(l:List AV) (b:List Value) (x:AV) (X:Value) (v:AV),aL ι l b->aO ι x X->qL pF x l=.val v->∃ V,(b.foldlM Builtin.max2 X).run P w=.ok V w/\aO ι v V
 | [],b,x,X,v,hl,hx,h=>by simp only[aL]at hl;subst hl;have h:R0.val x=.val v:=h;simp_all
 |y::l,b,x,X,v,hl,hx,h=>by
  obtain⟨Y,r,rfl,c,e⟩:=hl;have h:(match pF x y with| .val z=>qL pF z l|_=>.bad)=.val v:=h;split at h
  ·rename_i z a;have d:∃ Z,(Builtin.max2 X Y).run P w=.ok Z w/\aO ι z Z:=by
    unfold pF at a;split at a
    ·simp only[R0.val.injEq]at a;subst a;simp only[aO]at hx c;subst hx c;refine⟨_,rfl,?_⟩
     grind [aO,qel]
    ·cases a
   obtain⟨Z,f,g⟩:=d;obtain⟨V,i,j⟩:=q80 l r z Z v e g h;exact⟨V,by rw[List.foldlM_cons,Sem.run_bind,f];exact i,j⟩
  ·cases h
theorem qla(g:AV->AV->R0):∀(l:List AV) (x:AV),qL g x l=.bad\/∃ v,qL g x l=.val v
 | [],x=>.inr ⟨x,rfl⟩
 |y::l,x=>by
  show(match g x y with| .val z=>qL g z l|_=>.bad)=.bad\/∃ v,(match g x y with| .val z=>qL g z l|_=>.bad)=.val v;split
  ·exact qla g l _
  ·simp
theorem aNi{x:Operand}{r:List Operand}{ts:Array TypeId}(b:o.op=.call {callee:=.builtin .min,args:=(x::r).toArray,argTypes:=ts})(h:LR ι d n L a.tmps):iU P o a.eval ι w nm (qL o7 ((aM d n x).f L) ((vV d n r).f L)):=by
 rcases qla o7 ((vV d n r).f L) ((aM d n x).f L)with hf|⟨v,hf⟩
 ·rw[hf];trivial
 ·obtain⟨V,c,e⟩:=q8z (P:=P) (w:=w) _ _ _ _ v (qc8 h r) (fK h x) hf;rw[hf];refine⟨V,?_,e⟩;simp[execOp,b,resolve,invoke,builtin,Builtin.min_,c]
theorem aOp{x:Operand}{r:List Operand}{ts:Array TypeId}(b:o.op=.call {callee:=.builtin .max,args:=(x::r).toArray,argTypes:=ts})(h:LR ι d n L a.tmps):iU P o a.eval ι w nm (qL pF ((aM d n x).f L) ((vV d n r).f L)):=by
 rcases qla pF ((vV d n r).f L) ((aM d n x).f L)with hf|⟨v,hf⟩
 ·rw[hf];trivial
 ·obtain⟨V,c,e⟩:=q80 (P:=P) (w:=w) _ _ _ _ v (qc8 h r) (fK h x) hf;rw[hf];refine⟨V,?_,e⟩;simp[execOp,b,resolve,invoke,builtin,Builtin.max_,c]
/- keys -/
theorem qqg(em:Bool):∀(D:Nat) (t:TypeId),qvr P D t=true->∀(D':Nat),D<=D'->∀(K:Value),(uP P t=some true->∃ vs:List Value,K=.agg vs.toArray/\jA P t=some vs.length)->∀ w,(Instr.checkKey em D' t K).run P w=.ok () w:=by
 intro D
 induction D with
 |zero=>intro t h;simp[qvr]at h
 |succ D ih=>
  intro t h D' hD K hK w;obtain⟨E,rfl⟩:∃ E,D'=E+1:=⟨D'-1,by omega⟩;have pk:∀(u:TypeId) (m:Nat),jA P u=some m->0<m->qvr P D u=true->∀(vs:List Value) (off:Nat),off+m<=vs.length->∀ w,((do let p<-part u vs.toArray off;Instr.checkKey em E u p):Sem Unit).run P w=.ok () w:=by
   intro u m hu h0 hk vs off hle w;rw[Sem.run_bind];cases ha:uP P u with
   |none=>
    unfold uP at ha;cases hun:P.underlying u with
    |none=>cases D<;>simp[qvr,hun]at hk
    |some _=>rw[hun]at ha;cases ha
   |some b=>
    cases b with
    |true=>
     have:(part u vs.toArray off).run P w=.ok (.agg ((vs.drop off).take m).toArray) w:=by simp[part,qgn ha,qR hu]
     grind [Result.andThen_ok]
    |false=>
     have hlt:off<vs.length:=by omega
     have:(part u vs.toArray off).run P w=.ok vs[off] w:=by simp[part,qgn ha,hlt]
     grind [Result.andThen_ok]
  rw[qvr]at h;split at h
  ·rename_i ht _;unfold Instr.checkKey;simp[dX ht]
  ·rename_i ht _;unfold Instr.checkKey;simp[dX ht]
  ·rename_i ht _;unfold Instr.checkKey;simp[dX ht]
  ·rename_i fs N ht hN;obtain⟨vs,rfl,hvs⟩:=hK (by simp[uP,ht]);have hN':N=vs.length:=by grind
   unfold Instr.checkKey;simp only[Sem.run_bind,dX ht,Result.andThen_ok];have hall:=vk.1 h;have loop:∀(l:List Field),(∀f∈l,f∈fs.toList)->∀ w,(forIn l () fun f _=>(do
     if f.name ≠ "_" then(do let p<-part f.type vs.toArray f.offset;Instr.checkKey em E f.type p;pure (ForInStep.yield ()))else pure (ForInStep.yield ()):Sem (ForInStep Unit))).run P w= .ok () w:=by
    intro l
    induction l with
    |nil=>intro _ w;simp
    |cons f l ihl=>
     intro hl w;have hf:=hall f (hl f (by simp));rw[List.forIn_cons];split at hf
     ·rename_i m hm;simp only[qh]at hf;obtain⟨⟨f1,f2⟩,f3⟩:=hf;have r:=pk f.type m hm (yE f3) f2 vs f.offset (by have:=pK f1;omega)
      by_cases hn:f.name = "_"
      ·grind
      ·simp only[ne_eq,hn,not_false_eq_true,mg,bind_assoc,pure_bind];rw[<-bind_assoc,Sem.run_bind,r w,Result.andThen_ok]
       grind
     ·cases hf
   have:=loop fs.toList (fun f hf=>hf) w;simp at this ⊢
   erw [this]
   rfl
  ·rename_i len e N ht hN;obtain⟨vs,rfl,hvs⟩:=hK (by simp[uP,ht]);have hN':N=vs.length:=by grind
   split at h
   ·rename_i m hm;simp only[qh]at h;obtain⟨⟨f1,f2⟩,f3⟩:=h;have f1:=pK f1;unfold Instr.checkKey;simp only[Sem.run_bind,dX ht,Result.andThen_ok,Std.Legacy.Range.forIn_eq_forIn_range',Std.Legacy.Range.size,Nat.sub_zero,lAL,Nat.div_one];have loop:∀(k i:Nat),i+k<=len->∀ w,(forIn (List.range' i k) () fun i _=>(do
      let s<-sizeOf e;let p<-part e vs.toArray (i*s);Instr.checkKey em E e p;pure (ForInStep.yield ()):Sem (ForInStep Unit))).run P w=.ok () w:=by
     intro k
     induction k with
     |zero=>intro i _ w;simp
     |succ k ihk=>
      intro i hi w;have hle:i*m+m<=vs.length:=by
       have h1:(i+1)*m<=len*m:=xh m (by omega)
       grind
      have r:=pk e m hm (yE f3) f2 vs (i*m) hle;rw[List.range'_succ,List.forIn_cons];simp only[bind_assoc,pure_bind];rw[Sem.run_bind,qR hm,Result.andThen_ok,<-bind_assoc,Sem.run_bind,r w,Result.andThen_ok]
      grind
    have:=loop len 0 (by omega) w;simp at this ⊢
    erw [this]
    rfl
   ·cases h
  ·cases h
theorem dS.get:∀{es:List gD} {a:List MapEntry},dS ι es a->∀(i:Nat) (x:gD),es[i]? =some x->∃ e,a[i]? =some e/\aO ι x.key e.key/\aO ι x.val e.val/\e.born=x.born
 | [],a,h,i,x,hi=>by simp at hi
 |y::es,a,h,i,x,hi=>by
  obtain⟨e,r,rfl,b,c,d,f⟩:=h;cases i with
  |zero=>simp at hi;subst hi;exact⟨e,rfl,b,c,d⟩
  |succ i=>simp at hi;obtain⟨g,j,k⟩:=dS.get f i x hi;exact⟨g,by simpa using j,k⟩
def zbs(ι:Im)(es:List gD)(ES:List MapEntry):Option Hit->Option (Nat×Value)->Prop
 |none,R=>R=none
 |some h,R=>∃ V E,R=some (h.i,V)/\es[h.i]? =some h.x/\ES[h.i]? =some E/\aO ι h.x.key E.key/\aO ι h.x.val V/\E.val=V/\E.born=h.x.born
theorem qfx{e:AV->AV->Option Bool}{k:AV}:∀(es:List gD) (i:Nat) (r:Option Hit),yK e k es i=some r->∀ h,r=some h->i<=h.i/\es[h.i-i]? =some h.x
 | [],i,r,a,h,hh=>by have a:(some none:Option (Option Hit))=some r:=a;simp_all
 |x::es,i,r,a,h,hh=>by
  have a:(match e k x.key with|some true=>some (some ⟨i,x⟩)|some false=>yK e k es (i+1)|none=>none)=some r:=a;split at a
  ·grind
  ·obtain⟨b,c⟩:=qfx es (i+1) r a h hh
   grind
  ·cases a
theorem qsn{j:TypeDesc}{e:AV->AV->Option Bool}{k:AV}{K:Value}(f:∀ x X b,e k x=some b->aO ι x X->Instr.sameNow j K X=some b):∀(es:List gD) (c:List MapEntry) (i:Nat) (r:Option Hit),dS ι es c->yK e k es i=some r -> ∃R,Instr.findNow j K c i=some R/\(r=none->R=none)/\∀ h,r=some h->∃ E,c[h.i-i]? =some E/\R=some (h.i,E.val)
 | [],c,i,r,hE,a=>by have a:(some none:Option (Option Hit))=some r:=a;cases a;simp only[dS]at hE;subst hE;exact⟨none,rfl,fun _=>rfl,fun h d=>by cases d⟩
 |x::es,c,i,r,hE,a=>by
  obtain⟨E,m,rfl,l,s,t,n⟩:=hE;have a:(match e k x.key with|some true=>some (some ⟨i,x⟩)|some false=>yK e k es (i+1)|none=>none)=some r:=a;split at a
  ·rename_i g;simp only[qo]at a;subst a;refine⟨some (i,E.val),by simp[Instr.findNow,f _ _ _ g l],(fun h=>by cases h),fun h d=>?_⟩
   grind
  ·rename_i g;obtain⟨R,o,p,q⟩:=qsn f es m (i+1) r n a;refine⟨R,by simp[Instr.findNow,f _ _ _ g l,o],p,fun h d=>?_⟩;obtain⟨u,v,w⟩:=q h d;obtain⟨g1,_⟩:=qfx es (i+1) r a h d
   grind
  ·cases a
theorem qso{j:TypeId}{e:AV->AV->Option Bool}{k:AV}{K:Value}(f:∀ x X b,e k x=some b->aO ι x X->∀ w,(Op.equal j K X).run P w=.ok b w):∀(es:List gD) (c:List MapEntry) (i:Nat) (r:Option Hit),dS ι es c->yK e k es i=some r -> ∃R,(∀w,(Instr.findAsking j K c i).run P w=.ok R w)/\(r=none->R=none)/\∀ h,r=some h->∃ E,c[h.i-i]? =some E/\R=some (h.i,E.val)
 | [],c,i,r,hE,a=>by have a:(some none:Option (Option Hit))=some r:=a;cases a;simp only[dS]at hE;subst hE;exact⟨none,fun _=>rfl,fun _=>rfl,fun h d=>by cases d⟩
 |x::es,c,i,r,hE,a=>by
  obtain⟨E,m,rfl,l,s,t,n⟩:=hE;have a:(match e k x.key with|some true=>some (some ⟨i,x⟩)|some false=>yK e k es (i+1)|none=>none)=some r:=a;split at a
  ·rename_i g;simp only[qo]at a;subst a;refine⟨some (i,E.val),fun w=>by simp[Instr.findAsking,f _ _ _ g l],(fun h=>by cases h),fun h d=>?_⟩
   grind
  ·rename_i g;obtain⟨R,o,p,q⟩:=qso f es m (i+1) r n a;refine⟨R,fun w=>by simp[Instr.findAsking,f _ _ _ g l,o],p,fun h d=>?_⟩;obtain⟨u,v,y⟩:=q h d;obtain⟨g1,_⟩:=qfx es (i+1) r a h d
   grind
  ·cases a
theorem qj0{f:TypeId}{v:Ky}(c:yV P f=some v){k:AV}{K:Value}(o:aO ι k K){es:List gD}{g:List MapEntry}(G:dS ι es g){r:Option Hit}(h:qp2 v k es=some r):(∀t w,(Instr.checkKey t 10000 f K).run P w=.ok () w)/\∃ R,(∀w,(Instr.findKey f K g).run P w=.ok R w)/\zbs ι es g r R:=by
 unfold qp2 at h;cases F:qir v.s k with
 |false=>rw[F]at h;cases h
 |true=>
  rw[F]at h;simp only[uB]at h;have Q:=zx1 (P:=P) (ι:=ι) qdg f;have fin:∀ R:Option (Nat×Value),(r=none->R=none)->(∀h,r=some h->∃ E,g[h.i-0]? =some E/\R=some (h.i,E.val))->zbs ι es g r R:=by
   intro R J Y;cases r with
   |none=>exact J rfl
   |some hh=>obtain⟨E,z,Z⟩:=Y hh rfl;rw[Nat.sub_zero]at z;obtain⟨_,g2⟩:=qfx es 0 _ h hh rfl;rw[Nat.sub_zero]at g2;obtain⟨E',S,a2,a3,a4⟩:=G.get _ _ g2;rw[z]at S;cases S;exact⟨E.val,E,Z,g2,z,a2,a3,rfl,a4⟩
  unfold yV at c;have H:∀(e:AV->AV->Option Bool),eqT P qdg f=⟨e⟩->v.e=e->∀ x X b,v.e k x=some b->aO ι x X->∀ w,(Op.equal f K X).run P w=.ok b w:=by intro e d L x X b a i w;rw[L]at a;rw[d]at Q;exact Q k x K X b a o i Op.maxDepth (by decide) w
  split at c
  ·rename_i e N B d A T;simp only[qo]at c;subst c;obtain⟨l,rfl⟩:∃ l,k=.agg l:=by cases k<;>first|exact⟨_,rfl⟩|(simp[qir]at F;done)
   obtain⟨vs,v1,v2,v3⟩:=qee o;have W:l.length=N:=yM F;refine⟨fun t w=>qqg t qdg f B 10000 (by decide) K (fun _=>⟨vs,v2,by rw[T,v1.length,W]⟩) w,?_⟩;obtain⟨R,U,C,D⟩:=qso (H e d rfl) es g 0 r G h;refine⟨R,fun w=>?_,fin R C D⟩;have y:∃ j,P.underlying f=some j:=by
    unfold uP at A;cases M:P.underlying f with
    |none=>rw[M]at A;cases A
    |some j=>exact⟨j,rfl⟩
   obtain⟨j,y⟩:=y;unfold Instr.findKey;rw[Sem.run_bind,dX y,Result.andThen_ok];cases g with
   |nil=>
    have:R=none:=by
     cases r with
     |none=>exact C rfl
     |some hh=>obtain⟨E,z,_⟩:=D hh rfl;simp at z
    subst this;rfl
   |cons E rest=>
    have:Instr.findNow j K (E::rest) 0=none:=by grind [uP,Instr.findNow,Instr.sameNow]
    simp_all
  ·rename_i e N B d A T;simp only[qo]at c;subst c;have I:∀ t w,(Instr.checkKey t 10000 f K).run P w=.ok () w:=fun t w=>qqg t qdg f B 10000 (by decide) K (fun O=>by rw[A]at O;cases O) w;refine⟨I,?_⟩;have u:∀ j,P.underlying f=some j->(∀x X b,e k x=some b->aO ι x X->Instr.sameNow j K X=some b)->∃ R,(∀w,(Instr.findKey f K g).run P w=.ok R w)/\zbs ι es g r R:=by
    intro j y hs;obtain⟨R,U,C,D⟩:=qsn hs es g 0 r G h;refine⟨R,fun w=>?_,fin R C D⟩;unfold Instr.findKey;rw[Sem.run_bind,dX y,Result.andThen_ok,U];rfl
   have n:=B;unfold qdg at n d;rw[show(20:Nat)=19+1 from rfl,qvr]at n;rw[show(20:Nat)=19+1 from rfl,eqT]at d;split at n
   ·rename_i q _;rw[q]at d;simp only[E2.mk.injEq]at d;subst d;refine u _ q fun x X b a i=>?_;unfold qq1 at a;split at a
    ·rename_i kk m k' p;simp only[aO]at o i;subst o i;cases V:eqK kk k' with
     |false=>rw[V]at a;cases a
     |true=>
      rw[V]at a;simp only[uB,qo]at a;subst a
      grind [ztq,Instr.sameNow,qfd]
    ·cases a
   ·rename_i q _;rw[q]at d;simp only[E2.mk.injEq]at d;subst d;refine u _ q fun x X b a i=>?_;unfold bL at a;split at a
    ·simp only[aO]at o i;obtain⟨s,rfl,J⟩:=o
     grind [qo,Instr.sameNow,beq_toListBytes,qhd,J.eq]
    ·cases a
   ·rename_i q _;rw[q]at d;simp only[E2.mk.injEq]at d;subst d;refine u _ q fun x X b a i=>?_;unfold qh5 at a;split at a
    ·simp only[aO]at o i;subst o i;trivial
    ·cases a
   ·grind [uP]
   ·grind [uP]
   ·cases n
  ·cases c
theorem zsj{t p s:TypeId}{x y:Operand}{e:Bool}(F:o.op=.lookup t x y e)(G:P.underlying t=some (.map p s)){q:Ky}(u:yV P p=some q){z:Value}(Q:(P.info? s).bind (·.zero)=some z)(I:HR ι H w)(h:LR ι d n L a.tmps):iU P o a.eval ι w nm (nR q (qvd z) e H ((aM d n x).f L) ((aM d n y).f L)):=by
 have j:=fK h x;have S:=fK h y;have k:∀(es:List gD) (i:List MapEntry),dS ι es i->(∀f:Array MapEntry->Sem Value,(execOp a.eval o).run P w=((do
    Instr.checkKey i.toArray.isEmpty 10000 p (a.eval y)
    let (v,b)<-match<-Instr.findKey p (a.eval y) i with
     |some (_,v)=>pure (v,true)
     |none=>pure (<-zeroValue s,false)
    pure (if e then .tuple #[v,.bool b]else v):Sem Value).run P w).andThen fun v w=>.ok (.value v) w) ->
   iU P o a.eval ι w nm (q33 e (qvd z) (qp2 q ((aM d n y).f L) es)):=by
  intro es i T c;have c:=c fun _=>pure .nilFunc;cases hf:qp2 q ((aM d n y).f L) es with
  |none=>trivial
  |some r=>
   obtain⟨K,R,M,A⟩:=qj0 u S T hf;cases r with
   |none=>
    simp only[zbs]at A;subst A;refine⟨if e then .tuple #[z,.bool false]else z,?_,?_⟩
    ·rw[c];simp[K,M,qdf Q]
    ·cases e
     ·exact qgq z
     ·simp only[uB,mg,aO,aL]
      grind [qgq]
   |some hit=>
    obtain⟨V,E,rfl,a1,a2,a3,U,a5,a6⟩:=A;refine⟨if e then .tuple #[V,.bool true]else V,?_,?_⟩
    ·rw[c];simp[K,M]
    ·cases e
     ·exact U
     ·simp only[uB,mg,aO,aL]
      grind
 unfold nR zx2;split
 ·rename_i es g;split at g
  ·rename_i B;simp only[qo]at g;subst g;rw[B]at j;simp only[aO]at j;refine k [] [] (by simp[dS]) fun _=>?_;simp[execOp,F,Instr.lookup,dX G,j];rfl
  ·rename_i m B;rw[B]at j;simp only[aO]at j;obtain⟨l,N,W⟩:=j;have J:=I.blk m (I.lt N);split at g
   ·rename_i C D X;simp only[qo]at g;subst g;rw[X]at J;obtain⟨l',i,O,Y,Z⟩:=J;rw[N]at O;cases O;refine k C i Z fun _=>?_;simp[execOp,F,Instr.lookup,dX G,W,getObj,Sem.run,Y];rfl
   ·cases g
  ·cases g
 ·trivial
theorem aPn{s:BinOp}{t ty:TypeId}{x y:Operand}(B:o.op=.binOp s t x y ty)(neg:Bool)(c:s=if neg then .neq else .eql){e:AV->AV->Option Bool}(k:eqT P qdg t=⟨e⟩)(u:∀ r,P.underlying t=some r->match r with| .bool| .pointer _| .slice _| .map .. | .func .. | .interface _=>True| .struct _| .array .. =>P.eqGuardType P.depth t=false|_=>False)(v:∃ r,P.underlying t=some r)(h:LR ι d n L a.tmps):
  iU P o a.eval ι w nm (jT neg (e ((aM d n x).f L) ((aM d n y).f L))):=by
 have f:=fK h x;have i:=fK h y;unfold jT;split
 ·rename_i b j;have A:=zx1 (P:=P) (ι:=ι) qdg t;rw[k]at A;have m:=A _ _ _ _ _ j f i Op.maxDepth (by decide) w;refine⟨.bool (if neg then !b else b),?_,by simp only[aO];cases neg<;>rfl⟩;obtain⟨r,v⟩:=v;have u:=u r v;generalize E:a.eval x=X at *;generalize F:a.eval y=Y at *;have z:(∃g,(eqGuard s t x y X Y).run P w=.ok g w)/\(binOp s t X Y).run P w=.ok (.bool (if neg then !b else b)) w:=by
   unfold qdg at k;rw[show(20:Nat)=19+1 from rfl,eqT,v]at k;cases r<;>first|(exact u.elim)|skip
   case bool=>
    simp only[E2.mk.injEq]at k;subst k;unfold qh5 at j;split at j
    ·rename_i p q;rw[p]at f;rw[q]at i;simp only[aO]at f i;subst f i;cases neg<;>subst c<;>simp[eqGuard,binOp,Op.equal,m]
    ·cases j
   case pointer=>
    simp only[E2.mk.injEq]at k;subst k;unfold ql1 at j;split at j<;>first|(cases j;done)|skip
    all_goals (rename_i p q;rw[p]at f;rw[q]at i;simp only[aO]at f i)
    ·subst f i;cases neg<;>subst c<;>simp[eqGuard,binOp,Op.equal,m]
    ·obtain⟨l,_,rfl⟩:=i;subst f;cases neg<;>subst c<;>simp[eqGuard,binOp,Op.equal,m]
    ·obtain⟨l,_,rfl⟩:=f;subst i;cases neg<;>subst c<;>simp[eqGuard,binOp,Op.equal,m]
   case slice=>
    simp only[E2.mk.injEq]at k;subst k;unfold qH at j;split at j<;>first|(cases j;done)|skip
    all_goals (rename_i p q;rw[p]at f;rw[q]at i;simp only[aO]at f i)
    ·subst f i;cases neg<;>subst c<;>simp[eqGuard,binOp,Op.equal,m]
    ·obtain⟨_,l,_,rfl⟩:=i;subst f;cases neg<;>subst c<;>simp[eqGuard,binOp,Op.equal,m]
    ·obtain⟨_,l,rfl⟩:=i;subst f;cases neg<;>subst c<;>simp[eqGuard,binOp,Op.equal,m]
    ·obtain⟨_,l,_,rfl⟩:=f;subst i;cases neg<;>subst c<;>simp[eqGuard,binOp,Op.equal,m]
    ·obtain⟨_,l,rfl⟩:=f;subst i;cases neg<;>subst c<;>simp[eqGuard,binOp,Op.equal,m]
   case map=>
    simp only[E2.mk.injEq]at k;subst k;unfold ztp at j;split at j<;>first|(cases j;done)|skip
    all_goals (rename_i p q;rw[p]at f;rw[q]at i;simp only[aO]at f i)
    ·subst f i;cases neg<;>subst c<;>simp[eqGuard,binOp,Op.equal,m]
    ·obtain⟨l,_,rfl⟩:=i;subst f;cases neg<;>subst c<;>simp[eqGuard,binOp,Op.equal,m]
    ·obtain⟨l,_,rfl⟩:=f;subst i;cases neg<;>subst c<;>simp[eqGuard,binOp,Op.equal,m]
   case func=>
    simp only[E2.mk.injEq]at k;subst k;unfold eqFn at j;split at j<;>first|(cases j;done)|skip
    all_goals (rename_i p q;rw[p]at f;rw[q]at i;simp only[aO]at f i)
    ·subst f i;cases neg<;>subst c<;>simp[eqGuard,binOp,Op.equal,m]
    ·obtain⟨_,_,_,_,rfl⟩:=i;subst f;cases neg<;>subst c<;>simp[eqGuard,binOp,Op.equal,m]
    ·obtain⟨_,_,_,_,rfl⟩:=f;subst i;cases neg<;>subst c<;>simp[eqGuard,binOp,Op.equal,m]
   case interface=>
    simp only[E2.mk.injEq]at k;subst k;unfold aFz at j;split at j<;>first|(cases j;done)|skip
    all_goals (rename_i p q;rw[p]at f;rw[q]at i;simp only[aO]at f i)
    ·obtain⟨_,_,rfl⟩:=i;subst f;cases neg<;>subst c<;>simp[eqGuard,binOp,Op.equal,m]
    ·obtain⟨_,_,rfl⟩:=f;subst i;cases neg<;>subst c<;>simp[eqGuard,binOp,Op.equal,m]
   case array len e=>
    simp only at k;split at k
    ·simp only[E2.mk.injEq]at k;subst k;unfold dQ at j;split at j
     ·rename_i p q;rw[p]at f;rw[q]at i;obtain⟨_,_,rfl,_⟩:=qee f;obtain⟨_,_,rfl,_⟩:=qee i;refine⟨⟨(),run_eqGuard_agg w s t x y _ _ u⟩,?_⟩;cases neg<;>subst c
      ·rw[pg (by simp),run_eql_struct,show(10000:Nat)=Op.maxDepth from rfl,m];rfl
      ·rw[qj rfl,run_neq_struct,show(10000:Nat)=Op.maxDepth from rfl,m];rfl
     ·cases j
    ·grind
   case struct fs=>
    simp only at k;split at k
    ·grind
    ·simp only[E2.mk.injEq]at k;subst k;unfold dQ at j;split at j
     ·rename_i p q;rw[p]at f;rw[q]at i;obtain⟨_,_,rfl,_⟩:=qee f;obtain⟨_,_,rfl,_⟩:=qee i;refine⟨⟨(),run_eqGuard_agg w s t x y _ _ u⟩,?_⟩;cases neg<;>subst c
      ·rw[pg (by simp),run_eql_struct,show(10000:Nat)=Op.maxDepth from rfl,m];rfl
      ·rw[qj rfl,run_neq_struct,show(10000:Nat)=Op.maxDepth from rfl,m];rfl
     ·cases j
  obtain⟨⟨g,C⟩,D⟩:=z;simp[execOp,B,E,F,C,D]
 ·trivial
theorem qzl(a:Nat):∀(n i:Nat),Nat.rec (motive:=fun _=>Nat->List AV) (fun _=>[]) (fun _ ih i=>.int .u8 (.ofNat (qeq a i))::ih (Nat.succ i)) n i=(List.range' i n).map fun j=>.int .u8 (.ofNat (qeq a j))
 |0,i=>rfl
 |n+1,i=>by rw[List.range'_succ,ou,<-qzl a n (i+1)]
theorem zbi{m a:Nat}{s:ByteArray}(h:qef m a s):aL ι (zmt a m) (s.data.toList.map fun b=>Value.int .u8 (b.toNat:Int)):=by
 obtain⟨rfl,rfl⟩:=h;unfold zmt;rw[qzl,<-List.range_eq_range'];refine aL.aBF (by simp) fun i v c=>?_;have d:i<s.data.toList.length:=by grind
 rw[xy,List.getElem?_range d]at c;simp only[lEH,qo]at c;subst c;refine⟨_,by rw[xy,lq d];rfl,?_⟩;rw[qzm _ _ d];rfl
theorem z4s{i:BinOp}{t ty:TypeId}{x y:Operand}(j:o.op=.binOp i t x y ty)(h:LR ι d n L a.tmps):iU P o a.eval ι w nm ((aH3 P i t).f ((aM d n x).f L) ((aM d n y).f L)):=by
 have l:∀ c,P.underlying t=some c->(match c with| .bool| .pointer _| .slice _| .map .. | .func .. | .interface _=>True| .struct _| .array .. =>P.eqGuardType P.depth t=false|_=>False) ->
   iU P o a.eval ι w nm ((match i,eqT P qdg t with
    | .eql,⟨e⟩=>(⟨fun x y=>jT false (e x y)⟩:V2)
    | .neq,⟨e⟩=>⟨fun x y=>jT true (e x y)⟩
    |_,_=>⟨fun _ _=>.bad⟩).f ((aM d n x).f L) ((aM d n y).f L)):=by
  intro c g p;have f:∀ b,P.underlying t=some b->match b with| .bool| .pointer _| .slice _| .map .. | .func .. | .interface _=>True| .struct _| .array .. =>P.eqGuardType P.depth t=false|_=>False:=fun b m=>by grind
  split
  ·rename_i e k;exact aPn j false rfl k f ⟨c,g⟩ h
  ·rename_i e k;exact aPn j true rfl k f ⟨c,g⟩ h
  ·trivial
 unfold aH3;split
 ·split
  ·grind [zjw]
  ·grind [zjw]
  ·grind [aLH]
 ·exact zsh j h
 ·grind
 ·grind
 ·grind
 ·grind
 ·grind
 ·grind
 ·rename_i g;split
  ·trivial
  ·grind
 ·rename_i g;split
  ·trivial
  ·grind
 ·trivial
theorem z8r{args:List Operand}{ts:List TypeId}(c:o.op=.call {callee:=.builtin .len,args:=args.toArray,argTypes:=ts.toArray}){lk:Bool}{f:Nat->TT AV d->Hp->R0}(b:aBv P d n args ts=.q lk f)(e:HR ι H w)(h:LR ι d n L a.tmps):iU P o a.eval ι w nm (f nm L H):=by
 unfold aBv at b;split at b
 ·rename_i x t;split at b
  ·grind [qr6]
  ·rename_i g;split at b
   ·grind [qr6]
   ·cases b
  ·grind [zsk]
  ·grind [z2s]
  ·grind [z7m]
  ·cases b
 ·cases b
theorem z9r{args:List Operand}{ts:List TypeId}(c:o.op=.call {callee:=.builtin .cap,args:=args.toArray,argTypes:=ts.toArray}){lk:Bool}{f:Nat->TT AV d->Hp->R0}(b:aBa P d n args ts=.q lk f)(h:LR ι d n L a.tmps):iU P o a.eval ι w nm (f nm L H):=by
 unfold aBa at b;split at b
 ·rename_i x t;split at b
  ·grind [zaj]
  ·grind [z2w]
  ·cases b
 ·cases b
theorem z8c{args:List Operand}{ts:Array TypeId}(c:o.op=.call {callee:=.builtin .min,args:=args.toArray,argTypes:=ts}){lk:Bool}{f:Nat->TT AV d->Hp->R0}(b:aBk d n args=.q lk f)(h:LR ι d n L a.tmps):iU P o a.eval ι w nm (f nm L H):=by
 unfold aBk at b;split at b
 ·grind [aNi]
 ·cases b
theorem z8e{args:List Operand}{ts:Array TypeId}(c:o.op=.call {callee:=.builtin .max,args:=args.toArray,argTypes:=ts}){lk:Bool}{f:Nat->TT AV d->Hp->R0}(b:aAN d n args=.q lk f)(h:LR ι d n L a.tmps):iU P o a.eval ι w nm (f nm L H):=by
 unfold aAN at b;split at b
 ·grind [aOp]
 ·cases b
theorem z9x{args:List Operand}{ts:List TypeId}{lk:Bool}{f:Nat->TT AV d->Hp->R0}(a:aBn P d n args ts=.q lk f):False:=by
 unfold aBn at a;split at a
 ·split at a
  ·split at a<;>cases a
  ·cases a
 ·cases a
theorem z9o{args:List Operand}{ts:List TypeId}{lk:Bool}{f:Nat->TT AV d->Hp->R0}(a:aAV P d n args ts=.q lk f):False:=by
 unfold aAV at a;split at a
 ·split at a
  ·split at a<;>cases a
  ·cases a
 ·cases a
theorem zbj{b:Builtin}{args:Array Operand}{ts:Array TypeId}(e:o.op=.call {callee:=.builtin b,args,argTypes:=ts}){lk:Bool}{f:Nat->TT AV d->Hp->R0}(c:qhw P d n b args.toList ts.toList=.q lk f)(g:HR ι H w)(h:LR ι d n L a.tmps):iU P o a.eval ι w nm (f nm L H):=by
 unfold qhw at c;split at c
 ·exact z8r (by simpa using e) c g h
 ·exact z9r (by simpa using e) c h
 ·exact z8c (ts:=ts) (by simpa using e) c h
 ·exact z8e (ts:=ts) (by simpa using e) c h
 ·grind [z9x]
 ·grind [z9o]
 ·cases c
theorem qiu:∀ x y:List UInt8,Lib.compareBytes x y=bif Op.bytesLess x y then -1 else bif decide (x=y)then 0 else 1
 | [],[]=>by simp[Lib.compareBytes,Op.bytesLess]
 | [],_::_=>by simp[Lib.compareBytes,Op.bytesLess]
 |_::_,[]=>by simp[Lib.compareBytes,Op.bytesLess]
 |a::x,b::y=>by
  have ih:=qiu x y
  grind [Lib.compareBytes,Op.bytesLess,grind]
theorem zk6{f:FuncId}(h:ztf P f=true)(s t:ByteArray)(w:World):(callFunc f #[.string s,.string t]).run P w=.ok (.value (.int .i64 (Lib.compareBytes s.data.toList t.data.toList))) w:=by
 unfold ztf at h;split at h
 ·rename_i fn hfn;simp only[qh,beq_iff_eq,Option.isNone_iff_eq_none]at h;obtain⟨⟨h1,h2⟩,h3⟩:=h;have hnx:Extern.findNext fn=none:=by
   unfold Extern.findNext;rw[h2,h3];have e1:Extern.allNextRows.lookup qqf=none:=by decide +kernel
   have e2:Extern.allNextRows.lookup "" =none:=by decide +kernel
   grind
  have hfd:Extern.find fn=some Extern.BytealgCompare.compare:=by
   unfold Extern.find;rw[h2];have e1:(Extern.allGenericRows.lookup qqf)=none:=by decide +kernel
   have e2:(Extern.allTypedRows.lookup qqf)=none:=by decide +kernel
   have e3:Extern.allRows.lookup qqf=some Extern.BytealgCompare.compare:=by kernel_rfl
   grind
  have hname:¬ fn.name = "runtime.NumGoroutine" :=by rw[h2];decide +kernel
  have hr:=Lib.run_compareString (P:=P) s t w;simp[callFunc,hfn,hname,h1,hnx,hfd,hr,mark,Sem.run]
 ·cases h
theorem aPH{f:FuncId}{args:Array Operand}{ts:Array TypeId}(k:o.op=.call {callee:=.value (.func f),args,argTypes:=ts})(l:ztf P f=true)(h:LR ι d n L a.tmps):iU P o a.eval ι w nm (aJh ((vV d n args.toList).f L)):=by
 have g:=qc8 h args.toList;unfold aJh;split
 ·rename_i q r u v e;rw[e]at g;obtain⟨y,z,A,⟨s,rfl,i⟩,B,C,rfl,⟨t,rfl,j⟩,rfl⟩:=g;refine⟨.int .i64 (Lib.compareBytes s.data.toList t.data.toList),?_,?_⟩
  ·have b:args.map a.eval= #[.string s,.string t]:=by
    grind
   have x:=zk6 l s t w;have c:a.eval (.func f)=.func (.func f) #[] #[]:=rfl;simp only[execOp,k,resolve,c,Deferred.ofValue,b];trivial
  ·have m:=qef.less i j;have p:eqS q r u v=decide (s.data.toList=t.data.toList):=by
    rw[qef.eq i j,lAZ];simp
   rw[m,p,qiu];rfl
 ·trivial
theorem z3b{lk:Bool}{f:Nat->TT AV d->Hp->R0}(b:lJ P d n o=.q lk f)(r:HR ι H w)(h:LR ι d n L a.tmps):iU P o a.eval ι w nm (f nm L H):=by
 unfold lJ at b;split at b
 ·rename_i x c;cases b;exact zxr (.inl c) h
 ·rename_i x c;cases b;exact zxr (.inr c) h
 ·rename_i c;cases b;exact z7l c h
 ·rename_i c;unfold q7p at b;split at b
  ·grind [z2x]
  ·cases b
 ·rename_i c;unfold aFt at b;split at b
  ·rename_i k g i j l;cases b;have:=z7q (P:=P) (w:=w) (nm:=nm) c k h;rw[l]at this;exact this
  ·rename_i i j l;cases b;have:=z7r (P:=P) (w:=w) (nm:=nm) c h;rw[l]at this;exact this
  ·cases b
 ·rename_i c;unfold q7o at b;split at b
  ·rename_i i j;split at b
   ·rename_i l;split at b
    ·rename_i m;cases b;exact zsm c i j l m h
    ·cases b
   ·cases b
  ·rename_i i j;split at b
   ·rename_i l;split at b
    ·rename_i m;cases b;exact zsn c i j l m h
    ·cases b
   ·cases b
  ·cases b
 ·rename_i c;unfold qfo at b;split at b
  ·rename_i i;split at b
   ·rename_i s z j l;cases p:(Nat.ble (_*s) 65536&&Nat.beq z.length s)with
    |false=>rw[p]at b;cases b
    |true=>
     rw[p]at b;simp only[uB]at b;simp only[qh]at p;split at b
     ·rename_i m;cases b;exact qx8 c i l j (yM p.2) (pK p.1) m h
     ·cases b
   ·cases b
  ·cases b
 ·rename_i c;unfold zr7 at b;split at b
  ·rename_i i j l;cases b;have:=z2q (P:=P) (nm:=nm) c i j r h;rw[l]at this;exact this
  ·rename_i i j l;cases b;have:=z2r (P:=P) (nm:=nm) c i r h;rw[l]at this;exact this
  ·cases b
 ·unfold q7h at b;split at b<;>cases b
 ·rename_i c;cases b;exact zah c h
 ·rename_i c;cases b;exact z4s c h
 ·rename_i c;cases b;exact aWz c h
 ·rename_i c;unfold qnd at b;split at b
  ·rename_i i j l;cases b;have:=z2v (P:=P) (w:=w) (nm:=nm) c i j h;rw[l]at this;exact this
  ·rename_i i j l;cases b;have:=z2u (P:=P) (w:=w) (nm:=nm) c i j h;rw[l]at this;exact this
  ·cases b
 ·rename_i c;unfold qdi at b;split at b
  ·cases b
  ·rename_i u i j;cases b;have:=qo8 (P:=P) (w:=w) (nm:=nm) c i (fun ms e=>u ms (by rw[e])) h;rw[j]at this;exact this
  ·cases b
 ·rename_i c;cases b;exact zai c h
 ·rename_i c;cases b;exact zjx c
 ·rename_i c;unfold qhh at b;split at b
  ·rename_i i j l;split at b
   ·rename_i z w' s m q t;cases p:Nat.beq z.length s with
    |false=>rw[p]at b;cases b
    |true=>rw[p]at b;cases b;have:=zsi (P:=P) (w:=w) (nm:=nm) c i m q t (yM p) h;rw[j,l]at this;exact this
   ·cases b
  ·cases b
 ·rename_i c;unfold q7i at b;split at b
  ·rename_i i j l m;split at b
   ·cases b;have:=zaf (P:=P) (w:=w) (nm:=nm) c i h;rw[j,l,m]at this;exact this
   ·cases b
  ·rename_i i j l m q;split at b
   ·rename_i t;cases b;have:=zjv (P:=P) (w:=w) (nm:=nm) c i t h;rw[j,l,m,q]at this;exact this
   ·cases b
  ·cases b
 ·rename_i c;unfold qhj at b;split at b
  ·rename_i i j;split at b
   ·rename_i l;split at b
    ·rename_i m;cases b;have:=q3q (P:=P) (w:=w) (nm:=nm) c i l m h;rw[j]at this;exact this
    ·cases b
   ·cases b
  ·cases b
 ·rename_i c;unfold q7l at b;split at b
  ·rename_i i j;split at b
   ·rename_i l;cases b;have:=z2t (P:=P) (w:=w) (nm:=nm) c i l h;rw[j]at this;exact this
   ·cases b
  ·cases b
 ·rename_i c;unfold qhi at b;split at b
  ·rename_i i j l;split at b
   ·rename_i m;cases b;have:=z7o (P:=P) (w:=w) (nm:=nm) c i m h;rw[j,l]at this;exact this
   ·cases b
  ·rename_i i j l;split at b
   ·rename_i m;cases b;have:=z7p (P:=P) (w:=w) (nm:=nm) c i m h;rw[j,l]at this;exact this
   ·cases b
  ·cases b
 ·rename_i c;unfold q7k at b;split at b
  ·rename_i i j l;cases b;have:=zsl (P:=P) (w:=w) (nm:=nm) c i h;rw[j,l]at this;exact this
  ·rename_i i j l;split at b
   ·rename_i m;cases b;have:=z7n (P:=P) (w:=w) (nm:=nm) c i m h;rw[j,l]at this;exact this
   ·cases b
  ·cases b
 ·rename_i c;unfold qux at b;split at b
  ·rename_i i j l;split at b
   ·rename_i m q;cases b;have:=zsj (P:=P) (nm:=nm) c i m q r h;rw[j,l]at this;exact this
   ·cases b
  ·cases b
 ·unfold qd1 at b;split at b<;>first|(cases b;done)|(split at b<;>cases b)
 ·unfold qd1 at b;split at b<;>first|(cases b;done)|(split at b<;>cases b)
 ·unfold qjm at b;split at b<;>first|(cases b;done)|(split at b<;>cases b)
 ·cases b
 ·rename_i c;cases b;exact zjy c h
 ·grind [zbj]
 ·rename_i c;unfold q7n at b;split at b
  ·rename_i g i j;cases b;have:=aPH (P:=P) (w:=w) (nm:=nm) c j h;rw[i]at this;exact this
  ·cases b
 ·cases b
 ·cases b
end Go.Ev
end
section
namespace Go.Ev
open Go.RowKit
variable {P:Program} {w:World} {ι:Im} {o:Oper} {a:Act} {d n:Nat} {L:TT AV d} {H:Hp}
def VOk(P:Program)(o:Oper)(ρ:Operand->Value)(ι:Im)(H:Hp)(w:World):R1->Prop
 | .bad=>True
 | .ok v H'=>∃ N V w' ι',(execOp ρ o).run P w=.ok N w'/\(N=.value V\/(N=.skip/\V=Go.undef))/\aO ι' v V/\HR ι' H' w'/\Fr ι ι' H H' w w'
theorem qe4(P:Program){b i:Nat}{l:List AV}{vs:List Value}{loc:Loc}(k:HR ι H w)(g:ι b=some loc)(p:aL ι l vs)(y:∀ v∈vs,v.oneCell=true){v u:AV}{m:Hp}(h:storeAt H b i l v=.ok u m):u=v/\∃ w',(storeCells ⟨loc.blk,loc.base+i,none⟩ vs).run P w=.ok () w'/\HR ι m w'/\Fr ι ι H m w w':=by
 have f:=k.lt g;have q:=k.blk b f;unfold storeAt at h;split at h
 ·rename_i A a;obtain⟨rfl,rfl⟩:=h;refine⟨rfl,?_⟩;unfold qig at a;split at a
  ·rename_i I B c J s;cases e:Nat.ble (i+l.length) B with
   |false=>rw[e]at a;cases a
   |true=>
    rw[e]at a;simp only[uB,qo]at a;subst a;have e:=pK e;rw[s]at q;obtain⟨K,t,C,x,L⟩:=q;rw[g]at t;cases t;have r:=p.length;obtain⟨w',D,d⟩:=qh2 P loc.blk vs w (loc.base+i) 0 (fun j n=>by
     obtain⟨V,E,F,G,c4⟩:=x (i+j) (by omega);refine⟨V,?_,?_⟩
     ·grind
     ·rw[show loc.base+i+0+j=loc.base+(i+j)by omega];exact c4 rfl) y
    rw[zt]at d;refine⟨w',D,k.put f (by rw[s];rfl) g _ d.os d.tape d.output d.size d.keep ?_⟩;refine⟨loc,g,C,fun j n=>?_,fun _ j n=>?_⟩
    ·rw[qif _ _ _ _ (by omega) (by omega),d.cell,d.frozen];obtain⟨V,E,F,G,c4⟩:=x j n;by_cases o:i<=j/\j<i+l.length
     ·rw[qj o,qj (by omega)];have z:l[j-i]? =some (l.getD (j-i) .undef):=by grind
      grind [p.get,grind]
     ·grind
    ·rw[d.cell,d.frozen,pg (by omega)];simp_all
  ·cases a
 ·cases h
theorem ztu{t:TypeId}{x y:Operand}(f:o.op=.store t x y)(g:jA P t=some 1)(j:HR ι H w)(h:LR ι d n L a.tmps):VOk P o a.eval ι H w (j5 H ((aM d n x).f L) ((aM d n y).f L)):=by
 have c:=fK h x;have e:=fK h y;unfold j5;split<;>first|trivial|skip
 rename_i b i l m p D q;rw[l]at c;simp only[aO]at c;obtain⟨loc,r,s⟩:=c;have k:((aM d n y).f L).plain=true:=by grind [AV.plain]
 obtain⟨E,v⟩:=e.one k;cases C:storeAt H b i [(aM d n y).f L] .undef with
 |bad=>trivial
 |ok u H'=>obtain⟨rfl,w',z,A,B⟩:=qe4 P j r (aL.singleton e) (by grind) C;refine⟨.skip,Go.undef,w',ι,?_,.inr ⟨rfl,rfl⟩,by simp[aO,Go.undef],A,B⟩;simp[execOp,f,Instr.storeAt,s,Instr.sureAddr,storeVar,v,qR g,z]
theorem ztt{t:TypeId}{x y:Operand}(j:o.op=.store t x y){k:Nat}(m:jA P t=some k)(p:HR ι H w)(h:LR ι d n L a.tmps):VOk P o a.eval ι H w (xA k H ((aM d n x).f L) ((aM d n y).f L)):=by
 have c:=fK h x;have f:=fK h y;unfold xA;split
 ·rename_i b i l r s;rw[r]at c;simp only[aO]at c;obtain⟨loc,v,z⟩:=c;rw[s]at f;obtain⟨vs,g,A,B⟩:=qee f;cases e:Nat.beq l.length k with
  |false=>trivial
  |true=>
   have e:=yM e;cases F:storeAt H b i l .undef with
   |bad=>trivial
   |ok u H'=>
    obtain⟨rfl,w',C,D,E⟩:=qe4 P p v g B F;refine⟨.skip,Go.undef,w',ι,?_,.inr ⟨rfl,rfl⟩,by simp[aO,Go.undef],D,E⟩;have q:vs.length=k:=by rw[g.length,e]
    simp[execOp,j,Instr.storeAt,z,Instr.sureAddr,storeVar,A,Value.cells,qR m,q,C]
 ·trivial
theorem qy9(need:Nat):∀(r c X:Nat),c<=X->need+(need+768) / 4<=X->Builtin.growBy need r c<=X
 |0,c,X,h,_=>h
 |r+1,c,X,h,k=>by
  unfold Builtin.growBy;split
  ·exact h
  ·exact qy9 need r _ X (by omega) k
theorem qsd{need old:Nat}(h:old<need):Builtin.nextslicecap need old<=3*need:=by
 unfold Builtin.nextslicecap;split
 ·omega
 ·split
  ·omega
  ·exact qy9 need 4 old _ (by omega) (by omega)
theorem q7b{z:Nat}{x:AV}{X:Value}(e:aO ι x X)(q:HR ι H w){s:Src}(h:zrz z H x=some s)(n:(∃m b,x=.str m b)->z=1):∃vs:List Value,aL ι s.l vs/\(∀v∈vs,v.oneCell=true)/\vs.length=s.n*z/\(Builtin.lenOf X).run P w=.ok s.n w /\ ∀k,k<=s.n->(Builtin.firstCells z k X).run P w=.ok (vs.take (k*z)).toArray w:=by
 unfold zrz at h;split at h
 ·simp only[qo]at h;subst h;simp only[aO]at e;subst e;exact⟨[],by simp[aL],by simp,by simp,by simp[Builtin.lenOf],fun k _=>by simp[Builtin.firstCells]⟩
 ·simp only[qo]at h;subst h;simp only[aO]at e;obtain⟨G,c,rfl⟩:=e;refine⟨[],by simp[aL],by simp,by simp,by simp[Builtin.lenOf],fun k o=>?_⟩;have:k=0:=by grind
  subst this;simp[Builtin.firstCells,loadCells,loadCellsFrom]
 ·rename_i b i m a r;obtain⟨_,loc,B,rfl⟩:=e;split at h
  ·rename_i cs p;simp only[qo]at h;subst h;obtain⟨I,g⟩:=qgm (q.blk b (q.lt B)) p;have fin:∀ vs:List Value,vs.length=m*z->aL ι cs vs->(∀v∈vs,v.oneCell=true)->(∀(j:Nat) (v:Value),vs[j]? =some v->w.cell? ⟨loc.blk,loc.base+i+j,none⟩=some v) ->
     ∃vs:List Value,aL ι cs vs/\(∀v∈vs,v.oneCell=true)/\vs.length=m*z/\(Builtin.lenOf (.slice (some ⟨loc.blk,loc.base+i,none⟩) m (if r then a else a+loc.ext))).run P w=.ok m w /\
      ∀k,k<=m->(Builtin.firstCells z k (.slice (some ⟨loc.blk,loc.base+i,none⟩) m (if r then a else a+loc.ext))).run P w=.ok (vs.take (k*z)).toArray w:=by
    intro vs C D E F;refine⟨vs,D,E,C,by simp[Builtin.lenOf],fun k o=>?_⟩;have y:k*z<=m*z:=xh z o;have f:(vs.take (k*z)).length=k*z:=by grind
    have:=run_loadCells P w loc.blk (loc.base+i) (vs.take (k*z)) (fun j v d=>F j v (by
     rw[lA9]at d;split at d
     ·exact d
     ·cases d))
    rw[f]at this;trivial
   rcases g with g|⟨J,vs,g1,g2,g3,g4,g5⟩
   ·have g:m*z=0:=g;have:cs=[]:=tu.1 (by grind);subst this;exact fin [] (by simp[g]) (by simp[aL]) (by simp) (by simp)
   ·grind
  ·cases h
 ·rename_i m t;simp only[qo]at h;subst h;have A:z=1:=n ⟨_,_,rfl⟩;subst A;obtain⟨s,rfl,u⟩:=e;have l:s.size=m:=u.1;refine⟨_,zbi u,fun v d=>?_,?_,by simp[Builtin.lenOf,l],fun k o=>?_⟩
  ·simp at d;obtain⟨_,_,rfl⟩:=d;rfl
  ·simp;exact l
  ·simp only[Builtin.firstCells,Sem.run_pure];congr 1;apply Array.ext';simp
 ·cases h
theorem qvw{e:TypeId}{p:Ap}(b:apS P e=some p)(E:HR ι H w){old:List AV}{jZ:List Value}(F:aL ι old jZ)(J:∀ v∈jZ,v.oneCell=true){x:Src}{d:List Value}(G:aL ι x.l d)(q:∀ v∈d,v.oneCell=true){need:Nat}(R:jZ.length+d.length=need*p.z){v:AV}{r:Hp}(h:grow p.z H old x need=.ok v r)(a:Nat)(S:need<=a){f:Value}(s:(P.info? e).bind (·.zero)=some f)(w1:World)(t:w1=w.drew):∃A,aO A v (.slice (some ⟨w.heap.size,0,none⟩) need a)/\HR A r (w1.alloc (.cells (jZ.toArray++d.toArray++Builtin.zeroCells f.cells (a-need)) e)) /\ Fr ι A H r w (w1.alloc (.cells (jZ.toArray++d.toArray++Builtin.zeroCells f.cells (a-need)) e)):=by
 subst t;unfold grow at h
 ·
  obtain⟨rfl,rfl⟩:=h;have B:eT (H.nx):=p8;unfold apS at b;split at b
  ·rename_i z T L U V M;cases o:Nat.beq L.length z with
   |false=>rw[o]at b;cases b
   |true=>
    rw[o]at b;simp only[uB,qo]at b;subst b;have o:=yM o;obtain⟨N,I,O,Q⟩:=qcz (ι:=ι) M;rw[s]at I;cases I;have l:f.cells.size=z:=by grind [O.length]
    have C:Builtin.zeroCells f.cells (a-need)=(gZ f.cells.toList (a-need)).toArray:=by
     have:=range_zero f.cells (a-need) z l
     grind [Builtin.zeroCells]
    rw[C]
    let loc:Loc:=⟨w.heap.size,0,a-need,z⟩
    let W:World:=w.drew.alloc (.cells (jZ.toArray++d.toArray++(gZ f.cells.toList (a-need)).toArray) e)
    have g:∀ i,W.cell? ⟨w.heap.size,i,none⟩=(jZ++d++gZ f.cells.toList (a-need))[i]? :=fun i=>by show(w.drew.alloc _).cell? ⟨w.drew.heap.size,i,none⟩=_;rw[World.cell?_alloc_new];simp
    have m:∀ i,W.frozen? ⟨w.heap.size,i,none⟩=false:=fun i=>by show(w.drew.alloc _).frozen? ⟨w.drew.heap.size,i,none⟩=_;rw[World.frozen?_alloc_new]
    have n:=E.push (w':=W) B loc (aB z (old++x.l)) rfl rfl rfl (by show w.heap.size<(w.drew.alloc _).heap.size;simp) (fun c u=>Below.heap_alloc w.drew _ c u) rfl
     (qvj (vs:=jZ++d) (loc:=loc) (Im.dA _ _ _) (aL.mono (Im.jI loc (E.fresh _ (lu _))) _ _ (F.append G)) (fun v k=>by
      rcases qi.1 k with k|k
      ·grind
      ·exact q v k) (fun i v k=>by
      rw[qg];refine⟨?_,m i⟩;rw[g];have K:i<(jZ++d).length:=by grind
      rw[uj K];exact k) (fun j y=>by
      have y:j<(a-need)*z:=y;rw[qg,g];have D:(jZ++d).length=(old++x.l).length:=by grind [lL,F.length,G.length]
      rw[uh (by omega),D,yx];have:j<(gZ f.cells.toList (a-need)).length:=by rw[qce];simpa [l] using y
      exact⟨_,lq this,m _,Q _ (qhk (lg this))⟩))
    refine⟨ι.set H.nx loc,?_,n.1,n.2⟩;refine⟨lu _,loc,Im.dA _ _ _,?_⟩
    grind
  ·cases b
theorem qfp{t u e ty:TypeId}(i:P.underlying t=some (.slice e)){f:TypeDesc}(j:P.underlying u=some f)(b:f=.string\/∃ h,f=.slice h){z:Nat}(k:jA P e=some z)(base:Option Addr)(len C:Nat)(X:Value){m:Nat}{vs:List Value}(l:(Builtin.lenOf X).run P w=.ok m w)(n:(Builtin.firstCells z m X).run P w=.ok vs.toArray w)(c:len+m<=C){w':World}(a:∀ d,base=some d->(storeCells (d.add (len*z)) vs).run P w=.ok () w')(g:base=none->w'=w):(Builtin.append_ #[t,u] ty #[.slice base len C,X]).run P w=.ok (.slice base (len+m) C) w':=by
 cases base with
 |none=>
  rw[g rfl];rcases b with rfl|⟨h,rfl⟩
  all_goals simp[Builtin.append_,dX i,dX j,qR k,l,n,c]
 |some d=>
  have a:=a d rfl;rcases b with rfl|⟨h,rfl⟩
  all_goals simp[Builtin.append_,dX i,dX j,qR k,l,n,c,a]
set_option maxHeartbeats 1000000 in
theorem qh3{t u e ty:TypeId}(r:P.underlying t=some (.slice e)){d:TypeDesc}(s:P.underlying u=some d)(f:d=.string\/∃ q,d=.slice q){z b:Nat}(v:jA P e=some z)(x:qj4 P e=some b){o:Value}(g:(P.info? e).bind (·.zero)=some o)(base:Option Addr)(len C:Nat)(X:Value){m:Nat}{vs jZ:List Value}(y:(Builtin.lenOf X).run P w=.ok m w)(A:(Builtin.firstCells z m X).run P w.drew=.ok vs.toArray w.drew)(h:(Builtin.firstCells z len (.slice base len C)).run P w.drew=.ok jZ.toArray w.drew)(i:¬ len+m<=C)(p:(len+m)*b<=1099511627776)(j:len+m<=1099511627776):∃a,len+m<=a/\(Builtin.append_ #[t,u] ty #[.slice base len C,X]).run P w=.ok (.slice (some ⟨w.heap.size,0,none⟩) (len+m) a) (w.drew.alloc (.cells (jZ.toArray++vs.toArray++Builtin.zeroCells o.cells (a-(len+m))) e)):=by
 obtain⟨ti,l,n⟩:=qu7 (P:=P) x;have k:=qsd (need:=len+m) (old:=C) (by omega);have B:¬(2 ^ 48<Builtin.nextslicecap (len+m) C*ti.bytes):=by have D:Builtin.nextslicecap (len+m) C*ti.bytes<=3*(len+m)*ti.bytes:=xh _ k;rw[n]at D ⊢;have:3*(len+m)*b=3*((len+m)*b):=Nat.mul_assoc _ _ _;omega
 refine⟨(Question.appendCap (len+m) C e).cut (w.tape w.drawn (.appendCap (len+m) C e)),by simp only[Question.cut];omega,?_⟩;generalize c:(Question.appendCap (len+m) C e).cut (w.tape w.drawn (.appendCap (len+m) C e))=cap;rcases f with rfl|⟨q,rfl⟩
 all_goals
  simp[Builtin.append_,dX r,dX s,qR v,y,i,l,B,Question.forced,c,h,A,qdf g,newRow];rw[pg (by omega),<-Array.append_assoc];simp
theorem qqj{e:TypeId}{a:Ap}(h:apS P e=some a):jA P e=some a.z/\qj4 P e=some a.w/\qj8 P e=some a.zl/\a.zl.length=a.z/\∃ b,(P.info? e).bind (·.zero)=some b:=by
 unfold apS at h;split at h
 ·rename_i z g d i j f;cases c:Nat.beq d.length z with
  |false=>rw[c]at h;cases h
  |true=>rw[c]at h;simp only[uB,qo]at h;subst h;obtain⟨b,k,_⟩:=qcz (ι:=fun _=>none) f;simp_all
 ·cases h
theorem HR.drew(h:HR ι H w):HR ι H w.drew:=
 ⟨h.top,fun b a=>(h.blk b a).keep fun _ _ _=>rfl,h.low,h.inj,h.fresh,h.free⟩
theorem zj4{b i len a:Nat}{loc:Loc}{z:Nat}(y:HR ι H w)(C:ι b=some loc)(g:qh6 (H.get b) (i+a*z) z=true){old:List AV}(F:fD (H.get b) i (len*z)=some old){x:Src}{r:List Value}(hx:aL ι x.l r)(G:∀ v∈r,v.oneCell=true)(I:r.length=x.n*z)(_:len<=a)(_:¬ len+x.n<=a)(J:len+x.n<=a+loc.ext){v:AV}{Q:Hp}(h:grow z (H.put b .dead) old x (len+x.n)=.ok v Q):∃w' R,(storeCells ⟨loc.blk,loc.base+i+len*z,none⟩ r).run P w=.ok () w'/\aO R v (.slice (some ⟨loc.blk,loc.base+i,none⟩) (len+x.n) (a+loc.ext))/\HR R Q w'/\Fr ι R H Q w w':=by
 have f:=y.lt C;have S:=y.blk b f;unfold qh6 at g;split at g
 ·rename_i dd X c z' hg;simp only[qh]at g;have e1:=yM g.1;have e2:=yM g.2;have o:(H.get b).wr=true:=by rw[hg];rfl
  obtain⟨ol,ov⟩:=qgm S F;rw[hg]at S;obtain⟨l',b1,⟨b2,Y⟩,b3,b4⟩:=S;rw[C]at b1;cases b1;have hz:loc.z=z:=by rw[Y,e2]
  have T:(len+x.n)*z=len*z+x.n*z:=zk _ _ _;have bIE:(a+loc.ext)*z=a*z+loc.ext*z:=zk _ _ _;have bSI:(len+x.n)*z<=(a+loc.ext)*z:=xh z J
  -- every t up to the end of the room is d
  have d:∀ j,j<X+loc.ext*z->∃ u,w.cell? ⟨loc.blk,loc.base+j,none⟩=some u/\w.frozen? ⟨loc.blk,loc.base+j,none⟩=false/\u.oneCell=true:=by
   intro j D;by_cases hjn:j<X
   ·grind
   ·obtain⟨V,Z,O⟩:=b4 rfl (j-X) (by grind);simp_all
  obtain⟨w',r1,n⟩:=qh2 P loc.blk r w (loc.base+i+len*z) 0 (fun j D=>by obtain⟨u,Z,O,_⟩:=d (i+len*z+j) (by omega);rw[show loc.base+i+len*z+0+j=loc.base+(i+len*z+j)by omega];exact⟨u,Z,O⟩) G;rw[zt]at n;unfold grow at h
  ·
   obtain⟨rfl,rfl⟩:=h;have A:eT (H.nx):=p8;obtain⟨k1,k2⟩:=y.kill f o;have p:=y.fresh H.nx (lu _)
   let y9:Loc:=⟨loc.blk,loc.base+i,a+loc.ext-(len+x.n),z⟩
   have L:ι.le (ι.set H.nx y9):=Im.jI y9 p;have U:(H.put b .dead).get H.nx=.dead:=k1.free _ (lu _) A
   -- the cells that were d
   obtain⟨jZ,o1,o2,o3,o4⟩:∃ jZ,aL ι old jZ/\jZ.length=len*z/\(∀v∈jZ,v.oneCell=true)/\∀(j:Nat) (v:Value),jZ[j]? =some v->w.cell? ⟨loc.blk,loc.base+i+j,none⟩=some v:=by
    rcases ov with ov|⟨l2,jZ,g1,g2,g3,g4,g5⟩
    ·have:old=[]:=tu.1 (by grind);subst this;exact⟨[],by simp[aL],by simpa using ov.symm,by simp,by simp⟩
    ·grind
   have M:(old++x.l).length=(len+x.n)*z:=by rw[lL,ol,<-hx.length,I,T]
   have t:∀ j,w'.cell? ⟨loc.blk,loc.base+i+j,none⟩=if len*z<=j/\j<len*z+r.length then some (r.getD (j-len*z) Go.undef)else w.cell? ⟨loc.blk,loc.base+i+j,none⟩:=fun j=>by grind [n.cell,grind]
   have W:BR (ι.set H.nx y9) w' H.nx (aB z (old++x.l)):=by
    refine qvj (vs:=jZ++r) (loc:=y9) (Im.dA _ _ _) (aL.mono L _ _ (o1.append hx)) (fun v E=>by
     rcases qi.1 E with E|E
     ·exact o3 v E
     ·exact G v E) (fun j v E=>?_) (fun j D=>?_)
    ·show w'.cell? ⟨loc.blk,loc.base+i+j,none⟩=some v/\w'.frozen? ⟨loc.blk,loc.base+i+j,none⟩=false;have D:j<(jZ++r).length:=by grind
     rw[lL,o2,I]at D;refine⟨?_,?_⟩
     ·grind
     ·rw[n.frozen];obtain⟨_,_,O,_⟩:=d (i+j) (by omega)
      grind
    ·show ∃V,w'.cell? ⟨loc.blk,loc.base+i+((old++x.l).length+j),none⟩=some V/\w'.frozen? ⟨loc.blk,loc.base+i+((old++x.l).length+j),none⟩=false/\V.oneCell=true;have D:j<(a+loc.ext-(len+x.n))*z:=D;have bPa:(a+loc.ext-(len+x.n))*z=(a+loc.ext)*z-(len+x.n)*z:=Nat.sub_mul _ _ _;rw[t,n.frozen,pg (by omega),M];obtain⟨u,Z,O⟩:=d (i+((len+x.n)*z+j)) (by omega)
     grind
   have N:=k1.add (w':=w') A p U (Nat.le_succ _) A (ig _) y9 (aB z (old++x.l)) (by rw[n.size];exact lu _)
    (fun c m q k s=>n.keep _ fun K=>by
     rw[Hp.get_put _ _ _ _ f q]at k;by_cases l:c=b
     ·grind [bW.bD]
     ·rw[pg l]at k;exact l (y.inj b c loc m f q o k C s K.symm).symm)
    (fun _=>by rw[n.size];exact y.low b loc f (bW.aW o) C)
    (fun c m q k s K=>by
     rw[Hp.get_put _ _ _ _ f q]at k;by_cases l:c=b
     ·grind [bW.bD]
     ·rw[pg l]at k;exact l (y.inj b c loc m f q o k C s K.symm).symm) W
   refine⟨w',ι.set H.nx y9,r1,?_,N,⟨L,Nat.le_succ _,fun c k s=>?_,n.os,n.tape,n.output,by rw[n.size];exact lu _,fun c q k=>n.keep c fun K=>k b loc f o C K.symm,fun c m q k s=>?_,fun c m q k s=>?_⟩⟩
   ·simp only[aO];refine⟨lu _,y9,Im.dA _ _ _,?_⟩
    grind
   ·by_cases e:c=H.nx
    ·omega
    ·grind [Im.eU]
   ·have B:(aI (H.put b .dead) (aB z (old++x.l))).get c=if c=H.nx then aB z (old++x.l)else(H.put b .dead).get c:=by exact Mem.get_put _ _ _ _
    by_cases e:c=H.nx
    ·grind [Im.dA]
    ·rw[B,pg e,Hp.get_put _ _ _ _ f q]at k;rw[Im.eU _ _ e]at s
     grind
   ·have B:(aI (H.put b .dead) (aB z (old++x.l))).get c=if c=H.nx then aB z (old++x.l)else(H.put b .dead).get c:=by exact Mem.get_put _ _ _ _
    by_cases e:c=H.nx
    ·grind [Im.dA,bW.aW]
    ·rw[B,pg e,Hp.get_put _ _ _ _ f q]at k;rw[Im.eU _ _ e]at s;by_cases l:c=b
     ·grind [bW.bD]
     ·grind
 ·cases g
theorem qxl{z:Nat}{x:AV}{X:Value}(c:aO ι x X)(d:HR ι H w){s:Src}(h:lY z H x=some s):∃vs:List Value,aL ι s.l vs/\(∀v∈vs,v.oneCell=true)/\vs.length=s.n*z/\(Builtin.lenOf X).run P w=.ok s.n w /\ ∀k,k<=s.n->(Builtin.firstCells z k X).run P w=.ok (vs.take (k*z)).toArray w:=by
 unfold lY at h;split at h
 ·cases a:Nat.beq z 1 with
  |false=>rw[a]at h;cases h
  |true=>rw[a]at h;exact q7b c d h (fun _=>yM a)
 ·rename_i f;exact q7b c d h (fun⟨m,b,e⟩=>absurd e (f m b))
theorem zxt{b i len:Nat}{z:Nat}{loc:Loc}{C:Nat}(a:HR ι H w)(c:ι b=some loc){old:List AV}(h:fD (H.get b) i (len*z)=some old):∃jZ,aL ι old jZ/\(∀v∈jZ,v.oneCell=true)/\jZ.length=len*z/\(Builtin.firstCells z len (.slice (some ⟨loc.blk,loc.base+i,none⟩) len C)).run P w=.ok jZ.toArray w:=by
 obtain⟨f,ov⟩:=qgm (a.blk b (a.lt c)) h;have fin:∀ jZ:List Value,jZ.length=len*z->(∀(j:Nat) (v:Value),jZ[j]? =some v->w.cell? ⟨loc.blk,loc.base+i+j,none⟩=some v)->(Builtin.firstCells z len (.slice (some ⟨loc.blk,loc.base+i,none⟩) len C)).run P w=.ok jZ.toArray w:=fun jZ d e=>by have:=run_loadCells P w loc.blk (loc.base+i) jZ e;rw[d]at this;trivial
 rcases ov with ov|⟨g,jZ,g1,g2,g3,g4,g5⟩
 ·have:old=[]:=tu.1 (by grind);subst this;exact⟨[],by simp[aL],by simp,by simpa using ov.symm,fin [] (by grind) (by simp)⟩
 ·grind
theorem q88{t u e:TypeId}{x y:Operand}(ho:o.op=.call {callee:=.builtin .append,args:= #[x,y],argTypes:= #[t,u]})(J:P.underlying t=some (.slice e)){td:TypeDesc}(K:P.underlying u=some td)(m:td=.string\/∃ e',td=.slice e'){l:Ap}(D:apS P e=some l)(z:HR ι H w)(h:LR ι d n L a.tmps):VOk P o a.eval ι H w (iM l.z l.w H ((aM d n x).f L) (lY l.z H ((aM d n y).f L))):=by
 have E:=fK h x;have hy:=fK h y;obtain⟨N,a2,a3,a4,zv,X⟩:=qqj D;have p:∀ S V w',a.eval x=S->(Builtin.append_ #[t,u] o.type #[S,a.eval y]).run P w=.ok V w'->(execOp a.eval o).run P w=.ok (.value V) w':=fun S V w' M W=>by simp[execOp,ho,resolve,invoke,builtin,M,W]
 cases hs:lY l.z H ((aM d n y).f L)with
 |none=>trivial
 |some s=>
  obtain⟨vH,x1,x2,x3,O,I⟩:=qxl (P:=P) hy z hs;obtain⟨bUv,Q,R,T,x4',q⟩:=qxl (P:=P) hy z.drew hs;have I:=I s.n (lu _);have q:=q s.n (lu _);rw[<-x3,um]at I;rw[<-T,um]at q;cases c:iM l.z l.w H ((aM d n x).f L) (some s)with
  |bad=>trivial
  |ok v H'=>
   unfold iM at c;simp only at c;split at c
   ·rename_i e1;rw[e1]at E;simp only[aO]at E;cases F:Nat.beq s.n 0 with
    |true=>have F:=yM F;rw[F]at c;obtain⟨rfl,rfl⟩:=c;have r:=qfp (ty:=o.type) J K m N none 0 0 (a.eval y) O I (by omega) (w':=w) (fun _ h=>by cases h) (fun _=>rfl);rw[F]at r;exact⟨_,.slice none 0 0,w,ι,p _ _ _ E r,.inl rfl,by simp only[aO],z,Fr.refl _ _ _⟩
    |false=>
     rw[F]at c;simp only[af]at c;have F:=qzt F;cases f:(Nat.ble (Nat.mul s.n l.w) gV&&Nat.ble s.n gV)with
     |false=>rw[f]at c;cases c
     |true=>rw[f]at c;simp only[uB]at c;simp only[qh]at f;have g1:s.n*l.w<=1099511627776:=pK f.1;have g2:s.n<=1099511627776:=pK f.2;obtain⟨nc,Y,Z⟩:=qh3 (ty:=o.type) (jZ:=[]) J K m N a2 X none 0 0 (a.eval y) O q (by simp[Builtin.firstCells]) (by omega) (by grind) (by omega);rw[qg]at Y Z;obtain⟨U,d1,d2,d3⟩:=qvw D z (jZ:=[]) (show aL ι [] []by simp[aL]) (by simp) Q R (by simp[T]) c nc Y X w.drew rfl;exact⟨_,_,_,U,p _ _ _ E Z,.inl rfl,d1,d2,d3⟩
   ·rename_i b i len k ex e1;rw[e1]at E;simp only[aO]at E;obtain⟨hlc,loc,M,W⟩:=E;cases j:Nat.ble (len+s.n) k with
    |true=>
     rw[j]at c;simp only[uB]at c;have j:=pK j;obtain⟨rfl,w',r1,r2,r3⟩:=qe4 P z M x1 x2 c;have r:=qfp (ty:=o.type) J K m N (some ⟨loc.blk,loc.base+i,none⟩) len (if ex then k else k+loc.ext) (a.eval y) O I (by grind) (w':=w')
      (fun ad h=>by cases h;rw[addr_add,uu];exact r1) (fun h=>by cases h)
     refine⟨_,_,w',ι,p _ _ _ W r,.inl rfl,?_,r2,r3⟩
     grind [aO]
    |false=>
     rw[j]at c;simp only[af]at c;have j:=z9v j;cases f:(Nat.ble (Nat.mul (len+s.n) l.w) gV&&Nat.ble (len+s.n) gV)with
     |false=>rw[f]at c;cases c
     |true=>
      rw[f]at c;simp only[uB]at c;simp only[qh]at f;have g1:(len+s.n)*l.w<=1099511627776:=pK f.1;have g2:len+s.n<=1099511627776:=pK f.2;split at c
      ·cases c
      ·rename_i old A;have G:∀ C,¬len+s.n<=C->a.eval x=.slice (some ⟨loc.blk,loc.base+i,none⟩) len C->∀(H1:Hp),HR ι H1 w->Fr ι ι H H1 w w->grow l.z H1 old s (len+s.n)=.ok v H'->VOk P o a.eval ι H w (.ok v H'):=by
        intro C hC hxC H1 hH1 hF1 hg;obtain⟨jZ,o1,o2,o3,o4⟩:=zxt (P:=P) (w:=w.drew) (C:=C) z.drew M A;obtain⟨nc,Y,Z⟩:=qh3 (ty:=o.type) J K m N a2 X (some ⟨loc.blk,loc.base+i,none⟩) len C (a.eval y) O q o4 hC g1 g2;obtain⟨U,d1,d2,d3⟩:=qvw D hH1 o1 o2 Q R (by grind) hg nc Y X w.drew rfl;exact⟨_,_,_,U,p _ _ _ hxC Z,.inl rfl,d1,d2,hF1.trans d3⟩
       cases ex with
       |true=>exact G k j (by grind) H z (Fr.refl _ _ _) c
       |false=>
        cases g:qh6 (H.get b) (i+k*l.z) l.z with
        |false=>rw[g]at c;cases c
        |true=>
         rw[g]at c;simp only[uB]at c;by_cases B:len+s.n<=k+loc.ext
         ·obtain⟨w',U,q1,q2,q3,q4⟩:=zj4 (P:=P) z M g A x1 x2 x3 hlc j B c;have r:=qfp (ty:=o.type) J K m N (some ⟨loc.blk,loc.base+i,none⟩) len (k+loc.ext) (a.eval y) O I B (w':=w')
           (fun ad h=>by cases h;rw[addr_add];exact q1) (fun h=>by cases h)
          exact⟨_,_,w',U,p _ _ _ W r,.inl rfl,q2,q3,q4⟩
         ·have hwr:(H.get b).wr=true:=by
           unfold qh6 at g;split at g
           ·rename_i hg;rw[hg];rfl
           ·cases g
          grind [z.kill,z.lt,grind]
   ·cases c
/- maps -/
theorem qgj{b:Nat}{es:List gD}{e:Nat}{loc:Loc}(j:HR ι H w)(i:ι b=some loc)(l:H.get b=.map es e)(f:List gD)(a:Nat){d:List MapEntry}(m:dS ι f d):HR ι (H.put b (.map f a)) {w with heap:=w.heap.setIfInBounds loc.blk (.map d.toArray a)}/\Fr ι ι H (H.put b (.map f a)) w {w with heap:=w.heap.setIfInBounds loc.blk (.map d.toArray a)}:=by
 have g:=j.lt i;have h:(H.get b).wr=true:=by rw[l];rfl
 have k:=j.low b loc g (bW.aW h) i;refine j.put g h i _ rfl rfl rfl (by simp) (fun c n=>?_) ⟨loc,d,i,?_,m⟩
 ·grind
 ·simp_all
theorem dS.set:∀{es:List gD} {a:List MapEntry},dS ι es a->∀(i:Nat) (x:gD) (e:MapEntry),aO ι x.key e.key->aO ι x.val e.val->e.born=x.born->dS ι (es.set i x) (a.set i e)
 | [],a,h,i,x,e,_,_,_=>by grind [dS]
 |y::es,a,h,i,x,e,h1,h2,h3=>by
  obtain⟨b,r,rfl,g1,g2,g3,g4⟩:=h;cases i with
  |zero=>simp only[List.set_cons_zero,dS];exact⟨e,r,rfl,h1,h2,h3,g4⟩
  |succ i=>simp only[lE0,dS];exact⟨b,r.set i e,rfl,g1,g2,g3,dS.set g4 i x e h1 h2 h3⟩
theorem dS.snoc:∀{es:List gD} {a:List MapEntry},dS ι es a->∀(x:gD) (e:MapEntry),aO ι x.key e.key->aO ι x.val e.val->e.born=x.born->dS ι (es++[x]) (a++[e])
 | [],a,h,x,e,h1,h2,h3=>by grind [dS,yj]
 |y::es,a,h,x,e,h1,h2,h3=>by obtain⟨b,r,rfl,g1,g2,g3,g4⟩:=h;simp only[lA7,dS];exact⟨b,r++[e],rfl,g1,g2,g3,dS.snoc g4 x e h1 h2 h3⟩
theorem dS.erase:∀{es:List gD} {a:List MapEntry},dS ι es a->∀(i:Nat),dS ι (es.eraseIdx i) (a.eraseIdx i)
 | [],a,h,i=>by grind [dS]
 |y::es,a,h,i=>by
  obtain⟨b,r,rfl,g1,g2,g3,g4⟩:=h;cases i with
  |zero=>simpa using g4
  |succ i=>simp only[List.eraseIdx_cons_succ,dS];exact⟨b,r.eraseIdx i,rfl,g1,g2,g3,dS.erase g4 i⟩
/- keys that are the same -/
theorem q7g{x y:AV}(h:zjd x y=true){X Y:Value}(a:aO ι x X)(b:aO ι y Y):X=Y/\∀ k,Instr.sameBits k X X=true:=by
 unfold zjd at h;split at h
 ·simp only[qh]at h;have:=ztq h.1;subst this;have c:=h.2;rw[qfd]at c;simp only[aO]at a b;subst a b;obtain rfl:=eq_of_beq c
  grind [Instr.sameBits]
 ·simp only[aO]at a b;obtain⟨s,rfl,d⟩:=a;obtain⟨u,rfl,c⟩:=b;rw[d.eq c]at h;have e:s=u:=by
   have:s.data.toList=u.data.toList:=by simpa using h
   cases s;cases u;simp at this;rw[this]
  grind [Instr.sameBits,beq_toListBytes]
 ·simp only[aO]at a b;subst a b;obtain rfl:=eq_of_beq h
  grind [Instr.sameBits]
 ·cases h
theorem q7f:∀{l m:List AV} {vs a:List Value},qxx l m=true->aL ι l vs->aL ι m a->vs=a/\∀ k,(vs.zip vs).all (fun(x,y)=>Instr.sameBits k x y)=true
 | [],[],vs,a,_,h1,h2=>by simp only[aL]at h1 h2;subst h1 h2;exact⟨rfl,fun _=>rfl⟩
 | [],_::_,vs,a,h,_,_=>by simp[qxx]at h
 |_::_,[],vs,a,h,_,_=>by simp[qxx]at h
 |x::l,y::m,vs,a,h,h1,h2=>by obtain⟨v,r,rfl,b,c⟩:=h1;obtain⟨u,f,rfl,d,e⟩:=h2;simp only[qxx,qh]at h;obtain⟨g,i⟩:=q7g h.1 b d;obtain⟨j,n⟩:=q7f h.2 c e;simp_all
theorem qr3{x y:AV}(h:sameKey x y=true){X Y:Value}(a:aO ι x X)(b:aO ι y Y):Instr.sameBits 10000 X Y=true:=by
 unfold sameKey at h;split at h
 ·obtain⟨vs,d,rfl,_⟩:=qee a;obtain⟨f,e,rfl,_⟩:=qee b;obtain⟨rfl,c⟩:=q7f h d e;simp only[Instr.sameBits,qh];simp_all
 ·grind [q7g]
theorem qk7(a:List MapEntry)(i:Nat)(E:MapEntry)(h:a[i]? =some E)(f:MapEntry->MapEntry):a.modify i f=a.set i (f E):=by
 apply List.ext_getElem?
 grind
theorem z9j{t G Q:TypeId}{x y z:Operand}(l:o.op=.mapUpdate t x y z\/o.op=.insert t x y z)(I:P.underlying t=some (.map G Q)){J:Ky}(i:yV P G=some J)(m:HR ι H w)(h:LR ι d n L a.tmps):VOk P o a.eval ι H w (kL J H ((aM d n x).f L) ((aM d n y).f L) ((aM d n z).f L)):=by
 have r:=fK h x;have j:=fK h y;have K:=fK h z;have g:(execOp a.eval o).run P w=((Instr.mapUpdate t (a.eval x) (a.eval y) (a.eval z)).run P w).andThen fun _ w=>.ok .skip w:=by rcases l with l|l<;>simp[execOp,l]
 unfold kL;split
 ·rename_i b S;rw[S]at r;simp only[aO]at r;obtain⟨loc,p,N⟩:=r;have M:=m.blk b (m.lt p);split
  ·rename_i es c u;rw[u]at M;obtain⟨X,T,g1,g2,g3⟩:=M;rw[p]at g1;cases g1;split
   ·rename_i f v;obtain⟨A,R,B,q⟩:=qj0 i j g3 v;obtain⟨V,E,rfl,Y,O,U,Z,d5,W⟩:=q;cases F:sameKey f.x.key ((aM d n y).f L)with
    |false=>trivial
    |true=>have s:=qr3 F U j;obtain⟨C,D⟩:=qgj m p u (es.set f.i ⟨(aM d n y).f L,(aM d n z).f L,f.x.born⟩) c (g3.set f.i _ ⟨a.eval y,a.eval z,E.born⟩ j K W);refine⟨.skip,Go.undef,_,ι,?_,.inr ⟨rfl,rfl⟩,by simp[aO,Go.undef],C,D⟩;rw[g,N];have k:=qk7 T f.i E O (fun e=>{e with key:=a.eval y,val:=a.eval z});simp[Instr.mapUpdate,dX I,getObj,setObj,Sem.run,g2,A,B,O,Instr.keyThatStays,s,k]
   ·rename_i v;obtain⟨A,R,B,q⟩:=qj0 i j g3 v;simp only[zbs]at q;subst q;obtain⟨C,D⟩:=qgj m p u (es++[⟨(aM d n y).f L,(aM d n z).f L,c⟩]) (c+1) (g3.snoc _ ⟨a.eval y,a.eval z,c⟩ j K rfl);refine⟨.skip,Go.undef,_,ι,?_,.inr ⟨rfl,rfl⟩,by simp[aO,Go.undef],C,D⟩;rw[g,N];simp[Instr.mapUpdate,dX I,getObj,setObj,Sem.run,g2,A,B]
   ·trivial
  ·trivial
 ·trivial
theorem z4a{t D F:TypeId}{x y:Operand}(G:o.op=.mapEntry t x y)(I:P.underlying t=some (.map D F)){J:Ky}(g:yV P D=some J){z:Value}(O:(P.info? F).bind (·.zero)=some z)(k:HR ι H w)(h:LR ι d n L a.tmps):VOk P o a.eval ι H w (qj1 J (qvd z) H ((aM d n x).f L) ((aM d n y).f L)):=by
 have p:=fK h x;have i:=fK h y;unfold qj1;split
 ·rename_i b Q;rw[Q]at p;simp only[aO]at p;obtain⟨loc,l,M⟩:=p;have K:=k.blk b (k.lt l);split
  ·rename_i es c r;rw[r]at K;obtain⟨W,S,g1,g2,g3⟩:=K;rw[l]at g1;cases g1;split
   ·rename_i f s;obtain⟨u,R,v,m⟩:=qj0 g i g3 s;obtain⟨V,E,rfl,X,N,T,Y,Z,U⟩:=m;cases C:sameKey f.x.key ((aM d n y).f L)with
    |false=>trivial
    |true=>
     have q:=qr3 C T i;obtain⟨A,B⟩:=qgj k l r (es.set f.i ⟨(aM d n y).f L,f.x.val,f.x.born⟩) c (g3.set f.i _ ⟨a.eval y,E.val,E.born⟩ i (by grind) U);refine⟨.value (.tuple #[V,.int .i64 (E.born:Int)]),_,_,ι,?_,.inl rfl,?_,A,B⟩
     ·have j:=qk7 S f.i E N (fun e=>{e with key:=a.eval y});simp[execOp,G,M,Instr.mapEntry,dX I,getObj,setObj,Sem.run,g2,u,v,N,Instr.keyThatStays,q,j,goInt]
     ·grind [aO,aL]
   ·rename_i s;obtain⟨u,R,v,m⟩:=qj0 g i g3 s;simp only[zbs]at m;subst m;obtain⟨A,B⟩:=qgj k l r (es++[⟨(aM d n y).f L,qvd z,c⟩]) (c+1) (g3.snoc _ ⟨a.eval y,z,c⟩ i (qgq z) rfl);refine⟨.value (.tuple #[z,.int .i64 (c:Int)]),_,_,ι,?_,.inl rfl,?_,A,B⟩
    ·simp[execOp,G,M,Instr.mapEntry,dX I,getObj,setObj,Sem.run,g2,u,v,qdf O,goInt]
    ·simp only[aO,aL];exact⟨[z,.int .i64 (c:Int)],⟨z,_,rfl,qgq z,_,_,rfl,rfl,rfl⟩,rfl⟩
   ·trivial
  ·trivial
 ·trivial
theorem qxi{k:Nat}:∀(es:List gD) (c:List MapEntry) (i:Nat) (a:Hit),dS ι es c->qxj k es i=some a -> ∃E j,a.i=i+j/\c[j]? =some E/\c.findIdx? (fun e=>(e.born:Int)==(k:Int))=some j/\aO ι a.x.key E.key/\E.born=a.x.born
 | [],c,i,a,hE,b=>by trivial
 |x::es,c,i,a,hE,b=>by
  obtain⟨e,r,rfl,h,l,m,g⟩:=hE;have b:(bif Nat.beq x.born k then some ⟨i,x⟩else qxj k es (i+1))=some a:=b;cases d:Nat.beq x.born k with
  |true=>
   rw[d]at b;simp only[uB,qo]at b;subst b
   grind [yM,List.findIdx]
  |false=>
   rw[d]at b;simp only[af]at b;have f:=qzt d;obtain⟨E,j,n,o,p,q,s⟩:=qxi es r (i+1) a g b
   grind
theorem zl3{t:TypeId}{x y z:Operand}(u:o.op=.entryStore t x y z)(i:HR ι H w)(h:LR ι d n L a.tmps):VOk P o a.eval ι H w (qhu H ((aM d n x).f L) ((aM d n y).f L) ((aM d n z).f L)):=by
 have k:=fK h x;have l:=fK h y;have v:=fK h z;unfold qhu;split
 ·rename_i b O m A B;rw[A]at k;rw[B]at l;simp only[aO]at k l;obtain⟨loc,p,C⟩:=k;have q:=i.blk b (i.lt p);split
  ·rename_i es f r;rw[r]at q;obtain⟨Q,s,g1,g2,g3⟩:=q;rw[p]at g1;cases g1;split
   ·rename_i c D;obtain⟨E,j,F,G,I,J,K⟩:=qxi es s 0 c g3 D;obtain⟨M,N⟩:=qgj i p r (es.set c.i ⟨c.x.key,(aM d n z).f L,c.x.born⟩) f (g3.set c.i _ ⟨E.key,a.eval z,E.born⟩ J v K);refine⟨.skip,Go.undef,_,ι,?_,.inr ⟨rfl,rfl⟩,by simp[aO,Go.undef],M,N⟩;have g:=qk7 s j E G (fun e=>{e with val:=a.eval z});simp[execOp,u,C,l,Instr.entryStore,getObj,setObj,Sem.run,g2,asInt,asIntOf,I,g,F]
   ·trivial
  ·trivial
 ·trivial
theorem qgb(a:Value)(k:Nat):Builtin.zeroCells a.cells k=(gZ a.cells.toList k).toArray:=by have:=range_zero a.cells k a.cells.size rfl;trivial
theorem zl4{t e:TypeId}{x:Operand}(g:o.op=.call {callee:=.builtin .clear,args:= #[x],argTypes:= #[t]})(j:P.underlying t=some (.slice e)){k:Ap}(l:apS P e=some k)(p:HR ι H w)(h:LR ι d n L a.tmps):VOk P o a.eval ι H w (qgz k.zl H ((aM d n x).f L)):=by
 have c:=fK h x;obtain⟨J,K,z,M,_⟩:=qqj l;obtain⟨N,A,B,C⟩:=qcz (ι:=ι) z;unfold qgz;split
 ·rename_i q;rw[q]at c;simp only[aO]at c;refine⟨.value (.tuple #[]),_,w,ι,?_,.inl rfl,by simp[aO],p,Fr.refl _ _ _⟩;simp[execOp,g,resolve,invoke,builtin,Builtin.clear_,c,dX j]
 ·rename_i b i m D O q;rw[q]at c;simp only[aO]at c;obtain⟨_,loc,E,u⟩:=c;cases f:Nat.beq m 0 with
  |true=>have f:=yM f;subst f;refine⟨.value (.tuple #[]),_,w,ι,?_,.inl rfl,by simp[aO],p,Fr.refl _ _ _⟩;simp[execOp,g,resolve,invoke,builtin,Builtin.clear_,u,dX j]
  |false=>
   have f:=qzt f;cases r:storeAt H b i (aS k.zl m) .undef with
   |bad=>trivial
   |ok v H'=>obtain⟨rfl,w',F,G,I⟩:=qe4 P p E (qej B m) (fun v y=>C v (qhk y)) r;refine⟨.value (.tuple #[]),_,w',ι,?_,.inl rfl,by simp[aO],G,I⟩;obtain⟨s,rfl⟩:∃ s,m=s+1:=⟨m-1,by omega⟩;simp[execOp,g,resolve,invoke,builtin,Builtin.clear_,u,dX j,qdf A,qgb,F]
 ·trivial
theorem qik{t u e ty:TypeId}(o:P.underlying t=some (.slice e)){y:IntKind}(p:P.underlying u=some (.int y)){z b:Nat}(q:jA P e=some z)(A:qj4 P e=some b){j:Value}(k:(P.info? e).bind (·.zero)=some j){x:List AV}(r:aL ι x j.cells.toList)(B:x.length=z)(base:Option Addr)(len C:Nat){k2:IntKind}{m:Nat}(F:m<=1099511627776)(D:m*b<=1099511627776)(d:len+m<=C){w':World}(a:∀ i,base=some i->(storeCells (i.add (len*z)) (gZ j.cells.toList m)).run P w=.ok () w')(l:base=none->w'=w):(Builtin.append_ #[t,u] ty #[.slice base len C,.int k2 (m:Int)]).run P w=.ok (.slice base (len+m) C) w':=by
 obtain⟨ti,g,v⟩:=qu7 (P:=P) A;have w1:IntKind.i64.wrap (m:Int)=m:=IntWalk.i64_in _ (by omega);have f:¬((m:Int)<0):=by omega
 have c:¬(281474976710656<(m:Int)*(ti.bytes:Int)):=by rw[v];omega
 have s:j.cells.size=z:=by have:=r.length;simp at this;omega
 have n:m*z=0->gZ j.cells.toList m=[]:=fun h=>tu.1 (by rw[qce];simp[s,h]);by_cases h:m*z=0
 ·have E:=n h;cases base with
  |none=>rw[l rfl];simp[Builtin.append_,dX o,dX p,qR q,asInt,asIntOf,w1,f,g,c,h,d]
  |some i=>have a:=a i rfl;rw[E]at a;simp[Builtin.append_,dX o,dX p,qR q,asInt,asIntOf,w1,f,g,c,h,d,a]
 ·cases base with
  |none=>rw[l rfl];simp[Builtin.append_,dX o,dX p,qR q,asInt,asIntOf,w1,f,g,c,d,qdf k]
  |some i=>have a:=a i rfl;simp[Builtin.append_,dX o,dX p,qR q,asInt,asIntOf,w1,f,g,c,h,d,qdf k,qgb,a]
set_option maxHeartbeats 1000000 in
theorem qlq{t u e ty:TypeId}(v:P.underlying t=some (.slice e)){G:IntKind}(x:P.underlying u=some (.int G)){z b:Nat}(y:jA P e=some z)(H:qj4 P e=some b){d:Value}(f:(P.info? e).bind (·.zero)=some d){A:List AV}(p:aL ι A d.cells.toList)(I:A.length=z)(base:Option Addr)(len C:Nat){k2:IntKind}{m:Nat}{jZ:List Value}(B:m<=1099511627776)(J:m*b<=1099511627776)(g:(Builtin.firstCells z len (.slice base len C)).run P w.drew=.ok jZ.toArray w.drew)(h:¬ len+m<=C)(D:(len+m)*b<=1099511627776)(q:len+m<=1099511627776):∃a,len+m<=a/\(Builtin.append_ #[t,u] ty #[.slice base len C,.int k2 (m:Int)]).run P w=.ok (.slice (some ⟨w.heap.size,0,none⟩) (len+m) a) (w.drew.alloc (.cells (jZ.toArray++(gZ d.cells.toList m).toArray++Builtin.zeroCells d.cells (a-(len+m))) e)):=by
 obtain⟨ti,n,o⟩:=qu7 (P:=P) H;have w1:IntKind.i64.wrap (m:Int)=m:=IntWalk.i64_in _ (by omega);have j:¬((m:Int)<0):=by omega
 have k:¬(281474976710656<(m:Int)*(ti.bytes:Int)):=by
  rw[o];have:((m*b:Nat):Int)<=281474976710656:=by omega
  have e:((m*b:Nat):Int)=(m:Int)*(b:Int):=by simp
  omega
 have r:d.cells.size=z:=by have:=p.length;simp at this;omega
 have l:m*z=0->gZ d.cells.toList m=[]:=fun i=>tu.1 (by rw[qce];simp[r,i]);have s:=qsd (need:=len+m) (old:=C) (by omega);have E:¬(2 ^ 48<Builtin.nextslicecap (len+m) C*ti.bytes):=by have B:Builtin.nextslicecap (len+m) C*ti.bytes<=3*(len+m)*ti.bytes:=xh _ s;rw[o]at B ⊢;have:3*(len+m)*b=3*((len+m)*b):=Nat.mul_assoc _ _ _;omega
 refine⟨(Question.appendCap (len+m) C e).cut (w.tape w.drawn (.appendCap (len+m) C e)),by simp only[Question.cut];omega,?_⟩;generalize c:(Question.appendCap (len+m) C e).cut (w.tape w.drawn (.appendCap (len+m) C e))=cap;by_cases i:m*z=0
 ·rw[l i];simp[Builtin.append_,dX v,dX x,qR y,asInt,asIntOf,w1,j,n,k,h,E,Question.forced,c,g,i,qdf f,newRow];intro F;omega
 ·simp[Builtin.append_,dX v,dX x,qR y,asInt,asIntOf,w1,j,n,k,h,E,Question.forced,c,g,i,qdf f,newRow];rw[pg (by omega),qgb d m,<-Array.append_assoc];simp
theorem z9k{t u e:TypeId}{x y:Operand}(ho:o.op=.call {callee:=.builtin .append,args:= #[x,y],argTypes:= #[t,u]})(R:P.underlying t=some (.slice e)){kk:IntKind}(T:P.underlying u=some (.int kk)){f:Ap}(F:apS P e=some f)(B:HR ι H w)(h:LR ι d n L a.tmps):VOk P o a.eval ι H w (iM f.z f.w H ((aM d n x).f L) (qs1 f.w f.zl ((aM d n y).f L))):=by
 have J:=fK h x;have U:=fK h y;obtain⟨X,Y,a3,Q,_⟩:=qqj F;obtain⟨zv,K,M,z3⟩:=qcz (ι:=ι) a3;cases E:qs1 f.w f.zl ((aM d n y).f L)with
 |none=>trivial
 |some s=>
  unfold qs1 at E;split at E
  ·rename_i k2 m e2;rw[e2]at U;simp only[aO]at U;cases z:(Nat.ble m gV&&Nat.ble (Nat.mul m f.w) gV)with
   |false=>rw[z]at E;cases E
   |true=>
    rw[z]at E;simp only[uB,qo]at E;subst E;simp only[qh]at z;have W:m<=1099511627776:=pK z.1;have N:m*f.w<=1099511627776:=pK z.2;have U:a.eval y=.int k2 (m:Int):=U;have p:∀ S V w',a.eval x=S->(Builtin.append_ #[t,u] o.type #[S,.int k2 (m:Int)]).run P w=.ok V w'->(execOp a.eval o).run P w=.ok (.value V) w':=fun S V w' G I=>by simp[execOp,ho,resolve,invoke,builtin,G,U,I]
    have x1:=qej M m;have x2:∀ v∈gZ zv.cells.toList m,v.oneCell=true:=fun v c=>z3 v (qhk c);have x3:(gZ zv.cells.toList m).length=m*f.z:=by rw[qce,M.length,Q]
    cases c:iM f.z f.w H ((aM d n x).f L) (some ⟨m,aS f.zl m⟩)with
    |bad=>trivial
    |ok v H'=>
     unfold iM at c;simp only at c;split at c
     ·rename_i e1;rw[e1]at J;simp only[aO]at J;cases O:Nat.beq m 0 with
      |true=>have O:=yM O;subst O;simp only[show Nat.beq 0 0=true from rfl,uB,R1.ok.injEq]at c;obtain⟨rfl,rfl⟩:=c;have r:=qik (P:=P) (ty:=o.type) (k2:=k2) R T X Y K M Q none 0 0 W N (by omega) (w':=w) (fun _ h=>by cases h) (fun _=>rfl);exact⟨_,.slice none 0 0,w,ι,p _ _ _ J r,.inl rfl,by simp only[aO],B,Fr.refl _ _ _⟩
      |false=>
       rw[O]at c;simp only[af]at c;have O:=qzt O;cases k:(Nat.ble (Nat.mul m f.w) gV&&Nat.ble m gV)with
       |false=>rw[k]at c;cases c
       |true=>rw[k]at c;simp only[uB]at c;obtain⟨nc,c1,c2⟩:=qlq (P:=P) (w:=w) (ty:=o.type) (k2:=k2) (jZ:=[]) R T X Y K M Q none 0 0 W N (by simp[Builtin.firstCells]) (by omega) (by rw[qg];exact N) (by omega);rw[qg]at c1 c2;obtain⟨Z,d1,d2,d3⟩:=qvw F B (jZ:=[]) (show aL ι [] []by simp[aL]) (by simp) x1 x2 (by simp[x3]) c nc c1 K w.drew rfl;exact⟨_,_,_,Z,p _ _ _ J c2,.inl rfl,d1,d2,d3⟩
     ·rename_i b i len l ex e1;rw[e1]at J;simp only[aO]at J;obtain⟨hlc,loc,G,I⟩:=J;cases j:Nat.ble (len+m) l with
      |true=>
       rw[j]at c;simp only[uB]at c;have j:=pK j;obtain⟨rfl,w',r1,r2,r3⟩:=qe4 P B G x1 x2 c;have r:=qik (P:=P) (ty:=o.type) (k2:=k2) R T X Y K M Q (some ⟨loc.blk,loc.base+i,none⟩) len (if ex then l else l+loc.ext) W N (by split<;>omega) (w':=w')
        (fun ad h=>by cases h;rw[addr_add,uu];exact r1) (fun h=>by cases h)
       refine⟨_,_,w',ι,p _ _ _ I r,.inl rfl,?_,r2,r3⟩;simp only[aO];exact⟨j,loc,G,rfl⟩
      |false=>
       rw[j]at c;simp only[af]at c;have j:=z9v j;cases k:(Nat.ble (Nat.mul (len+m) f.w) gV&&Nat.ble (len+m) gV)with
       |false=>rw[k]at c;cases c
       |true=>
        rw[k]at c;simp only[uB]at c;simp only[qh]at k;have g1:(len+m)*f.w<=1099511627776:=pK k.1;have g2:len+m<=1099511627776:=pK k.2;split at c
        ·cases c
        ·rename_i old D;have q:∀ C,¬len+m<=C->a.eval x=.slice (some ⟨loc.blk,loc.base+i,none⟩) len C->∀(H1:Hp),HR ι H1 w->Fr ι ι H H1 w w->grow f.z H1 old ⟨m,aS f.zl m⟩ (len+m)=.ok v H'->VOk P o a.eval ι H w (.ok v H'):=by
          intro C hC hxC H1 hH1 hF1 hg;obtain⟨jZ,o1,o2,o3,o4⟩:=zxt (P:=P) (w:=w.drew) (C:=C) B.drew G D;obtain⟨nc,c1,c2⟩:=qlq (P:=P) (w:=w) (ty:=o.type) (k2:=k2) R T X Y K M Q (some ⟨loc.blk,loc.base+i,none⟩) len C W N o4 hC g1 g2;obtain⟨Z,d1,d2,d3⟩:=qvw F hH1 o1 o2 x1 x2 (by rw[o3,x3,zk]) hg nc c1 K w.drew rfl;exact⟨_,_,_,Z,p _ _ _ hxC c2,.inl rfl,d1,d2,hF1.trans d3⟩
         cases ex with
         |true=>simp only[uB]at c;exact q l j (by simpa using I) H B (Fr.refl _ _ _) c
         |false=>
          simp only[af]at c;cases g:qh6 (H.get b) (i+l*f.z) f.z with
          |false=>rw[g]at c;cases c
          |true=>
           rw[g]at c;simp only[uB]at c;simp only[dm,lEB]at I;by_cases A:len+m<=l+loc.ext
           ·obtain⟨w',Z,q1,q2,q3,q4⟩:=zj4 (P:=P) (x:=⟨m,aS f.zl m⟩) B G g D x1 x2 x3 hlc j A c;have r:=qik (P:=P) (ty:=o.type) (k2:=k2) R T X Y K M Q (some ⟨loc.blk,loc.base+i,none⟩) len (l+loc.ext) W N A (w':=w')
             (fun ad h=>by cases h;rw[addr_add];exact q1) (fun h=>by cases h)
            exact⟨_,_,w',Z,p _ _ _ I r,.inl rfl,q2,q3,q4⟩
           ·have hwr:(H.get b).wr=true:=by
             unfold qh6 at g;split at g
             ·rename_i hg;rw[hg];rfl
             ·cases g
            obtain⟨k1,k2⟩:=B.kill (B.lt G) hwr;exact q _ A I _ k1 k2 c
     ·cases c
  ·cases E
def Post(ι:Im)(H:Hp)(w:World)(v:AV)(H':Hp):Ending->World->Prop
 | .returned V,w'=>∃ ι',aO ι' v V/\HR ι' H' w'/\Fr ι ι' H H' w w'
 |_,_=>False
structure qet(P:Program)(O:Call):Prop where
 fn:∀ f args H v H',O (.f f) args H=.ok v H'->∀ ι w bC,HR ι H w->aL ι args bC ->
  (callFunc f bC.toArray).run P w=.ok (.enter f bC.toArray) w/\∀ m,CallsIn Fence.wide m P f bC.toArray w (Post ι H w v H')
 yd:∀ b args H v H',O (.y b) args H=.ok v H'->∀ ι w bC loc,HR ι H w->aL ι args bC->ι b=some loc ->
  ∃f tmps assign body,(Instr.yield loc.blk bC.toArray).run P w=.ok (.round loc.blk f tmps assign body) w /\
   ∀m,RoundIn Fence.wide m P loc.blk f tmps assign body w (Post ι H w v H')
 df:∀ f args H v H',O (.d f) args H=.ok v H'->∀ ι w bC,HR ι H w->aL ι args bC ->
  (callFunc f bC.toArray).run P w=.ok (.enter f bC.toArray) w/\∀ m,CallsDIn Fence.wide m P f bC.toArray .returning w (fun e u' w'=>u'=.returning/\Post ι H w v H' e w')
structure Fence.dW(F:Fence):Prop where
 eq:∃ r,F={Fence.wide with round:=r}
theorem Fence.aA2:Fence.dW Fence.wide:=⟨none,rfl⟩
theorem Fence.oO(l:Nat):Fence.dW (Fence.wide.inRound l):=⟨some l,rfl⟩
theorem Fence.dW.fn{F:Fence}(h:Fence.dW F)(f:FuncId):F.fn f:=by obtain⟨r,rfl⟩:=h;trivial
theorem Fence.dW.depth{F:Fence}(h:Fence.dW F):F.depth=none:=by obtain⟨r,rfl⟩:=h;rfl
theorem Fence.dW.calls{F:Fence}(h:Fence.dW F){m:Nat}{f:FuncId}{args:Array Value}{R:Ending->World->Prop}(k:CallsIn Fence.wide m P f args w R):CallsIn F m P f args w R:=by obtain⟨r,rfl⟩:=h;exact k
theorem Fence.dW.round{F:Fence}(h:Fence.dW F){m l:Nat}{f:FuncId}{tmps:Array Value}{a b:Code}{R:Ending->World->Prop}(k:RoundIn Fence.wide m P l f tmps a b w R):RoundIn F m P l f tmps a b w R:=by obtain⟨r,rfl⟩:=h;exact k
theorem qde{F:Fence}{ρ:Operand->Value}(h:∀ c,o.op≠ .defer c):o.semAt F.round ρ=execOp ρ o:=by
 cases F.round with
 |none=>exact Oper.semAt_none ..
 |some l=>exact Oper.semAt_some l ρ o h
def Nx(ι:Im)(H:Hp)(w:World)(a:Act)(o:Oper)(v:AV)(H':Hp)(next:Act->World->Prop):Prop:=
 ∀V w' ι',aO ι' v V->HR ι' H' w'->Fr ι ι' H H' w w'->next (a.put o.dst V) w'
theorem qe1{F:Fence}(j:Fence.dW F)(k:∀ c,o.op≠ .defer c){v:AV}{b:Hp}(h:VOk P o a.eval ι H w (.ok v b)){m:Nat}{next:Act->World->Prop}{Q:Exit->Act->World->Prop}(d:Nx ι H w a o v b next):o.wpIn F m P a w next Q:=by
 obtain⟨N,V,w',p,l,n,e,g,i⟩:=h;refine⟨fun f _=>j.fn f,?_⟩;rw[qde k,l];rcases n with rfl|⟨rfl,rfl⟩
 ·exact d _ _ _ e g i
 ·exact d _ _ _ e g i
theorem qyc{v:AV}{c:Hp}{next:Act->World->Prop}{Q:Exit->Act->World->Prop}(d:Nx ι H w a o v c next):∀e w',Post ι H w v c e w'->(match e,w' with
   | .returned v,b=>next (a.put o.dst v) b
   | .panicked chain,b=>Q (.panic chain) a b
   | .outgrown,_=>LetsOut Q):=by
 intro e w' h;cases e with
 |returned V=>obtain⟨j,f,g,i⟩:=h;exact d _ _ _ f g i
 |panicked=>exact h.elim
 |outgrown=>exact h.elim
theorem zh3{F:Fence}(i:Fence.dW F){c:Go.Call}(k:o.op=.call c){x:Operand}(r:c.callee=.value x){O:Call}(s:qet P O)(t:HR ι H w){fv:AV}(u:aO ι fv (a.eval x)){args:List AV}(y:aL ι args (c.args.toList.map a.eval)){v:AV}{z:Hp}(h:wY O fv args H=.ok v z){m:Nat}{next:Act->World->Prop}{Q:Exit->Act->World->Prop}(B:Nx ι H w a o v z next):o.wpIn F m P a w next Q:=by
 refine⟨fun f _=>i.fn f,?_⟩;rw[qde (by intro G;rw[k];exact fun h=>by cases h)];have d:c.args.map a.eval=(c.args.toList.map a.eval).toArray:=by rw[<-lAH]
 unfold wY at h;split at h
 ·rename_i g first D
  obtain⟨A,C,l,E,n⟩:=u;obtain⟨p,q⟩:=s.fn _ _ _ _ _ h ι w (A++c.args.toList.map a.eval++C) t ((l.append y).append E);have:(execOp a.eval o).run P w=.ok (.enter g (A++c.args.toList.map a.eval++C).toArray) w:=by simp only[execOp,k,resolve,r,n,Deferred.ofValue,d];simpa [invoke] using p
  rw[this];exact⟨by simp[i.depth],CallsIn.mono (i.calls (q _)) (qyc B)⟩
 ·rename_i b;obtain⟨loc,l,n⟩:=u;obtain⟨f,tmps,e,j,p,q⟩:=s.yd _ _ _ _ _ h ι w _ loc t y l;have:(execOp a.eval o).run P w=.ok (.round loc.blk f tmps e j) w:=by
   simp only[execOp,k,resolve,r,n,Deferred.ofValue,d];simpa [invoke] using p
  rw[this];exact⟨by simp[i.depth],RoundIn.mono (i.round (q _)) (qyc B)⟩
 ·cases h
end Go.Ev
end
section
namespace Go.Ev
open Go.RowKit
variable {P:Program} {w:World} {ι:Im} {o:Oper} {a:Act} {d n:Nat} {L:TT AV d} {H:Hp} {O:Call} {F:Fence} {m:Nat} {next:Act->World->Prop} {Q:Exit->Act->World->Prop}
theorem z9y{args:List Operand}{ts:List TypeId}(g:o.op=.call {callee:=.builtin .append,args:=args.toArray,argTypes:=ts.toArray}){f:Call->TT AV d->Hp->R1}(b:aBn P d n args ts=.e f)(i:HR ι H w)(h:LR ι d n L a.tmps):VOk P o a.eval ι H w (f O L H):=by
 unfold aBn at b;split at b
 ·split at b
  ·rename_i j;split at b
   ·rename_i c e;cases b;exact z9k g j e c i h
   ·rename_i c e;cases b;exact q88 g j e (.inr ⟨_,rfl⟩) c i h
   ·rename_i c e;cases b;exact q88 g j e (.inl rfl) c i h
   ·cases b;trivial
  ·cases b;trivial
 ·cases b;trivial
theorem z9p{args:List Operand}{ts:List TypeId}(c:o.op=.call {callee:=.builtin .clear,args:=args.toArray,argTypes:=ts.toArray}){f:Call->TT AV d->Hp->R1}(b:aAV P d n args ts=.e f)(e:HR ι H w)(h:LR ι d n L a.tmps):VOk P o a.eval ι H w (f O L H):=by
 unfold aAV at b;split at b
 ·split at b
  ·rename_i g;split at b
   ·rename_i i;cases b;exact zl4 c g i e h
   ·cases b;trivial
  ·cases b;trivial
 ·cases b;trivial
theorem z8s{args:List Operand}{ts:List TypeId}{f:Call->TT AV d->Hp->R1}(a:aBv P d n args ts=.e f):f O L H=.bad:=by
 unfold aBv at a;split at a
 ·split at a
  ·cases a
  ·split at a<;>cases a;rfl
  ·cases a
  ·cases a
  ·cases a
  ·cases a;rfl
 ·cases a;rfl
theorem z9s{args:List Operand}{ts:List TypeId}{f:Call->TT AV d->Hp->R1}(a:aBa P d n args ts=.e f):f O L H=.bad:=by
 unfold aBa at a;split at a
 ·split at a
  ·cases a
  ·cases a
  ·cases a;rfl
 ·cases a;rfl
theorem z8d{args:List Operand}{f:Call->TT AV d->Hp->R1}(a:aBk d n args=.e f):f O L H=.bad:=by
 unfold aBk at a;split at a
 ·cases a
 ·cases a;rfl
theorem z8f{args:List Operand}{f:Call->TT AV d->Hp->R1}(a:aAN d n args=.e f):f O L H=.bad:=by
 unfold aAN at a;split at a
 ·cases a
 ·cases a;rfl
theorem zbk{b:Builtin}{args:Array Operand}{ts:Array TypeId}(e:o.op=.call {callee:=.builtin b,args,argTypes:=ts}){f:Call->TT AV d->Hp->R1}(c:qhw P d n b args.toList ts.toList=.e f)(g:HR ι H w)(h:LR ι d n L a.tmps):VOk P o a.eval ι H w (f O L H):=by
 unfold qhw at c;split at c
 ·rw[z8s c];trivial
 ·rw[z9s c];trivial
 ·rw[z8d c];trivial
 ·rw[z8f c];trivial
 ·exact z9y (by simpa using e) c g h
 ·exact z9p (by simpa using e) c g h
 ·cases c;trivial
theorem z7t{f:Call->TT AV d->Hp->R1}(b:lJ P d n o=.e f)(C:qet P O)(t:Fence.dW F)(q:HR ι H w)(h:LR ι d n L a.tmps){v:AV}{D:Hp}(l:f O L H=.ok v D)(u:Nx ι H w a o v D next):o.wpIn F m P a w next Q:=by
 have i:iH d=.e f->False:=fun e=>by cases e;cases l
 unfold lJ at b;split at b
 ·cases b
 ·cases b
 ·cases b
 ·unfold q7p at b;split at b
  ·cases b
  ·exact(i b).elim
 ·unfold aFt at b;split at b
  ·cases b
  ·cases b
  ·exact(i b).elim
 ·unfold q7o at b;split at b
  ·split at b
   ·split at b
    ·cases b
    ·exact(i b).elim
   ·exact(i b).elim
  ·split at b
   ·split at b
    ·cases b
    ·exact(i b).elim
   ·exact(i b).elim
  ·exact(i b).elim
 ·unfold qfo at b;split at b
  ·split at b
   ·rename_i s z k p;cases B:(Nat.ble (_*s) 65536&&Nat.beq z.length s)with
    |false=>rw[B]at b;exact(i b).elim
    |true=>
     rw[B]at b;simp only[uB]at b;split at b
     ·cases b
     ·exact(i b).elim
   ·exact(i b).elim
  ·exact(i b).elim
 ·unfold zr7 at b;split at b
  ·cases b
  ·cases b
  ·exact(i b).elim
 ·rename_i j;refine qe1 t (by intro c;rw[j];exact fun h=>by cases h) ?_ u;unfold q7h at b;split at b
  ·rename_i r k p y;cases b;have:=ztt (P:=P) j k q h;rw[p,y]at this;rw[<-l];exact this
  ·rename_i r k p y;cases b;have:=ztu (P:=P) j k q h;rw[p,y]at this;rw[<-l];exact this
  ·exact(i b).elim
 ·cases b
 ·cases b
 ·cases b
 ·unfold qnd at b;split at b
  ·cases b
  ·cases b
  ·exact(i b).elim
 ·unfold qdi at b;split at b
  ·exact(i b).elim
  ·cases b
  ·exact(i b).elim
 ·cases b
 ·cases b
 ·unfold qhh at b;split at b
  ·split at b
   ·rename_i z w' s y A G;cases B:Nat.beq z.length s with
    |false=>rw[B]at b;exact(i b).elim
    |true=>rw[B]at b;cases b
   ·exact(i b).elim
  ·exact(i b).elim
 ·unfold q7i at b;split at b
  ·split at b
   ·cases b
   ·exact(i b).elim
  ·split at b
   ·cases b
   ·exact(i b).elim
  ·exact(i b).elim
 ·unfold qhj at b;split at b
  ·split at b
   ·split at b
    ·cases b
    ·exact(i b).elim
   ·exact(i b).elim
  ·exact(i b).elim
 ·unfold q7l at b;split at b
  ·split at b
   ·cases b
   ·exact(i b).elim
  ·exact(i b).elim
 ·unfold qhi at b;split at b
  ·split at b
   ·cases b
   ·exact(i b).elim
  ·split at b
   ·cases b
   ·exact(i b).elim
  ·exact(i b).elim
 ·unfold q7k at b;split at b
  ·cases b
  ·split at b
   ·cases b
   ·exact(i b).elim
  ·exact(i b).elim
 ·unfold qux at b;split at b
  ·split at b
   ·cases b
   ·exact(i b).elim
  ·exact(i b).elim
 ·rename_i j;refine qe1 t (by intro c;rw[j];exact fun h=>by cases h) ?_ u;unfold qd1 at b;split at b
  ·rename_i r k p y;split at b
   ·rename_i A;cases b;have:=z9j (P:=P) (.inl j) r A q h;rw[k,p,y]at this;rw[<-l];exact this
   ·exact(i b).elim
  ·exact(i b).elim
 ·rename_i j;refine qe1 t (by intro c;rw[j];exact fun h=>by cases h) ?_ u;unfold qd1 at b;split at b
  ·rename_i r k p y;split at b
   ·rename_i A;cases b;have:=z9j (P:=P) (.inr j) r A q h;rw[k,p,y]at this;rw[<-l];exact this
   ·exact(i b).elim
  ·exact(i b).elim
 ·rename_i j;refine qe1 t (by intro c;rw[j];exact fun h=>by cases h) ?_ u;unfold qjm at b;split at b
  ·rename_i r k p;split at b
   ·rename_i A G;cases b;have:=z4a (P:=P) j r A G q h;rw[k,p]at this;rw[<-l];exact this
   ·exact(i b).elim
  ·exact(i b).elim
 ·rename_i j;refine qe1 t (by intro c;rw[j];exact fun h=>by cases h) ?_ u;cases b;rw[<-l];exact zl3 j q h
 ·cases b
 ·rename_i j;refine qe1 t (by intro c;rw[j];exact fun h=>by cases h) ?_ u;rw[<-l];exact zbk j b q h
 ·rename_i g args ts j;unfold q7n at b;split at b
  ·cases b
  ·rename_i I r k;cases b;have E:=qc8 h args.toList;rw[r]at E;refine zh3 t j rfl C q (fv:=.fn g [] []) ?_ E ?_ u
   ·simp only[aO,aL];exact⟨[],[],rfl,rfl,rfl⟩
   ·simpa [wY] using l
 ·rename_i x args ts _ j;cases b;exact zh3 t j rfl C q (fK h x) (qc8 h _) l u
 ·exact(i b).elim
end Go.Ev
end
section
namespace Go.Ev
open Go.RowKit
variable {P:Program} {w:World} {ι:Im} {o:Oper} {a:Act} {d n:Nat} {L:TT AV d} {H:Hp} {O:Call} {F:Fence} {m:Nat} {K:Act->World->Prop} {Q:Exit->Act->World->Prop} {ops:Array Oper}
theorem qim(h:LR ι d n L a.tmps)(t:Option Tmp){v:AV}{V:Value}(c:aO ι v V):LR ι d n ((eG d n t).f L v) (a.put t V).tmps:=by
 cases t with
 |none=>exact h
 |some t=>
  unfold eG;simp only[Act.put];cases b:Nat.blt t n with
  |true=>simp only[uB];exact h.set (yE b) c
  |false=>rw[Array.setIfInBounds_eq_of_size_le (by rw[h.size];exact lAI (zbn b))];exact h
theorem put_defers(a:Act)(t:Option Tmp)(V:Value):(a.put t V).defers=a.defers:=by cases t<;>rfl
theorem qje(h:LR ι d n L a.tmps){b:Bool}(c:(xW d n ops o).f L=some b):Region.wanted o (yielded ops a.tmps)=b:=by
 unfold xW at c;unfold Region.wanted;split at c
 ·rename_i l;rw[l];simpa using c
 ·rename_i j e l;rw[l];simp only;split at c
  ·rename_i t q;cases m:Nat.blt t n with
   |false=>rw[m]at c;cases c
   |true=>
    rw[m]at c;simp only[uB]at c;have i:=yE m;have g:=h.get t i;have p:yielded ops a.tmps j=(match a.tmps[t]? with|some (.bool b)=>some b|_=>none):=by unfold yielded;rw[q];rfl
    have k:t<a.tmps.size:=by rw[h.size];exact i
    rw[p];rw[zu,bu k]at g;rw[bu k];simp only[Option.getD_some]at g;split at c
    ·rename_i r f;rw[f]at g;rw[g];simp only[qo]at c;rw[<-c];cases r<;>cases e<;>rfl
    ·rename_i f;rw[f]at g;rw[g];simp only[qo]at c;rw[<-c];cases e<;>rfl
    ·cases c
  ·cases c
def Then(ι:Im)(H:Hp)(w:World)(a:Act)(d n:Nat)(L':TT AV d)(H':Hp)(K:Act->World->Prop):Prop:=
 ∀a' w' ι',LR ι' d n L' a'.tmps->a'.defers=a.defers->HR ι' H' w'->Fr ι ι' H H' w w'->K a' w'
theorem aOs{lk:Bool}{f:Nat->TT AV d->Hp->R0}(p:lJ P d n o=.q lk f)(C:Fence.dW F)(j:HR ι H w)(h:LR ι d n L a.tmps){i:TT AV d->AV->TT AV d}(N:eG d n o.dst=⟨i⟩){z:TT AV d}{A:Hp}(k:doQ i L H (f H.nx L H)=.ok z A)(B:Then ι H w a d n z A K):o.wpIn F m P a w K Q:=by
 have q:=z3b (nm:=H.nx) p j h;have t:∀ c,o.op≠ .defer c:=fun c D=>by unfold lJ at p;rw[D]at p;cases p
 have e:∀{r:Im} (_:ι.le r) {v:AV} {V:Value},aO r v V->LR r d n (i L v) (a.put o.dst V).tmps:=fun s v V E=>by have:=qim (a:=a) (h.mono s) o.dst E;simp_all
 refine⟨fun f _=>C.fn f,?_⟩;rw[qde t];unfold doQ at k;split at k
 ·cases k
 ·rename_i v x;rw[x]at q;obtain⟨V,y,g⟩:=q;rw[y];cases k;exact B _ _ ι (e (Im.le_refl _) g) (put_defers ..) j (Fr.refl ..)
 ·rename_i v b x;rw[x]at q
  ·
   cases k;obtain⟨V,w',l,y,g,G⟩:=q;rw[y];have u:eT (H.nx):=p8;obtain⟨I,J⟩:=G (ι.set H.nx l) (Im.jI l (j.fresh _ (lu _))) (Im.dA ..);obtain⟨M,k2⟩:=j.push u l b g.os g.tape g.output (by rw[g.size];exact ig _) g.keep g.blk J;exact B _ _ _ (e (Im.jI l (j.fresh _ (lu _))) I) (put_defers ..) M k2
theorem zrw(C:qet P O)(l:Fence.dW F)(s:HR ι H w)(h:LR ι d n L a.tmps){t:TT AV d}{u:Hp}(e:(q28 P d n ops o).f O L H=.ok t u)(x:Then ι H w a d n t u K):if Region.wanted o (yielded ops a.tmps)then o.wpIn F m P a w K Q else(∀f,o.about P w a.eval=some f->F.fn f)/\K (a.put o.dst Go.undef) w:=by
 have i:∀{b:TT AV d->AV->TT AV d} (_:eG d n o.dst=⟨b⟩) {k:Im} (_:ι.le k) {v:AV} {V:Value},aO k v V->LR k d n (b L v) (a.put o.dst V).tmps:=fun g k z v V D=>by have:=qim (a:=a) (h.mono z) o.dst D;simp_all
 have p:∀{b:TT AV d->AV->TT AV d} (_:eG d n o.dst=⟨b⟩),t=b L .undef->u=H->K (a.put o.dst Go.undef) w:=fun g E G=>by subst E;subst G;exact x _ _ ι (i g (Im.le_refl _) (by simp only[aO];rfl)) (put_defers ..) s (Fr.refl ..)
 have B:∀{b:TT AV d->AV->TT AV d} (_:eG d n o.dst=⟨b⟩) {f:Call->TT AV d->Hp->R1} (_:lJ P d n o=.e f),doE b L (f O L H)=.ok t u->o.wpIn F m P a w K Q:=fun g f j y=>by
  unfold doE at y;split at y
  ·cases y
  ·rename_i v H1 M;cases y;exact z7t j C l s h M fun V w' k I J A=>x _ _ k (i g A.le I) (put_defers ..) J A
 unfold q28 at e;split at e
 ·rename_i f b j q g;simp only[Region.wanted,q,mg];exact aOs j l s h g e x
 ·rename_i f b j q g;simp only[Region.wanted,q,mg];simp_all
 ·rename_i f _ N b j q r g;simp only[ifW]at e;split at e
  ·rename_i c;rw[qje (o:=o) (ops:=ops) h (by rw[r];exact c),qj rfl];exact aOs j l s h g e x
  ·rename_i c;rw[qje (o:=o) (ops:=ops) h (by rw[r];exact c)];cases e;exact⟨fun f _=>l.fn f,p g rfl rfl⟩
  ·cases e
 ·rename_i f _ N b j q r g;simp only[ifW]at e;split at e
  ·rename_i c;rw[qje (o:=o) (ops:=ops) h (by rw[r];exact c),qj rfl];simp_all
  ·rename_i c;rw[qje (o:=o) (ops:=ops) h (by rw[r];exact c)];cases e;exact⟨fun f _=>l.fn f,p g rfl rfl⟩
  ·cases e
end Go.Ev
end
section
namespace Go.Ev
open Go.RowKit
/- bits -/
theorem qp0(m i:Nat):hasB m i=m.testBit i:=by unfold hasB Nat.testBit;rw[show Nat.land (Nat.shiftRight m i) 1=(m >>> i) &&& 1 from rfl,Nat.and_comm 1,Nat.and_one_is_mod];rcases Nat.mod_two_eq_zero_or_one (m >>> i)with h|h<;>rw[h]<;>rfl
theorem qvu(a b i:Nat):hasB (Nat.lor a b) i=(hasB a i||hasB b i):=by simp only[qp0];exact Nat.testBit_or a b i
theorem qgw(m j i:Nat):hasB (vO m j) i=(hasB m i||decide (j=i)):=by unfold vO;rw[qvu];congr 1;rw[qp0,show Nat.shiftLeft 1 j=1 <<< j from rfl,Nat.one_shiftLeft,Nat.testBit_two_pow]
theorem qy7(i:Nat):hasB 0 i=false:=by rw[qp0];exact Nat.zero_testBit i
theorem zrv{m k:Nat}(h:aCP m k=true){i:Nat}(a:hasB m i=true):hasB k i=true:=by have:=rf h;rw[<-this,qvu,a];rfl
/- masks -/
theorem qlu(l:List Oper):∀ ms i,i<ms.length->(qbt ms l).getD i 0=ms.getD i 0:=by
 induction l with
 |nil=>intro ms i _;rfl
 |cons o r ih=>intro ms i a;rw[qbt,ih _ _ (by simp;omega),gy,gy,uj a]
theorem qh4{ms a:List Nat}:∀(l:List Nat) (s:Nat),(∀j∈l,ms.getD j 0=a.getD j 0) -> l.foldl (fun s j=>Nat.lor (vO s j) (ms.getD j 0)) s=l.foldl (fun s j=>Nat.lor (vO s j) (a.getD j 0)) s
 | [],_,_=>rfl
 |j::l,s,h=>by simp only[lEI];rw[h j (by simp)];exact qh4 l _ fun x b=>h x (by simp[b])
theorem qyx(l:List Oper):∀ ms i o,l[i]? =some o->(∀j∈yS o,j<ms.length+i)->(qbt ms l).getD (ms.length+i) 0=qsh (qbt ms l) o:=by
 induction l with
 |nil=>intro ms i o h;simp at h
 |cons o' r ih=>
  intro ms i o h b;rw[qbt];cases i with
  |zero=>simp at h;subst h;rw[zt,qlu _ _ _ (by simp)];simp only[gy,List.getElem?_concat_length,Option.getD_some];refine qh4 _ _ fun j a=>?_;have:=b j a;rw[qlu _ _ _ (by simp;omega),gy,gy,uj this]
  |succ i=>have:=ih (ms++[qsh ms o']) i o h (fun j a=>by have:=b j a;simp;omega);rw[show(ms++[qsh ms o']).length+i=ms.length+(i+1)by simp;omega]at this;exact this
theorem qy8(ms:List Nat)(k:Nat):∀(l:List Nat) (s:Nat),hasB (l.foldl (fun s j=>Nat.lor (vO s j) (ms.getD j 0)) s) k=true↔hasB s k=true\/∃ j∈l,k=j\/hasB (ms.getD j 0) k=true
 | [],s=>by simp
 |j::l,s=>by
  rw[lEI,qy8 ms k l,qvu,qgw];simp only[ah,yc,su,exists_eq_or_imp];constructor
  ·rintro (((h|h)|h)|h)
   ·exact .inl h
   ·omega
   ·simp_all
   ·simp_all
  ·rintro (h|(h|h)|h)
   ·simp_all
   ·omega
   ·simp_all
   ·exact .inr h
theorem q39(ms:List Nat)(o:Oper)(k:Nat):hasB (qsh ms o) k=true↔∃ j∈yS o,k=j\/hasB (ms.getD j 0) k=true:=by unfold qsh;rw[qy8,qy7];simp
theorem qzu:∀(l:List Oper) (k:Nat),qsx k l=true->∀ i o,l[i]? =some o->∀ j∈yS o,j<k+i
 | [],_,_,i,o,h,j,hj=>by simp at h
 |o'::r,k,hb,i,o,h,j,hj=>by
  simp only[qsx,qh,vk]at hb;cases i with
  |zero=>simp at h;subst h;exact yg (hb.1 j hj)
  |succ i=>simp at h;have:=qzu r (k+1) hb.2 i o h j hj;omega
structure Edg(ops:Array Oper)(ms:List Nat):Prop where
 back:∀ i o,ops[i]? =some o->∀ j∈yS o,j<i
 mask:∀ i o k,ops[i]? =some o->(hasB (ms.getD i 0) k=true↔∃ j∈yS o,k=j\/hasB (ms.getD j 0) k=true)
 tmps:∀ i k o' o t,ops[i]? =some o'->ops[k]? =some o->o'.dst=some t->i=k\/hasB (ms.getD k 0) i=true\/hasB (ms.getD i 0) k=true\/(t∉lX ops o/\o.dst≠some t)
theorem Edg.of{ops:Array Oper}(n:qsx 0 ops.toList=true)(b:q63 ops (qbt [] ops.toList)=true):Edg ops (qbt [] ops.toList):=by
 have m:∀ i o,ops[i]? =some o->∀ j∈yS o,j<i:=fun i o h j c=>by have:=qzu ops.toList 0 n i o (by simpa using h) j c;omega
 refine⟨m,fun i o k h=>?_,fun i k q o t g l p=>?_⟩
 ·have:=qyx ops.toList [] i o (by simpa using h) (fun j c=>by have:=m i o h j c;simpa using this);simp only[uo,qg]at this;rw[this,q39]
 ·unfold q63 at b;rw[vk]at b;have d:k<ops.size:=(au.1 l).1;have e:i<ops.size:=(au.1 g).1;have f:=b k (xg.2 d);rw[l]at f;simp only[vk]at f;have a:=f i (xg.2 e);rw[g]at a;simp only[p,ah,yh,lAS]at a;rcases a with((a|a)|a)|a
  ·simp_all
  ·simp_all
  ·simp_all
  ·simp_all
variable {ops:Array Oper} {ms:List Nat}
theorem Edg.ex(h:Edg ops ms){i j:Nat}{o:Oper}(a:ops[i]? =some o)(b:j∈yS o):∃ c,ops[j]? =some c:=by have d:=h.back i o a j b;have e:i<ops.size:=(au.1 a).1;exact⟨ops[j]'(by omega),bu (by omega)⟩
theorem Edg.aJt(h:Edg ops ms):∀ i o k,ops[i]? =some o->hasB (ms.getD i 0) k=true->k<i:=by
 intro i
 induction i using Nat.strongRecOn with
 |ind i ih=>
  intro o k b f;obtain⟨j,e,c⟩:=(h.mask i o k b).1 f;have a:=h.back i o b j e;rcases c with rfl|c
  ·exact a
  ·obtain⟨g,d⟩:=h.ex b e;exact lE5 (ih j a g k d c) a
def Shut(ops:Array Oper)(S:Nat->Prop):Prop:=∀ i o,ops[i]? =some o->S i->∀ j∈yS o,S j
theorem Edg.yD(h:Edg ops ms){S:Nat->Prop}(l:Shut ops S):∀ i o k,ops[i]? =some o->(∀j∈yS o,S j)->hasB (ms.getD i 0) k=true->S k:=by
 intro i
 induction i using Nat.strongRecOn with
 |ind i ih=>
  intro o k d f m;obtain⟨j,b,e⟩:=(h.mask i o k d).1 m;have c:=h.back i o d j b;rcases e with rfl|e
  ·exact f _ b
  ·obtain⟨g,a⟩:=h.ex d b;exact ih j c g k a (l j g a (f j b)) e
theorem Edg.uF(h:Edg ops ms){S:Nat->Prop}(a:Shut ops S){i:Nat}{o:Oper}{k:Nat}(b:ops[i]? =some o)(c:S i)(d:hasB (ms.getD i 0) k=true):S k:=
 h.yD a i o k b (a i o b c) d
/- projections -/
theorem qpb{d n:Nat}{L a:TT AV d}:∀(ts:List Tmp),(∀t∈ts,t<n->(dR d t).f L=(dR d t).f a)->(oG d n ts).f L=(oG d n ts).f a
 | [],_=>rfl
 |t::r,h=>by
  unfold oG;have ih:=qpb r fun x b=>h x (by simp[b]);cases c:Nat.blt t n with
  |true=>simp_all
  |false=>simp only[af];exact ih
theorem qyb{d n:Nat}(c:n<=8 ^ d){L:TT AV d}{i:Nat}(b:i<8 ^ d):∀(ts:List Tmp),(dR d i).f ((oG d n ts).f L)=if i∈ts/\i<n then(dR d i).f L else .undef
 | []=>by simp[oG,qhp]
 |t::r=>by
  unfold oG;have ih:=qyb (n:=n) c (L:=L) b r;cases a:Nat.blt t n with
  |true=>
   simp only[uB];rw[qex _ _ _ _ _ b (by have:=yE a;omega)];by_cases e:i=t
   ·simp_all
   ·simp_all
  |false=>
   simp only[af];rw[ih];have a:=zbn a;by_cases e:i=t
   ·subst e;simp[a]
   ·simp[e]
def qin(ts:List Tmp)(tmps:Array Value):Array Value:=Array.ofFn (n:=tmps.size) fun i=>if i.1∈ts then tmps[i]else Go.undef
theorem qhn(ts:List Tmp)(tmps:Array Value):(qin ts tmps).size=tmps.size:=by simp[qin]
theorem qpa(ts:List Tmp)(tmps:Array Value)(i:Nat):(qin ts tmps).getD i Go.undef=if i∈ts then tmps.getD i Go.undef else Go.undef:=by
 simp only[qin,zu,Array.getElem?_ofFn];by_cases h:i<tmps.size
 ·simp_all
 ·rw[dif_neg h];simp[lE3 (lAI h)]
theorem LR.proj{ι:Im}{d n:Nat}{L:TT AV d}{tmps:Array Value}(h:LR ι d n L tmps)(ts:List Tmp):LR ι d n ((oG d n ts).f L) (qin ts tmps):=by
 refine⟨by rw[qhn,h.size],h.fits,fun i a=>?_⟩;rw[qyb h.fit (ku a h.fit),qpa];have c:=h.get i a;by_cases b:i∈ts
 ·by_cases e:i<n
  ·simp_all
  ·omega
 ·rw[pg (by simp[b]),pg b];simp only[aO];rfl
theorem zls(a:Act)(ts:List Tmp)(x:Operand)(b:∀ t,z6g x=some t->t∈ts):({a with tmps:=qin ts a.tmps}:Act).eval x=a.eval x:=by
 cases x with
 |tmp t=>have:=b t rfl;show(qin ts a.tmps).getD t Go.undef=a.tmps.getD t Go.undef;rw[qpa,qj this]
 |_=>rfl
theorem qw5(a:Act)(o:Oper):Region.wanted o (yielded ops (qin (lX ops o) a.tmps))=Region.wanted o (yielded ops a.tmps):=by
 unfold Region.wanted;cases i:o.guard with
 |none=>rfl
 |some gw=>
  obtain⟨g,e⟩:=gw;have f:yielded ops (qin (lX ops o) a.tmps) g=yielded ops a.tmps g:=by
   unfold yielded;cases j:(ops[g]?).bind (·.dst)with
   |none=>rfl
   |some t=>
    have h:t∈lX ops o:=by simp[lX,i,j]
    show(match(qin (lX ops o) a.tmps)[t]? with|some (.bool b)=>some b|_=>none)=(match a.tmps[t]? with|some (.bool b)=>some b|_=>none);have d:=qpa (lX ops o) a.tmps t;rw[qj h]at d;rw[zu,zu]at d;by_cases c:t<a.tmps.size
    ·rw[bu (by rw[qhn];exact c),bu c]at d ⊢;simp_all
    ·rw[lE3 (by rw[qhn];exact lAI c),lE3 (lAI c)]
  simp only[f]
theorem qp7(a:Act)(o:Oper)(c:∀ cs b,o.op≠ .select cs b):execOp ({a with tmps:=qin (lX ops o) a.tmps}:Act).eval o=execOp a.eval o:=
 execOp_congr o c fun x d=>zls a _ x fun t e=>by exact bz _ (List.mem_filterMap.2 ⟨x,by simpa using d,e⟩)
/- a quiet operation that does not look -/
theorem q34{P:Program}{d n:Nat}{args:List Operand}{ts:List TypeId}{f:Nat->TT AV d->Hp->R0}(a:aBv P d n args ts=.q false f)(nm:Nat)(L:TT AV d)(H b:Hp):f nm L H=f nm L b:=by
 unfold aBv at a;split at a
 ·split at a
  ·cases a;rfl
  ·split at a<;>cases a;rfl
  ·cases a;rfl
  ·cases a;rfl
  ·cases a
  ·cases a
 ·cases a
theorem qsb{P:Program}{d n:Nat}{o:Oper}{f:Nat->TT AV d->Hp->R0}(a:lJ P d n o=.q false f)(nm:Nat)(L:TT AV d)(H b:Hp):f nm L H=f nm L b:=by
 unfold lJ at a;split at a
 all_goals first
  |(cases a;done)
  |(cases a;rfl)
  |((first|unfold z6v at a|unfold z6u at a|unfold q7p at a|unfold aFt at a|unfold q7o at a|unfold zr7 at a|unfold q7h at a|unfold qxy at a|unfold zxn at a|unfold z6s at a|unfold qnd at a|unfold qdi at a|unfold qxz at a|unfold q7j at a|unfold q7i at a|unfold qhj at a|unfold q7l at a|unfold qhi at a|unfold q7k at a|unfold qux at a|unfold qd1 at a|unfold qjm at a|unfold qo2 at a|unfold q7m at a|unfold aBa at a|unfold aBk at a|unfold aAN at a|unfold aBn at a|unfold aAV at a|unfold q7n at a);(repeat' split at a)<;>first|(cases a;done)|(cases a;rfl))
  |(unfold qfo at a;simp only[Bool.cond_eq_ite]at a;(repeat' split at a)<;>first|(cases a;done)|(cases a;rfl))
  |(unfold qhh at a;simp only[Bool.cond_eq_ite]at a;(repeat' split at a)<;>first|(cases a;done)|(cases a;rfl))
  |skip
 unfold qhw at a;split at a
 ·exact q34 a nm L H b
 all_goals first
  |(cases a;done)
  |((first|unfold aBa at a|unfold aBk at a|unfold aAN at a|unfold aBn at a|unfold aAV at a);(repeat' split at a)<;>first|(cases a;done)|(cases a;rfl))
end Go.Ev
end
section
namespace Go.Ev
open Go.RowKit
structure CS(d:Nat) where
 L:TT AV d
 H:Hp
 pend:List Pd
 jM:List Wt
variable {P:Program} {d n:Nat} {O:Call} {base:Nat} {ops:Array Oper} {ms:List Nat}
theorem qsa:∀(b:List Nat) (s:CS d) {c:TT AV d} {e:Hp} {f:List Pd} {w':List Wt},(vK P d n ops ms b).f O base s.L s.H s.pend s.jM=.ok c e f w' -> ∃a:Nat->CS d,a 0=s/\a b.length=⟨c,e,f,w'⟩/\∀ q i,b[q]? =some i->∃ o,ops[i]? =some o /\ (qxh P d n ops i (ms.getD i 0) o).f O base (a q).L (a q).H (a q).pend (a q).jM=.ok (a (q+1)).L (a (q+1)).H (a (q+1)).pend (a (q+1)).jM
 | [],s,c,e,f,w',h=>by cases h;exact⟨fun _=>s,rfl,rfl,fun q i g=>by simp at g⟩
 |i::r,s,c,e,f,w',h=>by
  unfold vK at h;split at h
  ·rename_i o m;simp only[z4r]at h;split at h
   ·cases h
   ·rename_i L1 H1 p1 w1 p;obtain⟨a,t,k,l⟩:=qsa r ⟨L1,H1,p1,w1⟩ h;refine⟨fun q=>match q with|0=>s|q+1=>a q,rfl,k,fun q j g=>?_⟩;cases q with
    |zero=>simp_all
    |succ q=>simp at g;exact l q j g
  ·cases h
inductive qlj(P:Program)(d n:Nat)(O:Call)(base:Nat)(ops:Array Oper)(i A:Nat)(o:Oper)(s s':CS d):AV->Option bW->Bool->Prop
 |skip:(xW d n ops o).f ((oG d n (lX ops o)).f s.L)=some false->s'=⟨(eG d n o.dst).f s.L .undef,s.H,s.pend,s.jM⟩->qlj P d n O base ops i A o s s' .undef none false
 |val (lk:Bool) (f:Nat->TT AV d->Hp->R0) (v:AV):lJ P d n o=.q lk f->(xW d n ops o).f ((oG d n (lX ops o)).f s.L)=some true ->
   f (base+i) ((oG d n (lX ops o)).f s.L) (dZ A s.pend s.H)=.val v ->
   s'=⟨(eG d n o.dst).f s.L v,s.H,s.pend,bif lk then⟨i,A,f (base+i) ((oG d n (lX ops o)).f s.L),v⟩::s.jM else s.jM⟩->qlj P d n O base ops i A o s s' v none false
 |new (f:Nat->TT AV d->Hp->R0) (v:AV) (b:bW):lJ P d n o=.q false f->qh7 o.op=true->b.wr=true->(xW d n ops o).f ((oG d n (lX ops o)).f s.L)=some true ->
   f (base+i) ((oG d n (lX ops o)).f s.L) (dZ A s.pend s.H)=.new v b ->
   s'=⟨(eG d n o.dst).f s.L v,s.H,⟨i,base+i,b⟩::s.pend,s.jM⟩->qlj P d n O base ops i A o s s' v (some b) false
 |nH (f:Call->TT AV d->Hp->R1) (v:AV) (H':Hp):lJ P d n o=.e f->(xW d n ops o).f ((oG d n (lX ops o)).f s.L)=some true ->
   f O ((oG d n (lX ops o)).f s.L) (dZ A s.pend s.H)=.ok v H'->qjc (sG A s.pend) H' (rP A s.jM)=true ->
   s'=⟨(eG d n o.dst).f s.L v,H',sG A s.pend,rP A s.jM⟩->qlj P d n O base ops i A o s s' v none true
theorem zrx{i A:Nat}{o:Oper}{s a:CS d}(h:(qxh P d n ops i A o).f O base s.L s.H s.pend s.jM=.ok a.L a.H a.pend a.jM):∃v b k,qlj P d n O base ops i A o s a v b k:=by
 unfold qxh at h;split at h
 ·rename_i lk f x w j q y z B;simp only at h;unfold qX at h;have c:(oG d n (lX ops o)).f=x:=by rw[y]
  have l:(xW d n ops o).f=w:=by rw[z]
  have m:(eG d n o.dst).f=j:=by rw[B]
  split at h
  ·cases h
  ·rename_i e;obtain⟨r,t,u,w'⟩:=a;cases h;exact⟨_,_,_,.skip (by rw[c,l];exact e) (by rw[m])⟩
  ·rename_i e;split at h
   ·cases h
   ·rename_i v p;obtain⟨r,t,u,w'⟩:=a;cases h;exact⟨_,_,_,.val lk f v q (by rw[c,l];exact e) (by rw[c];exact p) (by rw[m,c];rfl)⟩
   ·rename_i v b p;cases g:(qh7 o.op&& !lk&&b.wr)with
    |false=>rw[g]at h;cases h
    |true=>rw[g]at h;simp only[qh,yh]at g;obtain⟨⟨C,D⟩,E⟩:=g;subst D;obtain⟨r,t,u,w'⟩:=a;cases h;exact⟨_,_,_,.new f v b q C E (by rw[c,l];exact e) (by rw[c];exact p) (by rw[m])⟩
 ·rename_i f x w j q y z B;simp only at h;unfold eX at h;have c:(oG d n (lX ops o)).f=x:=by rw[y]
  have l:(xW d n ops o).f=w:=by rw[z]
  have m:(eG d n o.dst).f=j:=by rw[B]
  split at h
  ·cases h
  ·rename_i e;obtain⟨r,t,u,w'⟩:=a;cases h;exact⟨_,_,_,.skip (by rw[c,l];exact e) (by rw[m])⟩
  ·rename_i e;split at h
   ·cases h
   ·rename_i v H1 p;cases g:qjc (sG A s.pend) H1 (rP A s.jM)with
    |false=>rw[g]at h;cases h
    |true=>rw[g]at h;simp only[uB]at h;obtain⟨r,t,u,w'⟩:=a;simp only[Rx.ok.injEq]at h;obtain⟨g1,g2,g3,g4⟩:=h;subst g1;subst g2;subst g3;subst g4;exact⟨_,_,_,.nH f v _ q (by rw[c,l];exact e) (by rw[c];exact p) g (by rw[m])⟩
theorem qy1(l:List Oper):∀(k i:Nat) (o:Oper),l[i]? =some o->(qsi P d n ms k l)[i]? =some (Kd.mk (k+i) (ms.getD (k+i) 0) (isE (lJ P d n o)) (aF0 (lJ P d n o))):=by
 induction l with
 |nil=>intro k i o h;simp at h
 |cons o' r ih=>
  intro k i o h;cases i with
  |zero=>simp at h;subst h;simp[qsi]
  |succ i=>simp only[qsi,lAY];rw[ih (k+1) i o h,show k+1+i=k+(i+1)by omega]
theorem qyd{ks:List Kd}:∀(l:List Nat) (D E:Nat),qye ops ks D E l=true->∀ q i,l[q]? =some i->∃ o k,ops[i]? =some o/\ks[i]? =some k /\ (∀j∈yS o,hasB D j=true\/j∈l.take q)/\hasB D i=false/\i∉l.take q /\ ((k.nH=true\/k.lk=true)->∀ e,(hasB E e=true\/(e∈l.take q/\∃ m,ks[e]? =some m/\m.nH=true))->hasB k.A e=true)
 | [],D,E,h,q,i,hq=>by simp at hq
 |i'::r,D,E,h,q,i,hq=>by
  unfold qye at h;split at h
  ·rename_i o k u s;simp only[qh,vk,yh,ah]at h;obtain⟨⟨⟨v,w⟩,d⟩,x⟩:=h;cases q with
   |zero=>
    simp at hq;subst hq;refine⟨o,k,u,s,fun j g=>.inl (v j g),w,by simp,fun p e a=>?_⟩;have t:aCP E k.A=true:=by
     rcases d with d|d
     ·simp_all
     ·exact d
    rcases a with a|a
    ·exact zrv t a
    ·simp at a
   |succ q=>
    obtain⟨y,z,A,B,C,f,F,G⟩:=qyd r _ _ x q i hq;rw[qgw]at f;simp only[lAS,zf]at f;refine⟨y,z,A,B,fun j g=>?_,f.1,?_,fun p e a=>G p e ?_⟩
    ·rcases C j g with b|b
     ·rw[qgw]at b;simp only[ah,yc]at b;rcases b with b|b
      ·exact .inl b
      ·simp_all
     ·simp_all
    ·simp only[iq,su,not_or];exact⟨fun e=>f.2 e.symm,F⟩
    ·rcases a with a|⟨a,m,c,n⟩
     ·left;cases k.nH with
      |true=>simp only[uB];rw[qgw,a];rfl
      |false=>exact a
     ·simp only[iq,su]at a;rcases a with rfl|a
      ·left;rw[s]at c;cases c;rw[n];simp only[uB];rw[qgw];simp
      ·simp_all
  ·cases h
theorem qve:∀(m:Nat) (l:List Nat),l.Nodup->(∀x∈l,x<m)->l.length<=m
 |0,l,_,h=>by
  cases l with
  |nil=>simp
  |cons a l=>have:=h a (by simp);omega
 |m+1,l,hn,h=>by
  by_cases d:m∈l
  ·have c:=qve m (l.erase m) (hn.erase m) fun x b=>by
    have:=(hn.mem_erase_iff).1 b;have:=h x this.2;omega
   simp_all
  ·have:=qve m l hn fun x b=>by
    have c:=h x b;have:x≠m:=fun e=>d (e▸b);omega
   omega
structure Can(P:Program)(d n:Nat)(O:Call)(base:Nat)(ops:Array Oper)(ms:List Nat)(st:Nat->CS d)(pos:Nat->Nat)(V:Nat->AV)(B:Nat->Option bW)(K:Nat->Bool):Prop where
 edg:Edg ops ms
 plt:∀ i,i<ops.size->pos i<ops.size
 inj:∀ i j,i<ops.size->j<ops.size->pos i=pos j->i=j
 aYz:∀ q,q<ops.size->∃ i,i<ops.size/\pos i=q
 step:∀ i o,ops[i]? =some o->qlj P d n O base ops i (ms.getD i 0) o (st (pos i)) (st (pos i+1)) (V i) (B i) (K i)
 edge:∀ i o,ops[i]? =some o->∀ j∈yS o,pos j<pos i
 nH:∀ i o e oe,ops[i]? =some o->ops[e]? =some oe->isE (lJ P d n oe)=true->(isE (lJ P d n o)=true\/aF0 (lJ P d n o)=true)->pos e<pos i->hasB (ms.getD i 0) e=true
theorem Can.of{pl:Pln}(t:q3u P d n ops=some pl){s:CS d}{X:TT AV d}{Y:Hp}{Z:List Pd}{w':List Wt}(h:(vK P d n ops pl.ms pl.ord).f O base s.L s.H s.pend s.jM=.ok X Y Z w'):∃w c V B K,Can P d n O base ops pl.ms w c V B K/\w 0=s/\w ops.size=⟨X,Y,Z,w'⟩/\pl.up=(bif ops.toList.any (fun o=>qh7 o.op)then ops.size else 0):=by
 unfold q3u at t;simp only at t;generalize W:qsi P d n (qbt [] ops.toList) 0 ops.toList=ks at t;generalize zj3 (zl2 ks) ks.length 0 ks=ord at t;cases N:(qsx 0 ops.toList&&q63 ops (qbt [] ops.toList)&&Nat.beq ord.length ops.size&&qye ops ks 0 0 ord)with
 |false=>rw[N]at t;cases t
 |true=>
  rw[N]at t;simp only[uB,qo]at t;subst t;simp only[qh]at N;obtain⟨⟨⟨c1,c2⟩,S⟩,c4⟩:=N;have S:=rf S;obtain⟨w,a1,a2,a3⟩:=qsa ord s h;have y:=qyd ord 0 0 c4;have z:ord.Nodup:=by refine yf.2 fun i j u p hij e=>?_;obtain⟨o,k,_,_,_,_,b5,_⟩:=y j ord[j] (lq p);apply b5;rw[<-e,List.mem_take_iff_getElem];exact⟨i,by omega,rfl⟩
  have A:∀ x∈ord,x<ops.size:=fun x D=>by obtain⟨q,G,e⟩:=ai D;obtain⟨o,k,L,_⟩:=y q x (by rw[lq G,e]);exact(au.1 L).1
  have J:∀ i,i<ops.size->i∈ord:=fun i u=>Classical.byContradiction fun Q=>by
   have:=qve ops.size (i::ord) (lAC.2 ⟨Q,z⟩) fun x D=>by
    rcases su.1 D with rfl|D
    ·exact u
    ·exact A x D
   simp at this;omega
  have g:∀ i,∃q v b k,i<ops.size->ord[q]? =some i/\∀ o,ops[i]? =some o->qlj P d n O base ops i ((qbt [] ops.toList).getD i 0) o (w q) (w (q+1)) v b k:=fun i=>by
   by_cases u:i<ops.size
   ·obtain⟨q,G,e⟩:=ai (J i u);have l:ord[q]? =some i:=by rw[lq G,e]
    obtain⟨o,f,hs⟩:=a3 q i l;obtain⟨v,b,k,hk⟩:=zrx hs;exact⟨q,v,b,k,fun _=>⟨l,fun o' E=>by rw[f]at E;cases E;exact hk⟩⟩
   ·exact⟨0,.undef,none,false,fun h=>absurd h u⟩
  let c:=fun i=>Classical.choose (g i)
  let V:=fun i=>Classical.choose (uw (g i))
  let B:=fun i=>Classical.choose (uw (uw (g i)))
  let K:=fun i=>Classical.choose (uw (uw (uw (g i))))
  have a:∀ i,i<ops.size->ord[c i]? =some i/\∀ o,ops[i]? =some o->qlj P d n O base ops i ((qbt [] ops.toList).getD i 0) o (w (c i)) (w (c i+1)) (V i) (B i) (K i):=fun i=>
   uw (uw (uw (uw (g i))))
  have m:∀{i o},ops[i]? =some o->i<ops.size:=fun h=>(au.1 h).1;have qvl:∀ j q,j<ops.size->j∈ord.take q->c j<q:=fun j q p F=>by
   rw[List.mem_take_iff_getElem]at F;obtain⟨x,D,e⟩:=F;have r:=(a j p).1;have T:ord[x]? =some j:=by rw[lq (by omega),e]
   have C:c j<ord.length:=(qp.1 r).1;have:c j=x:=(List.getElem?_inj C z).1 (r.trans T.symm);omega
  have U:∀ j q,j<ops.size->c j<q->j∈ord.take q:=fun j q p G=>by have r:=(a j p).1;obtain⟨hl,e⟩:=qp.1 r;rw[List.mem_take_iff_getElem];exact⟨c j,by omega,e⟩
  refine⟨w,c,V,B,K,⟨Edg.of c1 c2,fun i u=>?_,fun i j u p e=>?_,fun q G=>?_,fun i o f=>(a i (m f)).2 o f,fun i o f j p=>?_,fun i o e oe f H he R I=>?_⟩,a1,by rw[<-S];exact a2,rfl⟩
  ·have:=(qp.1 (a i u).1).1;omega
  ·have r:=(a i u).1;have T:=(a j p).1;rw[e,T]at r;cases r;rfl
  ·have l:q<ord.length:=by omega
   have F:ord[q]∈ord:=lg l;refine⟨ord[q],A _ F,?_⟩;have r:=(a _ (A _ F)).1;have C:=(qp.1 r).1;exact(List.getElem?_inj C z).1 (r.trans (lq l).symm)
  ·obtain⟨o',k,L,b2,b3,_⟩:=y (c i) i (a i (m f)).1;rw[f]at L;cases L;have hlj:j<ops.size:=lE5 ((Edg.of c1 c2).back i o f j p) (m f);rcases b3 j p with b|b
   ·rw[qy7]at b;cases b
   ·simp_all
  ·obtain⟨o',k,L,b2,b3,b4,b5,b6⟩:=y (c i) i (a i (m f)).1;have M:=qy1 (P:=P) (d:=d) (n:=n) (ms:=qbt [] ops.toList) ops.toList 0 i o (by simpa using f);have k2:=qy1 (P:=P) (d:=d) (n:=n) (ms:=qbt [] ops.toList) ops.toList 0 e oe (by simpa using H);rw[W]at M k2;rw[b2]at M;simp only[qg,qo]at M k2;subst M;exact b6 R e (.inr ⟨U e _ (m H) I,_,k2,he⟩)
end Go.Ev
end
