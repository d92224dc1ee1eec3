/-
 For TablesOf: the evaluator and its soundness, part 2 of 4: what a run of the abstract evaluator answers, the model's run answers, in every world and on every schedule. No conditions beyond those that each theorem states.
-/
import Derived.Test.YtlanjbacddlobaaGreatEv1
import Derived.Laws.NewFold
import Derived.Lib.Bytealg
import Derived.KernelRfl
import Derived.CallsIn
import Derived.OrdersIn
import Derived.TacticsIn
import Derived.RangeFuncLeaves
section
namespace Go.Ev
open Go.RowKit
variable {P:Program} {w:World} {ι:Im} {o:Oper} {a:Act} {nm:Nat} {d n:Nat} {L:TT AV d} {H:Hp}
theorem q2i{t e:TypeId}{len:Nat}{ps:Array (Nat×Operand)}(y:o.op=.buildSlice t len ps)(A:P.underlying t=some (.slice e)){z:List AV}(B:qkg P e=some z){s:Nat}(D:iM P e=some s)(j:z.length=s)(E:len*s<=65536){r:RdP d}(F:qsx d n (fun i=>some (i*s,s)) ps.toList=some r)(h:LR ι d n L a.tmps):iX P o a.eval ι w nm (vT len nm (cB (aZ z len) (r.f L))):=by
 obtain⟨g,J,u,K⟩:=qci (ι:=ι) B;have b:g.cells.toList.length=s:=by rw[u.length,j]
 cases Q:cB (aZ z len) (r.f L)with
 |none=>trivial
 |some c=>
  obtain⟨M,m,N,O⟩:=qex (C:=(gW g.cells.toList len).toArray) (qjy h _ _ _ F) (by simpa using qd2 u len) (fun v G=>K v (qgo (by simpa using G))) Q;refine⟨.slice (some ⟨w.heap.size,0,none⟩) len len,w.alloc (.cells M.toList.toArray e),⟨w.heap.size,0,0,0⟩,?_,New.alloc w _ 0 0,fun H k q=>⟨?_,qf4 N O e nm 0 H k q⟩⟩
  ·have f:¬(len*s>2 ^ 24):=by omega
   simp only[execOp,y,Instr.buildSlice,Sem.run_bind,dZ A,Result.andThen_ok,qA D,lEU f,Sem.run_pure,lUZ,Sem.run_ite];by_cases p:len*s=0
   ·have l:(gW g.cells.toList len)=[]:=lIG.1 (by rw[qb2,b,p]);rw[l]at m;have I:Array.map (fun x=>(#[]:Array Value)[x%(#[]:Array Value).size]!) (Array.range 0)= #[]:=by apply Array.ext';simp
    simp only[p,lU8];rw[I,m];rfl
   ·simp only[p,lX7,qc8 J,Result.andThen_ok];rw[range_zero g.cells len s (by simpa using b),m];rfl
  ·simp only[aR];exact⟨lEO _,_,q,by simp⟩
theorem z9c{t:TypeId}{x:Operand}{f:Nat}(i:o.op=.field t x f){c:Array Field}(j:P.underlying t=some (.struct c)){b:Field}(k:c[f]? =some b)(h:LR ι d n L a.tmps):iX P o a.eval ι w nm (zdu (ql4 P b.type) b.offset ((aJ d n x).f L)):=by
 have g:=gJ h x;unfold zdu;split
 ·rename_i l e;rw[e]at g;obtain⟨vs,m,p,q⟩:=qdw g;split
  ·rename_i v s;obtain⟨V,r,u⟩:=qlc m q s;exact⟨V,by simp[execOp,i,Instr.field,dZ j,k,p,asAgg,r],u⟩
  ·trivial
 ·trivial
theorem xct{t e:TypeId}{x y:Operand}(g:o.op=.index t x y){len:Nat}(j:P.underlying t=some (.array len e)){z:Nat}(m:iM P e=some z)(h:LR ι d n L a.tmps):iX P o a.eval ι w nm (aHP (ql4 P e) len z ((aJ d n x).f L) ((aJ d n y).f L)):=by
 have f:=gJ h x;have b:=gJ h y;unfold aHP;split
 ·rename_i l k i q s;rw[q]at f;rw[s]at b;simp only[aR]at b;obtain⟨vs,u,A,B⟩:=qdw f;cases E:Nat.blt i len with
  |false=>trivial
  |true=>
   have c:=xA E;split
   ·rename_i v C;obtain⟨V,r,D⟩:=qlc u B C;refine⟨V,?_,D⟩;have p:∀ w,(part e vs.toArray (i*z)).run P w=.ok V w:=r;simp[execOp,g,Instr.index,dZ j,A,b,asIntOf,qA m,c,p]
   ·trivial
 ·trivial
/- len, cap, min, max -/
theorem qvk{x:Operand}{t:TypeId}{m:Nat}(d:o.op=.call {callee:=.builtin .len,args:= #[x],argTypes:= #[t]})(c:(∃e,P.underlying t=some (.array m e))\/∃ b e,P.underlying t=some (.pointer b)/\P.underlying b=some (.array m e)):iX P o a.eval ι w nm (.val (i64 m)):=by
 refine⟨_,?_,zP _ _⟩;rcases c with⟨e,c⟩|⟨b,e,c,f⟩
 ·simp[execOp,d,resolve,invoke,builtin,Builtin.len_,dZ c,goInt]
 ·simp[execOp,d,resolve,invoke,builtin,Builtin.len_,dZ c,dZ f,goInt]
theorem ze7{x:Operand}{t:TypeId}{m:Nat}(c:o.op=.call {callee:=.builtin .cap,args:= #[x],argTypes:= #[t]})(b:∃ e,P.underlying t=some (.array m e)):iX P o a.eval ι w nm (.val (i64 m)):=by refine⟨_,?_,zP _ _⟩;obtain⟨e,b⟩:=b;simp[execOp,c,resolve,invoke,builtin,Builtin.cap_,dZ b,goInt]
theorem zxu{x:Operand}{t:TypeId}(c:o.op=.call {callee:=.builtin .len,args:= #[x],argTypes:= #[t]})(f:P.underlying t=some .string)(h:LR ι d n L a.tmps):iX P o a.eval ι w nm (aA2 ((aJ d n x).f L)):=by
 have b:=gJ h x;unfold aA2;split
 ·rename_i e;rw[e]at b;simp only[aR]at b;obtain⟨s,g,i,_⟩:=b;refine⟨_,?_,zP _ _⟩;have:s.size=_:=i;simp[execOp,c,resolve,invoke,builtin,Builtin.len_,dZ f,goInt,g,this]
 ·trivial
theorem z9b{x:Operand}{t e:TypeId}(c:o.op=.call {callee:=.builtin .len,args:= #[x],argTypes:= #[t]})(f:P.underlying t=some (.slice e))(h:LR ι d n L a.tmps):iX P o a.eval ι w nm (aD ((aJ d n x).f L)):=by
 have b:=gJ h x;unfold aD;split
 ·rename_i e;rw[e]at b;simp only[aR]at b;obtain⟨_,l,_,g⟩:=b;exact⟨_,by simp[execOp,c,resolve,invoke,builtin,Builtin.len_,dZ f,goInt,g],zP _ _⟩
 ·rename_i e;rw[e]at b;simp only[aR]at b;exact⟨_,by simp[execOp,c,resolve,invoke,builtin,Builtin.len_,dZ f,goInt,b],zP _ _⟩
 ·rename_i e;rw[e]at b;simp only[aR]at b;obtain⟨_,_,g⟩:=b;exact⟨_,by simp[execOp,c,resolve,invoke,builtin,Builtin.len_,dZ f,goInt,g],zP _ _⟩
 ·trivial
theorem dQ.length:∀{es:List oC} {a:List MapEntry},dQ ι es a->a.length=es.length
 | [],a,h=>by simp only[dQ]at h;subst h;rfl
 |x::es,a,h=>by obtain⟨e,r,rfl,_,_,_,b⟩:=h;simp[dQ.length b]
theorem xcs{x:Operand}{t k e:TypeId}(f:o.op=.call {callee:=.builtin .len,args:= #[x],argTypes:= #[t]})(g:P.underlying t=some (.map k e))(i:HR ι H w)(h:LR ι d n L a.tmps):iX P o a.eval ι w nm (aA5 H ((aJ d n x).f L)):=by
 have b:=gJ h x;unfold aA5;split
 ·rename_i e;rw[e]at b;simp only[aR]at b;exact⟨_,by simp[execOp,f,resolve,invoke,builtin,Builtin.len_,dZ g,goInt,b],zP _ _⟩
 ·rename_i m e;rw[e]at b;simp only[aR]at b;obtain⟨l,p,s⟩:=b;have j:=i.blk m (i.lt p);split
  ·rename_i es c u;rw[u]at j;obtain⟨z,A,q,v,y⟩:=j;rw[p]at q;cases q;have r:=y.length;refine⟨_,?_,zP _ _⟩;simp[execOp,f,resolve,invoke,builtin,Builtin.len_,dZ g,goInt,s,getObj,Sem.run,v,r]
  ·trivial
 ·trivial
theorem z9f{x:Operand}{t e:TypeId}(c:o.op=.call {callee:=.builtin .cap,args:= #[x],argTypes:= #[t]})(f:P.underlying t=some (.slice e))(h:LR ι d n L a.tmps):iX P o a.eval ι w nm (dA ((aJ d n x).f L)):=by
 have b:=gJ h x;unfold dA;split
 ·rename_i e;rw[e]at b;simp only[aR]at b;obtain⟨_,l,_,g⟩:=b;exact⟨_,by simp[execOp,c,resolve,invoke,builtin,Builtin.cap_,dZ f,goInt,g],zP _ _⟩
 ·rename_i e;rw[e]at b;simp only[aR]at b;exact⟨_,by simp[execOp,c,resolve,invoke,builtin,Builtin.cap_,dZ f,goInt,b],zP _ _⟩
 ·trivial
theorem zdn:∀(l:List AV) (b:List Value) (x:AV) (X:Value) (v:AV),aL ι l b->aR ι x X->qO oO x l=.val v->∃ V,(b.foldlM Builtin.min2 X).run P w=.ok V w/\aR ι v V
 | [],b,x,X,v,hl,hx,h=>by simp only[aL]at hl;subst hl;have h:R0.val x=.val v:=h;cases h;exact⟨X,by simp,hx⟩
 |y::l,b,x,X,v,hl,hx,h=>by
  obtain⟨Y,r,rfl,d,f⟩:=hl;have h:(match oO x y with| .val z=>qO oO z l|_=>.bad)=.val v:=h;split at h
  ·rename_i z a;have e:∃ Z,(Builtin.min2 X Y).run P w=.ok Z w/\aR ι z Z:=by
    unfold oO at a;split at a
    ·simp only[R0.val.injEq]at a;subst a;simp only[aR]at hx d;subst hx d;refine⟨_,rfl,?_⟩;simp only[aR,qd4];split<;>rename_i c<;>simp[c]
    ·cases a
   obtain⟨Z,g,i⟩:=e;obtain⟨V,j,k⟩:=zdn l r z Z v f i h;exact⟨V,by rw[List.foldlM_cons,Sem.run_bind,g];exact j,k⟩
  ·cases h
theorem zdo:∀(l:List AV) (b:List Value) (x:AV) (X:Value) (v:AV),aL ι l b->aR ι x X->qO pZ x l=.val v->∃ V,(b.foldlM Builtin.max2 X).run P w=.ok V w/\aR ι v V
 | [],b,x,X,v,hl,hx,h=>by simp only[aL]at hl;subst hl;have h:R0.val x=.val v:=h;simp_all
 |y::l,b,x,X,v,hl,hx,h=>by
  obtain⟨Y,r,rfl,c,e⟩:=hl;have h:(match pZ x y with| .val z=>qO pZ z l|_=>.bad)=.val v:=h;split at h
  ·rename_i z a;have d:∃ Z,(Builtin.max2 X Y).run P w=.ok Z w/\aR ι z Z:=by
    unfold pZ at a;split at a
    ·simp only[R0.val.injEq]at a;subst a;simp only[aR]at hx c;subst hx c;refine⟨_,rfl,?_⟩;simp only[aR,qd4];simp
    ·cases a
   obtain⟨Z,f,g⟩:=d;obtain⟨V,i,j⟩:=zdo l r z Z v e g h;exact⟨V,by rw[List.foldlM_cons,Sem.run_bind,f];exact i,j⟩
  ·cases h
theorem qli(g:AV->AV->R0):∀(l:List AV) (x:AV),qO g x l=.bad\/∃ v,qO g x l=.val v
 | [],x=>.inr ⟨x,rfl⟩
 |y::l,x=>by
  show(match g x y with| .val z=>qO g z l|_=>.bad)=.bad\/∃ v,(match g x y with| .val z=>qO g z l|_=>.bad)=.val v;split
  ·exact qli g l _
  ·simp
theorem aNc{x:Operand}{r:List Operand}{ts:Array TypeId}(b:o.op=.call {callee:=.builtin .min,args:=(x::r).toArray,argTypes:=ts})(h:LR ι d n L a.tmps):iX P o a.eval ι w nm (qO oO ((aJ d n x).f L) ((wK d n r).f L)):=by
 rcases qli oO ((wK d n r).f L) ((aJ d n x).f L)with hf|⟨v,hf⟩
 ·rw[hf];trivial
 ·obtain⟨V,c,e⟩:=zdn (P:=P) (w:=w) _ _ _ _ v (qcz h r) (gJ h x) hf;rw[hf];refine⟨V,?_,e⟩;simp[execOp,b,resolve,invoke,builtin,Builtin.min_,c]
theorem aOV{x:Operand}{r:List Operand}{ts:Array TypeId}(b:o.op=.call {callee:=.builtin .max,args:=(x::r).toArray,argTypes:=ts})(h:LR ι d n L a.tmps):iX P o a.eval ι w nm (qO pZ ((aJ d n x).f L) ((wK d n r).f L)):=by
 rcases qli pZ ((wK d n r).f L) ((aJ d n x).f L)with hf|⟨v,hf⟩
 ·rw[hf];trivial
 ·obtain⟨V,c,e⟩:=zdo (P:=P) (w:=w) _ _ _ _ v (qcz h r) (gJ h x) hf;rw[hf];refine⟨V,?_,e⟩;simp[execOp,b,resolve,invoke,builtin,Builtin.max_,c]
/- keys -/
theorem qsf(em:Bool):∀(D:Nat) (t:TypeId),qzj P D t=true->∀(D':Nat),D<=D'->∀(K:Value),(qM P t=some true->∃ vs:List Value,K=.agg vs.toArray/\iM P t=some vs.length)->∀ w,(Instr.checkKey em D' t K).run P w=.ok () w:=by
 intro D
 induction D with
 |zero=>intro t h;simp[qzj]at h
 |succ D ih=>
  intro t h D' hD K hK w;obtain⟨E,rfl⟩:∃ E,D'=E+1:=⟨D'-1,by omega⟩;have pk:∀(u:TypeId) (m:Nat),iM P u=some m->0<m->qzj P D u=true->∀(vs:List Value) (off:Nat),off+m<=vs.length->∀ w,((do let p<-part u vs.toArray off;Instr.checkKey em E u p):Sem Unit).run P w=.ok () w:=by
   intro u m hu h0 hk vs off hle w;rw[Sem.run_bind];cases ha:qM P u with
   |none=>
    unfold qM at ha;cases hun:P.underlying u with
    |none=>cases D<;>simp[qzj,hun]at hk
    |some _=>rw[hun]at ha;cases ha
   |some b=>
    cases b with
    |true=>
     have:(part u vs.toArray off).run P w=.ok (.agg ((vs.drop off).take m).toArray) w:=by simp[part,qfz ha,qA hu]
     rw[this,Result.andThen_ok];refine ih u hk E (by omega) _ (fun _=>⟨_,rfl,?_⟩) w;rw[hu];simp;omega
    |false=>
     have hlt:off<vs.length:=by omega
     have:(part u vs.toArray off).run P w=.ok vs[off] w:=by simp[part,qfz ha,hlt]
     rw[this,Result.andThen_ok];exact ih u hk E (by omega) _ (fun h'=>by rw[ha]at h';cases h') w
  rw[qzj]at h;split at h
  ·rename_i ht _;unfold Instr.checkKey;simp[dZ ht]
  ·rename_i ht _;unfold Instr.checkKey;simp[dZ ht]
  ·rename_i ht _;unfold Instr.checkKey;simp[dZ ht]
  ·rename_i fs N ht hN;obtain⟨vs,rfl,hvs⟩:=hK (by simp[qM,ht]);have hN':N=vs.length:=by rw[hN]at hvs;simpa using hvs
   unfold Instr.checkKey;simp only[Sem.run_bind,dZ ht,Result.andThen_ok];have hall:=lOQ.1 h;have loop:∀(l:List Field),(∀f∈l,f∈fs.toList)->∀ w,(forIn l () fun f _=>(do
     if f.name ≠ "_" then(do let p<-part f.type vs.toArray f.offset;Instr.checkKey em E f.type p;pure (ForInStep.yield ()))else pure (ForInStep.yield ()):Sem (ForInStep Unit))).run P w= .ok () w:=by
    intro l
    induction l with
    |nil=>intro _ w;simp
    |cons f l ihl=>
     intro hl w;have hf:=hall f (hl f (by simp));rw[List.forIn_cons];split at hf
     ·rename_i m hm;simp only[lI0]at hf;obtain⟨⟨f1,f2⟩,f3⟩:=hf;have r:=pk f.type m hm (xA f3) f2 vs f.offset (by have:=pM f1;omega)
      by_cases hn:f.name = "_"
      ·simp only[hn,ne_eq,not_true_eq_false,lX7,pure_bind];exact ihl (fun g hg=>hl g (by simp[hg])) w
      ·simp only[ne_eq,hn,not_false_eq_true,lU8,bind_assoc,pure_bind];rw[<-bind_assoc,Sem.run_bind,r w,Result.andThen_ok];exact ihl (fun g hg=>hl g (by simp[hg])) w
     ·cases hf
   have:=loop fs.toList (fun f hf=>hf) w;simp at this ⊢
   erw [this]
   rfl
  ·rename_i len e N ht hN;obtain⟨vs,rfl,hvs⟩:=hK (by simp[qM,ht]);have hN':N=vs.length:=by rw[hN]at hvs;simpa using hvs
   split at h
   ·rename_i m hm;simp only[lI0]at h;obtain⟨⟨f1,f2⟩,f3⟩:=h;have f1:=pM f1;unfold Instr.checkKey;simp only[Sem.run_bind,dZ ht,Result.andThen_ok,Std.Legacy.Range.forIn_eq_forIn_range',Std.Legacy.Range.size,Nat.sub_zero,lX3,Nat.div_one];have loop:∀(k i:Nat),i+k<=len->∀ w,(forIn (List.range' i k) () fun i _=>(do
      let s<-sizeOf e;let p<-part e vs.toArray (i*s);Instr.checkKey em E e p;pure (ForInStep.yield ()):Sem (ForInStep Unit))).run P w=.ok () w:=by
     intro k
     induction k with
     |zero=>intro i _ w;simp
     |succ k ihk=>
      intro i hi w;have hle:i*m+m<=vs.length:=by have h1:(i+1)*m<=len*m:=lO9 m (by omega);rw[lOS,lUB]at h1;omega
      have r:=pk e m hm (xA f3) f2 vs (i*m) hle;rw[List.range'_succ,List.forIn_cons];simp only[bind_assoc,pure_bind];rw[Sem.run_bind,qA hm,Result.andThen_ok,<-bind_assoc,Sem.run_bind,r w,Result.andThen_ok];exact ihk (i+1) (by omega) w
    have:=loop len 0 (by omega) w;simp at this ⊢
    erw [this]
    rfl
   ·cases h
  ·cases h
theorem dQ.get:∀{es:List oC} {a:List MapEntry},dQ ι es a->∀(i:Nat) (x:oC),es[i]? =some x->∃ e,a[i]? =some e/\aR ι x.key e.key/\aR ι x.val e.val/\e.born=x.born
 | [],a,h,i,x,hi=>by simp at hi
 |y::es,a,h,i,x,hi=>by
  obtain⟨e,r,rfl,b,c,d,f⟩:=h;cases i with
  |zero=>simp at hi;subst hi;exact⟨e,rfl,b,c,d⟩
  |succ i=>simp at hi;obtain⟨g,j,k⟩:=dQ.get f i x hi;exact⟨g,by simpa using j,k⟩
def zsu(ι:Im)(es:List oC)(ES:List MapEntry):Option Hit->Option (Nat×Value)->Prop
 |none,R=>R=none
 |some h,R=>∃ V E,R=some (h.i,V)/\es[h.i]? =some h.x/\ES[h.i]? =some E/\aR ι h.x.key E.key/\aR ι h.x.val V/\E.val=V/\E.born=h.x.born
theorem qe8{e:AV->AV->Option Bool}{k:AV}:∀(es:List oC) (i:Nat) (r:Option Hit),qj6 e k es i=some r->∀ h,r=some h->i<=h.i/\es[h.i-i]? =some h.x
 | [],i,r,a,h,hh=>by have a:(some none:Option (Option Hit))=some r:=a;simp_all
 |x::es,i,r,a,h,hh=>by
  have a:(match e k x.key with|some true=>some (some ⟨i,x⟩)|some false=>qj6 e k es (i+1)|none=>none)=some r:=a;split at a
  ·simp only[lI4]at a;subst a;cases hh;exact⟨lEO _,by simp⟩
  ·obtain⟨c,b⟩:=qe8 es (i+1) r a h hh;refine⟨by omega,?_⟩;rw[show h.i-i=(h.i-(i+1))+1 by omega,lU3];exact b
  ·cases a
theorem qv1{j:TypeDesc}{e:AV->AV->Option Bool}{k:AV}{K:Value}(f:∀ x X b,e k x=some b->aR ι x X->Instr.sameNow j K X=some b):∀(es:List oC) (d:List MapEntry) (i:Nat) (r:Option Hit),dQ ι es d->qj6 e k es i=some r -> ∃R,Instr.findNow j K d i=some R/\(r=none->R=none)/\∀ h,r=some h->∃ E,d[h.i-i]? =some E/\R=some (h.i,E.val)
 | [],d,i,r,hE,a=>by have a:(some none:Option (Option Hit))=some r:=a;cases a;simp only[dQ]at hE;subst hE;exact⟨none,rfl,fun _=>rfl,fun h c=>by cases c⟩
 |x::es,d,i,r,hE,a=>by
  obtain⟨E,m,rfl,l,v,w,n⟩:=hE;have a:(match e k x.key with|some true=>some (some ⟨i,x⟩)|some false=>qj6 e k es (i+1)|none=>none)=some r:=a;split at a
  ·rename_i g;simp only[lI4]at a;subst a;refine⟨some (i,E.val),by simp[Instr.findNow,f _ _ _ g l],(fun h=>by cases h),fun h c=>?_⟩;cases c;exact⟨E,by simp,rfl⟩
  ·rename_i g;obtain⟨R,o,p,q⟩:=qv1 f es m (i+1) r n a;refine⟨R,by simp[Instr.findNow,f _ _ _ g l,o],p,fun h c=>?_⟩;obtain⟨s,t,u⟩:=q h c;obtain⟨g1,_⟩:=qe8 es (i+1) r a h c;exact⟨s,by rw[show h.i-i=(h.i-(i+1))+1 by omega,lU3];exact t,u⟩
  ·cases a
theorem qv2{j:TypeId}{e:AV->AV->Option Bool}{k:AV}{K:Value}(f:∀ x X b,e k x=some b->aR ι x X->∀ w,(Op.equal j K X).run P w=.ok b w):∀(es:List oC) (d:List MapEntry) (i:Nat) (r:Option Hit),dQ ι es d->qj6 e k es i=some r -> ∃R,(∀w,(Instr.findAsking j K d i).run P w=.ok R w)/\(r=none->R=none)/\∀ h,r=some h->∃ E,d[h.i-i]? =some E/\R=some (h.i,E.val)
 | [],d,i,r,hE,a=>by have a:(some none:Option (Option Hit))=some r:=a;cases a;simp only[dQ]at hE;subst hE;exact⟨none,fun _=>rfl,fun _=>rfl,fun h c=>by cases c⟩
 |x::es,d,i,r,hE,a=>by
  obtain⟨E,m,rfl,l,v,y,n⟩:=hE;have a:(match e k x.key with|some true=>some (some ⟨i,x⟩)|some false=>qj6 e k es (i+1)|none=>none)=some r:=a;split at a
  ·rename_i g;simp only[lI4]at a;subst a;refine⟨some (i,E.val),fun w=>by simp[Instr.findAsking,f _ _ _ g l],(fun h=>by cases h),fun h c=>?_⟩;cases c;exact⟨E,by simp,rfl⟩
  ·rename_i g;obtain⟨R,o,p,q⟩:=qv2 f es m (i+1) r n a;refine⟨R,fun w=>by simp[Instr.findAsking,f _ _ _ g l,o],p,fun h c=>?_⟩;obtain⟨s,t,u⟩:=q h c;obtain⟨g1,_⟩:=qe8 es (i+1) r a h c;exact⟨s,by rw[show h.i-i=(h.i-(i+1))+1 by omega,lU3];exact t,u⟩
  ·cases a
theorem qzs{g:TypeId}{C:Ky}(c:aBB P g=some C){k:AV}{K:Value}(y:aR ι k K){es:List oC}{o:List MapEntry}(J:dQ ι es o){r:Option Hit}(h:q8v C k es=some r):(∀z w,(Instr.checkKey z 10000 g K).run P w=.ok () w)/\∃ R,(∀w,(Instr.findKey g K o).run P w=.ok R w)/\zsu ι es o r R:=by
 unfold q8v at h;cases I:qh0 C.s k with
 |false=>rw[I]at h;cases h
 |true=>
  rw[I]at h;simp only[lII]at h;have Y:=z3g (P:=P) (ι:=ι) qcq g;have fin:∀ R:Option (Nat×Value),(r=none->R=none)->(∀h,r=some h->∃ E,o[h.i-0]? =some E/\R=some (h.i,E.val))->zsu ι es o r R:=by
   intro R O Q;cases r with
   |none=>exact O rfl
   |some hh=>obtain⟨E,D,e2⟩:=Q hh rfl;rw[Nat.sub_zero]at D;obtain⟨_,g2⟩:=qe8 es 0 _ h hh rfl;rw[Nat.sub_zero]at g2;obtain⟨E',Z,a2,a3,a4⟩:=J.get _ _ g2;rw[D]at Z;cases Z;exact⟨E.val,E,e2,g2,D,a2,a3,rfl,a4⟩
  unfold aBB at c;have ask:∀(e:AV->AV->Option Bool),eqT P qcq g=⟨e⟩->C.e=e->∀ x X b,C.e k x=some b->aR ι x X->∀ w,(Op.equal g K X).run P w=.ok b w:=by intro e d S x X b a q w;rw[S]at a;rw[d]at Y;exact Y k x K X b a y q Op.maxDepth (by decide) w
  split at c
  ·rename_i e N F d f hN;simp only[lI4]at c;subst c;obtain⟨l,rfl⟩:∃ l,k=.agg l:=by cases k<;>first|exact⟨_,rfl⟩|(simp[qh0]at I;done)
   obtain⟨vs,v1,v2,v3⟩:=qdw y;have hl:l.length=N:=yG I;refine⟨fun z w=>qsf z qcq g F 10000 (by decide) K (fun _=>⟨vs,v2,by rw[hN,v1.length,hl]⟩) w,?_⟩;obtain⟨R,r1,G,H⟩:=qv2 (ask e d rfl) es o 0 r J h;refine⟨R,fun w=>?_,fin R G H⟩;have B:∃ i,P.underlying g=some i:=by
    unfold qM at f;cases T:P.underlying g with
    |none=>rw[T]at f;cases f
    |some i=>exact⟨i,rfl⟩
   obtain⟨i,B⟩:=B;unfold Instr.findKey;rw[Sem.run_bind,dZ B,Result.andThen_ok];cases o with
   |nil=>
    have:R=none:=by
     cases r with
     |none=>exact G rfl
     |some hh=>obtain⟨E,D,_⟩:=H hh rfl;simp at D
    subst this;rfl
   |cons E rest=>
    have:Instr.findNow i K (E::rest) 0=none:=by
     have L:(∃W,i=.struct W)\/∃ n t,i=.array n t:=by
      unfold qM at f;rw[B]at f;cases i<;>simp at f
      ·simp
      ·simp
     rcases L with⟨W,rfl⟩|⟨n,t,rfl⟩<;>simp[Instr.findNow,Instr.sameNow]
    simp_all
  ·rename_i e N F d f hN;simp only[lI4]at c;subst c;have M:∀ z w,(Instr.checkKey z 10000 g K).run P w=.ok () w:=fun z w=>qsf z qcq g F 10000 (by decide) K (fun V=>by rw[f]at V;cases V) w;refine⟨M,?_⟩;have A:∀ i,P.underlying g=some i->(∀x X b,e k x=some b->aR ι x X->Instr.sameNow i K X=some b)->∃ R,(∀w,(Instr.findKey g K o).run P w=.ok R w)/\zsu ι es o r R:=by
    intro i B hs;obtain⟨R,r1,G,H⟩:=qv1 hs es o 0 r J h;refine⟨R,fun w=>?_,fin R G H⟩;unfold Instr.findKey;rw[Sem.run_bind,dZ B,Result.andThen_ok,r1];rfl
   have v:=F;unfold qcq at v d;rw[show(20:Nat)=19+1 from rfl,qzj]at v;rw[show(20:Nat)=19+1 from rfl,eqT]at d;split at v
   ·rename_i j _;rw[j]at d;simp only[E2.mk.injEq]at d;subst d;refine A _ j fun x X b a q=>?_;unfold ql7 at a;split at a
    ·rename_i kk m k' p;simp only[aR]at y q;subst y q;cases U:xW kk k' with
     |false=>rw[U]at a;cases a
     |true=>rw[U]at a;simp only[lII,lI4]at a;subst a;have:=zy5 U;subst this;simp[Instr.sameNow,qes]
    ·cases a
   ·rename_i j _;rw[j]at d;simp only[E2.mk.injEq]at d;subst d;refine A _ j fun x X b a q=>?_;unfold iA at a;split at a
    ·simp only[aR]at y q;obtain⟨s,rfl,O⟩:=y;obtain⟨u,rfl,Q⟩:=q;simp only[lI4]at a;subst a;simp[Instr.sameNow,beq_toListBytes,qgl,O.eq Q]
    ·cases a
   ·rename_i j _;rw[j]at d;simp only[E2.mk.injEq]at d;subst d;refine A _ j fun x X b a q=>?_;unfold xQ at a;split at a
    ·simp only[aR]at y q;subst y q;trivial
    ·cases a
   ·rename_i j _;unfold qM at f;rw[j]at f;simp at f
   ·rename_i j _;unfold qM at f;rw[j]at f;simp at f
   ·cases v
  ·cases c
theorem zxt{t p s:TypeId}{x y:Operand}{e:Bool}(F:o.op=.lookup t x y e)(G:P.underlying t=some (.map p s)){q:Ky}(u:aBB P p=some q){z:Value}(S:(P.info? s).bind (·.zero)=some z)(I:HR ι H w)(h:LR ι d n L a.tmps):iX P o a.eval ι w nm (tX q (zfb z) e H ((aJ d n x).f L) ((aJ d n y).f L)):=by
 have j:=gJ h x;have T:=gJ h y;have k:∀(es:List oC) (i:List MapEntry),dQ ι es i->(∀f:Array MapEntry->Sem Value,(execOp a.eval o).run P w=((do
    Instr.checkKey i.toArray.isEmpty 10000 p (a.eval y)
    let (v,b)<-match<-Instr.findKey p (a.eval y) i with
     |some (_,v)=>pure (v,true)
     |none=>pure (<-zeroValue s,false)
    pure (if e then .tuple #[v,.bool b]else v):Sem Value).run P w).andThen fun v w=>.ok (.value v) w) ->
   iX P o a.eval ι w nm (z9t e (zfb z) (q8v q ((aJ d n y).f L) es)):=by
  intro es i U c;have c:=c fun _=>pure .nilFunc;cases hf:q8v q ((aJ d n y).f L) es with
  |none=>trivial
  |some r=>
   obtain⟨K,R,M,A⟩:=qzs u T U hf;cases r with
   |none=>
    simp only[zsu]at A;subst A;refine⟨if e then .tuple #[z,.bool false]else z,?_,?_⟩
    ·rw[c];simp[K,M,qc8 S]
    ·cases e
     ·exact qrm z
     ·simp only[lII,lU8,aR,aL];exact⟨[z,.bool false],⟨z,_,rfl,qrm z,_,_,rfl,rfl,rfl⟩,rfl⟩
   |some hit=>
    obtain⟨V,E,rfl,a1,a2,a3,N,a5,a6⟩:=A;refine⟨if e then .tuple #[V,.bool true]else V,?_,?_⟩
    ·rw[c];simp[K,M]
    ·cases e
     ·exact N
     ·simp only[lII,lU8,aR,aL];exact⟨[V,.bool true],⟨V,_,rfl,N,_,_,rfl,rfl,rfl⟩,rfl⟩
 unfold tX z3h;split
 ·rename_i es g;split at g
  ·rename_i B;simp only[lI4]at g;subst g;rw[B]at j;simp only[aR]at j;refine k [] [] (by simp[dQ]) fun _=>?_;simp[execOp,F,Instr.lookup,dZ G,j];rfl
  ·rename_i m B;rw[B]at j;simp only[aR]at j;obtain⟨l,O,W⟩:=j;have J:=I.blk m (I.lt O);split at g
   ·rename_i C D X;simp only[lI4]at g;subst g;rw[X]at J;obtain⟨l',i,Q,Y,Z⟩:=J;rw[O]at Q;cases Q;refine k C i Z fun _=>?_;simp[execOp,F,Instr.lookup,dZ G,W,getObj,Sem.run,Y];rfl
   ·cases g
  ·cases g
 ·trivial
theorem aQh{s:BinOp}{t ty:TypeId}{x y:Operand}(B:o.op=.binOp s t x y ty)(neg:Bool)(c:s=if neg then .neq else .eql){e:AV->AV->Option Bool}(j:eqT P qcq t=⟨e⟩)(u:∀ r,P.underlying t=some r->match r with| .bool| .pointer _| .slice _| .map .. | .func .. | .interface _=>True| .struct _| .array .. =>P.eqGuardType P.depth t=false|_=>False)(v:∃ r,P.underlying t=some r)(h:LR ι d n L a.tmps):
  iX P o a.eval ι w nm (jR neg (e ((aJ d n x).f L) ((aJ d n y).f L))):=by
 have f:=gJ h x;have i:=gJ h y;unfold jR;split
 ·rename_i b k;have A:=z3g (P:=P) (ι:=ι) qcq t;rw[j]at A;have m:=A _ _ _ _ _ k f i Op.maxDepth (by decide) w;refine⟨.bool (if neg then !b else b),?_,by simp only[aR];cases neg<;>rfl⟩;obtain⟨r,v⟩:=v;have u:=u r v;generalize E:a.eval x=X at *;generalize F:a.eval y=Y at *;have z:(∃g,(eqGuard s t x y X Y).run P w=.ok g w)/\(binOp s t X Y).run P w=.ok (.bool (if neg then !b else b)) w:=by
   unfold qcq at j;rw[show(20:Nat)=19+1 from rfl,eqT,v]at j;cases r<;>first|(exact u.elim)|skip
   case bool=>
    simp only[E2.mk.injEq]at j;subst j;unfold xQ at k;split at k
    ·rename_i p q;rw[p]at f;rw[q]at i;simp only[aR]at f i;subst f i;cases neg<;>subst c<;>simp[eqGuard,binOp,Op.equal,m]
    ·cases k
   case pointer=>
    simp only[E2.mk.injEq]at j;subst j;unfold qg3 at k;split at k<;>first|(cases k;done)|skip
    all_goals (rename_i p q;rw[p]at f;rw[q]at i;simp only[aR]at f i)
    ·subst f i;cases neg<;>subst c<;>simp[eqGuard,binOp,Op.equal,m]
    ·obtain⟨l,_,rfl⟩:=i;subst f;cases neg<;>subst c<;>simp[eqGuard,binOp,Op.equal,m]
    ·obtain⟨l,_,rfl⟩:=f;subst i;cases neg<;>subst c<;>simp[eqGuard,binOp,Op.equal,m]
   case slice=>
    simp only[E2.mk.injEq]at j;subst j;unfold qQ at k;split at k<;>first|(cases k;done)|skip
    all_goals (rename_i p q;rw[p]at f;rw[q]at i;simp only[aR]at f i)
    ·subst f i;cases neg<;>subst c<;>simp[eqGuard,binOp,Op.equal,m]
    ·obtain⟨_,l,_,rfl⟩:=i;subst f;cases neg<;>subst c<;>simp[eqGuard,binOp,Op.equal,m]
    ·obtain⟨_,l,rfl⟩:=i;subst f;cases neg<;>subst c<;>simp[eqGuard,binOp,Op.equal,m]
    ·obtain⟨_,l,_,rfl⟩:=f;subst i;cases neg<;>subst c<;>simp[eqGuard,binOp,Op.equal,m]
    ·obtain⟨_,l,rfl⟩:=f;subst i;cases neg<;>subst c<;>simp[eqGuard,binOp,Op.equal,m]
   case map=>
    simp only[E2.mk.injEq]at j;subst j;unfold zy4 at k;split at k<;>first|(cases k;done)|skip
    all_goals (rename_i p q;rw[p]at f;rw[q]at i;simp only[aR]at f i)
    ·subst f i;cases neg<;>subst c<;>simp[eqGuard,binOp,Op.equal,m]
    ·obtain⟨l,_,rfl⟩:=i;subst f;cases neg<;>subst c<;>simp[eqGuard,binOp,Op.equal,m]
    ·obtain⟨l,_,rfl⟩:=f;subst i;cases neg<;>subst c<;>simp[eqGuard,binOp,Op.equal,m]
   case func=>
    simp only[E2.mk.injEq]at j;subst j;unfold eqFn at k;split at k<;>first|(cases k;done)|skip
    all_goals (rename_i p q;rw[p]at f;rw[q]at i;simp only[aR]at f i)
    ·subst f i;cases neg<;>subst c<;>simp[eqGuard,binOp,Op.equal,m]
    ·obtain⟨_,_,_,_,rfl⟩:=i;subst f;cases neg<;>subst c<;>simp[eqGuard,binOp,Op.equal,m]
    ·obtain⟨_,_,_,_,rfl⟩:=f;subst i;cases neg<;>subst c<;>simp[eqGuard,binOp,Op.equal,m]
   case interface=>
    simp only[E2.mk.injEq]at j;subst j;unfold aEv at k;split at k<;>first|(cases k;done)|skip
    all_goals (rename_i p q;rw[p]at f;rw[q]at i;simp only[aR]at f i)
    ·obtain⟨_,_,rfl⟩:=i;subst f;cases neg<;>subst c<;>simp[eqGuard,binOp,Op.equal,m]
    ·obtain⟨_,_,rfl⟩:=f;subst i;cases neg<;>subst c<;>simp[eqGuard,binOp,Op.equal,m]
   case array len e=>
    simp only at j;split at j
    ·simp only[E2.mk.injEq]at j;subst j;unfold kU at k;split at k
     ·rename_i p q;rw[p]at f;rw[q]at i;obtain⟨_,_,rfl,_⟩:=qdw f;obtain⟨_,_,rfl,_⟩:=qdw i;refine⟨⟨(),run_eqGuard_agg w s t x y _ _ u⟩,?_⟩;cases neg<;>subst c
      ·rw[lEU (by simp),run_eql_struct,show(10000:Nat)=Op.maxDepth from rfl,m];rfl
      ·rw[lEZ rfl,run_neq_struct,show(10000:Nat)=Op.maxDepth from rfl,m];rfl
     ·cases k
    ·simp only[E2.mk.injEq]at j;subst j;cases k
   case struct fs=>
    simp only at j;split at j
    ·simp only[E2.mk.injEq]at j;subst j;cases k
    ·simp only[E2.mk.injEq]at j;subst j;unfold kU at k;split at k
     ·rename_i p q;rw[p]at f;rw[q]at i;obtain⟨_,_,rfl,_⟩:=qdw f;obtain⟨_,_,rfl,_⟩:=qdw i;refine⟨⟨(),run_eqGuard_agg w s t x y _ _ u⟩,?_⟩;cases neg<;>subst c
      ·rw[lEU (by simp),run_eql_struct,show(10000:Nat)=Op.maxDepth from rfl,m];rfl
      ·rw[lEZ rfl,run_neq_struct,show(10000:Nat)=Op.maxDepth from rfl,m];rfl
     ·cases k
  obtain⟨⟨g,C⟩,D⟩:=z;simp[execOp,B,E,F,C,D]
 ·trivial
theorem q33(a:Nat):∀(n i:Nat),Nat.rec (motive:=fun _=>Nat->List AV) (fun _=>[]) (fun _ ih i=>.int .u8 (.ofNat (qsg a i))::ih (Nat.succ i)) n i=(List.range' i n).map fun j=>.int .u8 (.ofNat (qsg a j))
 |0,i=>rfl
 |n+1,i=>by rw[List.range'_succ,lUJ,<-q33 a n (i+1)]
theorem zf9{m a:Nat}{s:ByteArray}(h:qeu m a s):aL ι (zr5 a m) (s.data.toList.map fun b=>Value.int .u8 (b.toNat:Int)):=by
 obtain⟨rfl,rfl⟩:=h;unfold zr5;rw[q33,<-List.range_eq_range'];refine aL.aA3 (by simp) fun i v c=>?_;have d:i<s.data.toList.length:=by
  rcases lOI i s.data.toList.length with h|h
  ·exact h
  ·simp_all
 rw[lO6,List.getElem?_range d]at c;simp only[lY0,lI4]at c;subst c;refine⟨_,by rw[lO6,gp d];rfl,?_⟩;rw[q34 _ _ d];rfl
theorem xaw{k:BinOp}{t ty:TypeId}{x y:Operand}(g:o.op=.binOp k t x y ty)(h:LR ι d n L a.tmps):iX P o a.eval ι w nm ((xU P k t).f ((aJ d n x).f L) ((aJ d n y).f L)):=by
 have c:∀ i,P.underlying t=some i->(match i with| .bool| .pointer _| .slice _| .map .. | .func .. | .interface _=>True| .struct _| .array .. =>P.eqGuardType P.depth t=false|_=>False) ->
   iX P o a.eval ι w nm ((match k,eqT P qcq t with
    | .eql,⟨e⟩=>(⟨fun x y=>jR false (e x y)⟩:V2)
    | .neq,⟨e⟩=>⟨fun x y=>jR true (e x y)⟩
    |_,_=>⟨fun _ _=>.bad⟩).f ((aJ d n x).f L) ((aJ d n y).f L)):=by
  intro i b s;have j:∀ f,P.underlying t=some f->match f with| .bool| .pointer _| .slice _| .map .. | .func .. | .interface _=>True| .struct _| .array .. =>P.eqGuardType P.depth t=false|_=>False:=fun f r=>by simp_all
  split
  ·rename_i e l;exact aQh g false rfl l j ⟨i,b⟩ h
  ·rename_i e l;exact aQh g true rfl l j ⟨i,b⟩ h
  ·trivial
 unfold xU;split
 ·split
  ·exact zpk g (.inl rfl) h
  ·exact zpk g (.inr rfl) h
  ·rename_i p q;exact aKB g ⟨fun e=>p e,fun e=>q e⟩ h
 ·exact zxr g h
 ·rename_i b;exact c _ b trivial
 ·rename_i b;exact c _ b trivial
 ·rename_i b;exact c _ b trivial
 ·rename_i b;exact c _ b trivial
 ·rename_i b;exact c _ b trivial
 ·rename_i b;exact c _ b trivial
 ·rename_i b;split
  ·trivial
  ·rename_i m;exact c _ b (by simpa using m)
 ·rename_i b;split
  ·trivial
  ·rename_i m;exact c _ b (by simpa using m)
 ·trivial
theorem xdk{args:List Operand}{ts:List TypeId}(e:o.op=.call {callee:=.builtin .len,args:=args.toArray,argTypes:=ts.toArray}){g:Bool}{f:Nat->TT AV d->Hp->R0}(b:wW P d n args ts=.q g f)(i:HR ι H w)(h:LR ι d n L a.tmps):iX P o a.eval ι w nm (f nm L H):=by
 unfold wW at b;split at b
 ·rename_i x t;split at b
  ·rename_i c;cases b;exact qvk e (.inl ⟨_,c⟩)
  ·rename_i c;split at b
   ·rename_i j;cases b;exact qvk e (.inr ⟨_,_,c,j⟩)
   ·cases b
  ·rename_i c;cases b;exact zxu e c h
  ·rename_i c;cases b;exact z9b e c h
  ·rename_i c;cases b;exact xcs e c i h
  ·cases b
 ·cases b
theorem xei{args:List Operand}{ts:List TypeId}(e:o.op=.call {callee:=.builtin .cap,args:=args.toArray,argTypes:=ts.toArray}){g:Bool}{f:Nat->TT AV d->Hp->R0}(b:aAA P d n args ts=.q g f)(h:LR ι d n L a.tmps):iX P o a.eval ι w nm (f nm L H):=by
 unfold aAA at b;split at b
 ·rename_i x t;split at b
  ·rename_i c;cases b;exact ze7 e ⟨_,c⟩
  ·rename_i c;cases b;exact z9f e c h
  ·cases b
 ·cases b
theorem xc7{args:List Operand}{ts:Array TypeId}(c:o.op=.call {callee:=.builtin .min,args:=args.toArray,argTypes:=ts}){e:Bool}{f:Nat->TT AV d->Hp->R0}(b:aAI d n args=.q e f)(h:LR ι d n L a.tmps):iX P o a.eval ι w nm (f nm L H):=by
 unfold aAI at b;split at b
 ·cases b;exact aNc c h
 ·cases b
theorem xc9{args:List Operand}{ts:Array TypeId}(c:o.op=.call {callee:=.builtin .max,args:=args.toArray,argTypes:=ts}){e:Bool}{f:Nat->TT AV d->Hp->R0}(b:aAk d n args=.q e f)(h:LR ι d n L a.tmps):iX P o a.eval ι w nm (f nm L H):=by
 unfold aAk at b;split at b
 ·cases b;exact aOV c h
 ·cases b
theorem xep{args:List Operand}{ts:List TypeId}{b:Bool}{f:Nat->TT AV d->Hp->R0}(a:aAN P d n args ts=.q b f):False:=by
 unfold aAN at a;split at a
 ·split at a
  ·split at a<;>cases a
  ·cases a
 ·cases a
theorem xee{args:List Operand}{ts:List TypeId}{b:Bool}{f:Nat->TT AV d->Hp->R0}(a:aAr P d n args ts=.q b f):False:=by
 unfold aAr at a;split at a
 ·split at a
  ·split at a<;>cases a
  ·cases a
 ·cases a
theorem zga{b:Builtin}{args:Array Operand}{ts:Array TypeId}(e:o.op=.call {callee:=.builtin b,args,argTypes:=ts}){g:Bool}{f:Nat->TT AV d->Hp->R0}(c:qd7 P d n b args.toList ts.toList=.q g f)(i:HR ι H w)(h:LR ι d n L a.tmps):iX P o a.eval ι w nm (f nm L H):=by
 unfold qd7 at c;split at c
 ·exact xdk (by simpa using e) c i h
 ·exact xei (by simpa using e) c h
 ·exact xc7 (ts:=ts) (by simpa using e) c h
 ·exact xc9 (ts:=ts) (by simpa using e) c h
 ·exact(xep c).elim
 ·exact(xee c).elim
 ·cases c
theorem z9k{u:Bool}{f:Nat->TT AV d->Hp->R0}(b:iG P d n o=.q u f)(r:HR ι H w)(h:LR ι d n L a.tmps):iX P o a.eval ι w nm (f nm L H):=by
 unfold iG at b;split at b
 ·rename_i x c;cases b;exact z2v (.inl c) h
 ·rename_i x c;cases b;exact z2v (.inr c) h
 ·rename_i c;cases b;exact xcr c h
 ·rename_i c;unfold zcl at b;split at b
  ·rename_i v;cases b;exact z9g c v
  ·cases b
 ·rename_i c;unfold aCW at b;split at b
  ·rename_i k g i l j;cases b;have:=xcw (P:=P) (w:=w) (nm:=nm) c k h;rw[j]at this;exact this
  ·rename_i i l j;cases b;have:=xcx (P:=P) (w:=w) (nm:=nm) c h;rw[j]at this;exact this
  ·cases b
 ·rename_i c;unfold zck at b;split at b
  ·rename_i i l;split at b
   ·rename_i j;split at b
    ·rename_i m;cases b;exact zxw c i l j m h
    ·cases b
   ·cases b
  ·rename_i i l;split at b
   ·rename_i j;split at b
    ·rename_i m;cases b;exact zxx c i l j m h
    ·cases b
   ·cases b
  ·cases b
 ·rename_i c;unfold qez at b;split at b
  ·rename_i i;split at b
   ·rename_i s z l j;cases p:(Nat.ble (_*s) 65536&&Nat.beq z.length s)with
    |false=>rw[p]at b;cases b
    |true=>
     rw[p]at b;simp only[lII]at b;simp only[lI0]at p;split at b
     ·rename_i m;cases b;exact q2i c i j l (yG p.2) (pM p.1) m h
     ·cases b
   ·cases b
  ·cases b
 ·rename_i c;unfold zo4 at b;split at b
  ·rename_i i l j;cases b;have:=z88 (P:=P) (nm:=nm) c i l r h;rw[j]at this;exact this
  ·rename_i i l j;cases b;have:=z9a (P:=P) (nm:=nm) c i r h;rw[j]at this;exact this
  ·cases b
 ·unfold q15 at b;split at b<;>cases b
 ·rename_i c;cases b;exact ze5 c h
 ·rename_i c;cases b;exact xaw c h
 ·rename_i c;cases b;exact aYF c h
 ·rename_i c;unfold qn7 at b;split at b
  ·rename_i i l j;cases b;have:=z9e (P:=P) (w:=w) (nm:=nm) c i l h;rw[j]at this;exact this
  ·rename_i i l j;cases b;have:=z9d (P:=P) (w:=w) (nm:=nm) c i l h;rw[j]at this;exact this
  ·cases b
 ·rename_i c;unfold qcu at b;split at b
  ·cases b
  ·rename_i y i l;cases b;have:=qra (P:=P) (w:=w) (nm:=nm) c i (fun ms e=>y ms (by rw[e])) h;rw[l]at this;exact this
  ·cases b
 ·rename_i c;cases b;exact ze6 c h
 ·rename_i c;cases b;exact zpl c
 ·rename_i c;unfold qgn at b;split at b
  ·rename_i i l j;split at b
   ·rename_i z w' s m q t;cases p:Nat.beq z.length s with
    |false=>rw[p]at b;cases b
    |true=>rw[p]at b;cases b;have:=zxs (P:=P) (w:=w) (nm:=nm) c i m q t (yG p) h;rw[l,j]at this;exact this
   ·cases b
  ·cases b
 ·rename_i c;unfold zch at b;split at b
  ·rename_i i l j m;split at b
   ·cases b;have:=ze4 (P:=P) (w:=w) (nm:=nm) c i h;rw[l,j,m]at this;exact this
   ·cases b
  ·rename_i i l j m q;split at b
   ·rename_i t;cases b;have:=zpj (P:=P) (w:=w) (nm:=nm) c i t h;rw[l,j,m,q]at this;exact this
   ·cases b
  ·cases b
 ·rename_i c;unfold qen at b;split at b
  ·rename_i i l;split at b
   ·rename_i j;split at b
    ·rename_i m;cases b;have:=q8c (P:=P) (w:=w) (nm:=nm) c i j m h;rw[l]at this;exact this
    ·cases b
   ·cases b
  ·cases b
 ·rename_i c;unfold q19 at b;split at b
  ·rename_i i l;split at b
   ·rename_i j;cases b;have:=z9c (P:=P) (w:=w) (nm:=nm) c i j h;rw[l]at this;exact this
   ·cases b
  ·cases b
 ·rename_i c;unfold qem at b;split at b
  ·rename_i i l j;split at b
   ·rename_i m;cases b;have:=xcu (P:=P) (w:=w) (nm:=nm) c i m h;rw[l,j]at this;exact this
   ·cases b
  ·rename_i i l j;split at b
   ·rename_i m;cases b;have:=xcv (P:=P) (w:=w) (nm:=nm) c i m h;rw[l,j]at this;exact this
   ·cases b
  ·cases b
 ·rename_i c;unfold q18 at b;split at b
  ·rename_i i l j;cases b;have:=zxv (P:=P) (w:=w) (nm:=nm) c i h;rw[l,j]at this;exact this
  ·rename_i i l j;split at b
   ·rename_i m;cases b;have:=xct (P:=P) (w:=w) (nm:=nm) c i m h;rw[l,j]at this;exact this
   ·cases b
  ·cases b
 ·rename_i c;unfold qyy at b;split at b
  ·rename_i i l j;split at b
   ·rename_i m q;cases b;have:=zxt (P:=P) (nm:=nm) c i m q r h;rw[l,j]at this;exact this
   ·cases b
  ·cases b
 ·unfold qdl at b;split at b<;>first|(cases b;done)|(split at b<;>cases b)
 ·unfold qdl at b;split at b<;>first|(cases b;done)|(split at b<;>cases b)
 ·rename_i c;cases b;exact zpm c h
 ·rename_i c;exact zga c b r h
 ·unfold zcj at b;cases b
 ·cases b
 ·cases b
end Go.Ev
end
section
namespace Go.Ev
open Go.RowKit
variable {P:Program} {w:World} {ι:Im} {o:Oper} {a:Act} {d n:Nat} {L:TT AV d} {H:Hp}
def VOk(P:Program)(o:Oper)(ρ:Operand->Value)(ι:Im)(H:Hp)(w:World):R1->Prop
 | .bad=>True
 | .ok v H'=>∃ N V w' ι',(execOp ρ o).run P w=.ok N w'/\(N=.value V\/(N=.skip/\V=Go.undef))/\aR ι' v V/\HR ι' H' w'/\Fr ι ι' H H' w w'
theorem qel(P:Program){b i:Nat}{l:List AV}{vs:List Value}{loc:Loc}(m:HR ι H w)(k:ι b=some loc)(r:aL ι l vs)(s:∀ v∈vs,v.oneCell=true){v u:AV}{n:Hp}(h:storeAt H b i l v=.ok u n):u=v/\∃ w',(storeCells ⟨loc.blk,loc.base+i,none⟩ vs).run P w=.ok () w'/\HR ι n w'/\Fr ι ι H n w w':=by
 have f:=m.lt k;have t:=m.blk b f;unfold storeAt at h;split at h
 ·rename_i E a;obtain⟨rfl,rfl⟩:=h;refine⟨rfl,?_⟩;unfold xZ at a;split at a
  ·rename_i M F c N y;cases e:Nat.ble (i+l.length) F with
   |false=>rw[e]at a;cases a
   |true=>
    rw[e]at a;simp only[lII,lI4]at a;subst a;have e:=pM e;rw[y]at t;obtain⟨O,z,G,A,Q⟩:=t;rw[k]at z;cases z;have x:=r.length;obtain⟨w',I,d⟩:=qg6 P loc.blk vs w (loc.base+i) 0 (fun j o=>by
     obtain⟨V,B,J,K,q⟩:=A (i+j) (by omega);refine⟨V,?_,?_⟩
     ·rw[show loc.base+i+0+j=loc.base+(i+j)by omega];exact B
     ·rw[show loc.base+i+0+j=loc.base+(i+j)by omega];exact q rfl) s
    rw[lO7]at d;refine⟨w',I,m.put f (by rw[y];rfl) k _ d.os d.tape d.output d.size d.keep ?_⟩;refine⟨loc,k,G,fun j o=>?_,fun _ j o=>?_⟩
    ·rw[qhp _ _ _ _ (by omega) (by omega),d.cell,d.frozen];obtain⟨V,B,J,K,q⟩:=A j o;by_cases g:i<=j/\j<i+l.length
     ·rw[lEZ g,lEZ (by omega)];have p:l[j-i]? =some (l.getD (j-i) .undef):=by
       have:j-i<l.length:=by omega
       simp[this]
      obtain⟨C,D,L⟩:=r.get _ _ p;refine⟨C,?_,L,s C (lIK D),q⟩;rw[show loc.base+j-(loc.base+i)=j-i by omega,lES,D];rfl
     ·rw[lEU g,lEU (by omega)];simp_all
    ·rw[d.cell,d.frozen,lEU (by omega)];simp_all
  ·cases a
 ·cases h
theorem zy9{t:TypeId}{x y:Operand}(f:o.op=.store t x y)(g:iM P t=some 1)(j:HR ι H w)(h:LR ι d n L a.tmps):VOk P o a.eval ι H w (jN H ((aJ d n x).f L) ((aJ d n y).f L)):=by
 have c:=gJ h x;have e:=gJ h y;unfold jN;split<;>first|trivial|skip
 rename_i b i l m p E q;rw[l]at c;simp only[aR]at c;obtain⟨loc,r,s⟩:=c;have k:((aJ d n y).f L).plain=true:=by
  unfold AV.plain;split
  ·simp_all
  ·simp_all
  ·trivial
  ·simp_all
  ·rfl
 obtain⟨v,z⟩:=e.one k;cases D:storeAt H b i [(aJ d n y).f L] .undef with
 |bad=>trivial
 |ok u H'=>obtain⟨rfl,w',A,B,C⟩:=qel P j r (aL.singleton e) (by simpa using v) D;refine⟨.skip,Go.undef,w',ι,?_,.inr ⟨rfl,rfl⟩,by simp[aR,Go.undef],B,C⟩;simp[execOp,f,Instr.storeAt,s,Instr.sureAddr,storeVar,z,qA g,A]
theorem zy8{t:TypeId}{x y:Operand}(j:o.op=.store t x y){k:Nat}(m:iM P t=some k)(p:HR ι H w)(h:LR ι d n L a.tmps):VOk P o a.eval ι H w (qdc k H ((aJ d n x).f L) ((aJ d n y).f L)):=by
 have c:=gJ h x;have f:=gJ h y;unfold qdc;split
 ·rename_i b i l r s;rw[r]at c;simp only[aR]at c;obtain⟨loc,v,z⟩:=c;rw[s]at f;obtain⟨vs,g,A,B⟩:=qdw f;cases e:Nat.beq l.length k with
  |false=>trivial
  |true=>
   have e:=yG e;cases F:storeAt H b i l .undef with
   |bad=>trivial
   |ok u H'=>
    obtain⟨rfl,w',C,D,E⟩:=qel P p v g B F;refine⟨.skip,Go.undef,w',ι,?_,.inr ⟨rfl,rfl⟩,by simp[aR,Go.undef],D,E⟩;have q:vs.length=k:=by rw[g.length,e]
    simp[execOp,j,Instr.storeAt,z,Instr.sureAddr,storeVar,A,Value.cells,qA m,q,C]
 ·trivial
theorem q3k(need:Nat):∀(r c X:Nat),c<=X->need+(need+768) / 4<=X->Builtin.growBy need r c<=X
 |0,c,X,h,_=>h
 |r+1,c,X,h,k=>by
  unfold Builtin.growBy;split
  ·exact h
  ·exact q3k need r _ X (by omega) k
theorem qvr{need old:Nat}(h:old<need):Builtin.nextslicecap need old<=3*need:=by
 unfold Builtin.nextslicecap;split
 ·omega
 ·split
  ·omega
  ·exact q3k need 4 old _ (by omega) (by omega)
theorem zb9{z:Nat}{x:AV}{X:Value}(e:aR ι x X)(q:HR ι H w){s:Src}(h:zw9 z H x=some s)(o:(∃m b,x=.str m b)->z=1):∃vs:List Value,aL ι s.l vs/\(∀v∈vs,v.oneCell=true)/\vs.length=s.n*z/\(Builtin.lenOf X).run P w=.ok s.n w /\ ∀k,k<=s.n->(Builtin.firstCells z k X).run P w=.ok (vs.take (k*z)).toArray w:=by
 unfold zw9 at h;split at h
 ·simp only[lI4]at h;subst h;simp only[aR]at e;subst e;exact⟨[],by simp[aL],by simp,by simp,by simp[Builtin.lenOf],fun k _=>by simp[Builtin.firstCells]⟩
 ·simp only[lI4]at h;subst h;simp only[aR]at e;obtain⟨I,c,rfl⟩:=e;refine⟨[],by simp[aL],by simp,by simp,by simp[Builtin.lenOf],fun k n=>?_⟩;have:k=0:=by simpa using n
  subst this;simp[Builtin.firstCells,loadCells,loadCellsFrom]
 ·rename_i b i m a r;obtain⟨_,loc,t,rfl⟩:=e;split at h
  ·rename_i cs p;simp only[lI4]at h;subst h;obtain⟨C,f⟩:=qfy (q.blk b (q.lt t)) p;have fin:∀ vs:List Value,vs.length=m*z->aL ι cs vs->(∀v∈vs,v.oneCell=true)->(∀(j:Nat) (v:Value),vs[j]? =some v->w.cell? ⟨loc.blk,loc.base+i+j,none⟩=some v) ->
     ∃vs:List Value,aL ι cs vs/\(∀v∈vs,v.oneCell=true)/\vs.length=m*z/\(Builtin.lenOf (.slice (some ⟨loc.blk,loc.base+i,none⟩) m (if r then a else a+loc.ext))).run P w=.ok m w /\
      ∀k,k<=m->(Builtin.firstCells z k (.slice (some ⟨loc.blk,loc.base+i,none⟩) m (if r then a else a+loc.ext))).run P w=.ok (vs.take (k*z)).toArray w:=by
    intro vs D E F G;refine⟨vs,E,F,D,by simp[Builtin.lenOf],fun k n=>?_⟩;have A:k*z<=m*z:=lO9 z n;have g:(vs.take (k*z)).length=k*z:=by rw[lI6];omega
    have:=run_loadCells P w loc.blk (loc.base+i) (vs.take (k*z)) (fun j v d=>G j v (by
     rw[lXM]at d;split at d
     ·exact d
     ·cases d))
    rw[g]at this;trivial
   rcases f with f|⟨J,vs,g1,g2,g3,g4,g5⟩
   ·have f:m*z=0:=f;have:cs=[]:=lIG.1 (by rw[C];exact f);subst this;exact fin [] (by simp[f]) (by simp[aL]) (by simp) (by simp)
   ·rw[t]at g1;cases g1;exact fin vs g3 g2 g4 g5
  ·cases h
 ·rename_i m u;simp only[lI4]at h;subst h;have B:z=1:=o ⟨_,_,rfl⟩;subst B;obtain⟨s,rfl,y⟩:=e;have l:s.size=m:=y.1;refine⟨_,zf9 y,fun v d=>?_,?_,by simp[Builtin.lenOf,l],fun k n=>?_⟩
  ·simp at d;obtain⟨_,_,rfl⟩:=d;rfl
  ·simp;exact l
  ·simp only[Builtin.firstCells,Sem.run_pure];congr 1;apply Array.ext';simp
 ·cases h
theorem qzn{e:TypeId}{p:Ap}(b:apS P e=some p)(F:HR ι H w){old:List AV}{jA:List Value}(G:aL ι old jA)(q:∀ v∈jA,v.oneCell=true){x:Src}{d:List Value}(I:aL ι x.l d)(r:∀ v∈d,v.oneCell=true){need:Nat}(R:jA.length+d.length=need*p.z){v:AV}{s:Hp}(h:grow p.z H old x need=.ok v s)(a:Nat)(S:need<=a){f:Value}(t:(P.info? e).bind (·.zero)=some f)(w1:World)(u:w1=w.drew):∃B,aR B v (.slice (some ⟨w.heap.size,0,none⟩) need a)/\HR B s (w1.alloc (.cells (jA.toArray++d.toArray++Builtin.zeroCells f.cells (a-need)) e)) /\ Fr ι B H s w (w1.alloc (.cells (jA.toArray++d.toArray++Builtin.zeroCells f.cells (a-need)) e)):=by
 subst u;unfold grow at h
 ·
  obtain⟨rfl,rfl⟩:=h;have C:iJ (H.nx):=qL;unfold apS at b;split at b
  ·rename_i z T L U V M;cases o:Nat.beq L.length z with
   |false=>rw[o]at b;cases b
   |true=>
    rw[o]at b;simp only[lII,lI4]at b;subst b;have o:=yG o;obtain⟨N,J,O,Q⟩:=qci (ι:=ι) M;rw[t]at J;cases J;have l:f.cells.size=z:=by have:=O.length;simp at this;omega
    have D:Builtin.zeroCells f.cells (a-need)=(gW f.cells.toList (a-need)).toArray:=by have:=range_zero f.cells (a-need) z l;unfold Builtin.zeroCells;rw[l]at this ⊢;exact this
    rw[D]
    let loc:Loc:=⟨w.heap.size,0,a-need,z⟩
    let W:World:=w.drew.alloc (.cells (jA.toArray++d.toArray++(gW f.cells.toList (a-need)).toArray) e)
    have g:∀ i,W.cell? ⟨w.heap.size,i,none⟩=(jA++d++gW f.cells.toList (a-need))[i]? :=fun i=>by show(w.drew.alloc _).cell? ⟨w.drew.heap.size,i,none⟩=_;rw[World.cell?_alloc_new];simp
    have m:∀ i,W.frozen? ⟨w.heap.size,i,none⟩=false:=fun i=>by show(w.drew.alloc _).frozen? ⟨w.drew.heap.size,i,none⟩=_;rw[World.frozen?_alloc_new]
    have n:=F.push (w':=W) C loc (aB z (old++x.l)) rfl rfl rfl (by show w.heap.size<(w.drew.alloc _).heap.size;simp) (fun c y=>Below.heap_alloc w.drew _ c y) rfl
     (qzd (vs:=jA++d) (loc:=loc) (Im.bQ _ _ _) (aL.mono (Im.jG loc (F.fresh _ (lEO _))) _ _ (G.append I)) (fun v k=>by
      rcases lEY.1 k with k|k
      ·exact q v k
      ·exact r v k) (fun i v k=>by
      rw[lEW];refine⟨?_,m i⟩;rw[g];have K:i<(jA++d).length:=by
       rcases lOI i (jA++d).length with h|h
       ·exact h
       ·simp_all
      rw[lIO K];exact k) (fun j A=>by
      have A:j<(a-need)*z:=A;rw[lEW,g];have E:(jA++d).length=(old++x.l).length:=by rw[lEP,lEP,G.length,I.length]
      rw[lIJ (by omega),E,lOF];have:j<(gW f.cells.toList (a-need)).length:=by rw[qb2];simpa [l] using A
      exact⟨_,gp this,m _,Q _ (qgo (lEQ this))⟩))
    refine⟨ι.set H.nx loc,?_,n.1,n.2⟩;refine⟨lEO _,loc,Im.bQ _ _ _,?_⟩;simp[loc];omega
  ·cases b
theorem qe0{t u e ty:TypeId}(i:P.underlying t=some (.slice e)){f:TypeDesc}(j:P.underlying u=some f)(b:f=.string\/∃ h,f=.slice h){z:Nat}(k:iM P e=some z)(base:Option Addr)(len C:Nat)(X:Value){m:Nat}{vs:List Value}(l:(Builtin.lenOf X).run P w=.ok m w)(n:(Builtin.firstCells z m X).run P w=.ok vs.toArray w)(c:len+m<=C){w':World}(a:∀ d,base=some d->(storeCells (d.add (len*z)) vs).run P w=.ok () w')(g:base=none->w'=w):(Builtin.append_ #[t,u] ty #[.slice base len C,X]).run P w=.ok (.slice base (len+m) C) w':=by
 cases base with
 |none=>
  rw[g rfl];rcases b with rfl|⟨h,rfl⟩
  all_goals simp[Builtin.append_,dZ i,dZ j,qA k,l,n,c]
 |some d=>
  have a:=a d rfl;rcases b with rfl|⟨h,rfl⟩
  all_goals simp[Builtin.append_,dZ i,dZ j,qA k,l,n,c,a]
set_option maxHeartbeats 1000000 in
theorem qg7{t u e ty:TypeId}(r:P.underlying t=some (.slice e)){d:TypeDesc}(s:P.underlying u=some d)(f:d=.string\/∃ q,d=.slice q){z b:Nat}(v:iM P e=some z)(x:qkb P e=some b){o:Value}(g:(P.info? e).bind (·.zero)=some o)(base:Option Addr)(len C:Nat)(X:Value){m:Nat}{vs jA:List Value}(y:(Builtin.lenOf X).run P w=.ok m w)(A:(Builtin.firstCells z m X).run P w.drew=.ok vs.toArray w.drew)(h:(Builtin.firstCells z len (.slice base len C)).run P w.drew=.ok jA.toArray w.drew)(i:¬ len+m<=C)(p:(len+m)*b<=1099511627776)(j:len+m<=1099511627776):∃a,len+m<=a/\(Builtin.append_ #[t,u] ty #[.slice base len C,X]).run P w=.ok (.slice (some ⟨w.heap.size,0,none⟩) (len+m) a) (w.drew.alloc (.cells (jA.toArray++vs.toArray++Builtin.zeroCells o.cells (a-(len+m))) e)):=by
 obtain⟨ti,l,n⟩:=qy5 (P:=P) x;have k:=qvr (need:=len+m) (old:=C) (by omega);have B:¬(2 ^ 48<Builtin.nextslicecap (len+m) C*ti.bytes):=by have D:Builtin.nextslicecap (len+m) C*ti.bytes<=3*(len+m)*ti.bytes:=lO9 _ k;rw[n]at D ⊢;have:3*(len+m)*b=3*((len+m)*b):=Nat.mul_assoc _ _ _;omega
 refine⟨(Question.appendCap (len+m) C e).cut (w.tape w.drawn (.appendCap (len+m) C e)),by simp only[Question.cut];omega,?_⟩;generalize c:(Question.appendCap (len+m) C e).cut (w.tape w.drawn (.appendCap (len+m) C e))=cap;rcases f with rfl|⟨q,rfl⟩
 all_goals
  simp[Builtin.append_,dZ r,dZ s,qA v,y,i,l,B,Question.forced,c,h,A,qc8 g,newRow];rw[lEU (by omega),<-Array.append_assoc];simp
theorem qsj{e:TypeId}{a:Ap}(h:apS P e=some a):iM P e=some a.z/\qkb P e=some a.w/\qkg P e=some a.zl/\a.zl.length=a.z/\∃ b,(P.info? e).bind (·.zero)=some b:=by
 unfold apS at h;split at h
 ·rename_i z g d i j f;cases c:Nat.beq d.length z with
  |false=>rw[c]at h;cases h
  |true=>rw[c]at h;simp only[lII,lI4]at h;subst h;obtain⟨b,k,_⟩:=qci (ι:=fun _=>none) f;simp_all
 ·cases h
theorem HR.drew(h:HR ι H w):HR ι H w.drew:=
 ⟨h.top,fun b a=>(h.blk b a).keep fun _ _ _=>rfl,h.low,h.inj,h.fresh,h.free⟩
theorem zpt{b i len d:Nat}{loc:Loc}{z:Nat}(A:HR ι H w)(y:ι b=some loc)(l:qg9 (H.get b) (i+d*z) z=true){old:List AV}(F:iF (H.get b) i (len*z)=some old){x:Src}{r:List Value}(hx:aL ι x.l r)(G:∀ v∈r,v.oneCell=true)(I:r.length=x.n*z)(hlc:len<=d)(hgt:¬ len+x.n<=d)(J:len+x.n<=d+loc.ext){v:AV}{R:Hp}(h:grow z (H.put b .dead) old x (len+x.n)=.ok v R):∃w' S,(storeCells ⟨loc.blk,loc.base+i+len*z,none⟩ r).run P w=.ok () w'/\aR S v (.slice (some ⟨loc.blk,loc.base+i,none⟩) (len+x.n) (d+loc.ext))/\HR S R w'/\Fr ι S H R w w':=by
 have f:=A.lt y;have T:=A.blk b f;unfold qg9 at l;split at l
 ·rename_i dd Y c z' hg;simp only[lI0]at l;have e1:=yG l.1;have e2:=yG l.2;have p:(H.get b).wr=true:=by rw[hg];rfl
  obtain⟨ol,ov⟩:=qfy T F;rw[hg]at T;obtain⟨l',b1,⟨b2,Z⟩,b3,b4⟩:=T;rw[y]at b1;cases b1;have hz:loc.z=z:=by rw[Z,e2]
  have U:(len+x.n)*z=len*z+x.n*z:=lOS _ _ _;have bL3:(d+loc.ext)*z=d*z+loc.ext*z:=lOS _ _ _;have bVR:(len+x.n)*z<=(d+loc.ext)*z:=lO9 z J
  -- every t up to the end of the room is k
  have k:∀ j,j<Y+loc.ext*z->∃ u,w.cell? ⟨loc.blk,loc.base+j,none⟩=some u/\w.frozen? ⟨loc.blk,loc.base+j,none⟩=false/\u.oneCell=true:=by
   intro j E;by_cases hjn:j<Y
   ·obtain⟨V,O,_,c3,c4⟩:=b3 j hjn;exact⟨V,O,c4 rfl,c3⟩
   ·obtain⟨V,O,Q⟩:=b4 rfl (j-Y) (by rw[hz];omega);simp_all
  obtain⟨w',r1,q⟩:=qg6 P loc.blk r w (loc.base+i+len*z) 0 (fun j E=>by obtain⟨u,O,Q,_⟩:=k (i+len*z+j) (by omega);rw[show loc.base+i+len*z+0+j=loc.base+(i+len*z+j)by omega];exact⟨u,O,Q⟩) G;rw[lO7]at q;unfold grow at h
  ·
   obtain⟨rfl,rfl⟩:=h;have C:iJ (H.nx):=qL;obtain⟨k1,k2⟩:=A.kill f p;have s:=A.fresh H.nx (lEO _)
   let vR:Loc:=⟨loc.blk,loc.base+i,d+loc.ext-(len+x.n),z⟩
   have L:ι.le (ι.set H.nx vR):=Im.jG vR s;have W:(H.put b .dead).get H.nx=.dead:=k1.free _ (lEO _) C
   -- the cells that were k
   obtain⟨jA,o1,o2,o3,o4⟩:∃ jA,aL ι old jA/\jA.length=len*z/\(∀v∈jA,v.oneCell=true)/\∀(j:Nat) (v:Value),jA[j]? =some v->w.cell? ⟨loc.blk,loc.base+i+j,none⟩=some v:=by
    rcases ov with ov|⟨l2,jA,g1,g2,g3,g4,g5⟩
    ·have:old=[]:=lIG.1 (by rw[ol];exact ov);subst this;exact⟨[],by simp[aL],by simpa using ov.symm,by simp,by simp⟩
    ·rw[y]at g1;cases g1;exact⟨jA,g2,g3,g4,g5⟩
   have M:(old++x.l).length=(len+x.n)*z:=by rw[lEP,ol,<-hx.length,I,U]
   have t:∀ j,w'.cell? ⟨loc.blk,loc.base+i+j,none⟩=if len*z<=j/\j<len*z+r.length then some (r.getD (j-len*z) Go.undef)else w.cell? ⟨loc.blk,loc.base+i+j,none⟩:=fun j=>by
    rw[q.cell];by_cases n:len*z<=j/\j<len*z+r.length
    ·rw[lEZ n,lEZ (by omega),show loc.base+i+j-(loc.base+i+len*z)=j-len*z by omega]
    ·rw[lEU n,lEU (by omega)]
   have X:BR (ι.set H.nx vR) w' H.nx (aB z (old++x.l)):=by
    refine qzd (vs:=jA++r) (loc:=vR) (Im.bQ _ _ _) (aL.mono L _ _ (o1.append hx)) (fun v B=>by
     rcases lEY.1 B with B|B
     ·exact o3 v B
     ·exact G v B) (fun j v B=>?_) (fun j E=>?_)
    ·show w'.cell? ⟨loc.blk,loc.base+i+j,none⟩=some v/\w'.frozen? ⟨loc.blk,loc.base+i+j,none⟩=false;have E:j<(jA++r).length:=by
      rcases lOI j (jA++r).length with h|h
      ·exact h
      ·simp_all
     rw[lEP,o2,I]at E;refine⟨?_,?_⟩
     ·rw[t];by_cases n:j<len*z
      ·rw[lEU (by omega)];simp_all
      ·rw[lEZ (by omega)];rw[lIJ (by omega),o2]at B;simp_all
     ·rw[q.frozen];obtain⟨_,_,Q,_⟩:=k (i+j) (by omega);rw[lIP];exact Q
    ·show ∃V,w'.cell? ⟨loc.blk,loc.base+i+((old++x.l).length+j),none⟩=some V/\w'.frozen? ⟨loc.blk,loc.base+i+((old++x.l).length+j),none⟩=false/\V.oneCell=true;have E:j<(d+loc.ext-(len+x.n))*z:=E;have bR1:(d+loc.ext-(len+x.n))*z=(d+loc.ext)*z-(len+x.n)*z:=Nat.sub_mul _ _ _;rw[t,q.frozen,lEU (by omega),M];obtain⟨u,O,Q⟩:=k (i+((len+x.n)*z+j)) (by omega);rw[lIP];simp_all
   have N:=k1.add (w':=w') C s W (Nat.le_succ _) C (lU6 _) vR (aB z (old++x.l)) (by rw[q.size];exact lEO _)
    (fun c m n g o=>q.keep _ fun K=>by
     rw[Hp.get_put _ _ _ _ f n]at g;by_cases a:c=b
     ·subst a;simp[bX.dU]at g
     ·rw[lEU a]at g;exact a (A.inj b c loc m f n p g y o K.symm).symm)
    (fun _=>by rw[q.size];exact A.low b loc f (bX.bL p) y)
    (fun c m n g o K=>by
     rw[Hp.get_put _ _ _ _ f n]at g;by_cases a:c=b
     ·subst a;simp[bX.dU]at g
     ·rw[lEU a]at g;exact a (A.inj b c loc m f n p g y o K.symm).symm) X
   refine⟨w',ι.set H.nx vR,r1,?_,N,⟨L,Nat.le_succ _,fun c g o=>?_,q.os,q.tape,q.output,by rw[q.size];exact lEO _,fun c n g=>q.keep c fun K=>g b loc f p y K.symm,fun c m n g o=>?_,fun c m n g o=>?_⟩⟩
   ·simp only[aR];refine⟨lEO _,vR,Im.bQ _ _ _,?_⟩;simp[vR];omega
   ·by_cases e:c=H.nx
    ·omega
    ·rw[Im.eU _ _ e]at o;exact absurd g o
   ·have D:(aK (H.put b .dead) (aB z (old++x.l))).get c=if c=H.nx then aB z (old++x.l)else(H.put b .dead).get c:=by exact Mem.get_put _ _ _ _
    by_cases e:c=H.nx
    ·subst e;rw[Im.bQ]at o;cases o;exact .inr ⟨b,loc,f,p,y,rfl⟩
    ·rw[D,lEU e,Hp.get_put _ _ _ _ f n]at g;rw[Im.eU _ _ e]at o;by_cases a:c=b
     ·subst a;simp[bX.wr]at g
     ·rw[lEU a]at g;exact .inr ⟨c,m,n,g,o,rfl⟩
   ·have D:(aK (H.put b .dead) (aB z (old++x.l))).get c=if c=H.nx then aB z (old++x.l)else(H.put b .dead).get c:=by exact Mem.get_put _ _ _ _
    by_cases e:c=H.nx
    ·subst e;rw[Im.bQ]at o;cases o;exact .inr ⟨b,loc,f,bX.bL p,y,rfl⟩
    ·rw[D,lEU e,Hp.get_put _ _ _ _ f n]at g;rw[Im.eU _ _ e]at o;by_cases a:c=b
     ·subst a;simp[bX.dU]at g
     ·rw[lEU a]at g;exact .inr ⟨c,m,n,g,o,rfl⟩
 ·cases l
theorem q1o{z:Nat}{x:AV}{X:Value}(c:aR ι x X)(d:HR ι H w){s:Src}(h:pJ z H x=some s):∃vs:List Value,aL ι s.l vs/\(∀v∈vs,v.oneCell=true)/\vs.length=s.n*z/\(Builtin.lenOf X).run P w=.ok s.n w /\ ∀k,k<=s.n->(Builtin.firstCells z k X).run P w=.ok (vs.take (k*z)).toArray w:=by
 unfold pJ at h;split at h
 ·cases a:Nat.beq z 1 with
  |false=>rw[a]at h;cases h
  |true=>rw[a]at h;exact zb9 c d h (fun _=>yG a)
 ·rename_i f;exact zb9 c d h (fun⟨m,b,e⟩=>absurd e (f m b))
theorem z2y{b i len:Nat}{z:Nat}{loc:Loc}{C:Nat}(a:HR ι H w)(c:ι b=some loc){old:List AV}(h:iF (H.get b) i (len*z)=some old):∃jA,aL ι old jA/\(∀v∈jA,v.oneCell=true)/\jA.length=len*z/\(Builtin.firstCells z len (.slice (some ⟨loc.blk,loc.base+i,none⟩) len C)).run P w=.ok jA.toArray w:=by
 obtain⟨f,ov⟩:=qfy (a.blk b (a.lt c)) h;have fin:∀ jA:List Value,jA.length=len*z->(∀(j:Nat) (v:Value),jA[j]? =some v->w.cell? ⟨loc.blk,loc.base+i+j,none⟩=some v)->(Builtin.firstCells z len (.slice (some ⟨loc.blk,loc.base+i,none⟩) len C)).run P w=.ok jA.toArray w:=fun jA d e=>by have:=run_loadCells P w loc.blk (loc.base+i) jA e;rw[d]at this;trivial
 rcases ov with ov|⟨g,jA,g1,g2,g3,g4,g5⟩
 ·have:old=[]:=lIG.1 (by rw[f];exact ov);subst this;exact⟨[],by simp[aL],by simp,by simpa using ov.symm,fin [] (by simpa using ov.symm) (by simp)⟩
 ·rw[c]at g1;cases g1;exact⟨jA,g2,g4,g3,fin jA g3 g5⟩
theorem zdy{t u e:TypeId}{x y:Operand}(ho:o.op=.call {callee:=.builtin .append,args:= #[x,y],argTypes:= #[t,u]})(N:P.underlying t=some (.slice e)){td:TypeDesc}(O:P.underlying u=some td)(m:td=.string\/∃ e',td=.slice e'){l:Ap}(E:apS P e=some l)(B:HR ι H w)(h:LR ι d n L a.tmps):VOk P o a.eval ι H w (kJ l.z l.w H ((aJ d n x).f L) (pJ l.z H ((aJ d n y).f L))):=by
 have G:=gJ h x;have hy:=gJ h y;obtain⟨Q,a2,a3,a4,zv,X⟩:=qsj E;have p:∀ S V w',a.eval x=S->(Builtin.append_ #[t,u] o.type #[S,a.eval y]).run P w=.ok V w'->(execOp a.eval o).run P w=.ok (.value V) w':=fun S V w' F K=>by simp[execOp,ho,resolve,invoke,builtin,F,K]
 cases hs:pJ l.z H ((aJ d n y).f L)with
 |none=>trivial
 |some s=>
  obtain⟨qZ,x1,x2,x3,R,M⟩:=q1o (P:=P) hy B hs;obtain⟨bXt,T,U,J,x4',q⟩:=q1o (P:=P) hy B.drew hs;have M:=M s.n (lEO _);have q:=q s.n (lEO _);rw[<-x3,lIN]at M;rw[<-J,lIN]at q;cases c:kJ l.z l.w H ((aJ d n x).f L) (some s)with
  |bad=>trivial
  |ok v H'=>
   unfold kJ at c;simp only at c;split at c
   ·rename_i e1;rw[e1]at G;simp only[aR]at G;cases I:Nat.beq s.n 0 with
    |true=>have I:=yG I;rw[I]at c;obtain⟨rfl,rfl⟩:=c;have r:=qe0 (ty:=o.type) N O m Q none 0 0 (a.eval y) R M (by omega) (w':=w) (fun _ h=>by cases h) (fun _=>rfl);rw[I]at r;exact⟨_,.slice none 0 0,w,ι,p _ _ _ G r,.inl rfl,by simp only[aR],B,Fr.refl _ _ _⟩
    |false=>
     rw[I]at c;simp only[lOZ]at c;have I:=q85 I;cases f:(Nat.ble (Nat.mul s.n l.w) gM&&Nat.ble s.n gM)with
     |false=>rw[f]at c;cases c
     |true=>rw[f]at c;simp only[lII]at c;simp only[lI0]at f;have g1:s.n*l.w<=1099511627776:=pM f.1;have g2:s.n<=1099511627776:=pM f.2;obtain⟨nc,Y,Z⟩:=qg7 (ty:=o.type) (jA:=[]) N O m Q a2 X none 0 0 (a.eval y) R q (by simp[Builtin.firstCells]) (by omega) (by rw[lEW];exact g1) (by omega);rw[lEW]at Y Z;obtain⟨W,d1,d2,d3⟩:=qzn E B (jA:=[]) (show aL ι [] []by simp[aL]) (by simp) T U (by simp[J]) c nc Y X w.drew rfl;exact⟨_,_,_,W,p _ _ _ G Z,.inl rfl,d1,d2,d3⟩
   ·rename_i b i len k ex e1;rw[e1]at G;simp only[aR]at G;obtain⟨hlc,loc,F,K⟩:=G;cases j:Nat.ble (len+s.n) k with
    |true=>
     rw[j]at c;simp only[lII]at c;have j:=pM j;obtain⟨rfl,w',r1,r2,r3⟩:=qel P B F x1 x2 c;have r:=qe0 (ty:=o.type) N O m Q (some ⟨loc.blk,loc.base+i,none⟩) len (if ex then k else k+loc.ext) (a.eval y) R M (by split<;>omega) (w':=w')
      (fun ad h=>by cases h;rw[addr_add,lIP];exact r1) (fun h=>by cases h)
     refine⟨_,_,w',ι,p _ _ _ K r,.inl rfl,?_,r2,r3⟩;simp only[aR];exact⟨j,loc,F,rfl⟩
    |false=>
     rw[j]at c;simp only[lOZ]at c;have j:=xen j;cases f:(Nat.ble (Nat.mul (len+s.n) l.w) gM&&Nat.ble (len+s.n) gM)with
     |false=>rw[f]at c;cases c
     |true=>
      rw[f]at c;simp only[lII]at c;simp only[lI0]at f;have g1:(len+s.n)*l.w<=1099511627776:=pM f.1;have g2:len+s.n<=1099511627776:=pM f.2;split at c
      ·cases c
      ·rename_i old D;have z:∀ C,¬len+s.n<=C->a.eval x=.slice (some ⟨loc.blk,loc.base+i,none⟩) len C->∀(H1:Hp),HR ι H1 w->Fr ι ι H H1 w w->grow l.z H1 old s (len+s.n)=.ok v H'->VOk P o a.eval ι H w (.ok v H'):=by
        intro C hC hxC H1 hH1 hF1 hg;obtain⟨jA,o1,o2,o3,o4⟩:=z2y (P:=P) (w:=w.drew) (C:=C) B.drew F D;obtain⟨nc,Y,Z⟩:=qg7 (ty:=o.type) N O m Q a2 X (some ⟨loc.blk,loc.base+i,none⟩) len C (a.eval y) R q o4 hC g1 g2;obtain⟨W,d1,d2,d3⟩:=qzn E hH1 o1 o2 T U (by rw[o3,J,lOS]) hg nc Y X w.drew rfl;exact⟨_,_,_,W,p _ _ _ hxC Z,.inl rfl,d1,d2,hF1.trans d3⟩
       cases ex with
       |true=>exact z k j (by simpa using K) H B (Fr.refl _ _ _) c
       |false=>
        cases g:qg9 (H.get b) (i+k*l.z) l.z with
        |false=>rw[g]at c;cases c
        |true=>
         rw[g]at c;simp only[lII]at c;by_cases A:len+s.n<=k+loc.ext
         ·obtain⟨w',W,q1,q2,q3,q4⟩:=zpt (P:=P) B F g D x1 x2 x3 hlc j A c;have r:=qe0 (ty:=o.type) N O m Q (some ⟨loc.blk,loc.base+i,none⟩) len (k+loc.ext) (a.eval y) R M A (w':=w')
           (fun ad h=>by cases h;rw[addr_add];exact q1) (fun h=>by cases h)
          exact⟨_,_,w',W,p _ _ _ K r,.inl rfl,q2,q3,q4⟩
         ·have hwr:(H.get b).wr=true:=by
           unfold qg9 at g;split at g
           ·rename_i hg;rw[hg];rfl
           ·cases g
          obtain⟨k1,k2⟩:=B.kill (B.lt F) hwr;exact z _ A K _ k1 k2 c
   ·cases c
/- maps -/
theorem q10{b:Nat}{es:List oC}{e:Nat}{loc:Loc}(j:HR ι H w)(i:ι b=some loc)(l:H.get b=.map es e)(f:List oC)(a:Nat){d:List MapEntry}(m:dQ ι f d):HR ι (H.put b (.map f a)) {w with heap:=w.heap.setIfInBounds loc.blk (.map d.toArray a)}/\Fr ι ι H (H.put b (.map f a)) w {w with heap:=w.heap.setIfInBounds loc.blk (.map d.toArray a)}:=by
 have g:=j.lt i;have h:(H.get b).wr=true:=by rw[l];rfl
 have k:=j.low b loc g (bX.bL h) i;refine j.put g h i _ rfl rfl rfl (by simp) (fun c n=>?_) ⟨loc,d,i,?_,m⟩
 ·show(w.heap.setIfInBounds loc.blk _)[c]? =_;rw[Array.getElem?_setIfInBounds_ne (Ne.symm n)]
 ·simp_all
theorem dQ.set:∀{es:List oC} {a:List MapEntry},dQ ι es a->∀(i:Nat) (x:oC) (e:MapEntry),aR ι x.key e.key->aR ι x.val e.val->e.born=x.born->dQ ι (es.set i x) (a.set i e)
 | [],a,h,i,x,e,_,_,_=>by simp only[dQ]at h;subst h;simp[dQ]
 |y::es,a,h,i,x,e,h1,h2,h3=>by
  obtain⟨b,r,rfl,g1,g2,g3,g4⟩:=h;cases i with
  |zero=>simp only[List.set_cons_zero,dQ];exact⟨e,r,rfl,h1,h2,h3,g4⟩
  |succ i=>simp only[lXN,dQ];exact⟨b,r.set i e,rfl,g1,g2,g3,dQ.set g4 i x e h1 h2 h3⟩
theorem dQ.snoc:∀{es:List oC} {a:List MapEntry},dQ ι es a->∀(x:oC) (e:MapEntry),aR ι x.key e.key->aR ι x.val e.val->e.born=x.born->dQ ι (es++[x]) (a++[e])
 | [],a,h,x,e,h1,h2,h3=>by simp only[dQ]at h;subst h;simp only[lOX,dQ];exact⟨e,[],rfl,h1,h2,h3,rfl⟩
 |y::es,a,h,x,e,h1,h2,h3=>by obtain⟨b,r,rfl,g1,g2,g3,g4⟩:=h;simp only[lUS,dQ];exact⟨b,r++[e],rfl,g1,g2,g3,dQ.snoc g4 x e h1 h2 h3⟩
theorem dQ.erase:∀{es:List oC} {a:List MapEntry},dQ ι es a->∀(i:Nat),dQ ι (es.eraseIdx i) (a.eraseIdx i)
 | [],a,h,i=>by simp only[dQ]at h;subst h;simp[dQ]
 |y::es,a,h,i=>by
  obtain⟨b,r,rfl,g1,g2,g3,g4⟩:=h;cases i with
  |zero=>simpa using g4
  |succ i=>simp only[List.eraseIdx_cons_succ,dQ];exact⟨b,r.eraseIdx i,rfl,g1,g2,g3,dQ.erase g4 i⟩
/- keys that are the same -/
theorem zcf{x y:AV}(h:zxj x y=true){X Y:Value}(a:aR ι x X)(b:aR ι y Y):X=Y/\∀ k,Instr.sameBits k X X=true:=by
 unfold zxj at h;split at h
 ·simp only[lI0]at h;have:=zy5 h.1;subst this;have c:=h.2;rw[qes]at c;simp only[aR]at a b;subst a b;obtain rfl:=eq_of_beq c;exact⟨rfl,fun k=>by cases k<;>simp[Instr.sameBits]⟩
 ·simp only[aR]at a b;obtain⟨s,rfl,d⟩:=a;obtain⟨u,rfl,c⟩:=b;rw[d.eq c]at h;have e:s=u:=by
   have:s.data.toList=u.data.toList:=by simpa using h
   cases s;cases u;simp at this;rw[this]
  subst e;exact⟨rfl,fun k=>by cases k<;>simp[Instr.sameBits,beq_toListBytes]⟩
 ·simp only[aR]at a b;subst a b;obtain rfl:=eq_of_beq h;exact⟨rfl,fun k=>by cases k<;>simp[Instr.sameBits]⟩
 ·cases h
theorem zce:∀{l m:List AV} {vs a:List Value},zex l m=true->aL ι l vs->aL ι m a->vs=a/\∀ k,(vs.zip vs).all (fun(x,y)=>Instr.sameBits k x y)=true
 | [],[],vs,a,_,h1,h2=>by simp only[aL]at h1 h2;subst h1 h2;exact⟨rfl,fun _=>rfl⟩
 | [],_::_,vs,a,h,_,_=>by simp[zex]at h
 |_::_,[],vs,a,h,_,_=>by simp[zex]at h
 |x::l,y::m,vs,a,h,h1,h2=>by obtain⟨v,r,rfl,b,c⟩:=h1;obtain⟨u,f,rfl,d,e⟩:=h2;simp only[zex,lI0]at h;obtain⟨g,i⟩:=zcf h.1 b d;obtain⟨j,n⟩:=zce h.2 c e;simp_all
theorem zey{x y:AV}(h:sameKey x y=true){X Y:Value}(a:aR ι x X)(b:aR ι y Y):Instr.sameBits 10000 X Y=true:=by
 unfold sameKey at h;split at h
 ·obtain⟨vs,d,rfl,_⟩:=qdw a;obtain⟨f,e,rfl,_⟩:=qdw b;obtain⟨rfl,c⟩:=zce h d e;simp only[Instr.sameBits,lI0];simp_all
 ·obtain⟨rfl,c⟩:=zcf h a b;exact c 10000
theorem zfj(a:List MapEntry)(i:Nat)(E:MapEntry)(h:a[i]? =some E)(f:MapEntry->MapEntry):a.modify i f=a.set i (f E):=by
 apply List.ext_getElem?;intro j;rw[List.getElem?_modify,lXA];by_cases e:i=j
 ·subst e;have b:=(lI2.1 h).1;simp only[lU8,b];rw[h];rfl
 ·simp[e]
theorem xd6{t G Q:TypeId}{x y z:Operand}(l:o.op=.mapUpdate t x y z\/o.op=.insert t x y z)(I:P.underlying t=some (.map G Q)){J:Ky}(i:aBB P G=some J)(m:HR ι H w)(h:LR ι d n L a.tmps):VOk P o a.eval ι H w (qK J H ((aJ d n x).f L) ((aJ d n y).f L) ((aJ d n z).f L)):=by
 have r:=gJ h x;have j:=gJ h y;have K:=gJ h z;have g:(execOp a.eval o).run P w=((Instr.mapUpdate t (a.eval x) (a.eval y) (a.eval z)).run P w).andThen fun _ w=>.ok .skip w:=by rcases l with l|l<;>simp[execOp,l]
 unfold qK;split
 ·rename_i b S;rw[S]at r;simp only[aR]at r;obtain⟨loc,p,N⟩:=r;have M:=m.blk b (m.lt p);split
  ·rename_i es c u;rw[u]at M;obtain⟨X,T,g1,g2,g3⟩:=M;rw[p]at g1;cases g1;split
   ·rename_i f v;obtain⟨A,R,B,q⟩:=qzs i j g3 v;obtain⟨V,E,rfl,Y,O,U,Z,d5,W⟩:=q;cases F:sameKey f.x.key ((aJ d n y).f L)with
    |false=>trivial
    |true=>have s:=zey F U j;obtain⟨C,D⟩:=q10 m p u (es.set f.i ⟨(aJ d n y).f L,(aJ d n z).f L,f.x.born⟩) c (g3.set f.i _ ⟨a.eval y,a.eval z,E.born⟩ j K W);refine⟨.skip,Go.undef,_,ι,?_,.inr ⟨rfl,rfl⟩,by simp[aR,Go.undef],C,D⟩;rw[g,N];have k:=zfj T f.i E O (fun e=>{e with key:=a.eval y,val:=a.eval z});simp[Instr.mapUpdate,dZ I,getObj,setObj,Sem.run,g2,A,B,O,Instr.keyThatStays,s,k]
   ·rename_i v;obtain⟨A,R,B,q⟩:=qzs i j g3 v;simp only[zsu]at q;subst q;obtain⟨C,D⟩:=q10 m p u (es++[⟨(aJ d n y).f L,(aJ d n z).f L,c⟩]) (c+1) (g3.snoc _ ⟨a.eval y,a.eval z,c⟩ j K rfl);refine⟨.skip,Go.undef,_,ι,?_,.inr ⟨rfl,rfl⟩,by simp[aR,Go.undef],C,D⟩;rw[g,N];simp[Instr.mapUpdate,dZ I,getObj,setObj,Sem.run,g2,A,B]
   ·trivial
  ·trivial
 ·trivial
theorem qfi(a:Value)(k:Nat):Builtin.zeroCells a.cells k=(gW a.cells.toList k).toArray:=by have:=range_zero a.cells k a.cells.size rfl;trivial
theorem zrp{t e:TypeId}{x:Operand}(g:o.op=.call {callee:=.builtin .clear,args:= #[x],argTypes:= #[t]})(j:P.underlying t=some (.slice e)){k:Ap}(l:apS P e=some k)(p:HR ι H w)(h:LR ι d n L a.tmps):VOk P o a.eval ι H w (qh1 k.zl H ((aJ d n x).f L)):=by
 have c:=gJ h x;obtain⟨J,K,z,M,_⟩:=qsj l;obtain⟨N,A,B,C⟩:=qci (ι:=ι) z;unfold qh1;split
 ·rename_i q;rw[q]at c;simp only[aR]at c;refine⟨.value (.tuple #[]),_,w,ι,?_,.inl rfl,by simp[aR],p,Fr.refl _ _ _⟩;simp[execOp,g,resolve,invoke,builtin,Builtin.clear_,c,dZ j]
 ·rename_i b i m D O q;rw[q]at c;simp only[aR]at c;obtain⟨_,loc,E,u⟩:=c;cases f:Nat.beq m 0 with
  |true=>have f:=yG f;subst f;refine⟨.value (.tuple #[]),_,w,ι,?_,.inl rfl,by simp[aR],p,Fr.refl _ _ _⟩;simp[execOp,g,resolve,invoke,builtin,Builtin.clear_,u,dZ j]
  |false=>
   have f:=q85 f;cases r:storeAt H b i (aZ k.zl m) .undef with
   |bad=>trivial
   |ok v H'=>obtain⟨rfl,w',F,G,I⟩:=qel P p E (qd2 B m) (fun v y=>C v (qgo y)) r;refine⟨.value (.tuple #[]),_,w',ι,?_,.inl rfl,by simp[aR],G,I⟩;obtain⟨s,rfl⟩:∃ s,m=s+1:=⟨m-1,by omega⟩;simp[execOp,g,resolve,invoke,builtin,Builtin.clear_,u,dZ j,qc8 A,qfi,F]
 ·trivial
theorem qht{t u e ty:TypeId}(o:P.underlying t=some (.slice e)){y:IntKind}(p:P.underlying u=some (.int y)){z b:Nat}(q:iM P e=some z)(A:qkb P e=some b){j:Value}(k:(P.info? e).bind (·.zero)=some j){x:List AV}(r:aL ι x j.cells.toList)(B:x.length=z)(base:Option Addr)(len C:Nat){k2:IntKind}{m:Nat}(F:m<=1099511627776)(D:m*b<=1099511627776)(d:len+m<=C){w':World}(a:∀ i,base=some i->(storeCells (i.add (len*z)) (gW j.cells.toList m)).run P w=.ok () w')(l:base=none->w'=w):(Builtin.append_ #[t,u] ty #[.slice base len C,.int k2 (m:Int)]).run P w=.ok (.slice base (len+m) C) w':=by
 obtain⟨ti,g,v⟩:=qy5 (P:=P) A;have w1:IntKind.i64.wrap (m:Int)=m:=IntWalk.i64_in _ (by omega);have f:¬((m:Int)<0):=by omega
 have c:¬(281474976710656<(m:Int)*(ti.bytes:Int)):=by rw[v];omega
 have s:j.cells.size=z:=by have:=r.length;simp at this;omega
 have n:m*z=0->gW j.cells.toList m=[]:=fun h=>lIG.1 (by rw[qb2];simp[s,h]);by_cases h:m*z=0
 ·have E:=n h;cases base with
  |none=>rw[l rfl];simp[Builtin.append_,dZ o,dZ p,qA q,asInt,asIntOf,w1,f,g,c,h,d]
  |some i=>have a:=a i rfl;rw[E]at a;simp[Builtin.append_,dZ o,dZ p,qA q,asInt,asIntOf,w1,f,g,c,h,d,a]
 ·cases base with
  |none=>rw[l rfl];simp[Builtin.append_,dZ o,dZ p,qA q,asInt,asIntOf,w1,f,g,c,d,qc8 k]
  |some i=>have a:=a i rfl;simp[Builtin.append_,dZ o,dZ p,qA q,asInt,asIntOf,w1,f,g,c,h,d,qc8 k,qfi,a]
set_option maxHeartbeats 1000000 in
theorem qlw{t u e ty:TypeId}(v:P.underlying t=some (.slice e)){G:IntKind}(x:P.underlying u=some (.int G)){z b:Nat}(y:iM P e=some z)(H:qkb P e=some b){d:Value}(f:(P.info? e).bind (·.zero)=some d){A:List AV}(p:aL ι A d.cells.toList)(I:A.length=z)(base:Option Addr)(len C:Nat){k2:IntKind}{m:Nat}{jA:List Value}(B:m<=1099511627776)(J:m*b<=1099511627776)(g:(Builtin.firstCells z len (.slice base len C)).run P w.drew=.ok jA.toArray w.drew)(h:¬ len+m<=C)(D:(len+m)*b<=1099511627776)(q:len+m<=1099511627776):∃a,len+m<=a/\(Builtin.append_ #[t,u] ty #[.slice base len C,.int k2 (m:Int)]).run P w=.ok (.slice (some ⟨w.heap.size,0,none⟩) (len+m) a) (w.drew.alloc (.cells (jA.toArray++(gW d.cells.toList m).toArray++Builtin.zeroCells d.cells (a-(len+m))) e)):=by
 obtain⟨ti,n,o⟩:=qy5 (P:=P) H;have w1:IntKind.i64.wrap (m:Int)=m:=IntWalk.i64_in _ (by omega);have j:¬((m:Int)<0):=by omega
 have k:¬(281474976710656<(m:Int)*(ti.bytes:Int)):=by
  rw[o];have:((m*b:Nat):Int)<=281474976710656:=by omega
  have e:((m*b:Nat):Int)=(m:Int)*(b:Int):=by simp
  omega
 have r:d.cells.size=z:=by have:=p.length;simp at this;omega
 have l:m*z=0->gW d.cells.toList m=[]:=fun i=>lIG.1 (by rw[qb2];simp[r,i]);have s:=qvr (need:=len+m) (old:=C) (by omega);have E:¬(2 ^ 48<Builtin.nextslicecap (len+m) C*ti.bytes):=by have B:Builtin.nextslicecap (len+m) C*ti.bytes<=3*(len+m)*ti.bytes:=lO9 _ s;rw[o]at B ⊢;have:3*(len+m)*b=3*((len+m)*b):=Nat.mul_assoc _ _ _;omega
 refine⟨(Question.appendCap (len+m) C e).cut (w.tape w.drawn (.appendCap (len+m) C e)),by simp only[Question.cut];omega,?_⟩;generalize c:(Question.appendCap (len+m) C e).cut (w.tape w.drawn (.appendCap (len+m) C e))=cap;by_cases i:m*z=0
 ·rw[l i];simp[Builtin.append_,dZ v,dZ x,qA y,asInt,asIntOf,w1,j,n,k,h,E,Question.forced,c,g,i,qc8 f,newRow];intro F;omega
 ·simp[Builtin.append_,dZ v,dZ x,qA y,asInt,asIntOf,w1,j,n,k,h,E,Question.forced,c,g,i,qc8 f,newRow];rw[lEU (by omega),qfi d m,<-Array.append_assoc];simp
theorem xd7{t u e:TypeId}{x y:Operand}(ho:o.op=.call {callee:=.builtin .append,args:= #[x,y],argTypes:= #[t,u]})(R:P.underlying t=some (.slice e)){kk:IntKind}(T:P.underlying u=some (.int kk)){f:Ap}(F:apS P e=some f)(B:HR ι H w)(h:LR ι d n L a.tmps):VOk P o a.eval ι H w (kJ f.z f.w H ((aJ d n x).f L) (qwi f.w f.zl ((aJ d n y).f L))):=by
 have J:=gJ h x;have U:=gJ h y;obtain⟨X,Y,a3,Q,_⟩:=qsj F;obtain⟨zv,K,M,z3⟩:=qci (ι:=ι) a3;cases E:qwi f.w f.zl ((aJ d n y).f L)with
 |none=>trivial
 |some s=>
  unfold qwi at E;split at E
  ·rename_i k2 m e2;rw[e2]at U;simp only[aR]at U;cases z:(Nat.ble m gM&&Nat.ble (Nat.mul m f.w) gM)with
   |false=>rw[z]at E;cases E
   |true=>
    rw[z]at E;simp only[lII,lI4]at E;subst E;simp only[lI0]at z;have W:m<=1099511627776:=pM z.1;have N:m*f.w<=1099511627776:=pM z.2;have U:a.eval y=.int k2 (m:Int):=U;have p:∀ S V w',a.eval x=S->(Builtin.append_ #[t,u] o.type #[S,.int k2 (m:Int)]).run P w=.ok V w'->(execOp a.eval o).run P w=.ok (.value V) w':=fun S V w' G I=>by simp[execOp,ho,resolve,invoke,builtin,G,U,I]
    have x1:=qd2 M m;have x2:∀ v∈gW zv.cells.toList m,v.oneCell=true:=fun v c=>z3 v (qgo c);have x3:(gW zv.cells.toList m).length=m*f.z:=by rw[qb2,M.length,Q]
    cases c:kJ f.z f.w H ((aJ d n x).f L) (some ⟨m,aZ f.zl m⟩)with
    |bad=>trivial
    |ok v H'=>
     unfold kJ at c;simp only at c;split at c
     ·rename_i e1;rw[e1]at J;simp only[aR]at J;cases O:Nat.beq m 0 with
      |true=>have O:=yG O;subst O;simp only[show Nat.beq 0 0=true from rfl,lII,R1.ok.injEq]at c;obtain⟨rfl,rfl⟩:=c;have r:=qht (P:=P) (ty:=o.type) (k2:=k2) R T X Y K M Q none 0 0 W N (by omega) (w':=w) (fun _ h=>by cases h) (fun _=>rfl);exact⟨_,.slice none 0 0,w,ι,p _ _ _ J r,.inl rfl,by simp only[aR],B,Fr.refl _ _ _⟩
      |false=>
       rw[O]at c;simp only[lOZ]at c;have O:=q85 O;cases k:(Nat.ble (Nat.mul m f.w) gM&&Nat.ble m gM)with
       |false=>rw[k]at c;cases c
       |true=>rw[k]at c;simp only[lII]at c;obtain⟨nc,c1,c2⟩:=qlw (P:=P) (w:=w) (ty:=o.type) (k2:=k2) (jA:=[]) R T X Y K M Q none 0 0 W N (by simp[Builtin.firstCells]) (by omega) (by rw[lEW];exact N) (by omega);rw[lEW]at c1 c2;obtain⟨Z,d1,d2,d3⟩:=qzn F B (jA:=[]) (show aL ι [] []by simp[aL]) (by simp) x1 x2 (by simp[x3]) c nc c1 K w.drew rfl;exact⟨_,_,_,Z,p _ _ _ J c2,.inl rfl,d1,d2,d3⟩
     ·rename_i b i len l ex e1;rw[e1]at J;simp only[aR]at J;obtain⟨hlc,loc,G,I⟩:=J;cases j:Nat.ble (len+m) l with
      |true=>
       rw[j]at c;simp only[lII]at c;have j:=pM j;obtain⟨rfl,w',r1,r2,r3⟩:=qel P B G x1 x2 c;have r:=qht (P:=P) (ty:=o.type) (k2:=k2) R T X Y K M Q (some ⟨loc.blk,loc.base+i,none⟩) len (if ex then l else l+loc.ext) W N (by split<;>omega) (w':=w')
        (fun ad h=>by cases h;rw[addr_add,lIP];exact r1) (fun h=>by cases h)
       refine⟨_,_,w',ι,p _ _ _ I r,.inl rfl,?_,r2,r3⟩;simp only[aR];exact⟨j,loc,G,rfl⟩
      |false=>
       rw[j]at c;simp only[lOZ]at c;have j:=xen j;cases k:(Nat.ble (Nat.mul (len+m) f.w) gM&&Nat.ble (len+m) gM)with
       |false=>rw[k]at c;cases c
       |true=>
        rw[k]at c;simp only[lII]at c;simp only[lI0]at k;have g1:(len+m)*f.w<=1099511627776:=pM k.1;have g2:len+m<=1099511627776:=pM k.2;split at c
        ·cases c
        ·rename_i old D;have q:∀ C,¬len+m<=C->a.eval x=.slice (some ⟨loc.blk,loc.base+i,none⟩) len C->∀(H1:Hp),HR ι H1 w->Fr ι ι H H1 w w->grow f.z H1 old ⟨m,aZ f.zl m⟩ (len+m)=.ok v H'->VOk P o a.eval ι H w (.ok v H'):=by
          intro C hC hxC H1 hH1 hF1 hg;obtain⟨jA,o1,o2,o3,o4⟩:=z2y (P:=P) (w:=w.drew) (C:=C) B.drew G D;obtain⟨nc,c1,c2⟩:=qlw (P:=P) (w:=w) (ty:=o.type) (k2:=k2) R T X Y K M Q (some ⟨loc.blk,loc.base+i,none⟩) len C W N o4 hC g1 g2;obtain⟨Z,d1,d2,d3⟩:=qzn F hH1 o1 o2 x1 x2 (by rw[o3,x3,lOS]) hg nc c1 K w.drew rfl;exact⟨_,_,_,Z,p _ _ _ hxC c2,.inl rfl,d1,d2,hF1.trans d3⟩
         cases ex with
         |true=>simp only[lII]at c;exact q l j (by simpa using I) H B (Fr.refl _ _ _) c
         |false=>
          simp only[lOZ]at c;cases g:qg9 (H.get b) (i+l*f.z) f.z with
          |false=>rw[g]at c;cases c
          |true=>
           rw[g]at c;simp only[lII]at c;simp only[lUE,lX7]at I;by_cases A:len+m<=l+loc.ext
           ·obtain⟨w',Z,q1,q2,q3,q4⟩:=zpt (P:=P) (x:=⟨m,aZ f.zl m⟩) B G g D x1 x2 x3 hlc j A c;have r:=qht (P:=P) (ty:=o.type) (k2:=k2) R T X Y K M Q (some ⟨loc.blk,loc.base+i,none⟩) len (l+loc.ext) W N A (w':=w')
             (fun ad h=>by cases h;rw[addr_add];exact q1) (fun h=>by cases h)
            exact⟨_,_,w',Z,p _ _ _ I r,.inl rfl,q2,q3,q4⟩
           ·have hwr:(H.get b).wr=true:=by
             unfold qg9 at g;split at g
             ·rename_i hg;rw[hg];rfl
             ·cases g
            obtain⟨k1,k2⟩:=B.kill (B.lt G) hwr;exact q _ A I _ k1 k2 c
     ·cases c
  ·cases E
def Post(ι:Im)(H:Hp)(w:World)(v:AV)(H':Hp):Ending->World->Prop
 | .returned V,w'=>∃ ι',aR ι' v V/\HR ι' H' w'/\Fr ι ι' H H' w w'
 |_,_=>False
structure qd9(P:Program)(O:Call):Prop where
 fn:∀ f args H v H',O (.f f) args H=.ok v H'->∀ ι w bG,HR ι H w->aL ι args bG ->
  (callFunc f bG.toArray).run P w=.ok (.enter f bG.toArray) w/\∀ m,CallsIn Fence.wide m P f bG.toArray w (Post ι H w v H')
 yd:∀ b args H v H',O (.y b) args H=.ok v H'->∀ ι w bG loc,HR ι H w->aL ι args bG->ι b=some loc ->
  ∃f tmps assign body,(Instr.yield loc.blk bG.toArray).run P w=.ok (.round loc.blk f tmps assign body) w /\
   ∀m,RoundIn Fence.wide m P loc.blk f tmps assign body w (Post ι H w v H')
 df:∀ f args H v H',O (.d f) args H=.ok v H'->∀ ι w bG,HR ι H w->aL ι args bG ->
  (callFunc f bG.toArray).run P w=.ok (.enter f bG.toArray) w/\∀ m,CallsDIn Fence.wide m P f bG.toArray .returning w (fun e u' w'=>u'=.returning/\Post ι H w v H' e w')
structure Fence.dY(F:Fence):Prop where
 eq:∃ r,F={Fence.wide with round:=r}
theorem Fence.aAv:Fence.dY Fence.wide:=⟨none,rfl⟩
theorem Fence.oJ(l:Nat):Fence.dY (Fence.wide.inRound l):=⟨some l,rfl⟩
theorem Fence.dY.fn{F:Fence}(h:Fence.dY F)(f:FuncId):F.fn f:=by obtain⟨r,rfl⟩:=h;trivial
theorem Fence.dY.depth{F:Fence}(h:Fence.dY F):F.depth=none:=by obtain⟨r,rfl⟩:=h;rfl
theorem Fence.dY.calls{F:Fence}(h:Fence.dY F){m:Nat}{f:FuncId}{args:Array Value}{R:Ending->World->Prop}(k:CallsIn Fence.wide m P f args w R):CallsIn F m P f args w R:=by obtain⟨r,rfl⟩:=h;exact k
theorem Fence.dY.round{F:Fence}(h:Fence.dY F){m l:Nat}{f:FuncId}{tmps:Array Value}{a b:Code}{R:Ending->World->Prop}(k:RoundIn Fence.wide m P l f tmps a b w R):RoundIn F m P l f tmps a b w R:=by obtain⟨r,rfl⟩:=h;exact k
theorem qco{F:Fence}{ρ:Operand->Value}(h:∀ c,o.op≠ .defer c):o.semAt F.round ρ=execOp ρ o:=by
 cases F.round with
 |none=>exact Oper.semAt_none ..
 |some l=>exact Oper.semAt_some l ρ o h
def Nx(ι:Im)(H:Hp)(w:World)(a:Act)(o:Oper)(v:AV)(H':Hp)(next:Act->World->Prop):Prop:=
 ∀V w' ι',aR ι' v V->HR ι' H' w'->Fr ι ι' H H' w w'->next (a.put o.dst V) w'
theorem qjm{F:Fence}(j:Fence.dY F)(k:∀ c,o.op≠ .defer c){v:AV}{b:Hp}(h:VOk P o a.eval ι H w (.ok v b)){m:Nat}{next:Act->World->Prop}{Q:Exit->Act->World->Prop}(d:Nx ι H w a o v b next):o.wpIn F m P a w next Q:=by
 obtain⟨N,V,w',p,l,n,e,g,i⟩:=h;refine⟨fun f _=>j.fn f,?_⟩;rw[qco k,l];rcases n with rfl|⟨rfl,rfl⟩
 ·exact d _ _ _ e g i
 ·exact d _ _ _ e g i
theorem q2k{v:AV}{c:Hp}{next:Act->World->Prop}{Q:Exit->Act->World->Prop}(d:Nx ι H w a o v c next):∀e w',Post ι H w v c e w'->(match e,w' with
   | .returned v,b=>next (a.put o.dst v) b
   | .panicked chain,b=>Q (.panic chain) a b
   | .outgrown,_=>LetsOut Q):=by
 intro e w' h;cases e with
 |returned V=>obtain⟨j,f,g,i⟩:=h;exact d _ _ _ f g i
 |panicked=>exact h.elim
 |outgrown=>exact h.elim
theorem zn4{F:Fence}(i:Fence.dY F){c:Go.Call}(k:o.op=.call c){x:Operand}(r:c.callee=.value x){O:Call}(s:qd9 P O)(t:HR ι H w){fv:AV}(u:aR ι fv (a.eval x)){args:List AV}(y:aL ι args (c.args.toList.map a.eval)){v:AV}{z:Hp}(h:uF O fv args H=.ok v z){m:Nat}{next:Act->World->Prop}{Q:Exit->Act->World->Prop}(B:Nx ι H w a o v z next):o.wpIn F m P a w next Q:=by
 refine⟨fun f _=>i.fn f,?_⟩;rw[qco (by intro G;rw[k];exact fun h=>by cases h)];have d:c.args.map a.eval=(c.args.toList.map a.eval).toArray:=by rw[<-lUZ]
 unfold uF at h;split at h
 ·rename_i g first D
  obtain⟨A,C,l,E,n⟩:=u;obtain⟨p,q⟩:=s.fn _ _ _ _ _ h ι w (A++c.args.toList.map a.eval++C) t ((l.append y).append E);have:(execOp a.eval o).run P w=.ok (.enter g (A++c.args.toList.map a.eval++C).toArray) w:=by simp only[execOp,k,resolve,r,n,Deferred.ofValue,d];simpa [invoke] using p
  rw[this];exact⟨by simp[i.depth],CallsIn.mono (i.calls (q _)) (q2k B)⟩
 ·rename_i b;obtain⟨loc,l,n⟩:=u;obtain⟨f,tmps,e,j,p,q⟩:=s.yd _ _ _ _ _ h ι w _ loc t y l;have:(execOp a.eval o).run P w=.ok (.round loc.blk f tmps e j) w:=by
   simp only[execOp,k,resolve,r,n,Deferred.ofValue,d];simpa [invoke] using p
  rw[this];exact⟨by simp[i.depth],RoundIn.mono (i.round (q _)) (q2k B)⟩
 ·cases h
end Go.Ev
end
section
namespace Go.Ev
open Go.RowKit
variable {P:Program} {w:World} {ι:Im} {o:Oper} {a:Act} {d n:Nat} {L:TT AV d} {H:Hp} {O:Call} {F:Fence} {m:Nat} {next:Act->World->Prop} {Q:Exit->Act->World->Prop}
theorem xeq{args:List Operand}{ts:List TypeId}(g:o.op=.call {callee:=.builtin .append,args:=args.toArray,argTypes:=ts.toArray}){f:Call->TT AV d->Hp->R1}(b:aAN P d n args ts=.e f)(i:HR ι H w)(h:LR ι d n L a.tmps):VOk P o a.eval ι H w (f O L H):=by
 unfold aAN at b;split at b
 ·split at b
  ·rename_i j;split at b
   ·rename_i c e;cases b;exact xd7 g j e c i h
   ·rename_i c e;cases b;exact zdy g j e (.inr ⟨_,rfl⟩) c i h
   ·rename_i c e;cases b;exact zdy g j e (.inl rfl) c i h
   ·cases b;trivial
  ·cases b;trivial
 ·cases b;trivial
theorem xef{args:List Operand}{ts:List TypeId}(c:o.op=.call {callee:=.builtin .clear,args:=args.toArray,argTypes:=ts.toArray}){f:Call->TT AV d->Hp->R1}(b:aAr P d n args ts=.e f)(e:HR ι H w)(h:LR ι d n L a.tmps):VOk P o a.eval ι H w (f O L H):=by
 unfold aAr at b;split at b
 ·split at b
  ·rename_i g;split at b
   ·rename_i i;cases b;exact zrp c g i e h
   ·cases b;trivial
  ·cases b;trivial
 ·cases b;trivial
theorem xdl{args:List Operand}{ts:List TypeId}{f:Call->TT AV d->Hp->R1}(a:wW P d n args ts=.e f):f O L H=.bad:=by
 unfold wW at a;split at a
 ·split at a
  ·cases a
  ·split at a<;>cases a;rfl
  ·cases a
  ·cases a
  ·cases a
  ·cases a;rfl
 ·cases a;rfl
theorem xej{args:List Operand}{ts:List TypeId}{f:Call->TT AV d->Hp->R1}(a:aAA P d n args ts=.e f):f O L H=.bad:=by
 unfold aAA at a;split at a
 ·split at a
  ·cases a
  ·cases a
  ·cases a;rfl
 ·cases a;rfl
theorem xc8{args:List Operand}{f:Call->TT AV d->Hp->R1}(a:aAI d n args=.e f):f O L H=.bad:=by
 unfold aAI at a;split at a
 ·cases a
 ·cases a;rfl
theorem xda{args:List Operand}{f:Call->TT AV d->Hp->R1}(a:aAk d n args=.e f):f O L H=.bad:=by
 unfold aAk at a;split at a
 ·cases a
 ·cases a;rfl
theorem zgb{b:Builtin}{args:Array Operand}{ts:Array TypeId}(e:o.op=.call {callee:=.builtin b,args,argTypes:=ts}){f:Call->TT AV d->Hp->R1}(c:qd7 P d n b args.toList ts.toList=.e f)(g:HR ι H w)(h:LR ι d n L a.tmps):VOk P o a.eval ι H w (f O L H):=by
 unfold qd7 at c;split at c
 ·rw[xdl c];trivial
 ·rw[xej c];trivial
 ·rw[xc8 c];trivial
 ·rw[xda c];trivial
 ·exact xeq (by simpa using e) c g h
 ·exact xef (by simpa using e) c g h
 ·cases c;trivial
theorem xcy{f:Call->TT AV d->Hp->R1}(b:iG P d n o=.e f)(C:qd9 P O)(u:Fence.dY F)(r:HR ι H w)(h:LR ι d n L a.tmps){v:AV}{D:Hp}(k:f O L H=.ok v D)(y:Nx ι H w a o v D next):o.wpIn F m P a w next Q:=by
 have i:gY d=.e f->False:=fun e=>by cases e;cases k
 unfold iG at b;split at b
 ·cases b
 ·cases b
 ·cases b
 ·unfold zcl at b;split at b
  ·cases b
  ·exact(i b).elim
 ·unfold aCW at b;split at b
  ·cases b
  ·cases b
  ·exact(i b).elim
 ·unfold zck at b;split at b
  ·split at b
   ·split at b
    ·cases b
    ·exact(i b).elim
   ·exact(i b).elim
  ·split at b
   ·split at b
    ·cases b
    ·exact(i b).elim
   ·exact(i b).elim
  ·exact(i b).elim
 ·unfold qez at b;split at b
  ·split at b
   ·rename_i s z l p;cases A:(Nat.ble (_*s) 65536&&Nat.beq z.length s)with
    |false=>rw[A]at b;exact(i b).elim
    |true=>
     rw[A]at b;simp only[lII]at b;split at b
     ·cases b
     ·exact(i b).elim
   ·exact(i b).elim
  ·exact(i b).elim
 ·unfold zo4 at b;split at b
  ·cases b
  ·cases b
  ·exact(i b).elim
 ·rename_i j;refine qjm u (by intro c;rw[j];exact fun h=>by cases h) ?_ y;unfold q15 at b;split at b
  ·rename_i t l p q;cases b;have:=zy8 (P:=P) j l r h;rw[p,q]at this;rw[<-k];exact this
  ·rename_i t l p q;cases b;have:=zy9 (P:=P) j l r h;rw[p,q]at this;rw[<-k];exact this
  ·exact(i b).elim
 ·cases b
 ·cases b
 ·cases b
 ·unfold qn7 at b;split at b
  ·cases b
  ·cases b
  ·exact(i b).elim
 ·unfold qcu at b;split at b
  ·exact(i b).elim
  ·cases b
  ·exact(i b).elim
 ·cases b
 ·cases b
 ·unfold qgn at b;split at b
  ·split at b
   ·rename_i z w' s q B G;cases A:Nat.beq z.length s with
    |false=>rw[A]at b;exact(i b).elim
    |true=>rw[A]at b;cases b
   ·exact(i b).elim
  ·exact(i b).elim
 ·unfold zch at b;split at b
  ·split at b
   ·cases b
   ·exact(i b).elim
  ·split at b
   ·cases b
   ·exact(i b).elim
  ·exact(i b).elim
 ·unfold qen at b;split at b
  ·split at b
   ·split at b
    ·cases b
    ·exact(i b).elim
   ·exact(i b).elim
  ·exact(i b).elim
 ·unfold q19 at b;split at b
  ·split at b
   ·cases b
   ·exact(i b).elim
  ·exact(i b).elim
 ·unfold qem at b;split at b
  ·split at b
   ·cases b
   ·exact(i b).elim
  ·split at b
   ·cases b
   ·exact(i b).elim
  ·exact(i b).elim
 ·unfold q18 at b;split at b
  ·cases b
  ·split at b
   ·cases b
   ·exact(i b).elim
  ·exact(i b).elim
 ·unfold qyy at b;split at b
  ·split at b
   ·cases b
   ·exact(i b).elim
  ·exact(i b).elim
 ·rename_i j;refine qjm u (by intro c;rw[j];exact fun h=>by cases h) ?_ y;unfold qdl at b;split at b
  ·rename_i t l p q;split at b
   ·rename_i B;cases b;have:=xd6 (P:=P) (.inl j) t B r h;rw[l,p,q]at this;rw[<-k];exact this
   ·exact(i b).elim
  ·exact(i b).elim
 ·rename_i j;refine qjm u (by intro c;rw[j];exact fun h=>by cases h) ?_ y;unfold qdl at b;split at b
  ·rename_i t l p q;split at b
   ·rename_i B;cases b;have:=xd6 (P:=P) (.inr j) t B r h;rw[l,p,q]at this;rw[<-k];exact this
   ·exact(i b).elim
  ·exact(i b).elim
 ·cases b
 ·rename_i j;refine qjm u (by intro c;rw[j];exact fun h=>by cases h) ?_ y;rw[<-k];exact zgb j b r h
 ·rename_i g args ts j;unfold zcj at b;split at b
  ·rename_i I t;cases b;have E:=qcz h args.toList;rw[t]at E;refine zn4 u j rfl C r (fv:=.fn g [] []) ?_ E ?_ y
   ·simp only[aR,aL];exact⟨[],[],rfl,rfl,rfl⟩
   ·simpa [uF] using k
 ·rename_i x args ts _ j;cases b;exact zn4 u j rfl C r (gJ h x) (qcz h _) k y
 ·exact(i b).elim
end Go.Ev
end
section
namespace Go.Ev
open Go.RowKit
variable {P:Program} {w:World} {ι:Im} {o:Oper} {a:Act} {d n:Nat} {L:TT AV d} {H:Hp} {O:Call} {F:Fence} {m:Nat} {K:Act->World->Prop} {Q:Exit->Act->World->Prop} {ops:Array Oper}
theorem qhv(h:LR ι d n L a.tmps)(t:Option Tmp){v:AV}{V:Value}(c:aR ι v V):LR ι d n ((eB d n t).f L v) (a.put t V).tmps:=by
 cases t with
 |none=>exact h
 |some t=>
  unfold eB;simp only[Act.put];cases b:Nat.blt t n with
  |true=>simp only[lII];exact h.set (xA b) c
  |false=>rw[Array.setIfInBounds_eq_of_size_le (by rw[h.size];exact lXG (zge b))];exact h
theorem put_defers(a:Act)(t:Option Tmp)(V:Value):(a.put t V).defers=a.defers:=by cases t<;>rfl
theorem qjn(h:LR ι d n L a.tmps){b:Bool}(c:(uL d n ops o).f L=some b):Region.wanted o (yielded ops a.tmps)=b:=by
 unfold uL at c;unfold Region.wanted;split at c
 ·rename_i l;rw[l];simpa using c
 ·rename_i j e l;rw[l];simp only;split at c
  ·rename_i t q;cases m:Nat.blt t n with
   |false=>rw[m]at c;cases c
   |true=>
    rw[m]at c;simp only[lII]at c;have i:=xA m;have g:=h.get t i;have p:yielded ops a.tmps j=(match a.tmps[t]? with|some (.bool b)=>some b|_=>none):=by unfold yielded;rw[q];rfl
    have k:t<a.tmps.size:=by rw[h.size];exact i
    rw[p];rw[lOT,lU0 k]at g;rw[lU0 k];simp only[Option.getD_some]at g;split at c
    ·rename_i r f;rw[f]at g;rw[g];simp only[lI4]at c;rw[<-c];cases r<;>cases e<;>rfl
    ·rename_i f;rw[f]at g;rw[g];simp only[lI4]at c;rw[<-c];cases e<;>rfl
    ·cases c
  ·cases c
def Then(ι:Im)(H:Hp)(w:World)(a:Act)(d n:Nat)(L':TT AV d)(H':Hp)(K:Act->World->Prop):Prop:=
 ∀a' w' ι',LR ι' d n L' a'.tmps->a'.defers=a.defers->HR ι' H' w'->Fr ι ι' H H' w w'->K a' w'
theorem aOZ{C:Bool}{f:Nat->TT AV d->Hp->R0}(p:iG P d n o=.q C f)(D:Fence.dY F)(j:HR ι H w)(h:LR ι d n L a.tmps){i:TT AV d->AV->TT AV d}(O:eB d n o.dst=⟨i⟩){z:TT AV d}{A:Hp}(k:doQ i L H (f H.nx L H)=.ok z A)(B:Then ι H w a d n z A K):o.wpIn F m P a w K Q:=by
 have q:=z9k (nm:=H.nx) p j h;have t:∀ c,o.op≠ .defer c:=fun c E=>by unfold iG at p;rw[E]at p;cases p
 have e:∀{r:Im} (_:ι.le r) {v:AV} {V:Value},aR r v V->LR r d n (i L v) (a.put o.dst V).tmps:=fun s v V G=>by have:=qhv (a:=a) (h.mono s) o.dst G;simp_all
 refine⟨fun f _=>D.fn f,?_⟩;rw[qco t];unfold doQ at k;split at k
 ·cases k
 ·rename_i v x;rw[x]at q;obtain⟨V,y,g⟩:=q;rw[y];cases k;exact B _ _ ι (e (Im.le_refl _) g) (put_defers ..) j (Fr.refl ..)
 ·rename_i v b x;rw[x]at q
  ·
   cases k;obtain⟨V,w',l,y,g,I⟩:=q;rw[y];have u:iJ (H.nx):=qL;obtain⟨J,M⟩:=I (ι.set H.nx l) (Im.jG l (j.fresh _ (lEO _))) (Im.bQ ..);obtain⟨N,k2⟩:=j.push u l b g.os g.tape g.output (by rw[g.size];exact lU6 _) g.keep g.blk M;exact B _ _ _ (e (Im.jG l (j.fresh _ (lEO _))) J) (put_defers ..) N k2
theorem zw5(C:qd9 P O)(l:Fence.dY F)(s:HR ι H w)(h:LR ι d n L a.tmps){t:TT AV d}{u:Hp}(e:(qg1 P d n ops o).f O L H=.ok t u)(x:Then ι H w a d n t u K):if Region.wanted o (yielded ops a.tmps)then o.wpIn F m P a w K Q else(∀f,o.about P w a.eval=some f->F.fn f)/\K (a.put o.dst Go.undef) w:=by
 have i:∀{b:TT AV d->AV->TT AV d} (_:eB d n o.dst=⟨b⟩) {k:Im} (_:ι.le k) {v:AV} {V:Value},aR k v V->LR k d n (b L v) (a.put o.dst V).tmps:=fun g k z v V D=>by have:=qhv (a:=a) (h.mono z) o.dst D;simp_all
 have p:∀{b:TT AV d->AV->TT AV d} (_:eB d n o.dst=⟨b⟩),t=b L .undef->u=H->K (a.put o.dst Go.undef) w:=fun g E G=>by subst E;subst G;exact x _ _ ι (i g (Im.le_refl _) (by simp only[aR];rfl)) (put_defers ..) s (Fr.refl ..)
 have B:∀{b:TT AV d->AV->TT AV d} (_:eB d n o.dst=⟨b⟩) {f:Call->TT AV d->Hp->R1} (_:iG P d n o=.e f),doE b L (f O L H)=.ok t u->o.wpIn F m P a w K Q:=fun g f j y=>by
  unfold doE at y;split at y
  ·cases y
  ·rename_i v H1 M;cases y;exact xcy j C l s h M fun V w' k I J A=>x _ _ k (i g A.le I) (put_defers ..) J A
 unfold qg1 at e;split at e
 ·rename_i f b j q g;simp only[Region.wanted,q,lU8];exact aOZ j l s h g e x
 ·rename_i f b j q g;simp only[Region.wanted,q,lU8];simp_all
 ·rename_i f _ N b j q r g;simp only[ifW]at e;split at e
  ·rename_i c;rw[qjn (o:=o) (ops:=ops) h (by rw[r];exact c),lEZ rfl];exact aOZ j l s h g e x
  ·rename_i c;rw[qjn (o:=o) (ops:=ops) h (by rw[r];exact c)];cases e;exact⟨fun f _=>l.fn f,p g rfl rfl⟩
  ·cases e
 ·rename_i f _ N b j q r g;simp only[ifW]at e;split at e
  ·rename_i c;rw[qjn (o:=o) (ops:=ops) h (by rw[r];exact c),lEZ rfl];simp_all
  ·rename_i c;rw[qjn (o:=o) (ops:=ops) h (by rw[r];exact c)];cases e;exact⟨fun f _=>l.fn f,p g rfl rfl⟩
  ·cases e
end Go.Ev
end
section
namespace Go.Ev
open Go.RowKit
/- bits -/
theorem qr3(m i:Nat):hasB m i=m.testBit i:=by unfold hasB Nat.testBit;rw[show Nat.land (Nat.shiftRight m i) 1=(m >>> i) &&& 1 from rfl,Nat.and_comm 1,Nat.and_one_is_mod];rcases Nat.mod_two_eq_zero_or_one (m >>> i)with h|h<;>rw[h]<;>rfl
theorem qzl(a b i:Nat):hasB (Nat.lor a b) i=(hasB a i||hasB b i):=by simp only[qr3];exact Nat.testBit_or a b i
theorem qf9(m j i:Nat):hasB (uR m j) i=(hasB m i||decide (j=i)):=by unfold uR;rw[qzl];congr 1;rw[qr3,show Nat.shiftLeft 1 j=1 <<< j from rfl,Nat.one_shiftLeft,Nat.testBit_two_pow]
theorem q3h(i:Nat):hasB 0 i=false:=by rw[qr3];exact Nat.zero_testBit i
theorem zw3{m k:Nat}(h:aB6 m k=true){i:Nat}(a:hasB m i=true):hasB k i=true:=by have:=lIL h;rw[<-this,qzl,a];rfl
/- masks -/
theorem ql1(l:List Oper):∀ ms i,i<ms.length->(qbm ms l).getD i 0=ms.getD i 0:=by
 induction l with
 |nil=>intro ms i _;rfl
 |cons o r ih=>intro ms i a;rw[qbm,ih _ _ (by simp;omega),lES,lES,lIO a]
theorem qg8{ms a:List Nat}:∀(l:List Nat) (s:Nat),(∀j∈l,ms.getD j 0=a.getD j 0) -> l.foldl (fun s j=>Nat.lor (uR s j) (ms.getD j 0)) s=l.foldl (fun s j=>Nat.lor (uR s j) (a.getD j 0)) s
 | [],_,_=>rfl
 |j::l,s,h=>by simp only[List.foldl_cons];rw[h j (by simp)];exact qg8 l _ fun x b=>h x (by simp[b])
theorem q29(l:List Oper):∀ ms i o,l[i]? =some o->(∀j∈xN o,j<ms.length+i)->(qbm ms l).getD (ms.length+i) 0=qvv (qbm ms l) o:=by
 induction l with
 |nil=>intro ms i o h;simp at h
 |cons o' r ih=>
  intro ms i o h b;rw[qbm];cases i with
  |zero=>simp at h;subst h;rw[lO7,ql1 _ _ _ (by simp)];simp only[lES,List.getElem?_concat_length,Option.getD_some];refine qg8 _ _ fun j a=>?_;have:=b j a;rw[ql1 _ _ _ (by simp;omega),lES,lES,lIO this]
  |succ i=>have:=ih (ms++[qvv ms o']) i o h (fun j a=>by have:=b j a;simp;omega);rw[show(ms++[qvv ms o']).length+i=ms.length+(i+1)by simp;omega]at this;exact this
theorem q3i(ms:List Nat)(k:Nat):∀(l:List Nat) (s:Nat),hasB (l.foldl (fun s j=>Nat.lor (uR s j) (ms.getD j 0)) s) k=true↔hasB s k=true\/∃ j∈l,k=j\/hasB (ms.getD j 0) k=true
 | [],s=>by simp
 |j::l,s=>by
  rw[List.foldl_cons,q3i ms k l,qzl,qf9];simp only[lUC,lO8,lI8,exists_eq_or_imp];constructor
  ·rintro (((h|h)|h)|h)
   ·exact .inl h
   ·omega
   ·simp_all
   ·simp_all
  ·rintro (h|(h|h)|h)
   ·simp_all
   ·omega
   ·simp_all
   ·exact .inr h
theorem q8p(ms:List Nat)(o:Oper)(k:Nat):hasB (qvv ms o) k=true↔∃ j∈xN o,k=j\/hasB (ms.getD j 0) k=true:=by unfold qvv;rw[q3i,q3h];simp
theorem q4a:∀(l:List Oper) (k:Nat),qwd k l=true->∀ i o,l[i]? =some o->∀ j∈xN o,j<k+i
 | [],_,_,i,o,h,j,hj=>by simp at h
 |o'::r,k,hb,i,o,h,j,hj=>by
  simp only[qwd,lI0,lOQ]at hb;cases i with
  |zero=>simp at h;subst h;exact lOW (hb.1 j hj)
  |succ i=>simp at h;have:=q4a r (k+1) hb.2 i o h j hj;omega
structure Edg(ops:Array Oper)(ms:List Nat):Prop where
 back:∀ i o,ops[i]? =some o->∀ j∈xN o,j<i
 mask:∀ i o k,ops[i]? =some o->(hasB (ms.getD i 0) k=true↔∃ j∈xN o,k=j\/hasB (ms.getD j 0) k=true)
 tmps:∀ i k o' o t,ops[i]? =some o'->ops[k]? =some o->o'.dst=some t->i=k\/hasB (ms.getD k 0) i=true\/hasB (ms.getD i 0) k=true\/(t∉lQ ops o/\o.dst≠some t)
theorem Edg.of{ops:Array Oper}(n:qwd 0 ops.toList=true)(b:zb3 ops (qbm [] ops.toList)=true):Edg ops (qbm [] ops.toList):=by
 have m:∀ i o,ops[i]? =some o->∀ j∈xN o,j<i:=fun i o h j c=>by have:=q4a ops.toList 0 n i o (by simpa using h) j c;omega
 refine⟨m,fun i o k h=>?_,fun i k q o t g l p=>?_⟩
 ·have:=q29 ops.toList [] i o (by simpa using h) (fun j c=>by have:=m i o h j c;simpa using this);simp only[lIT,lEW]at this;rw[this,q8p]
 ·unfold zb3 at b;rw[lOQ]at b;have d:k<ops.size:=(lOY.1 l).1;have e:i<ops.size:=(lOY.1 g).1;have f:=b k (lIY.2 d);rw[l]at f;simp only[lOQ]at f;have a:=f i (lIY.2 e);rw[g]at a;simp only[p,lUC,lOC,lXD]at a;rcases a with((a|a)|a)|a
  ·simp_all
  ·simp_all
  ·simp_all
  ·simp_all
variable {ops:Array Oper} {ms:List Nat}
theorem Edg.ex(h:Edg ops ms){i j:Nat}{o:Oper}(a:ops[i]? =some o)(b:j∈xN o):∃ c,ops[j]? =some c:=by have d:=h.back i o a j b;have e:i<ops.size:=(lOY.1 a).1;exact⟨ops[j]'(by omega),lU0 (by omega)⟩
theorem Edg.aIv(h:Edg ops ms):∀ i o k,ops[i]? =some o->hasB (ms.getD i 0) k=true->k<i:=by
 intro i
 induction i using Nat.strongRecOn with
 |ind i ih=>
  intro o k b f;obtain⟨j,e,c⟩:=(h.mask i o k b).1 f;have a:=h.back i o b j e;rcases c with rfl|c
  ·exact a
  ·obtain⟨g,d⟩:=h.ex b e;exact lY2 (ih j a g k d c) a
def Shut(ops:Array Oper)(S:Nat->Prop):Prop:=∀ i o,ops[i]? =some o->S i->∀ j∈xN o,S j
theorem Edg.w9(h:Edg ops ms){S:Nat->Prop}(l:Shut ops S):∀ i o k,ops[i]? =some o->(∀j∈xN o,S j)->hasB (ms.getD i 0) k=true->S k:=by
 intro i
 induction i using Nat.strongRecOn with
 |ind i ih=>
  intro o k d f m;obtain⟨j,b,e⟩:=(h.mask i o k d).1 m;have c:=h.back i o d j b;rcases e with rfl|e
  ·exact f _ b
  ·obtain⟨g,a⟩:=h.ex d b;exact ih j c g k a (l j g a (f j b)) e
theorem Edg.rW(h:Edg ops ms){S:Nat->Prop}(a:Shut ops S){i:Nat}{o:Oper}{k:Nat}(b:ops[i]? =some o)(c:S i)(d:hasB (ms.getD i 0) k=true):S k:=
 h.w9 a i o k b (a i o b c) d
/- projections -/
theorem qrd{d n:Nat}{L a:TT AV d}:∀(ts:List Tmp),(∀t∈ts,t<n->(dW d t).f L=(dW d t).f a)->(nU d n ts).f L=(nU d n ts).f a
 | [],_=>rfl
 |t::r,h=>by
  unfold nU;have ih:=qrd r fun x b=>h x (by simp[b]);cases c:Nat.blt t n with
  |true=>simp_all
  |false=>simp only[lOZ];exact ih
theorem q2j{d n:Nat}(c:n<=8 ^ d){L:TT AV d}{i:Nat}(b:i<8 ^ d):∀(ts:List Tmp),(dW d i).f ((nU d n ts).f L)=if i∈ts/\i<n then(dW d i).f L else .undef
 | []=>by simp[nU,qgu]
 |t::r=>by
  unfold nU;have ih:=q2j (n:=n) c (L:=L) b r;cases a:Nat.blt t n with
  |true=>
   simp only[lII];rw[qeg _ _ _ _ _ b (by have:=xA a;omega)];by_cases e:i=t
   ·simp_all
   ·simp_all
  |false=>
   simp only[lOZ];rw[ih];have a:=zge a;by_cases e:i=t
   ·subst e;simp[a]
   ·simp[e]
def qhw(ts:List Tmp)(tmps:Array Value):Array Value:=Array.ofFn (n:=tmps.size) fun i=>if i.1∈ts then tmps[i]else Go.undef
theorem qgs(ts:List Tmp)(tmps:Array Value):(qhw ts tmps).size=tmps.size:=by simp[qhw]
theorem qrc(ts:List Tmp)(tmps:Array Value)(i:Nat):(qhw ts tmps).getD i Go.undef=if i∈ts then tmps.getD i Go.undef else Go.undef:=by
 simp only[qhw,lOT,Array.getElem?_ofFn];by_cases h:i<tmps.size
 ·simp_all
 ·rw[dif_neg h];simp[lXR (lXG h)]
theorem LR.proj{ι:Im}{d n:Nat}{L:TT AV d}{tmps:Array Value}(h:LR ι d n L tmps)(ts:List Tmp):LR ι d n ((nU d n ts).f L) (qhw ts tmps):=by
 refine⟨by rw[qgs,h.size],h.fits,fun i a=>?_⟩;rw[q2j h.fit (af a h.fit),qrc];have c:=h.get i a;by_cases b:i∈ts
 ·by_cases e:i<n
  ·simp_all
  ·omega
 ·rw[lEU (by simp[b]),lEU b];simp only[aR];rfl
theorem zrd(a:Act)(ts:List Tmp)(x:Operand)(b:∀ t,xb1 x=some t->t∈ts):({a with tmps:=qhw ts a.tmps}:Act).eval x=a.eval x:=by
 cases x with
 |tmp t=>have:=b t rfl;show(qhw ts a.tmps).getD t Go.undef=a.tmps.getD t Go.undef;rw[qrc,lEZ this]
 |_=>rfl
theorem q09(a:Act)(o:Oper):Region.wanted o (yielded ops (qhw (lQ ops o) a.tmps))=Region.wanted o (yielded ops a.tmps):=by
 unfold Region.wanted;cases i:o.guard with
 |none=>rfl
 |some gw=>
  obtain⟨g,e⟩:=gw;have f:yielded ops (qhw (lQ ops o) a.tmps) g=yielded ops a.tmps g:=by
   unfold yielded;cases j:(ops[g]?).bind (·.dst)with
   |none=>rfl
   |some t=>
    have h:t∈lQ ops o:=by simp[lQ,i,j]
    show(match(qhw (lQ ops o) a.tmps)[t]? with|some (.bool b)=>some b|_=>none)=(match a.tmps[t]? with|some (.bool b)=>some b|_=>none);have d:=qrc (lQ ops o) a.tmps t;rw[lEZ h]at d;rw[lOT,lOT]at d;by_cases c:t<a.tmps.size
    ·rw[lU0 (by rw[qgs];exact c),lU0 c]at d ⊢;simp_all
    ·rw[lXR (by rw[qgs];exact lXG c),lXR (lXG c)]
  simp only[f]
theorem qr9(a:Act)(o:Oper)(c:∀ cs b,o.op≠ .select cs b):execOp ({a with tmps:=qhw (lQ ops o) a.tmps}:Act).eval o=execOp a.eval o:=
 execOp_congr o c fun x d=>zrd a _ x fun t e=>by exact lOA _ (List.mem_filterMap.2 ⟨x,by simpa using d,e⟩)
/- a quiet operation that does not look -/
theorem q8l{P:Program}{d n:Nat}{args:List Operand}{ts:List TypeId}{f:Nat->TT AV d->Hp->R0}(a:wW P d n args ts=.q false f)(nm:Nat)(L:TT AV d)(H b:Hp):f nm L H=f nm L b:=by
 unfold wW at a;split at a
 ·split at a
  ·cases a;rfl
  ·split at a<;>cases a;rfl
  ·cases a;rfl
  ·cases a;rfl
  ·cases a
  ·cases a
 ·cases a
theorem qvp{P:Program}{d n:Nat}{o:Oper}{f:Nat->TT AV d->Hp->R0}(a:iG P d n o=.q false f)(nm:Nat)(L:TT AV d)(H b:Hp):f nm L H=f nm L b:=by
 unfold iG at a;split at a
 all_goals first
  |(cases a;done)
  |(cases a;rfl)
  |((first|unfold xce at a|unfold z8p at a|unfold zcl at a|unfold aCW at a|unfold zck at a|unfold zo4 at a|unfold q15 at a|unfold qq5 at a|unfold zo5 at a|unfold xcc at a|unfold qn7 at a|unfold qcu at a|unfold q17 at a|unfold zci at a|unfold zch at a|unfold qen at a|unfold q19 at a|unfold qem at a|unfold q18 at a|unfold qyy at a|unfold qdl at a|unfold qyz at a|unfold aAA at a|unfold aAI at a|unfold aAk at a|unfold aAN at a|unfold aAr at a|unfold zcj at a);(repeat' split at a)<;>first|(cases a;done)|(cases a;rfl))
  |(unfold qez at a;simp only[Bool.cond_eq_ite]at a;(repeat' split at a)<;>first|(cases a;done)|(cases a;rfl))
  |(unfold qgn at a;simp only[Bool.cond_eq_ite]at a;(repeat' split at a)<;>first|(cases a;done)|(cases a;rfl))
  |skip
 unfold qd7 at a;split at a
 ·exact q8l a nm L H b
 all_goals first
  |(cases a;done)
  |((first|unfold aAA at a|unfold aAI at a|unfold aAk at a|unfold aAN at a|unfold aAr at a);(repeat' split at a)<;>first|(cases a;done)|(cases a;rfl))
end Go.Ev
end
