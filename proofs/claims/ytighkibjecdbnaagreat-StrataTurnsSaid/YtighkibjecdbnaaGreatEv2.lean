/-
 For StrataTurns: the evaluator and its soundness, part 2 of 4: what a run of the abstract evaluator answers, the model's run answers, in every world and on every schedule. No conditions beyond those that each theorem states.
-/
import Derived.Test.YtighkibjecdbnaaGreatEv1
import Derived.Laws.NewFold
import Derived.Lib.Bytealg
import Derived.KernelRfl
import Derived.CallsIn
import Derived.OrdersIn
import Derived.TacticsIn
import Derived.RangeFuncLeaves
section
namespace Go.Ev
open Go.RowKit
variable {P:Program} {w:World} {ι:Im} {o:Oper} {a:Act} {nm:Nat} {d n:Nat} {L:TT AV d} {H:Hp}
theorem qz1{t e:TypeId}{b:Nat}{u:Array (Nat×Operand)}(B:o.op=.buildSlice t b u)(D:P.underlying t=some (.slice e)){z:List AV}(E:qju P e=some z){s:Nat}(F:gQ P e=some s)(k:z.length=s)(G:b*s<=65536){r:RdP d}(H:qqq d n (fun i=>some (i*s,s)) u.toList=some r)(h:LR ι d n L a.tmps):gY P o a.eval ι w nm (tK b nm (dF (bB z b) (r.f L))):=by
 obtain⟨j,M,A,N⟩:=qcv (ι:=ι) E;have f:j.cells.toList.length=s:=by rw[A.length,k]
 cases S:dF (bB z b) (r.f L)with
 |none=>trivial
 |some c=>
  obtain⟨O,p,Q,R⟩:=qfe (C:=(gN j.cells.toList b).toArray) (qje h _ _ _ H) (by simpa using qja A b) (fun v I=>N v (qgs (by simpa using I))) S;refine⟨.slice (some ⟨w.heap.size,0,none⟩) b b,w.alloc (.cells O.toList.toArray e),⟨w.heap.size,0,0,0⟩,?_,New.alloc w _ 0 0,fun J l y=>⟨?_,qf9 Q R e nm 0 J l y⟩⟩
  ·have g:¬(b*s>2 ^ 24):=by omega
   simp only[execOp,B,Instr.buildSlice,Sem.run_bind,bP D,Result.andThen_ok,mH F,lu g,Sem.run_pure,lA7,Sem.run_ite];by_cases q:b*s=0
   ·have m:(gN j.cells.toList b)=[]:=tq.1 (by rw[qcf,f,q]);rw[m]at p;have K:Array.map (fun x=>(#[]:Array Value)[x%(#[]:Array Value).size]!) (Array.range 0)= #[]:=by apply Array.ext';simp
    simp only[q,oh];rw[K,p];rfl
   ·simp only[q,lA9,qde M,Result.andThen_ok];rw[range_zero j.cells b s (by simpa using f),p];rfl
  ·simp only[aL];exact⟨lh _,_,y,by simp⟩
theorem z1u{t:TypeId}{x:Operand}{f:Nat}(i:o.op=.field t x f){c:Array Field}(j:P.underlying t=some (.struct c)){b:Field}(k:c[f]? =some b)(h:LR ι d n L a.tmps):gY P o a.eval ι w nm (za8 (qlt P b.type) b.offset ((aH d n x).f L)):=by
 have g:=dP h x;unfold za8;split
 ·rename_i l e;rw[e]at g;obtain⟨vs,m,p,q⟩:=qee g;split
  ·rename_i v s;obtain⟨V,r,u⟩:=qkw m q s;exact⟨V,by simp[execOp,i,Instr.field,bP j,k,p,asAgg,r],u⟩
  ·trivial
 ·trivial
theorem z6r{t e:TypeId}{x y:Operand}(j:o.op=.index t x y){b:Nat}(m:P.underlying t=some (.array b e)){z:Nat}(p:gQ P e=some z)(h:LR ι d n L a.tmps):gY P o a.eval ι w nm (aG5 (qlt P e) b z ((aH d n x).f L) ((aH d n y).f L)):=by
 have g:=dP h x;have c:=dP h y;unfold aG5;split
 ·rename_i l k i s u;rw[s]at g;rw[u]at c;simp only[aL]at c;obtain⟨vs,A,B,C⟩:=qee g;cases F:Nat.blt i b with
  |false=>trivial
  |true=>
   have f:=uE F;split
   ·rename_i v D;obtain⟨V,r,E⟩:=qkw A C D;refine⟨V,?_,E⟩;have q:∀ w,(part e vs.toArray (i*z)).run P w=.ok V w:=r;simp[execOp,j,Instr.index,bP m,B,c,asIntOf,mH p,f,q]
   ·trivial
 ·trivial
/- len, cap, min, max -/
theorem qs0{x:Operand}{t:TypeId}{m:Nat}(d:o.op=.call {callee:=.builtin .len,args:= #[x],argTypes:= #[t]})(c:(∃e,P.underlying t=some (.array m e))\/∃ b e,P.underlying t=some (.pointer b)/\P.underlying b=some (.array m e)):gY P o a.eval ι w nm (.val (i64 m)):=by
 refine⟨_,?_,u7 _ _⟩;rcases c with⟨e,c⟩|⟨b,e,c,f⟩
 ·simp[execOp,d,resolve,invoke,builtin,Builtin.len_,bP c,goInt]
 ·simp[execOp,d,resolve,invoke,builtin,Builtin.len_,bP c,bP f,goInt]
theorem zcm{x:Operand}{t:TypeId}{m:Nat}(c:o.op=.call {callee:=.builtin .cap,args:= #[x],argTypes:= #[t]})(b:∃ e,P.underlying t=some (.array m e)):gY P o a.eval ι w nm (.val (i64 m)):=by refine⟨_,?_,u7 _ _⟩;obtain⟨e,b⟩:=b;simp[execOp,c,resolve,invoke,builtin,Builtin.cap_,bP b,goInt]
theorem zs5{x:Operand}{t:TypeId}(c:o.op=.call {callee:=.builtin .len,args:= #[x],argTypes:= #[t]})(f:P.underlying t=some .string)(h:LR ι d n L a.tmps):gY P o a.eval ι w nm (aEU ((aH d n x).f L)):=by
 have b:=dP h x;unfold aEU;split
 ·rename_i e;rw[e]at b;simp only[aL]at b;obtain⟨s,g,i,_⟩:=b;refine⟨_,?_,u7 _ _⟩;have:s.size=_:=i;simp[execOp,c,resolve,invoke,builtin,Builtin.len_,bP f,goInt,g,this]
 ·trivial
theorem z1t{x:Operand}{t e:TypeId}(c:o.op=.call {callee:=.builtin .len,args:= #[x],argTypes:= #[t]})(f:P.underlying t=some (.slice e))(h:LR ι d n L a.tmps):gY P o a.eval ι w nm (aF ((aH d n x).f L)):=by
 have b:=dP h x;unfold aF;split
 ·rename_i e;rw[e]at b;simp only[aL]at b;obtain⟨_,l,_,g⟩:=b;exact⟨_,by simp[execOp,c,resolve,invoke,builtin,Builtin.len_,bP f,goInt,g],u7 _ _⟩
 ·rename_i e;rw[e]at b;simp only[aL]at b;exact⟨_,by simp[execOp,c,resolve,invoke,builtin,Builtin.len_,bP f,goInt,b],u7 _ _⟩
 ·rename_i e;rw[e]at b;simp only[aL]at b;obtain⟨_,_,g⟩:=b;exact⟨_,by simp[execOp,c,resolve,invoke,builtin,Builtin.len_,bP f,goInt,g],u7 _ _⟩
 ·trivial
theorem bV.length:∀{b:List mD} {a:List MapEntry},bV ι b a->a.length=b.length
 | [],a,h=>by simp only[bV]at h;subst h;rfl
 |x::b,a,h=>by obtain⟨e,r,rfl,_,_,_,c⟩:=h;simp[bV.length c]
theorem z6q{x:Operand}{t k e:TypeId}(f:o.op=.call {callee:=.builtin .len,args:= #[x],argTypes:= #[t]})(g:P.underlying t=some (.map k e))(i:HR ι H w)(h:LR ι d n L a.tmps):gY P o a.eval ι w nm (aAy H ((aH d n x).f L)):=by
 have b:=dP h x;unfold aAy;split
 ·rename_i e;rw[e]at b;simp only[aL]at b;exact⟨_,by simp[execOp,f,resolve,invoke,builtin,Builtin.len_,bP g,goInt,b],u7 _ _⟩
 ·rename_i m e;rw[e]at b;simp only[aL]at b;obtain⟨l,p,s⟩:=b;have j:=i.blk m (i.lt p);split
  ·rename_i z c u;rw[u]at j;obtain⟨A,B,q,v,y⟩:=j;rw[p]at q;cases q;have r:=y.length;refine⟨_,?_,u7 _ _⟩;simp[execOp,f,resolve,invoke,builtin,Builtin.len_,bP g,goInt,s,getObj,Sem.run,v,r]
  ·trivial
 ·trivial
theorem z1y{x:Operand}{t e:TypeId}(c:o.op=.call {callee:=.builtin .cap,args:= #[x],argTypes:= #[t]})(f:P.underlying t=some (.slice e))(h:LR ι d n L a.tmps):gY P o a.eval ι w nm (jM ((aH d n x).f L)):=by
 have b:=dP h x;unfold jM;split
 ·rename_i e;rw[e]at b;simp only[aL]at b;obtain⟨_,l,_,g⟩:=b;exact⟨_,by simp[execOp,c,resolve,invoke,builtin,Builtin.cap_,bP f,goInt,g],u7 _ _⟩
 ·rename_i e;rw[e]at b;simp only[aL]at b;exact⟨_,by simp[execOp,c,resolve,invoke,builtin,Builtin.cap_,bP f,goInt,b],u7 _ _⟩
 ·trivial
theorem za0:∀(l:List AV) (b:List Value) (x:AV) (X:Value) (v:AV),aK ι l b->aL ι x X->pK nN x l=.val v->∃ V,(b.foldlM Builtin.min2 X).run P w=.ok V w/\aL ι v V
 | [],b,x,X,v,hl,hx,h=>by simp only[aK]at hl;subst hl;have h:R0.val x=.val v:=h;cases h;exact⟨X,by simp,hx⟩
 |y::l,b,x,X,v,hl,hx,h=>by
  obtain⟨Y,r,rfl,d,f⟩:=hl;have h:(match nN x y with| .val z=>pK nN z l|_=>.bad)=.val v:=h;split at h
  ·rename_i z a;have e:∃ Z,(Builtin.min2 X Y).run P w=.ok Z w/\aL ι z Z:=by
    unfold nN at a;split at a
    ·simp only[R0.val.injEq]at a;subst a;simp only[aL]at hx d;subst hx d;refine⟨_,rfl,?_⟩;simp only[aL,qek];split<;>rename_i c<;>simp[c]
    ·cases a
   obtain⟨Z,g,i⟩:=e;obtain⟨V,j,k⟩:=za0 l r z Z v f i h;exact⟨V,by rw[List.foldlM_cons,Sem.run_bind,g];exact j,k⟩
  ·cases h
theorem za1:∀(l:List AV) (b:List Value) (x:AV) (X:Value) (v:AV),aK ι l b->aL ι x X->pK oO x l=.val v->∃ V,(b.foldlM Builtin.max2 X).run P w=.ok V w/\aL ι v V
 | [],b,x,X,v,hl,hx,h=>by simp only[aK]at hl;subst hl;have h:R0.val x=.val v:=h;simp_all
 |y::l,b,x,X,v,hl,hx,h=>by
  obtain⟨Y,r,rfl,c,e⟩:=hl;have h:(match oO x y with| .val z=>pK oO z l|_=>.bad)=.val v:=h;split at h
  ·rename_i z a;have d:∃ Z,(Builtin.max2 X Y).run P w=.ok Z w/\aL ι z Z:=by
    unfold oO at a;split at a
    ·simp only[R0.val.injEq]at a;subst a;simp only[aL]at hx c;subst hx c;refine⟨_,rfl,?_⟩;simp only[aL,qek];simp
    ·cases a
   obtain⟨Z,f,g⟩:=d;obtain⟨V,i,j⟩:=za1 l r z Z v e g h;exact⟨V,by rw[List.foldlM_cons,Sem.run_bind,f];exact i,j⟩
  ·cases h
theorem qk4(g:AV->AV->R0):∀(l:List AV) (x:AV),pK g x l=.bad\/∃ v,pK g x l=.val v
 | [],x=>.inr ⟨x,rfl⟩
 |y::l,x=>by
  show(match g x y with| .val z=>pK g z l|_=>.bad)=.bad\/∃ v,(match g x y with| .val z=>pK g z l|_=>.bad)=.val v;split
  ·exact qk4 g l _
  ·simp
theorem aL0{x:Operand}{r:List Operand}{ts:Array TypeId}(b:o.op=.call {callee:=.builtin .min,args:=(x::r).toArray,argTypes:=ts})(h:LR ι d n L a.tmps):gY P o a.eval ι w nm (pK nN ((aH d n x).f L) ((tQ d n r).f L)):=by
 rcases qk4 nN ((tQ d n r).f L) ((aH d n x).f L)with hf|⟨v,hf⟩
 ·rw[hf];trivial
 ·obtain⟨V,c,e⟩:=za0 (P:=P) (w:=w) _ _ _ _ v (qcz h r) (dP h x) hf;rw[hf];refine⟨V,?_,e⟩;simp[execOp,b,resolve,invoke,builtin,Builtin.min_,c]
theorem aNq{x:Operand}{r:List Operand}{ts:Array TypeId}(b:o.op=.call {callee:=.builtin .max,args:=(x::r).toArray,argTypes:=ts})(h:LR ι d n L a.tmps):gY P o a.eval ι w nm (pK oO ((aH d n x).f L) ((tQ d n r).f L)):=by
 rcases qk4 oO ((tQ d n r).f L) ((aH d n x).f L)with hf|⟨v,hf⟩
 ·rw[hf];trivial
 ·obtain⟨V,c,e⟩:=za1 (P:=P) (w:=w) _ _ _ _ v (qcz h r) (dP h x) hf;rw[hf];refine⟨V,?_,e⟩;simp[execOp,b,resolve,invoke,builtin,Builtin.max_,c]
/- keys -/
theorem qqd(em:Bool):∀(D:Nat) (t:TypeId),qxl P D t=true->∀(D':Nat),D<=D'->∀(K:Value),(pR P t=some true->∃ vs:List Value,K=.agg vs.toArray/\gQ P t=some vs.length)->∀ w,(Instr.checkKey em D' t K).run P w=.ok () w:=by
 intro D
 induction D with
 |zero=>intro t h;simp[qxl]at h
 |succ D ih=>
  intro t h D' hD K hK w;obtain⟨E,rfl⟩:∃ E,D'=E+1:=⟨D'-1,by omega⟩;have pk:∀(u:TypeId) (m:Nat),gQ P u=some m->0<m->qxl P D u=true->∀(vs:List Value) (off:Nat),off+m<=vs.length->∀ w,((do let p<-part u vs.toArray off;Instr.checkKey em E u p):Sem Unit).run P w=.ok () w:=by
   intro u m hu h0 hk vs off hle w;rw[Sem.run_bind];cases ha:pR P u with
   |none=>
    unfold pR at ha;cases hun:P.underlying u with
    |none=>cases D<;>simp[qxl,hun]at hk
    |some _=>rw[hun]at ha;cases ha
   |some b=>
    cases b with
    |true=>
     have:(part u vs.toArray off).run P w=.ok (.agg ((vs.drop off).take m).toArray) w:=by simp[part,qf4 ha,mH hu]
     rw[this,Result.andThen_ok];refine ih u hk E (by omega) _ (fun _=>⟨_,rfl,?_⟩) w;rw[hu];simp;omega
    |false=>
     have hlt:off<vs.length:=by omega
     have:(part u vs.toArray off).run P w=.ok vs[off] w:=by simp[part,qf4 ha,hlt]
     rw[this,Result.andThen_ok];exact ih u hk E (by omega) _ (fun h'=>by rw[ha]at h';cases h') w
  rw[qxl]at h;split at h
  ·rename_i ht _;unfold Instr.checkKey;simp[bP ht]
  ·rename_i ht _;unfold Instr.checkKey;simp[bP ht]
  ·rename_i ht _;unfold Instr.checkKey;simp[bP ht]
  ·rename_i fs N ht hN;obtain⟨vs,rfl,hvs⟩:=hK (by simp[pR,ht]);have hN':N=vs.length:=by rw[hN]at hvs;simpa using hvs
   unfold Instr.checkKey;simp only[Sem.run_bind,bP ht,Result.andThen_ok];have hall:=yl.1 h;have loop:∀(l:List Field),(∀f∈l,f∈fs.toList)->∀ w,(forIn l () fun f _=>(do
     if f.name ≠ "_" then(do let p<-part f.type vs.toArray f.offset;Instr.checkKey em E f.type p;pure (ForInStep.yield ()))else pure (ForInStep.yield ()):Sem (ForInStep Unit))).run P w= .ok () w:=by
    intro l
    induction l with
    |nil=>intro _ w;simp
    |cons f l ihl=>
     intro hl w;have hf:=hall f (hl f (by simp));rw[lEJ];split at hf
     ·rename_i m hm;simp only[qc]at hf;obtain⟨⟨f1,f2⟩,f3⟩:=hf;have r:=pk f.type m hm (uE f3) f2 vs f.offset (by have:=nP f1;omega)
      by_cases hn:f.name = "_"
      ·simp only[hn,ne_eq,not_true_eq_false,lA9,pure_bind];exact ihl (fun g hg=>hl g (by simp[hg])) w
      ·simp only[ne_eq,hn,not_false_eq_true,oh,bind_assoc,pure_bind];rw[<-bind_assoc,Sem.run_bind,r w,Result.andThen_ok];exact ihl (fun g hg=>hl g (by simp[hg])) w
     ·cases hf
   have:=loop fs.toList (fun f hf=>hf) w;simp at this ⊢
   erw [this]
   rfl
  ·rename_i len e N ht hN;obtain⟨vs,rfl,hvs⟩:=hK (by simp[pR,ht]);have hN':N=vs.length:=by rw[hN]at hvs;simpa using hvs
   split at h
   ·rename_i m hm;simp only[qc]at h;obtain⟨⟨f1,f2⟩,f3⟩:=h;have f1:=nP f1;unfold Instr.checkKey;simp only[Sem.run_bind,bP ht,Result.andThen_ok,Std.Legacy.Range.forIn_eq_forIn_range',Std.Legacy.Range.size,Nat.sub_zero,iq,Nat.div_one];have loop:∀(k i:Nat),i+k<=len->∀ w,(forIn (List.range' i k) () fun i _=>(do
      let s<-sizeOf e;let p<-part e vs.toArray (i*s);Instr.checkKey em E e p;pure (ForInStep.yield ()):Sem (ForInStep Unit))).run P w=.ok () w:=by
     intro k
     induction k with
     |zero=>intro i _ w;simp
     |succ k ihk=>
      intro i hi w;have hle:i*m+m<=vs.length:=by have h1:(i+1)*m<=len*m:=um m (by omega);rw[xk,zu]at h1;omega
      have r:=pk e m hm (uE f3) f2 vs (i*m) hle;rw[List.range'_succ,lEJ];simp only[bind_assoc,pure_bind];rw[Sem.run_bind,mH hm,Result.andThen_ok,<-bind_assoc,Sem.run_bind,r w,Result.andThen_ok];exact ihk (i+1) (by omega) w
    have:=loop len 0 (by omega) w;simp at this ⊢
    erw [this]
    rfl
   ·cases h
  ·cases h
theorem bV.get:∀{b:List mD} {a:List MapEntry},bV ι b a->∀(i:Nat) (x:mD),b[i]? =some x->∃ e,a[i]? =some e/\aL ι x.key e.key/\aL ι x.val e.val/\e.born=x.born
 | [],a,h,i,x,hi=>by simp at hi
 |y::b,a,h,i,x,hi=>by
  obtain⟨e,r,rfl,c,d,f,g⟩:=h;cases i with
  |zero=>simp at hi;subst hi;exact⟨e,rfl,c,d,f⟩
  |succ i=>simp at hi;obtain⟨j,k,l⟩:=bV.get g i x hi;exact⟨j,by simpa using k,l⟩
def q7p(ι:Im)(es:List mD)(ES:List MapEntry):Option Hit->Option (Nat×Value)->Prop
 |none,R=>R=none
 |some h,R=>∃ V E,R=some (h.i,V)/\es[h.i]? =some h.x/\ES[h.i]? =some E/\aL ι h.x.key E.key/\aL ι h.x.val V/\E.val=V/\E.born=h.x.born
theorem qfo{e:AV->AV->Option Bool}{k:AV}:∀(b:List mD) (i:Nat) (r:Option Hit),qjm e k b i=some r->∀ h,r=some h->i<=h.i/\b[h.i-i]? =some h.x
 | [],i,r,a,h,hh=>by have a:(some none:Option (Option Hit))=some r:=a;simp_all
 |x::b,i,r,a,h,hh=>by
  have a:(match e k x.key with|some true=>some (some ⟨i,x⟩)|some false=>qjm e k b (i+1)|none=>none)=some r:=a;split at a
  ·simp only[qh]at a;subst a;cases hh;exact⟨lh _,by simp⟩
  ·obtain⟨d,c⟩:=qfo b (i+1) r a h hh;refine⟨by omega,?_⟩;rw[show h.i-i=(h.i-(i+1))+1 by omega,zh];exact c
  ·cases a
theorem qti{l:TypeDesc}{e:AV->AV->Option Bool}{k:AV}{K:Value}(g:∀ x X b,e k x=some b->aL ι x X->Instr.sameNow l K X=some b):∀(c:List mD) (f:List MapEntry) (i:Nat) (r:Option Hit),bV ι c f->qjm e k c i=some r -> ∃R,Instr.findNow l K f i=some R/\(r=none->R=none)/\∀ h,r=some h->∃ E,f[h.i-i]? =some E/\R=some (h.i,E.val)
 | [],f,i,r,hE,a=>by have a:(some none:Option (Option Hit))=some r:=a;cases a;simp only[bV]at hE;subst hE;exact⟨none,rfl,fun _=>rfl,fun h d=>by cases d⟩
 |x::c,f,i,r,hE,a=>by
  obtain⟨E,n,rfl,m,w,y,o⟩:=hE;have a:(match e k x.key with|some true=>some (some ⟨i,x⟩)|some false=>qjm e k c (i+1)|none=>none)=some r:=a;split at a
  ·rename_i j;simp only[qh]at a;subst a;refine⟨some (i,E.val),by simp[Instr.findNow,g _ _ _ j m],(fun h=>by cases h),fun h d=>?_⟩;cases d;exact⟨E,by simp,rfl⟩
  ·rename_i j;obtain⟨R,p,q,s⟩:=qti g c n (i+1) r o a;refine⟨R,by simp[Instr.findNow,g _ _ _ j m,p],q,fun h d=>?_⟩;obtain⟨t,u,v⟩:=s h d;obtain⟨z,_⟩:=qfo c (i+1) r a h d;exact⟨t,by rw[show h.i-i=(h.i-(i+1))+1 by omega,zh];exact u,v⟩
  ·cases a
theorem qtj{l:TypeId}{e:AV->AV->Option Bool}{k:AV}{K:Value}(g:∀ x X b,e k x=some b->aL ι x X->∀ w,(Op.equal l K X).run P w=.ok b w):∀(c:List mD) (f:List MapEntry) (i:Nat) (r:Option Hit),bV ι c f->qjm e k c i=some r -> ∃R,(∀w,(Instr.findAsking l K f i).run P w=.ok R w)/\(r=none->R=none)/\∀ h,r=some h->∃ E,f[h.i-i]? =some E/\R=some (h.i,E.val)
 | [],f,i,r,hE,a=>by have a:(some none:Option (Option Hit))=some r:=a;cases a;simp only[bV]at hE;subst hE;exact⟨none,fun _=>rfl,fun _=>rfl,fun h d=>by cases d⟩
 |x::c,f,i,r,hE,a=>by
  obtain⟨E,n,rfl,m,y,z,o⟩:=hE;have a:(match e k x.key with|some true=>some (some ⟨i,x⟩)|some false=>qjm e k c (i+1)|none=>none)=some r:=a;split at a
  ·rename_i j;simp only[qh]at a;subst a;refine⟨some (i,E.val),fun w=>by simp[Instr.findAsking,g _ _ _ j m],(fun h=>by cases h),fun h d=>?_⟩;cases d;exact⟨E,by simp,rfl⟩
  ·rename_i j;obtain⟨R,p,q,s⟩:=qtj g c n (i+1) r o a;refine⟨R,fun w=>by simp[Instr.findAsking,g _ _ _ j m,p],q,fun h d=>?_⟩;obtain⟨t,u,v⟩:=s h d;obtain⟨A,_⟩:=qfo c (i+1) r a h d;exact⟨t,by rw[show h.i-i=(h.i-(i+1))+1 by omega,zh];exact u,v⟩
  ·cases a
theorem qfn{g:TypeId}{D:Ky}(c:rU P g=some D){k:AV}{K:Value}(y:aL ι k K){z:List mD}{o:List MapEntry}(L:bV ι z o){r:Option Hit}(h:qxs D k z=some r):(∀A w,(Instr.checkKey A 10000 g K).run P w=.ok () w)/\∃ R,(∀w,(Instr.findKey g K o).run P w=.ok R w)/\q7p ι z o r R:=by
 unfold qxs at h;cases J:qie D.s k with
 |false=>rw[J]at h;cases h
 |true=>
  rw[J]at h;simp only[uC]at h;have hq:=zxv (P:=P) (ι:=ι) qdf g;have fin:∀ R:Option (Nat×Value),(r=none->R=none)->(∀h,r=some h->∃ E,o[h.i-0]? =some E/\R=some (h.i,E.val))->q7p ι z o r R:=by
   intro R Q S;cases r with
   |none=>exact Q rfl
   |some hh=>obtain⟨E,F,e2⟩:=S hh rfl;rw[Nat.sub_zero]at F;obtain⟨_,T⟩:=qfo z 0 _ h hh rfl;rw[Nat.sub_zero]at T;obtain⟨E',a1,a2,a3,a4⟩:=L.get _ _ T;rw[F]at a1;cases a1;exact⟨E.val,E,e2,T,F,a2,a3,rfl,a4⟩
  unfold rU at c;have ask:∀(e:AV->AV->Option Bool),eqT P qdf g=⟨e⟩->D.e=e->∀ x X b,D.e k x=some b->aL ι x X->∀ w,(Op.equal g K X).run P w=.ok b w:=by intro e d U x X b a q w;rw[U]at a;rw[d]at hq;exact hq k x K X b a y q Op.maxDepth (by decide) w
  split at c
  ·rename_i e N G d f hN;simp only[qh]at c;subst c;obtain⟨l,rfl⟩:∃ l,k=.agg l:=by cases k<;>first|exact⟨_,rfl⟩|(simp[qie]at J;done)
   obtain⟨vs,v1,v2,v3⟩:=qee y;have hl:l.length=N:=uD J;refine⟨fun A w=>qqd A qdf g G 10000 (by decide) K (fun _=>⟨vs,v2,by rw[hN,v1.length,hl]⟩) w,?_⟩;obtain⟨R,r1,H,I⟩:=qtj (ask e d rfl) z o 0 r L h;refine⟨R,fun w=>?_,fin R H I⟩;have C:∃ i,P.underlying g=some i:=by
    unfold pR at f;cases V:P.underlying g with
    |none=>rw[V]at f;cases f
    |some i=>exact⟨i,rfl⟩
   obtain⟨i,C⟩:=C;unfold Instr.findKey;rw[Sem.run_bind,bP C,Result.andThen_ok];cases o with
   |nil=>
    have:R=none:=by
     cases r with
     |none=>exact H rfl
     |some hh=>obtain⟨E,F,_⟩:=I hh rfl;simp at F
    subst this;rfl
   |cons E rest=>
    have:Instr.findNow i K (E::rest) 0=none:=by
     have M:(∃Z,i=.struct Z)\/∃ n t,i=.array n t:=by
      unfold pR at f;rw[C]at f;cases i<;>simp at f
      ·simp
      ·simp
     rcases M with⟨Z,rfl⟩|⟨n,t,rfl⟩<;>simp[Instr.findNow,Instr.sameNow]
    simp_all
  ·rename_i e N G d f hN;simp only[qh]at c;subst c;have O:∀ A w,(Instr.checkKey A 10000 g K).run P w=.ok () w:=fun A w=>qqd A qdf g G 10000 (by decide) K (fun Y=>by rw[f]at Y;cases Y) w;refine⟨O,?_⟩;have B:∀ i,P.underlying g=some i->(∀x X b,e k x=some b->aL ι x X->Instr.sameNow i K X=some b)->∃ R,(∀w,(Instr.findKey g K o).run P w=.ok R w)/\q7p ι z o r R:=by
    intro i C hs;obtain⟨R,r1,H,I⟩:=qti hs z o 0 r L h;refine⟨R,fun w=>?_,fin R H I⟩;unfold Instr.findKey;rw[Sem.run_bind,bP C,Result.andThen_ok,r1];rfl
   have v:=G;unfold qdf at v d;rw[show(20:Nat)=19+1 from rfl,qxl]at v;rw[show(20:Nat)=19+1 from rfl,eqT]at d;split at v
   ·rename_i j _;rw[j]at d;simp only[E2.mk.injEq]at d;subst d;refine B _ j fun x X b a q=>?_;unfold qqu at a;split at a
    ·rename_i kk m k' p;simp only[aL]at y q;subst y q;cases W:wK kk k' with
     |false=>rw[W]at a;cases a
     |true=>rw[W]at a;simp only[uC,qh]at a;subst a;have:=zue W;subst this;simp[Instr.sameNow,qfa]
    ·cases a
   ·rename_i j _;rw[j]at d;simp only[E2.mk.injEq]at d;subst d;refine B _ j fun x X b a q=>?_;unfold iE at a;split at a
    ·simp only[aL]at y q;obtain⟨s,rfl,Q⟩:=y;obtain⟨u,rfl,S⟩:=q;simp only[qh]at a;subst a;simp[Instr.sameNow,beq_toListBytes,qgp,Q.eq S]
    ·cases a
   ·rename_i j _;rw[j]at d;simp only[E2.mk.injEq]at d;subst d;refine B _ j fun x X b a q=>?_;unfold qem at a;split at a
    ·simp only[aL]at y q;subst y q;trivial
    ·cases a
   ·rename_i j _;unfold pR at f;rw[j]at f;simp at f
   ·rename_i j _;unfold pR at f;rw[j]at f;simp at f
   ·cases v
  ·cases c
theorem zs4{t q u:TypeId}{x y:Operand}{e:Bool}(G:o.op=.lookup t x y e)(I:P.underlying t=some (.map q u)){s:Ky}(A:rU P q=some s){z:Value}(T:(P.info? u).bind (·.zero)=some z)(J:HR ι H w)(h:LR ι d n L a.tmps):gY P o a.eval ι w nm (sK s (qxc z) e H ((aH d n x).f L) ((aH d n y).f L)):=by
 have j:=dP h x;have U:=dP h y;have p:∀(k:List mD) (i:List MapEntry),bV ι k i->(∀f:Array MapEntry->Sem Value,(execOp a.eval o).run P w=((do
    Instr.checkKey i.toArray.isEmpty 10000 q (a.eval y)
    let (v,b)<-match<-Instr.findKey q (a.eval y) i with
     |some (_,v)=>pure (v,true)
     |none=>pure (<-zeroValue u,false)
    pure (if e then .tuple #[v,.bool b]else v):Sem Value).run P w).andThen fun v w=>.ok (.value v) w) ->
   gY P o a.eval ι w nm (z2i e (qxc z) (qxs s ((aH d n y).f L) k)):=by
  intro k i W c;have c:=c fun _=>pure .nilFunc;cases hf:qxs s ((aH d n y).f L) k with
  |none=>trivial
  |some r=>
   obtain⟨M,R,N,B⟩:=qfn A U W hf;cases r with
   |none=>
    simp only[q7p]at B;subst B;refine⟨if e then .tuple #[z,.bool false]else z,?_,?_⟩
    ·rw[c];simp[M,N,qde T]
    ·cases e
     ·exact qf6 z
     ·simp only[uC,oh,aL,aK];exact⟨[z,.bool false],⟨z,_,rfl,qf6 z,_,_,rfl,rfl,rfl⟩,rfl⟩
   |some hit=>
    obtain⟨V,E,rfl,a1,a2,a3,O,a5,a6⟩:=B;refine⟨if e then .tuple #[V,.bool true]else V,?_,?_⟩
    ·rw[c];simp[M,N]
    ·cases e
     ·exact O
     ·simp only[uC,oh,aL,aK];exact⟨[V,.bool true],⟨V,_,rfl,O,_,_,rfl,rfl,rfl⟩,rfl⟩
 unfold sK zxw;split
 ·rename_i k g;split at g
  ·rename_i C;simp only[qh]at g;subst g;rw[C]at j;simp only[aL]at j;refine p [] [] (by simp[bV]) fun _=>?_;simp[execOp,G,Instr.lookup,bP I,j];rfl
  ·rename_i m C;rw[C]at j;simp only[aL]at j;obtain⟨l,Q,X⟩:=j;have K:=J.blk m (J.lt Q);split at g
   ·rename_i D F Y;simp only[qh]at g;subst g;rw[Y]at K;obtain⟨l',i,S,Z,h5⟩:=K;rw[Q]at S;cases S;refine p D i h5 fun _=>?_;simp[execOp,G,Instr.lookup,bP I,X,getObj,Sem.run,Z];rfl
   ·cases g
  ·cases g
 ·trivial
theorem aOn{s:BinOp}{t ty:TypeId}{x y:Operand}(B:o.op=.binOp s t x y ty)(neg:Bool)(c:s=if neg then .neq else .eql){e:AV->AV->Option Bool}(j:eqT P qdf t=⟨e⟩)(u:∀ r,P.underlying t=some r->match r with| .bool| .pointer _| .slice _| .map .. | .func .. | .interface _=>True| .struct _| .array .. =>P.eqGuardType P.depth t=false|_=>False)(v:∃ r,P.underlying t=some r)(h:LR ι d n L a.tmps):
  gY P o a.eval ι w nm (pX neg (e ((aH d n x).f L) ((aH d n y).f L))):=by
 have f:=dP h x;have i:=dP h y;unfold pX;split
 ·rename_i b k;have A:=zxv (P:=P) (ι:=ι) qdf t;rw[j]at A;have m:=A _ _ _ _ _ k f i Op.maxDepth (by decide) w;refine⟨.bool (if neg then !b else b),?_,by simp only[aL];cases neg<;>rfl⟩;obtain⟨r,v⟩:=v;have u:=u r v;generalize E:a.eval x=X at *;generalize F:a.eval y=Y at *;have z:(∃g,(eqGuard s t x y X Y).run P w=.ok g w)/\(binOp s t X Y).run P w=.ok (.bool (if neg then !b else b)) w:=by
   unfold qdf at j;rw[show(20:Nat)=19+1 from rfl,eqT,v]at j;cases r<;>first|(exact u.elim)|skip
   case bool=>
    simp only[E2.mk.injEq]at j;subst j;unfold qem at k;split at k
    ·rename_i p q;rw[p]at f;rw[q]at i;simp only[aL]at f i;subst f i;cases neg<;>subst c<;>simp[eqGuard,binOp,Op.equal,m]
    ·cases k
   case pointer=>
    simp only[E2.mk.injEq]at j;subst j;unfold qp4 at k;split at k<;>first|(cases k;done)|skip
    all_goals (rename_i p q;rw[p]at f;rw[q]at i;simp only[aL]at f i)
    ·subst f i;cases neg<;>subst c<;>simp[eqGuard,binOp,Op.equal,m]
    ·obtain⟨l,_,rfl⟩:=i;subst f;cases neg<;>subst c<;>simp[eqGuard,binOp,Op.equal,m]
    ·obtain⟨l,_,rfl⟩:=f;subst i;cases neg<;>subst c<;>simp[eqGuard,binOp,Op.equal,m]
   case slice=>
    simp only[E2.mk.injEq]at j;subst j;unfold aER at k;split at k<;>first|(cases k;done)|skip
    all_goals (rename_i p q;rw[p]at f;rw[q]at i;simp only[aL]at f i)
    ·subst f i;cases neg<;>subst c<;>simp[eqGuard,binOp,Op.equal,m]
    ·obtain⟨_,l,_,rfl⟩:=i;subst f;cases neg<;>subst c<;>simp[eqGuard,binOp,Op.equal,m]
    ·obtain⟨_,l,rfl⟩:=i;subst f;cases neg<;>subst c<;>simp[eqGuard,binOp,Op.equal,m]
    ·obtain⟨_,l,_,rfl⟩:=f;subst i;cases neg<;>subst c<;>simp[eqGuard,binOp,Op.equal,m]
    ·obtain⟨_,l,rfl⟩:=f;subst i;cases neg<;>subst c<;>simp[eqGuard,binOp,Op.equal,m]
   case map=>
    simp only[E2.mk.injEq]at j;subst j;unfold zua at k;split at k<;>first|(cases k;done)|skip
    all_goals (rename_i p q;rw[p]at f;rw[q]at i;simp only[aL]at f i)
    ·subst f i;cases neg<;>subst c<;>simp[eqGuard,binOp,Op.equal,m]
    ·obtain⟨l,_,rfl⟩:=i;subst f;cases neg<;>subst c<;>simp[eqGuard,binOp,Op.equal,m]
    ·obtain⟨l,_,rfl⟩:=f;subst i;cases neg<;>subst c<;>simp[eqGuard,binOp,Op.equal,m]
   case func=>
    simp only[E2.mk.injEq]at j;subst j;unfold eqFn at k;split at k<;>first|(cases k;done)|skip
    all_goals (rename_i p q;rw[p]at f;rw[q]at i;simp only[aL]at f i)
    ·subst f i;cases neg<;>subst c<;>simp[eqGuard,binOp,Op.equal,m]
    ·obtain⟨_,_,_,_,rfl⟩:=i;subst f;cases neg<;>subst c<;>simp[eqGuard,binOp,Op.equal,m]
    ·obtain⟨_,_,_,_,rfl⟩:=f;subst i;cases neg<;>subst c<;>simp[eqGuard,binOp,Op.equal,m]
   case interface=>
    simp only[E2.mk.injEq]at j;subst j;unfold aEc at k;split at k<;>first|(cases k;done)|skip
    all_goals (rename_i p q;rw[p]at f;rw[q]at i;simp only[aL]at f i)
    ·obtain⟨_,_,rfl⟩:=i;subst f;cases neg<;>subst c<;>simp[eqGuard,binOp,Op.equal,m]
    ·obtain⟨_,_,rfl⟩:=f;subst i;cases neg<;>subst c<;>simp[eqGuard,binOp,Op.equal,m]
   case array len e=>
    simp only at j;split at j
    ·simp only[E2.mk.injEq]at j;subst j;unfold l8 at k;split at k
     ·rename_i p q;rw[p]at f;rw[q]at i;obtain⟨_,_,rfl,_⟩:=qee f;obtain⟨_,_,rfl,_⟩:=qee i;refine⟨⟨(),run_eqGuard_agg w s t x y _ _ u⟩,?_⟩;cases neg<;>subst c
      ·rw[lu (by simp),run_eql_struct,show(10000:Nat)=Op.maxDepth from rfl,m];rfl
      ·rw[kz rfl,run_neq_struct,show(10000:Nat)=Op.maxDepth from rfl,m];rfl
     ·cases k
    ·simp only[E2.mk.injEq]at j;subst j;cases k
   case struct fs=>
    simp only at j;split at j
    ·simp only[E2.mk.injEq]at j;subst j;cases k
    ·simp only[E2.mk.injEq]at j;subst j;unfold l8 at k;split at k
     ·rename_i p q;rw[p]at f;rw[q]at i;obtain⟨_,_,rfl,_⟩:=qee f;obtain⟨_,_,rfl,_⟩:=qee i;refine⟨⟨(),run_eqGuard_agg w s t x y _ _ u⟩,?_⟩;cases neg<;>subst c
      ·rw[lu (by simp),run_eql_struct,show(10000:Nat)=Op.maxDepth from rfl,m];rfl
      ·rw[kz rfl,run_neq_struct,show(10000:Nat)=Op.maxDepth from rfl,m];rfl
     ·cases k
  obtain⟨⟨g,C⟩,D⟩:=z;simp[execOp,B,E,F,C,D]
 ·trivial
theorem zco(k:IntKind)(b:Nat)(l:List AV):zll (.int k (.ofNat b)::l)=Nat.land b 255+256*zll l:=rfl
theorem qtr:∀(l:List AV) (vs:List Value) (r:Src) (acc:ByteArray),aK ι l vs->z14 l=some r -> ∃bs:List UInt8,bs.length=l.length/\kD bs=zll l/\(forIn vs acc fun c (s:ByteArray)=>(match c with
   | .int .u8 n=>pure (ForInStep.yield (s.push (UInt8.ofNat n.toNat)))
   |_=>do stuck "bytesToString: byte expected";pure (ForInStep.yield s):Sem (ForInStep ByteArray))).run P w= .ok ⟨acc.data++bs.toArray⟩ w
 | [],vs,r,acc,h,_=>by simp only[aK]at h;subst h;exact⟨[],rfl,rfl,by simp⟩
 |x::l,vs,r,acc,h,hp=>by
  simp only[aK]at h;obtain⟨v,rr,rfl,hv,hr⟩:=h;have hp:z15 x (z14 l)=some r:=hp;unfold z15 at hp;split at hp
  ·rename_i b s hs _;simp only[aL]at hv;subst hv;obtain⟨bs,b1,b2,b3⟩:=qtr l rr s (acc.push (UInt8.ofNat b)) hr hs;refine⟨UInt8.ofNat b::bs,by simp[b1],?_,?_⟩
   ·rw[qb1,zco,b2,qxk,UInt8.toNat_ofNat'];omega
   ·rw[lEJ];simp only[qi,Int.toNat_natCast,pure_bind];rw[b3];congr 2;simp[ByteArray.push]
  ·cases hp
theorem z1q{s t e:TypeId}{x:Operand}(p:o.op=.convert s t x)(q:P.underlying s=some (.slice e))(u:P.underlying t=some .string)(y:P.underlying e=some (.int .u8))(A:HR ι H w)(h:LR ι d n L a.tmps):gY P o a.eval ι w nm (z09 H ((aH d n x).f L)):=by
 have f:=dP h x;unfold z09;split
 ·rename_i g;rw[g]at f;simp only[aL]at f;refine⟨.string .empty,?_,qo2 ⟨rfl,rfl⟩⟩;simp[execOp,p,convert,bP q,bP u,bP y,f,Conv.bytesToString]
 ·rename_i g;rw[g]at f;simp only[aL]at f;obtain⟨W,c,f⟩:=f;refine⟨.string .empty,?_,qo2 ⟨rfl,rfl⟩⟩;simp[execOp,p,convert,bP q,bP u,bP y,f,Conv.bytesToString,loadCells,loadCellsFrom]
 ·rename_i b i m G X g;rw[g]at f;simp only[aL]at f;obtain⟨_,l,D,I⟩:=f;split
  ·rename_i cs z;split
   ·rename_i r J;obtain⟨E,K⟩:=qe4 (A.blk b (A.lt D)) z;have fin:∀ vs:List Value,vs.length=m->aK ι cs vs->(∀(j:Nat) (v:Value),vs[j]? =some v->w.cell? ⟨l.blk,l.base+i+j,none⟩=some v)->gY P o a.eval ι w nm (.val (.str m (zll cs))):=by
     intro vs M N O;obtain⟨k,Q,R,S⟩:=qtr (P:=P) (w:=w) cs vs r .empty N J;have B:(ByteArray.empty.data++k.toArray).toList=k:=by show(#[]++k.toArray).toList=k;simp
     refine⟨.string ⟨(ByteArray.empty.data++k.toArray)⟩,?_,qo2 ⟨by rw[B,Q,E],by rw[B,R]⟩⟩;have C:=run_loadCells P w l.blk (l.base+i) vs O;rw[M]at C;simp only[execOp,p,convert,Sem.run_bind,bP q,bP u,bP y,I,Result.andThen_ok,Conv.bytesToString,C];rw[List.forIn_toArray];exact Eq.trans (congrArg (fun r:Result ByteArray=>(r.andThen fun a w'=>Sem.run P (pure (Value.string a)) w').andThen fun a w'=>Sem.run P (pure (Next.value a)) w') S) rfl
    rcases K with rfl|⟨loc,vs,F,T,U,Y,V⟩
    ·have:cs=[]:=tq.1 E;subst this;exact fin [] rfl (by simp[aK]) (by simp)
    ·rw[D]at F;cases F;exact fin vs U T V
   ·trivial
  ·trivial
 ·trivial
theorem q1a(a:Nat):∀(n i:Nat),Nat.rec (motive:=fun _=>Nat->List AV) (fun _=>[]) (fun _ ih i=>.int .u8 (.ofNat (qqe a i))::ih (Nat.succ i)) n i=(List.range' i n).map fun j=>.int .u8 (.ofNat (qqe a j))
 |0,i=>rfl
 |n+1,i=>by rw[List.range'_succ,au,<-q1a a n (i+1)]
theorem qlb{m a:Nat}{s:ByteArray}(h:y8 m a s):aK ι (q1b a m) (s.data.toList.map fun b=>Value.int .u8 (b.toNat:Int)):=by
 obtain⟨rfl,rfl⟩:=h;unfold q1b;rw[q1a,<-List.range_eq_range'];refine aK.aAx (by simp) fun i v c=>?_;have d:i<s.data.toList.length:=by
  rcases xe i s.data.toList.length with h|h
  ·exact h
  ·simp_all
 rw[xw,List.getElem?_range d]at c;simp only[lEH,qh]at c;subst c;refine⟨_,by rw[xw,lL d];rfl,?_⟩;rw[q1c _ _ d];rfl
theorem zlb{s t e:TypeId}{x:Operand}(G:o.op=.convert s t x)(H:P.underlying s=some .string)(I:P.underlying t=some (.slice e))(J:P.underlying e=some (.int .u8))(h:LR ι d n L a.tmps):gY P o a.eval ι w nm (q56 nm ((aH d n x).f L)):=by
 have B:=dP h x;unfold q56;split
 ·rename_i m y R;rw[R]at B;simp only[aL]at B;obtain⟨u,S,z⟩:=B;have f:u.size=m:=z.1;obtain⟨c,T⟩:∃ c,(Question.appendCap u.size 0 e).cut (w.tape w.drawn (.appendCap u.size 0 e))=u.size+c:=⟨_,rfl⟩
  let C:Array Value:=(u.data.map fun b=>Value.int .u8 (b.toNat:Int))++Array.replicate c (.int .u8 0)
  have N:C.size=m+c:=by simp[C,<-f]
  let w1:World:=(w.drew).alloc (.cells C e)
  have D:w1.shape? w.heap.size=some (e,m+c):=by show(match(w.heap.push _)[w.heap.size]? with|some (.cells c elem _)=>some (elem,c.size)|_=>none)=_;simp[N]
  let w2:World:=w1.freeze ⟨w.heap.size,m+c,none⟩ 1
  have F:w2.heap[w.heap.size]? =some (.cells C e (m+c,m+c+1)):=by show((if(1:Nat)=0 then w1 else _:World)).heap[w.heap.size]? =_;show((w.heap.push _).modify _ _)[w.heap.size]? =_;rw[lE6,kz rfl,Array.getElem?_push,kz rfl];rfl
  refine⟨.slice (some ⟨w.heap.size,0,none⟩) m (m+c),w2,⟨w.heap.size,0,c,1⟩,?_,⟨rfl,rfl,rfl,?_,fun k U=>?_,rfl⟩,fun K M A=>⟨?_,?_⟩⟩
  ·have p:u.size+c-u.size=c:=by omega
   simp only[execOp,G,convert,Sem.run_bind,bP H,bP I,bP J,S,Result.andThen_ok,Conv.stringToBytes,run_choose_drew,Question.forced,cu,lA9,T,p,newRow,run_newObj_alloc,Sem.run_pure,markStringish,run_shape];rw[show(w.drew.alloc (.cells C e)).shape? w.drew.heap.size=some (e,m+c)from D];simp only[run_freeze,Result.andThen_ok,f];rfl
  ·show(if(1:Nat)=0 then w1 else _:World).heap.size=_;show((w.heap.push _).modify _ _).size=_;simp
  ·show((if(1:Nat)=0 then w1 else _:World)).heap[k]? =_;show((w.heap.push _).modify _ _)[k]? =_;rw[lE6,lu (show ¬w.heap.size=k by omega),Array.getElem?_push,lu (show ¬k=w.heap.size by omega)]
  ·simp only[aL];exact⟨lh _,_,A,by simp⟩
  ·have g:∀ i,w2.cell? ⟨w.heap.size,i,none⟩=C[i]? :=fun i=>by simp[World.cell?,F]
   have q:∀ i,i<m+c->w2.frozen? ⟨w.heap.size,i,none⟩=false:=fun i A=>by simp[World.frozen?,F];omega
   have O:(q1b y m).length=m:=by rw[<-(qlb (ι:=K) z).length];simp;exact z.1
   refine qm4 (loc:=⟨w.heap.size,0,c,1⟩) A (qlb z) (fun v l=>?_) (fun i v l=>?_) (fun j E=>?_)
   ·simp at l;obtain⟨_,_,rfl⟩:=l;rfl
   ·have r:i<m:=by
     rcases xe i m with h|h
     ·exact h
     ·rw[xn (by simp;rw[<-f]at h;exact h)]at l;cases l
    simp only[pq];refine⟨?_,q i (by omega)⟩;rw[g,Array.getElem?_append_left (by simp;rw[<-f]at r;exact r)];simpa using l
   ·simp only[qg]at E;simp only[pq,O];refine⟨.int .u8 0,?_,q _ (by omega),rfl⟩;rw[g,Array.getElem?_append_right (by simp;rw[<-f];exact Nat.le_add_right _ _)];have Q:(u.data.map fun b=>Value.int .u8 (b.toNat:Int)).size=m:=by simp;exact f
    rw[Q,show m+j-m=j by omega];simp[E]
 ·trivial
theorem z4c{k:BinOp}{t ty:TypeId}{x y:Operand}(g:o.op=.binOp k t x y ty)(h:LR ι d n L a.tmps):gY P o a.eval ι w nm ((wD P k t).f ((aH d n x).f L) ((aH d n y).f L)):=by
 have c:∀ i,P.underlying t=some i->(match i with| .bool| .pointer _| .slice _| .map .. | .func .. | .interface _=>True| .struct _| .array .. =>P.eqGuardType P.depth t=false|_=>False) ->
   gY P o a.eval ι w nm ((match k,eqT P qdf t with
    | .eql,⟨e⟩=>(⟨fun x y=>pX false (e x y)⟩:V2)
    | .neq,⟨e⟩=>⟨fun x y=>pX true (e x y)⟩
    |_,_=>⟨fun _ _=>.bad⟩).f ((aH d n x).f L) ((aH d n y).f L)):=by
  intro i b s;have j:∀ f,P.underlying t=some f->match f with| .bool| .pointer _| .slice _| .map .. | .func .. | .interface _=>True| .struct _| .array .. =>P.eqGuardType P.depth t=false|_=>False:=fun f r=>by simp_all
  split
  ·rename_i e l;exact aOn g false rfl l j ⟨i,b⟩ h
  ·rename_i e l;exact aOn g true rfl l j ⟨i,b⟩ h
  ·trivial
 unfold wD;split
 ·split
  ·exact zld g (.inl rfl) h
  ·exact zld g (.inr rfl) h
  ·rename_i p q;exact aKS g ⟨fun e=>p e,fun e=>q e⟩ h
 ·exact zs2 g h
 ·rename_i b;exact c _ b trivial
 ·rename_i b;exact c _ b trivial
 ·rename_i b;exact c _ b trivial
 ·rename_i b;exact c _ b trivial
 ·rename_i b;exact c _ b trivial
 ·rename_i b;exact c _ b trivial
 ·rename_i b;split
  ·trivial
  ·rename_i m;exact c _ b (by simpa using m)
 ·rename_i b;split
  ·trivial
  ·rename_i m;exact c _ b (by simpa using m)
 ·trivial
theorem z7t{args:List Operand}{ts:List TypeId}(e:o.op=.call {callee:=.builtin .len,args:=args.toArray,argTypes:=ts.toArray}){g:Bool}{f:Nat->TT AV d->Hp->R0}(b:u6 P d n args ts=.q g f)(i:HR ι H w)(h:LR ι d n L a.tmps):gY P o a.eval ι w nm (f nm L H):=by
 unfold u6 at b;split at b
 ·rename_i x t;split at b
  ·rename_i c;cases b;exact qs0 e (.inl ⟨_,c⟩)
  ·rename_i c;split at b
   ·rename_i j;cases b;exact qs0 e (.inr ⟨_,_,c,j⟩)
   ·cases b
  ·rename_i c;cases b;exact zs5 e c h
  ·rename_i c;cases b;exact z1t e c h
  ·rename_i c;cases b;exact z6q e c i h
  ·cases b
 ·cases b
theorem z9h{args:List Operand}{ts:List TypeId}(e:o.op=.call {callee:=.builtin .cap,args:=args.toArray,argTypes:=ts.toArray}){g:Bool}{f:Nat->TT AV d->Hp->R0}(b:zZ P d n args ts=.q g f)(h:LR ι d n L a.tmps):gY P o a.eval ι w nm (f nm L H):=by
 unfold zZ at b;split at b
 ·rename_i x t;split at b
  ·rename_i c;cases b;exact zcm e ⟨_,c⟩
  ·rename_i c;cases b;exact z1y e c h
  ·cases b
 ·cases b
theorem z7f{args:List Operand}{ts:Array TypeId}(c:o.op=.call {callee:=.builtin .min,args:=args.toArray,argTypes:=ts}){e:Bool}{f:Nat->TT AV d->Hp->R0}(b:aAg d n args=.q e f)(h:LR ι d n L a.tmps):gY P o a.eval ι w nm (f nm L H):=by
 unfold aAg at b;split at b
 ·cases b;exact aL0 c h
 ·cases b
theorem z7h{args:List Operand}{ts:Array TypeId}(c:o.op=.call {callee:=.builtin .max,args:=args.toArray,argTypes:=ts}){e:Bool}{f:Nat->TT AV d->Hp->R0}(b:zF d n args=.q e f)(h:LR ι d n L a.tmps):gY P o a.eval ι w nm (f nm L H):=by
 unfold zF at b;split at b
 ·cases b;exact aNq c h
 ·cases b
theorem z9o{args:List Operand}{ts:List TypeId}{b:Bool}{f:Nat->TT AV d->Hp->R0}(a:aAi P d n args ts=.q b f):False:=by
 unfold aAi at a;split at a
 ·split at a
  ·split at a<;>cases a
  ·cases a
 ·cases a
theorem z3q{args:List Operand}{ts:List TypeId}{b:Bool}{f:Nat->TT AV d->Hp->R0}(a:q7d P d n args ts=.q b f):False:=by
 unfold q7d at a;split at a
 ·split at a
  ·split at a<;>cases a
  ·cases a
 ·cases a
theorem z81{args:List Operand}{ts:List TypeId}{b:Bool}{f:Nat->TT AV d->Hp->R0}(a:aAk P d n args ts=.q b f):False:=by
 unfold aAk at a;split at a
 ·split at a
  ·split at a<;>cases a
  ·cases a
 ·cases a
theorem z9d{args:List Operand}{ts:List TypeId}{b:Bool}{f:Nat->TT AV d->Hp->R0}(a:zK P d n args ts=.q b f):False:=by
 unfold zK at a;split at a
 ·split at a
  ·split at a<;>cases a
  ·cases a
  ·cases a
 ·cases a
theorem zdp{b:Builtin}{args:Array Operand}{ts:Array TypeId}(e:o.op=.call {callee:=.builtin b,args,argTypes:=ts}){g:Bool}{f:Nat->TT AV d->Hp->R0}(c:qeo P d n b args.toList ts.toList=.q g f)(i:HR ι H w)(h:LR ι d n L a.tmps):gY P o a.eval ι w nm (f nm L H):=by
 unfold qeo at c;split at c
 ·exact z7t (by simpa using e) c i h
 ·exact z9h (by simpa using e) c h
 ·exact z7f (ts:=ts) (by simpa using e) c h
 ·exact z7h (ts:=ts) (by simpa using e) c h
 ·exact(z9o c).elim
 ·exact(z3q c).elim
 ·exact(z81 c).elim
 ·exact(z9d c).elim
 ·cases c
theorem qqc:∀ x y:List UInt8,Lib.compareBytes x y=bif Op.bytesLess x y then -1 else bif decide (x=y)then 0 else 1
 | [],[]=>by simp[Lib.compareBytes,Op.bytesLess]
 | [],_::_=>by simp[Lib.compareBytes,Op.bytesLess]
 |_::_,[]=>by simp[Lib.compareBytes,Op.bytesLess]
 |a::x,b::y=>by
  have ih:=qqc x y;simp only[Lib.compareBytes,Op.bytesLess];by_cases c:a<b
  ·simp[c]
  ·by_cases d:b<a
   ·have f:a≠b:=fun e=>by subst e;exact absurd d c
    simp_all
   ·have g:a=b:=UInt8.le_antisymm (UInt8.not_lt.1 d) (UInt8.not_lt.1 c);simp_all
theorem zml{f:FuncId}(h:ztx P f=true)(s t:ByteArray)(w:World):(callFunc f #[.string s,.string t]).run P w=.ok (.value (.int .i64 (Lib.compareBytes s.data.toList t.data.toList))) w:=by
 unfold ztx at h;split at h
 ·rename_i fn hfn;simp only[qc,beq_iff_eq,Option.isNone_iff_eq_none]at h;obtain⟨⟨h1,h2⟩,h3⟩:=h;have hnx:Extern.findNext fn=none:=by
   unfold Extern.findNext;rw[h2,h3];have e1:Extern.allNextRows.lookup qqb=none:=by decide +kernel
   have e2:Extern.allNextRows.lookup "" =none:=by decide +kernel
   simp only[e1,e2];rfl
  have hfd:Extern.find fn=some Extern.BytealgCompare.compare:=by
   unfold Extern.find;rw[h2];have e1:(Extern.allGenericRows.lookup qqb)=none:=by decide +kernel
   have e2:(Extern.allTypedRows.lookup qqb)=none:=by decide +kernel
   have e3:Extern.allRows.lookup qqb=some Extern.BytealgCompare.compare:=by kernel_rfl
   simp only[e1,e2,e3];rfl
  have hname:¬ fn.name = "runtime.NumGoroutine" :=by rw[h2];decide +kernel
  have hr:=Lib.run_compareString (P:=P) s t w;simp[callFunc,hfn,hname,h1,hnx,hfd,hr,mark,Sem.run]
 ·cases h
theorem aLe{f:FuncId}{args:Array Operand}{ts:Array TypeId}(k:o.op=.call {callee:=.value (.func f),args,argTypes:=ts})(l:ztx P f=true)(h:LR ι d n L a.tmps):gY P o a.eval ι w nm (aHz ((tQ d n args.toList).f L)):=by
 have g:=qcz h args.toList;unfold aHz;split
 ·rename_i q r u v e;rw[e]at g;obtain⟨z,A,x,⟨s,rfl,i⟩,B,C,rfl,⟨t,rfl,j⟩,rfl⟩:=g;refine⟨.int .i64 (Lib.compareBytes s.data.toList t.data.toList),?_,?_⟩
  ·have b:args.map a.eval= #[.string s,.string t]:=by
    have:args.map a.eval=(args.toList.map a.eval).toArray:=by rw[<-lA7]
    rw[this,x]
   have y:=zml l s t w;have c:a.eval (.func f)=.func (.func f) #[] #[]:=rfl;simp only[execOp,k,resolve,c,Deferred.ofValue,b];trivial
  ·have m:=y8.less i j;have p:eqS q r u v=decide (s.data.toList=t.data.toList):=by
    rw[y8.eq i j,lEI];simp
   rw[m,p,qqc];rfl
 ·trivial
theorem z1v{x:Operand}(D:o.op=.entry x)(g:HR ι H w)(h:LR ι d n L a.tmps):gY P o a.eval ι w nm (aGr H ((aH d n x).f L)):=by
 have j:=dP h x;unfold aGr;split
 ·rename_i b k F;rw[F]at j;simp only[aL]at j;obtain⟨loc,v,y⟩:=j;have t:=g.blk b (g.lt v);cases q:Nat.beq k 0 with
  |false=>trivial
  |true=>
   obtain rfl:=qp q;split
   ·rename_i m c G I;rw[I]at t;obtain⟨Q,r,z,g0,J,K⟩:=t;rw[v]at z;cases z;rw[g0,yw]at y;split
    ·rename_i m p;obtain⟨R,A,rfl⟩:=K;have u:=g.blk m (g.lt A);split
     ·rename_i S f l;rw[l]at u;obtain⟨T,U,B,M,C⟩:=u;rw[A]at B;cases B;cases s:Nat.beq f c with
      |false=>trivial
      |true=>
       obtain rfl:=qp s;split
       ·rename_i e;simp only[bV]at C;obtain⟨E,_,rfl,N,O,V,rfl⟩:=C;cases i:Nat.beq e.born p with
        |false=>trivial
        |true=>
         have i:=qp i;have i:p=E.born:=by omega
         subst i;refine⟨.tuple #[E.key,E.val],?_,?_⟩
         ·simp[execOp,D,y,Instr.entry,getObj,Sem.run,J,M]
         ·simp only[aL,aK];exact⟨_,⟨_,_,rfl,N,_,_,rfl,O,rfl⟩,rfl⟩
       ·trivial
     ·trivial
    ·trivial
   ·trivial
 ·trivial
theorem z16{u:Bool}{f:Nat->TT AV d->Hp->R0}(b:gW P d n o=.q u f)(t:HR ι H w)(h:LR ι d n L a.tmps):gY P o a.eval ι w nm (f nm L H):=by
 unfold gW at b;split at b
 ·rename_i x c;cases b;exact zxh (.inl c) h
 ·rename_i x c;cases b;exact zxh (.inr c) h
 ·rename_i c;cases b;exact z6p c h
 ·rename_i c;unfold q9v at b;split at b
  ·rename_i v;cases b;exact z1z c v
  ·cases b
 ·rename_i c;unfold aCr at b;split at b
  ·rename_i k g i j l;cases b;have:=z6u (P:=P) (w:=w) (nm:=nm) c k h;rw[l]at this;exact this
  ·rename_i i j l;cases b;have:=z6v (P:=P) (w:=w) (nm:=nm) c h;rw[l]at this;exact this
  ·cases b
 ·rename_i c;unfold q9u at b;split at b
  ·rename_i i j;split at b
   ·rename_i l;split at b
    ·rename_i m;cases b;exact zs7 c i j l m h
    ·cases b
   ·cases b
  ·rename_i i j;split at b
   ·rename_i l;split at b
    ·rename_i m;cases b;exact zs8 c i j l m h
    ·cases b
   ·cases b
  ·cases b
 ·rename_i c;unfold qff at b;split at b
  ·rename_i i;split at b
   ·rename_i s z j l;cases q:(Nat.ble (_*s) 65536&&Nat.beq z.length s)with
    |false=>rw[q]at b;cases b
    |true=>
     rw[q]at b;simp only[uC]at b;simp only[qc]at q;split at b
     ·rename_i m;cases b;exact qz1 c i l j (uD q.2) (nP q.1) m h
     ·cases b
   ·cases b
  ·cases b
 ·rename_i c;unfold zkt at b;split at b
  ·rename_i i j l;cases b;have:=z1r (P:=P) (nm:=nm) c i j t h;rw[l]at this;exact this
  ·rename_i i j l;cases b;have:=z1s (P:=P) (nm:=nm) c i t h;rw[l]at this;exact this
  ·cases b
 ·unfold qzl at b;split at b<;>cases b
 ·rename_i c;cases b;exact zck c h
 ·rename_i c;cases b;exact z4c c h
 ·rename_i c;cases b;exact aVs c h
 ·rename_i c;unfold qmv at b;split at b
  ·rename_i i j l;cases b;have:=z1x (P:=P) (w:=w) (nm:=nm) c i j h;rw[l]at this;exact this
  ·rename_i i j l;cases b;have:=z1w (P:=P) (w:=w) (nm:=nm) c i j h;rw[l]at this;exact this
  ·rename_i i j l;split at b
   ·rename_i m;cases b;have:=zlb (P:=P) (w:=w) (nm:=nm) c i j m h;rw[l]at this;exact this
   ·cases b
  ·rename_i i j l;split at b
   ·rename_i m;split at b
    ·cases b;have:=z1q (P:=P) (nm:=nm) c i j m t h;rw[l]at this;exact this
    ·cases b
   ·cases b
  ·cases b
 ·rename_i c;unfold qdh at b;split at b
  ·cases b
  ·rename_i y i j;cases b;have:=qo5 (P:=P) (w:=w) (nm:=nm) c i (fun ms e=>y ms (by rw[e])) h;rw[j]at this;exact this
  ·cases b
 ·rename_i c;cases b;exact zcl c h
 ·rename_i c;cases b;exact zle c
 ·rename_i c;unfold qgr at b;split at b
  ·rename_i i j l;split at b
   ·rename_i z w' s m p r;cases q:Nat.beq z.length s with
    |false=>rw[q]at b;cases b
    |true=>rw[q]at b;cases b;have:=zs3 (P:=P) (w:=w) (nm:=nm) c i m p r (uD q) h;rw[j,l]at this;exact this
   ·cases b
  ·cases b
 ·rename_i c;unfold q9p at b;split at b
  ·rename_i i j l m;split at b
   ·cases b;have:=zcj (P:=P) (w:=w) (nm:=nm) c i h;rw[j,l,m]at this;exact this
   ·cases b
  ·rename_i i j l m p;split at b
   ·rename_i r;cases b;have:=zlc (P:=P) (w:=w) (nm:=nm) c i r h;rw[j,l,m,p]at this;exact this
   ·cases b
  ·rename_i i j l m p;split at b
   ·rename_i r;cases b;have:=qsz (P:=P) (w:=w) (nm:=nm) c (.inl i) r h;rw[j,l,m,p]at this;exact this
   ·cases b
  ·rename_i i j l m p;split at b
   ·rename_i A;split at b
    ·rename_i r;cases b;have:=qsz (P:=P) (w:=w) (nm:=nm) c (.inr ⟨_,i,A⟩) r h;rw[j,l,m,p]at this;exact this
    ·cases b
   ·cases b
  ·cases b
 ·rename_i c;unfold qe2 at b;split at b
  ·rename_i i j;split at b
   ·rename_i l;split at b
    ·rename_i m;cases b;have:=q6n (P:=P) (w:=w) (nm:=nm) c i l m h;rw[j]at this;exact this
    ·cases b
   ·cases b
  ·cases b
 ·rename_i c;unfold qzo at b;split at b
  ·rename_i i j;split at b
   ·rename_i l;cases b;have:=z1u (P:=P) (w:=w) (nm:=nm) c i l h;rw[j]at this;exact this
   ·cases b
  ·cases b
 ·rename_i c;unfold qe1 at b;split at b
  ·rename_i i j l;split at b
   ·rename_i m;cases b;have:=z6s (P:=P) (w:=w) (nm:=nm) c i m h;rw[j,l]at this;exact this
   ·cases b
  ·rename_i i j l;split at b
   ·rename_i m;cases b;have:=z6t (P:=P) (w:=w) (nm:=nm) c i m h;rw[j,l]at this;exact this
   ·cases b
  ·cases b
 ·rename_i c;unfold qzn at b;split at b
  ·rename_i i j l;cases b;have:=zs6 (P:=P) (w:=w) (nm:=nm) c i h;rw[j,l]at this;exact this
  ·rename_i i j l;split at b
   ·rename_i m;cases b;have:=z6r (P:=P) (w:=w) (nm:=nm) c i m h;rw[j,l]at this;exact this
   ·cases b
  ·cases b
 ·rename_i c;unfold qwz at b;split at b
  ·rename_i i j l;split at b
   ·rename_i m p;cases b;have:=zs4 (P:=P) (nm:=nm) c i m p t h;rw[j,l]at this;exact this
   ·cases b
  ·cases b
 ·unfold qd3 at b;split at b<;>first|(cases b;done)|(split at b<;>cases b)
 ·unfold qd3 at b;split at b<;>first|(cases b;done)|(split at b<;>cases b)
 ·unfold qi9 at b;split at b<;>first|(cases b;done)|(split at b<;>cases b)
 ·cases b
 ·rename_i c;cases b;exact zlf c h
 ·unfold q9q at b;split at b<;>cases b
 ·unfold zst at b;split at b<;>cases b
 ·rename_i c;cases b;exact z1v c t h
 ·rename_i c;exact zdp c b t h
 ·rename_i c;unfold q9t at b;split at b
  ·rename_i g i j;cases b;have:=aLe (P:=P) (w:=w) (nm:=nm) c j h;rw[i]at this;exact this
  ·cases b
 ·cases b
 ·cases b
end Go.Ev
end
section
namespace Go.Ev
open Go.RowKit
variable {P:Program} {w:World} {ι:Im} {o:Oper} {a:Act} {d n:Nat} {L:TT AV d} {H:Hp}
def r9(P:Program)(o:Oper)(ρ:Operand->Value)(ι:Im)(H:Hp)(w:World):R1->Prop
 | .bad=>True
 | .ok v H'=>∃ N V w' ι',(execOp ρ o).run P w=.ok N w'/\(N=.value V\/(N=.skip/\V=Go.undef))/\aL ι' v V/\HR ι' H' w'/\Fr ι ι' H H' w w'
theorem qd2(P:Program){b i:Nat}{l:List AV}{vs:List Value}{loc:Loc}(m:HR ι H w)(k:ι b=some loc)(r:aK ι l vs)(s:∀ v∈vs,v.oneCell=true){v u:AV}{n:Hp}(h:storeAt H b i l v=.ok u n):u=v/\∃ w',(storeCells ⟨loc.blk,loc.base+i,none⟩ vs).run P w=.ok () w'/\HR ι n w'/\Fr ι ι H n w w':=by
 have f:=m.lt k;have t:=m.blk b f;unfold storeAt at h;split at h
 ·rename_i D a;obtain⟨rfl,rfl⟩:=h;refine⟨rfl,?_⟩;unfold uK at a;split at a
  ·rename_i L E c M y;cases e:Nat.ble (i+l.length) E with
   |false=>rw[e]at a;cases a
   |true=>
    rw[e]at a;simp only[uC,qh]at a;subst a;have e:=nP e;rw[y]at t;obtain⟨N,z,F,A,O⟩:=t;rw[k]at z;cases z;have x:=r.length;obtain⟨w',G,d⟩:=qhj P loc.blk vs w (loc.base+i) 0 (fun j o=>by
     obtain⟨V,B,I,J,q⟩:=A (i+j) (by omega);refine⟨V,?_,?_⟩
     ·rw[show loc.base+i+0+j=loc.base+(i+j)by omega];exact B
     ·rw[show loc.base+i+0+j=loc.base+(i+j)by omega];exact q rfl) s
    rw[yw]at d;refine⟨w',G,m.put f (by rw[y];rfl) k _ d.os d.tape d.output d.size d.keep ?_⟩;refine⟨loc,k,F,fun j o=>?_,fun _ j o=>?_⟩
    ·rw[qh2 _ _ _ _ (by omega) (by omega),d.cell,d.frozen];obtain⟨V,B,I,J,q⟩:=A j o;by_cases g:i<=j/\j<i+l.length
     ·rw[kz g,kz (by omega)];have p:l[j-i]? =some (l.getD (j-i) .undef):=by
       have:j-i<l.length:=by omega
       simp[this]
      obtain⟨C,d1,K⟩:=r.get _ _ p;refine⟨C,?_,K,s C (uB d1),q⟩;rw[show loc.base+j-(loc.base+i)=j-i by omega,kw,d1];rfl
     ·rw[lu g,lu (by omega)];simp_all
    ·rw[d.cell,d.frozen,lu (by omega)];simp_all
  ·cases a
 ·cases h
theorem zuh{t:TypeId}{x y:Operand}(f:o.op=.store t x y)(g:gQ P t=some 1)(j:HR ι H w)(h:LR ι d n L a.tmps):r9 P o a.eval ι H w (jX H ((aH d n x).f L) ((aH d n y).f L)):=by
 have c:=dP h x;have e:=dP h y;unfold jX;split<;>first|trivial|skip
 rename_i b i l m p E q;rw[l]at c;simp only[aL]at c;obtain⟨loc,r,s⟩:=c;have k:((aH d n y).f L).plain=true:=by
  unfold AV.plain;split
  ·simp_all
  ·simp_all
  ·trivial
  ·simp_all
  ·rfl
 obtain⟨v,z⟩:=e.one k;cases D:storeAt H b i [(aH d n y).f L] .undef with
 |bad=>trivial
 |ok u H'=>obtain⟨rfl,w',A,B,C⟩:=qd2 P j r (aK.singleton e) (by simpa using v) D;refine⟨.skip,Go.undef,w',ι,?_,.inr ⟨rfl,rfl⟩,by simp[aL,Go.undef],B,C⟩;simp[execOp,f,Instr.storeAt,s,Instr.sureAddr,storeVar,z,mH g,A]
theorem zug{t:TypeId}{x y:Operand}(j:o.op=.store t x y){k:Nat}(m:gQ P t=some k)(p:HR ι H w)(h:LR ι d n L a.tmps):r9 P o a.eval ι H w (zJ k H ((aH d n x).f L) ((aH d n y).f L)):=by
 have c:=dP h x;have f:=dP h y;unfold zJ;split
 ·rename_i b i l r s;rw[r]at c;simp only[aL]at c;obtain⟨loc,v,z⟩:=c;rw[s]at f;obtain⟨vs,g,A,B⟩:=qee f;cases e:Nat.beq l.length k with
  |false=>trivial
  |true=>
   have e:=uD e;cases F:storeAt H b i l .undef with
   |bad=>trivial
   |ok u H'=>
    obtain⟨rfl,w',C,D,E⟩:=qd2 P p v g B F;refine⟨.skip,Go.undef,w',ι,?_,.inr ⟨rfl,rfl⟩,by simp[aL,Go.undef],D,E⟩;have q:vs.length=k:=by rw[g.length,e]
    simp[execOp,j,Instr.storeAt,z,Instr.sureAddr,storeVar,A,Value.cells,mH m,q,C]
 ·trivial
theorem q0v(need:Nat):∀(r c X:Nat),c<=X->need+(need+768) / 4<=X->Builtin.growBy need r c<=X
 |0,c,X,h,_=>h
 |r+1,c,X,h,k=>by
  unfold Builtin.growBy;split
  ·exact h
  ·exact q0v need r _ X (by omega) k
theorem qs8{need old:Nat}(h:old<need):Builtin.nextslicecap need old<=3*need:=by
 unfold Builtin.nextslicecap;split
 ·omega
 ·split
  ·omega
  ·exact q0v need 4 old _ (by omega) (by omega)
theorem q9j{z:Nat}{x:AV}{X:Value}(e:aL ι x X)(q:HR ι H w){s:Src}(h:zsl z H x=some s)(o:(∃m b,x=.str m b)->z=1):∃vs:List Value,aK ι s.l vs/\(∀v∈vs,v.oneCell=true)/\vs.length=s.n*z/\(Builtin.lenOf X).run P w=.ok s.n w /\ ∀k,k<=s.n->(Builtin.firstCells z k X).run P w=.ok (vs.take (k*z)).toArray w:=by
 unfold zsl at h;split at h
 ·simp only[qh]at h;subst h;simp only[aL]at e;subst e;exact⟨[],by simp[aK],by simp,by simp,by simp[Builtin.lenOf],fun k _=>by simp[Builtin.firstCells]⟩
 ·simp only[qh]at h;subst h;simp only[aL]at e;obtain⟨N,c,rfl⟩:=e;refine⟨[],by simp[aK],by simp,by simp,by simp[Builtin.lenOf],fun k n=>?_⟩;have:k=0:=by simpa using n
  subst this;simp[Builtin.firstCells,loadCells,loadCellsFrom]
 ·rename_i b i m a r;obtain⟨_,loc,t,rfl⟩:=e;split at h
  ·rename_i cs p;simp only[qh]at h;subst h;obtain⟨D,f⟩:=qe4 (q.blk b (q.lt t)) p;have fin:∀ vs:List Value,vs.length=m*z->aK ι cs vs->(∀v∈vs,v.oneCell=true)->(∀(j:Nat) (v:Value),vs[j]? =some v->w.cell? ⟨loc.blk,loc.base+i+j,none⟩=some v) ->
     ∃vs:List Value,aK ι cs vs/\(∀v∈vs,v.oneCell=true)/\vs.length=m*z/\(Builtin.lenOf (.slice (some ⟨loc.blk,loc.base+i,none⟩) m (if r then a else a+loc.ext))).run P w=.ok m w /\
      ∀k,k<=m->(Builtin.firstCells z k (.slice (some ⟨loc.blk,loc.base+i,none⟩) m (if r then a else a+loc.ext))).run P w=.ok (vs.take (k*z)).toArray w:=by
    intro vs E F G I;refine⟨vs,F,G,E,by simp[Builtin.lenOf],fun k n=>?_⟩;have B:k*z<=m*z:=um z n;have g:(vs.take (k*z)).length=k*z:=by rw[ry];omega
    have:=run_loadCells P w loc.blk (loc.base+i) (vs.take (k*z)) (fun j v d=>I j v (by
     rw[lAE]at d;split at d
     ·exact d
     ·cases d))
    rw[g]at this;trivial
   rcases f with f|⟨O,vs,u,J,K,L,M⟩
   ·have f:m*z=0:=f;have:cs=[]:=tq.1 (by rw[D];exact f);subst this;exact fin [] (by simp[f]) (by simp[aK]) (by simp) (by simp)
   ·rw[t]at u;cases u;exact fin vs K J L M
  ·cases h
 ·rename_i m y;simp only[qh]at h;subst h;have C:z=1:=o ⟨_,_,rfl⟩;subst C;obtain⟨s,rfl,A⟩:=e;have l:s.size=m:=A.1;refine⟨_,qlb A,fun v d=>?_,?_,by simp[Builtin.lenOf,l],fun k n=>?_⟩
  ·simp at d;obtain⟨_,_,rfl⟩:=d;rfl
  ·simp;exact l
  ·simp only[Builtin.firstCells,Sem.run_pure];congr 1;apply Array.ext';simp
 ·cases h
theorem qxp{e:TypeId}{p:Ap}(b:apS P e=some p)(F:HR ι H w){old:List AV}{iO:List Value}(G:aK ι old iO)(q:∀ v∈iO,v.oneCell=true){x:Src}{d:List Value}(I:aK ι x.l d)(r:∀ v∈d,v.oneCell=true){need:Nat}(R:iO.length+d.length=need*p.z){v:AV}{s:Hp}(h:grow p.z H old x need=.ok v s)(a:Nat)(S:need<=a){f:Value}(t:(P.info? e).bind (·.zero)=some f)(w1:World)(u:w1=w.drew):∃B,aL B v (.slice (some ⟨w.heap.size,0,none⟩) need a)/\HR B s (w1.alloc (.cells (iO.toArray++d.toArray++Builtin.zeroCells f.cells (a-need)) e)) /\ Fr ι B H s w (w1.alloc (.cells (iO.toArray++d.toArray++Builtin.zeroCells f.cells (a-need)) e)):=by
 subst u;unfold grow at h
 ·
  obtain⟨rfl,rfl⟩:=h;have C:gZ (H.nx):=oI;unfold apS at b;split at b
  ·rename_i z T L U V M;cases o:Nat.beq L.length z with
   |false=>rw[o]at b;cases b
   |true=>
    rw[o]at b;simp only[uC,qh]at b;subst b;have o:=uD o;obtain⟨N,J,O,Q⟩:=qcv (ι:=ι) M;rw[t]at J;cases J;have l:f.cells.size=z:=by have:=O.length;simp at this;omega
    have D:Builtin.zeroCells f.cells (a-need)=(gN f.cells.toList (a-need)).toArray:=by have:=range_zero f.cells (a-need) z l;unfold Builtin.zeroCells;rw[l]at this ⊢;exact this
    rw[D]
    let loc:Loc:=⟨w.heap.size,0,a-need,z⟩
    let W:World:=w.drew.alloc (.cells (iO.toArray++d.toArray++(gN f.cells.toList (a-need)).toArray) e)
    have g:∀ i,W.cell? ⟨w.heap.size,i,none⟩=(iO++d++gN f.cells.toList (a-need))[i]? :=fun i=>by show(w.drew.alloc _).cell? ⟨w.drew.heap.size,i,none⟩=_;rw[World.cell?_alloc_new];simp
    have m:∀ i,W.frozen? ⟨w.heap.size,i,none⟩=false:=fun i=>by show(w.drew.alloc _).frozen? ⟨w.drew.heap.size,i,none⟩=_;rw[World.frozen?_alloc_new]
    have n:=F.push (w':=W) C loc (aB z (old++x.l)) rfl rfl rfl (by show w.heap.size<(w.drew.alloc _).heap.size;simp) (fun c y=>Below.heap_alloc w.drew _ c y) rfl
     (qm4 (vs:=iO++d) (loc:=loc) (Im.aZ _ _ _) (aK.mono (Im.iT loc (F.fresh _ (lh _))) _ _ (G.append I)) (fun v k=>by
      rcases pg.1 k with k|k
      ·exact q v k
      ·exact r v k) (fun i v k=>by
      rw[pq];refine⟨?_,m i⟩;rw[g];have K:i<(iO++d).length:=by
       rcases xe i (iO++d).length with h|h
       ·exact h
       ·simp_all
      rw[qx K];exact k) (fun j A=>by
      have A:j<(a-need)*z:=A;rw[pq,g];have E:(iO++d).length=(old++x.l).length:=by rw[ku,ku,G.length,I.length]
      rw[ug (by omega),E,zk];have:j<(gN f.cells.toList (a-need)).length:=by rw[qcf];simpa [l] using A
      exact⟨_,lL this,m _,Q _ (qgs (lg this))⟩))
    refine⟨ι.set H.nx loc,?_,n.1,n.2⟩;refine⟨lh _,loc,Im.aZ _ _ _,?_⟩;simp[loc];omega
  ·cases b
theorem qfg{t u e ty:TypeId}(j:P.underlying t=some (.slice e)){g:TypeDesc}(k:P.underlying u=some g)(c:g=.string\/∃ i,g=.slice i){z:Nat}(l:gQ P e=some z)(base:Option Addr)(a C:Nat)(X:Value){m:Nat}{vs:List Value}(n:(Builtin.lenOf X).run P w=.ok m w)(o:(Builtin.firstCells z m X).run P w=.ok vs.toArray w)(d:a+m<=C){w':World}(b:∀ f,base=some f->(storeCells (f.add (a*z)) vs).run P w=.ok () w')(h:base=none->w'=w):(Builtin.append_ #[t,u] ty #[.slice base a C,X]).run P w=.ok (.slice base (a+m) C) w':=by
 cases base with
 |none=>
  rw[h rfl];rcases c with rfl|⟨i,rfl⟩
  all_goals simp[Builtin.append_,bP j,bP k,mH l,n,o,d]
 |some f=>
  have b:=b f rfl;rcases c with rfl|⟨i,rfl⟩
  all_goals simp[Builtin.append_,bP j,bP k,mH l,n,o,d,b]
set_option maxHeartbeats 1000000 in
theorem qhk{t u e ty:TypeId}(s:P.underlying t=some (.slice e)){f:TypeDesc}(v:P.underlying u=some f)(g:f=.string\/∃ r,f=.slice r){z b:Nat}(x:gQ P e=some z)(y:qjp P e=some b){p:Value}(h:(P.info? e).bind (·.zero)=some p)(base:Option Addr)(a C:Nat)(X:Value){m:Nat}{vs iO:List Value}(A:(Builtin.lenOf X).run P w=.ok m w)(B:(Builtin.firstCells z m X).run P w.drew=.ok vs.toArray w.drew)(i:(Builtin.firstCells z a (.slice base a C)).run P w.drew=.ok iO.toArray w.drew)(j:¬ a+m<=C)(q:(a+m)*b<=1099511627776)(k:a+m<=1099511627776):∃c,a+m<=c/\(Builtin.append_ #[t,u] ty #[.slice base a C,X]).run P w=.ok (.slice (some ⟨w.heap.size,0,none⟩) (a+m) c) (w.drew.alloc (.cells (iO.toArray++vs.toArray++Builtin.zeroCells p.cells (c-(a+m))) e)):=by
 obtain⟨ti,n,o⟩:=qw7 (P:=P) y;have l:=qs8 (need:=a+m) (old:=C) (by omega);have D:¬(2 ^ 48<Builtin.nextslicecap (a+m) C*ti.bytes):=by have E:Builtin.nextslicecap (a+m) C*ti.bytes<=3*(a+m)*ti.bytes:=um _ l;rw[o]at E ⊢;have:3*(a+m)*b=3*((a+m)*b):=Nat.mul_assoc _ _ _;omega
 refine⟨(Question.appendCap (a+m) C e).cut (w.tape w.drawn (.appendCap (a+m) C e)),by simp only[Question.cut];omega,?_⟩;generalize d:(Question.appendCap (a+m) C e).cut (w.tape w.drawn (.appendCap (a+m) C e))=cap;rcases g with rfl|⟨r,rfl⟩
 all_goals
  simp[Builtin.append_,bP s,bP v,mH x,A,j,n,D,Question.forced,d,i,B,qde h,newRow];rw[lu (by omega),<-Array.append_assoc];simp
theorem qqg{e:TypeId}{a:Ap}(h:apS P e=some a):gQ P e=some a.z/\qjp P e=some a.w/\qju P e=some a.zl/\a.zl.length=a.z/\∃ b,(P.info? e).bind (·.zero)=some b:=by
 unfold apS at h;split at h
 ·rename_i z g d i j f;cases c:Nat.beq d.length z with
  |false=>rw[c]at h;cases h
  |true=>rw[c]at h;simp only[uC,qh]at h;subst h;obtain⟨b,k,_⟩:=qcv (ι:=fun _=>none) f;simp_all
 ·cases h
theorem HR.drew(h:HR ι H w):HR ι H w.drew:=
 ⟨h.top,fun b a=>(h.blk b a).keep fun _ _ _=>rfl,h.low,h.inj,h.fresh,h.free⟩
theorem zlm{b i a f:Nat}{loc:Loc}{z:Nat}(B:HR ι H w)(A:ι b=some loc)(n:qhm (H.get b) (i+f*z) z=true){old:List AV}(G:jG (H.get b) i (a*z)=some old){x:Src}{s:List Value}(hx:aK ι x.l s)(I:∀ v∈s,v.oneCell=true)(J:s.length=x.n*z)(hlc:a<=f)(hgt:¬ a+x.n<=f)(K:a+x.n<=f+loc.ext){v:AV}{S:Hp}(h:grow z (H.put b .dead) old x (a+x.n)=.ok v S):∃w' T,(storeCells ⟨loc.blk,loc.base+i+a*z,none⟩ s).run P w=.ok () w'/\aL T v (.slice (some ⟨loc.blk,loc.base+i,none⟩) (a+x.n) (f+loc.ext))/\HR T S w'/\Fr ι T H S w w':=by
 have g:=B.lt A;have U:=B.blk b g;unfold qhm at n;split at n
 ·rename_i dd Z c z' hg;simp only[qc]at n;have e1:=uD n.1;have e2:=uD n.2;have q:(H.get b).wr=true:=by rw[hg];rfl
  obtain⟨ol,ov⟩:=qe4 U G;rw[hg]at U;obtain⟨l',b1,⟨b2,b2'⟩,b3,b4⟩:=U;rw[A]at b1;cases b1;have hz:loc.z=z:=by rw[b2',e2]
  have W:(a+x.n)*z=a*z+x.n*z:=xk _ _ _;have bH1:(f+loc.ext)*z=f*z+loc.ext*z:=xk _ _ _;have bQd:(a+x.n)*z<=(f+loc.ext)*z:=um z K
  -- every y up to the end of the room is l
  have l:∀ j,j<Z+loc.ext*z->∃ u,w.cell? ⟨loc.blk,loc.base+j,none⟩=some u/\w.frozen? ⟨loc.blk,loc.base+j,none⟩=false/\u.oneCell=true:=by
   intro j F;by_cases hjn:j<Z
   ·obtain⟨V,Q,_,c3,c4⟩:=b3 j hjn;exact⟨V,Q,c4 rfl,c3⟩
   ·obtain⟨V,Q,R⟩:=b4 rfl (j-Z) (by rw[hz];omega);simp_all
  obtain⟨w',r1,r⟩:=qhj P loc.blk s w (loc.base+i+a*z) 0 (fun j F=>by obtain⟨u,Q,R,_⟩:=l (i+a*z+j) (by omega);rw[show loc.base+i+a*z+0+j=loc.base+(i+a*z+j)by omega];exact⟨u,Q,R⟩) I;rw[yw]at r;unfold grow at h
  ·
   obtain⟨rfl,rfl⟩:=h;have D:gZ (H.nx):=oI;obtain⟨k1,k2⟩:=B.kill g q;have t:=B.fresh H.nx (lh _)
   let uI:Loc:=⟨loc.blk,loc.base+i,f+loc.ext-(a+x.n),z⟩
   have M:ι.le (ι.set H.nx uI):=Im.iT uI t;have X:(H.put b .dead).get H.nx=.dead:=k1.free _ (lh _) D
   -- the cells that were l
   obtain⟨iO,o1,o2,o3,o4⟩:∃ iO,aK ι old iO/\iO.length=a*z/\(∀v∈iO,v.oneCell=true)/\∀(j:Nat) (v:Value),iO[j]? =some v->w.cell? ⟨loc.blk,loc.base+i+j,none⟩=some v:=by
    rcases ov with ov|⟨l2,iO,g1,g2,g3,g4,g5⟩
    ·have:old=[]:=tq.1 (by rw[ol];exact ov);subst this;exact⟨[],by simp[aK],by simpa using ov.symm,by simp,by simp⟩
    ·rw[A]at g1;cases g1;exact⟨iO,g2,g3,g4,g5⟩
   have N:(old++x.l).length=(a+x.n)*z:=by rw[ku,ol,<-hx.length,J,W]
   have y:∀ j,w'.cell? ⟨loc.blk,loc.base+i+j,none⟩=if a*z<=j/\j<a*z+s.length then some (s.getD (j-a*z) Go.undef)else w.cell? ⟨loc.blk,loc.base+i+j,none⟩:=fun j=>by
    rw[r.cell];by_cases o:a*z<=j/\j<a*z+s.length
    ·rw[kz o,kz (by omega),show loc.base+i+j-(loc.base+i+a*z)=j-a*z by omega]
    ·rw[lu o,lu (by omega)]
   have Y:BR (ι.set H.nx uI) w' H.nx (aB z (old++x.l)):=by
    refine qm4 (vs:=iO++s) (loc:=uI) (Im.aZ _ _ _) (aK.mono M _ _ (o1.append hx)) (fun v C=>by
     rcases pg.1 C with C|C
     ·exact o3 v C
     ·exact I v C) (fun j v C=>?_) (fun j F=>?_)
    ·show w'.cell? ⟨loc.blk,loc.base+i+j,none⟩=some v/\w'.frozen? ⟨loc.blk,loc.base+i+j,none⟩=false;have F:j<(iO++s).length:=by
      rcases xe j (iO++s).length with h|h
      ·exact h
      ·simp_all
     rw[ku,o2,J]at F;refine⟨?_,?_⟩
     ·rw[y];by_cases o:j<a*z
      ·rw[lu (by omega)];simp_all
      ·rw[kz (by omega)];rw[ug (by omega),o2]at C;simp_all
     ·rw[r.frozen];obtain⟨_,_,R,_⟩:=l (i+j) (by omega);rw[ui];exact R
    ·show ∃V,w'.cell? ⟨loc.blk,loc.base+i+((old++x.l).length+j),none⟩=some V/\w'.frozen? ⟨loc.blk,loc.base+i+((old++x.l).length+j),none⟩=false/\V.oneCell=true;have F:j<(f+loc.ext-(a+x.n))*z:=F;have bNj:(f+loc.ext-(a+x.n))*z=(f+loc.ext)*z-(a+x.n)*z:=Nat.sub_mul _ _ _;rw[y,r.frozen,lu (by omega),N];obtain⟨u,Q,R⟩:=l (i+((a+x.n)*z+j)) (by omega);rw[ui];simp_all
   have O:=k1.add (w':=w') D t X (lE1 _) D (dC _) uI (aB z (old++x.l)) (by rw[r.size];exact lh _)
    (fun c m o k p=>r.keep _ fun L=>by
     rw[Hp.get_put _ _ _ _ g o]at k;by_cases d:c=b
     ·subst d;simp[bO.dH]at k
     ·rw[lu d]at k;exact d (B.inj b c loc m g o q k A p L.symm).symm)
    (fun _=>by rw[r.size];exact B.low b loc g (bO.bC q) A)
    (fun c m o k p L=>by
     rw[Hp.get_put _ _ _ _ g o]at k;by_cases d:c=b
     ·subst d;simp[bO.dH]at k
     ·rw[lu d]at k;exact d (B.inj b c loc m g o q k A p L.symm).symm) Y
   refine⟨w',ι.set H.nx uI,r1,?_,O,⟨M,lE1 _,fun c k p=>?_,r.os,r.tape,r.output,by rw[r.size];exact lh _,fun c o k=>r.keep c fun L=>k b loc g q A L.symm,fun c m o k p=>?_,fun c m o k p=>?_⟩⟩
   ·simp only[aL];refine⟨lh _,uI,Im.aZ _ _ _,?_⟩;simp[uI];omega
   ·by_cases e:c=H.nx
    ·omega
    ·rw[Im.dU _ _ e]at p;exact absurd k p
   ·have E:(aN (H.put b .dead) (aB z (old++x.l))).get c=if c=H.nx then aB z (old++x.l)else(H.put b .dead).get c:=by exact Mem.get_put _ _ _ _
    by_cases e:c=H.nx
    ·subst e;rw[Im.aZ]at p;cases p;exact .inr ⟨b,loc,g,q,A,rfl⟩
    ·rw[E,lu e,Hp.get_put _ _ _ _ g o]at k;rw[Im.dU _ _ e]at p;by_cases d:c=b
     ·subst d;simp[bO.wr]at k
     ·rw[lu d]at k;exact .inr ⟨c,m,o,k,p,rfl⟩
   ·have E:(aN (H.put b .dead) (aB z (old++x.l))).get c=if c=H.nx then aB z (old++x.l)else(H.put b .dead).get c:=by exact Mem.get_put _ _ _ _
    by_cases e:c=H.nx
    ·subst e;rw[Im.aZ]at p;cases p;exact .inr ⟨b,loc,g,bO.bC q,A,rfl⟩
    ·rw[E,lu e,Hp.get_put _ _ _ _ g o]at k;rw[Im.dU _ _ e]at p;by_cases d:c=b
     ·subst d;simp[bO.dH]at k
     ·rw[lu d]at k;exact .inr ⟨c,m,o,k,p,rfl⟩
 ·cases n
theorem qor{z:Nat}{x:AV}{X:Value}(c:aL ι x X)(d:HR ι H w){s:Src}(h:qA z H x=some s):∃vs:List Value,aK ι s.l vs/\(∀v∈vs,v.oneCell=true)/\vs.length=s.n*z/\(Builtin.lenOf X).run P w=.ok s.n w /\ ∀k,k<=s.n->(Builtin.firstCells z k X).run P w=.ok (vs.take (k*z)).toArray w:=by
 unfold qA at h;split at h
 ·cases a:Nat.beq z 1 with
  |false=>rw[a]at h;cases h
  |true=>rw[a]at h;exact q9j c d h (fun _=>uD a)
 ·rename_i f;exact q9j c d h (fun⟨m,b,e⟩=>absurd e (f m b))
theorem zxl{b i a:Nat}{z:Nat}{loc:Loc}{C:Nat}(c:HR ι H w)(d:ι b=some loc){old:List AV}(h:jG (H.get b) i (a*z)=some old):∃iO,aK ι old iO/\(∀v∈iO,v.oneCell=true)/\iO.length=a*z/\(Builtin.firstCells z a (.slice (some ⟨loc.blk,loc.base+i,none⟩) a C)).run P w=.ok iO.toArray w:=by
 obtain⟨l,ov⟩:=qe4 (c.blk b (c.lt d)) h;have fin:∀ iO:List Value,iO.length=a*z->(∀(j:Nat) (v:Value),iO[j]? =some v->w.cell? ⟨loc.blk,loc.base+i+j,none⟩=some v)->(Builtin.firstCells z a (.slice (some ⟨loc.blk,loc.base+i,none⟩) a C)).run P w=.ok iO.toArray w:=fun iO g k=>by have:=run_loadCells P w loc.blk (loc.base+i) iO k;rw[g]at this;trivial
 rcases ov with ov|⟨p,iO,e,m,f,n,o⟩
 ·have:old=[]:=tq.1 (by rw[l];exact ov);subst this;exact⟨[],by simp[aK],by simp,by simpa using ov.symm,fin [] (by simpa using ov.symm) (by simp)⟩
 ·rw[d]at e;cases e;exact⟨iO,m,n,f,fin iO f o⟩
theorem zbc{t u e:TypeId}{x y:Operand}(ho:o.op=.call {callee:=.builtin .append,args:= #[x,y],argTypes:= #[t,u]})(O:P.underlying t=some (.slice e)){td:TypeDesc}(Q:P.underlying u=some td)(p:td=.string\/∃ e',td=.slice e'){m:Ap}(F:apS P e=some m)(D:HR ι H w)(h:LR ι d n L a.tmps):r9 P o a.eval ι H w (lI m.z m.w H ((aH d n x).f L) (qA m.z H ((aH d n y).f L))):=by
 have I:=dP h x;have hy:=dP h y;obtain⟨R,a2,a3,a4,zv,Y⟩:=qqg F;have q:∀ S V w',a.eval x=S->(Builtin.append_ #[t,u] o.type #[S,a.eval y]).run P w=.ok V w'->(execOp a.eval o).run P w=.ok (.value V) w':=fun S V w' G M=>by simp[execOp,ho,resolve,invoke,builtin,G,M]
 cases hs:qA m.z H ((aH d n y).f L)with
 |none=>trivial
 |some s=>
  obtain⟨oW,x1,x2,x3,T,N⟩:=qor (P:=P) hy D hs;obtain⟨bRv,U,W,K,x4',z⟩:=qor (P:=P) hy D.drew hs;have N:=N s.n (lh _);have z:=z s.n (lh _);rw[<-x3,uz]at N;rw[<-K,uz]at z;cases c:lI m.z m.w H ((aH d n x).f L) (some s)with
  |bad=>trivial
  |ok v H'=>
   unfold lI at c;simp only at c;split at c
   ·rename_i e1;rw[e1]at I;simp only[aL]at I;cases J:Nat.beq s.n 0 with
    |true=>have J:=uD J;rw[J]at c;obtain⟨rfl,rfl⟩:=c;have r:=qfg (ty:=o.type) O Q p R none 0 0 (a.eval y) T N (by omega) (w':=w) (fun _ h=>by cases h) (fun _=>rfl);rw[J]at r;exact⟨_,.slice none 0 0,w,ι,q _ _ _ I r,.inl rfl,by simp only[aL],D,Fr.refl _ _ _⟩
    |false=>
     rw[J]at c;simp only[aj]at c;have J:=qx5 J;cases g:(Nat.ble (Nat.mul s.n m.w) fO&&Nat.ble s.n fO)with
     |false=>rw[g]at c;cases c
     |true=>rw[g]at c;simp only[uC]at c;simp only[qc]at g;have g1:s.n*m.w<=1099511627776:=nP g.1;have g2:s.n<=1099511627776:=nP g.2;obtain⟨nc,Z,c2⟩:=qhk (ty:=o.type) (iO:=[]) O Q p R a2 Y none 0 0 (a.eval y) T z (by simp[Builtin.firstCells]) (by omega) (by rw[pq];exact g1) (by omega);rw[pq]at Z c2;obtain⟨X,d1,d2,d3⟩:=qxp F D (iO:=[]) (show aK ι [] []by simp[aK]) (by simp) U W (by simp[K]) c nc Z Y w.drew rfl;exact⟨_,_,_,X,q _ _ _ I c2,.inl rfl,d1,d2,d3⟩
   ·rename_i b i f l ex e1;rw[e1]at I;simp only[aL]at I;obtain⟨hlc,loc,G,M⟩:=I;cases k:Nat.ble (f+s.n) l with
    |true=>
     rw[k]at c;simp only[uC]at c;have k:=nP k;obtain⟨rfl,w',r1,r2,r3⟩:=qd2 P D G x1 x2 c;have r:=qfg (ty:=o.type) O Q p R (some ⟨loc.blk,loc.base+i,none⟩) f (if ex then l else l+loc.ext) (a.eval y) T N (by split<;>omega) (w':=w')
      (fun ad h=>by cases h;rw[addr_add,ui];exact r1) (fun h=>by cases h)
     refine⟨_,_,w',ι,q _ _ _ M r,.inl rfl,?_,r2,r3⟩;simp only[aL];exact⟨k,loc,G,rfl⟩
    |false=>
     rw[k]at c;simp only[aj]at c;have k:=z9m k;cases g:(Nat.ble (Nat.mul (f+s.n) m.w) fO&&Nat.ble (f+s.n) fO)with
     |false=>rw[g]at c;cases c
     |true=>
      rw[g]at c;simp only[uC]at c;simp only[qc]at g;have g1:(f+s.n)*m.w<=1099511627776:=nP g.1;have g2:f+s.n<=1099511627776:=nP g.2;split at c
      ·cases c
      ·rename_i old E;have A:∀ C,¬f+s.n<=C->a.eval x=.slice (some ⟨loc.blk,loc.base+i,none⟩) f C->∀(H1:Hp),HR ι H1 w->Fr ι ι H H1 w w->grow m.z H1 old s (f+s.n)=.ok v H'->r9 P o a.eval ι H w (.ok v H'):=by
        intro C hC hxC H1 hH1 hF1 hg;obtain⟨iO,o1,o2,o3,o4⟩:=zxl (P:=P) (w:=w.drew) (C:=C) D.drew G E;obtain⟨nc,Z,c2⟩:=qhk (ty:=o.type) O Q p R a2 Y (some ⟨loc.blk,loc.base+i,none⟩) f C (a.eval y) T z o4 hC g1 g2;obtain⟨X,d1,d2,d3⟩:=qxp F hH1 o1 o2 U W (by rw[o3,K,xk]) hg nc Z Y w.drew rfl;exact⟨_,_,_,X,q _ _ _ hxC c2,.inl rfl,d1,d2,hF1.trans d3⟩
       cases ex with
       |true=>exact A l k (by simpa using M) H D (Fr.refl _ _ _) c
       |false=>
        cases j:qhm (H.get b) (i+l*m.z) m.z with
        |false=>rw[j]at c;cases c
        |true=>
         rw[j]at c;simp only[uC]at c;by_cases B:f+s.n<=l+loc.ext
         ·obtain⟨w',X,q1,q2,q3,q4⟩:=zlm (P:=P) D G j E x1 x2 x3 hlc k B c;have r:=qfg (ty:=o.type) O Q p R (some ⟨loc.blk,loc.base+i,none⟩) f (l+loc.ext) (a.eval y) T N B (w':=w')
           (fun ad h=>by cases h;rw[addr_add];exact q1) (fun h=>by cases h)
          exact⟨_,_,w',X,q _ _ _ M r,.inl rfl,q2,q3,q4⟩
         ·have hwr:(H.get b).wr=true:=by
           unfold qhm at j;split at j
           ·rename_i hg;rw[hg];rfl
           ·cases j
          obtain⟨k1,k2⟩:=D.kill (D.lt G) hwr;exact A _ B M _ k1 k2 c
   ·cases c
theorem z8u{t u e:TypeId}{x y:Operand}(l:o.op=.call {callee:=.builtin .copy,args:= #[x,y],argTypes:= #[t,u]})(p:P.underlying t=some (.slice e)){z:Nat}(q:gQ P e=some z)(k:HR ι H w)(h:LR ι d n L a.tmps):r9 P o a.eval ι H w (copyV z H ((aH d n x).f L) (qA z H ((aH d n y).f L))):=by
 have f:=dP h x;have E:=dP h y;cases O:qA z H ((aH d n y).f L)with
 |none=>cases (aH d n x).f L<;>trivial
 |some s=>
  obtain⟨F,G,x2,Q,A,g⟩:=qor (P:=P) E k O;unfold copyV;split
  ·rename_i s' b i m I R B j;cases B;rw[j]at f;simp only[aL]at f;obtain⟨_,loc,J,K⟩:=f;cases C:storeAt H b i (s.l.take (Nat.mul (min s.n m) z)) (i64 (min s.n m))with
   |bad=>trivial
   |ok v H'=>obtain⟨rfl,w',r,M,N⟩:=qd2 P k J (G.take _) (fun v D=>x2 v (mf D)) C;refine⟨.value (.int .i64 ((min s.n m:Nat):Int)),_,w',ι,?_,.inl rfl,u7 _ _,M,N⟩;have g:=g (min s.n m) (eQ _ _);have r:(storeCells ⟨loc.blk,loc.base+i,none⟩ (F.take (min s.n m*z))).run P w=.ok () w':=r;simp only[execOp,l,resolve,invoke,builtin,Sem.run_bind,Sem.run_pure,Result.andThen_ok,List.map_toArray,au,lE7,Builtin.copy_,K];simp only[List.getElem?_toArray,lAU,zh,Sem.run_bind,bP p,A,mH q,Result.andThen_ok];rw[show s.n.min m=min s.n m from rfl,g];simp[r,goInt]
  ·rename_i s' B j;rw[j]at f;simp only[aL]at f;refine⟨.value (.int .i64 0),_,w,ι,?_,.inl rfl,u7 _ _,k,Fr.refl _ _ _⟩;have g:=g 0 (gy _);simp only[execOp,l,resolve,invoke,builtin,Sem.run_bind,Sem.run_pure,Result.andThen_ok,List.map_toArray,au,lE7,Builtin.copy_,f];simp only[List.getElem?_toArray,lAU,zh,Sem.run_bind,bP p,A,mH q,Result.andThen_ok];rw[show s.n.min 0=0 from Nat.min_zero _,g];rfl
  ·rename_i s' B j;rw[j]at f;simp only[aL]at f;obtain⟨S,c,f⟩:=f;refine⟨.value (.int .i64 0),_,w,ι,?_,.inl rfl,u7 _ _,k,Fr.refl _ _ _⟩;have g:=g 0 (gy _);simp only[execOp,l,resolve,invoke,builtin,Sem.run_bind,Sem.run_pure,Result.andThen_ok,List.map_toArray,au,lE7,Builtin.copy_,f];simp only[List.getElem?_toArray,lAU,zh,Sem.run_bind,bP p,A,mH q,Result.andThen_ok];rw[show s.n.min 0=0 from Nat.min_zero _,g];simp[goInt,storeCells]
  ·trivial
/- maps -/
theorem qdq{b:Nat}{k:List mD}{d:Nat}{loc:Loc}(i:HR ι H w)(h:ι b=some loc)(l:H.get b=.map k d)(e:List mD)(a:Nat){ES':List MapEntry}(m:bV ι e ES'):HR ι (H.put b (.map e a)) {w with heap:=w.heap.setIfInBounds loc.blk (.map ES'.toArray a)}/\Fr ι ι H (H.put b (.map e a)) w {w with heap:=w.heap.setIfInBounds loc.blk (.map ES'.toArray a)}:=by
 have f:=i.lt h;have g:(H.get b).wr=true:=by rw[l];rfl
 have j:=i.low b loc f (bO.bC g) h;refine i.put f g h _ rfl rfl rfl (by simp) (fun c n=>?_) ⟨loc,ES',h,?_,m⟩
 ·show(w.heap.setIfInBounds loc.blk _)[c]? =_;rw[Array.getElem?_setIfInBounds_ne (Ne.symm n)]
 ·simp_all
theorem bV.set:∀{b:List mD} {a:List MapEntry},bV ι b a->∀(i:Nat) (x:mD) (e:MapEntry),aL ι x.key e.key->aL ι x.val e.val->e.born=x.born->bV ι (b.set i x) (a.set i e)
 | [],a,h,i,x,e,_,_,_=>by simp only[bV]at h;subst h;simp[bV]
 |y::b,a,h,i,x,e,h1,h2,h3=>by
  obtain⟨d,r,rfl,f,g,j,c⟩:=h;cases i with
  |zero=>simp only[List.set_cons_zero,bV];exact⟨e,r,rfl,h1,h2,h3,c⟩
  |succ i=>simp only[lAX,bV];exact⟨d,r.set i e,rfl,f,g,j,bV.set c i x e h1 h2 h3⟩
theorem bV.snoc:∀{b:List mD} {a:List MapEntry},bV ι b a->∀(x:mD) (e:MapEntry),aL ι x.key e.key->aL ι x.val e.val->e.born=x.born->bV ι (b++[x]) (a++[e])
 | [],a,h,x,e,h1,h2,h3=>by simp only[bV]at h;subst h;simp only[og,bV];exact⟨e,[],rfl,h1,h2,h3,rfl⟩
 |y::b,a,h,x,e,h1,h2,h3=>by obtain⟨c,r,rfl,d,f,g,i⟩:=h;simp only[lAQ,bV];exact⟨c,r++[e],rfl,d,f,g,bV.snoc i x e h1 h2 h3⟩
theorem bV.erase:∀{b:List mD} {a:List MapEntry},bV ι b a->∀(i:Nat),bV ι (b.eraseIdx i) (a.eraseIdx i)
 | [],a,h,i=>by simp only[bV]at h;subst h;simp[bV]
 |y::b,a,h,i=>by
  obtain⟨d,r,rfl,e,f,g,c⟩:=h;cases i with
  |zero=>simpa using c
  |succ i=>simp only[List.eraseIdx_cons_succ,bV];exact⟨d,r.eraseIdx i,rfl,e,f,g,bV.erase c i⟩
/- keys that are the same -/
theorem q9o{x y:AV}(h:zss x y=true){X Y:Value}(a:aL ι x X)(b:aL ι y Y):X=Y/\∀ k,Instr.sameBits k X X=true:=by
 unfold zss at h;split at h
 ·simp only[qc]at h;have:=zue h.1;subst this;have c:=h.2;rw[qfa]at c;simp only[aL]at a b;subst a b;obtain rfl:=eq_of_beq c;exact⟨rfl,fun k=>by cases k<;>simp[Instr.sameBits]⟩
 ·simp only[aL]at a b;obtain⟨s,rfl,d⟩:=a;obtain⟨u,rfl,c⟩:=b;rw[d.eq c]at h;have e:s=u:=by
   have:s.data.toList=u.data.toList:=by simpa using h
   cases s;cases u;simp at this;rw[this]
  subst e;exact⟨rfl,fun k=>by cases k<;>simp[Instr.sameBits,beq_toListBytes]⟩
 ·simp only[aL]at a b;subst a b;obtain rfl:=eq_of_beq h;exact⟨rfl,fun k=>by cases k<;>simp[Instr.sameBits]⟩
 ·cases h
theorem q9n:∀{l m:List AV} {vs a:List Value},zcf l m=true->aK ι l vs->aK ι m a->vs=a/\∀ k,(vs.zip vs).all (fun(x,y)=>Instr.sameBits k x y)=true
 | [],[],vs,a,_,h1,h2=>by simp only[aK]at h1 h2;subst h1 h2;exact⟨rfl,fun _=>rfl⟩
 | [],_::_,vs,a,h,_,_=>by simp[zcf]at h
 |_::_,[],vs,a,h,_,_=>by simp[zcf]at h
 |x::l,y::m,vs,a,h,h1,h2=>by obtain⟨v,r,rfl,b,c⟩:=h1;obtain⟨u,f,rfl,d,e⟩:=h2;simp only[zcf,qc]at h;obtain⟨g,i⟩:=q9o h.1 b d;obtain⟨d1,j⟩:=q9n h.2 c e;simp_all
theorem qsv{x y:AV}(h:sameKey x y=true){X Y:Value}(a:aL ι x X)(b:aL ι y Y):Instr.sameBits 10000 X Y=true:=by
 unfold sameKey at h;split at h
 ·obtain⟨vs,d,rfl,_⟩:=qee a;obtain⟨f,e,rfl,_⟩:=qee b;obtain⟨rfl,c⟩:=q9n h d e;simp only[Instr.sameBits,qc];simp_all
 ·obtain⟨rfl,c⟩:=q9o h a b;exact c 10000
theorem qk0(a:List MapEntry)(i:Nat)(E:MapEntry)(h:a[i]? =some E)(f:MapEntry->MapEntry):a.modify i f=a.set i (f E):=by
 apply lE3;intro j;rw[List.getElem?_modify,lAK];by_cases e:i=j
 ·subst e;have b:=(ql.1 h).1;simp only[oh,b];rw[h];rfl
 ·simp[e]
theorem z8s{t I W:TypeId}{x y z:Operand}(l:o.op=.mapUpdate t x y z\/o.op=.insert t x y z)(J:P.underlying t=some (.map I W)){K:Ky}(i:rU P I=some K)(m:HR ι H w)(h:LR ι d n L a.tmps):r9 P o a.eval ι H w (qW K H ((aH d n x).f L) ((aH d n y).f L) ((aH d n z).f L)):=by
 have s:=dP h x;have j:=dP h y;have M:=dP h z;have g:(execOp a.eval o).run P w=((Instr.mapUpdate t (a.eval x) (a.eval y) (a.eval z)).run P w).andThen fun _ w=>.ok .skip w:=by rcases l with l|l<;>simp[execOp,l]
 unfold qW;split
 ·rename_i b X;rw[X]at s;simp only[aL]at s;obtain⟨loc,p,O⟩:=s;have N:=m.blk b (m.lt p);split
  ·rename_i Q c v;rw[v]at N;obtain⟨l',Y,S,T,q⟩:=N;rw[p]at S;cases S;split
   ·rename_i f A;obtain⟨B,R,C,r⟩:=qfn i j q A;obtain⟨V,E,rfl,d1,U,Z,d4,d5,d6⟩:=r;cases G:sameKey f.x.key ((aH d n y).f L)with
    |false=>trivial
    |true=>have u:=qsv G Z j;obtain⟨D,F⟩:=qdq m p v (Q.set f.i ⟨(aH d n y).f L,(aH d n z).f L,f.x.born⟩) c (q.set f.i _ ⟨a.eval y,a.eval z,E.born⟩ j M d6);refine⟨.skip,Go.undef,_,ι,?_,.inr ⟨rfl,rfl⟩,by simp[aL,Go.undef],D,F⟩;rw[g,O];have k:=qk0 Y f.i E U (fun e=>{e with key:=a.eval y,val:=a.eval z});simp[Instr.mapUpdate,bP J,getObj,setObj,Sem.run,T,B,C,U,Instr.keyThatStays,u,k]
   ·rename_i A;obtain⟨B,R,C,r⟩:=qfn i j q A;simp only[q7p]at r;subst r;obtain⟨D,F⟩:=qdq m p v (Q++[⟨(aH d n y).f L,(aH d n z).f L,c⟩]) (c+1) (q.snoc _ ⟨a.eval y,a.eval z,c⟩ j M rfl);refine⟨.skip,Go.undef,_,ι,?_,.inr ⟨rfl,rfl⟩,by simp[aL,Go.undef],D,F⟩;rw[g,O];simp[Instr.mapUpdate,bP J,getObj,setObj,Sem.run,T,B,C]
   ·trivial
  ·trivial
 ·trivial
theorem z3f{t y z:TypeId}{x:Operand}(r:o.op=.range t x)(s:P.underlying t=some (.map y z))(i:HR ι H w)(h:LR ι d n L a.tmps):r9 P o a.eval ι H w (zk7 H ((aH d n x).f L)):=by
 have g:=dP h x;unfold zk7;split
 ·rename_i m;rw[m]at g;simp only[aL]at g;obtain⟨p,q⟩:=i.push (w':=w.alloc (.mapIter none 0 #[] 0)) oI ⟨w.heap.size,0,0,0⟩ (.fQ 0 0 0) rfl rfl rfl (by simp) (fun c k=>Below.heap_alloc w _ c k) rfl ⟨_,none,Im.aZ _ _ _,rfl,by show(w.heap.push _)[w.heap.size]? =_;simp,rfl⟩;refine⟨.value (.pointer (some ⟨w.heap.size,0,none⟩)),_,_,_,?_,.inl rfl,?_,p,q⟩
  ·simp[execOp,r,g,Instr.range,bP s]
  ·simp only[aL];exact⟨_,Im.aZ _ _ _,rfl⟩
 ·rename_i b m;rw[m]at g;simp only[aL]at g;obtain⟨loc,j,A⟩:=g;have u:=i.blk b (i.lt j);split
  ·rename_i D f B;rw[B]at u;obtain⟨E,F,v,C,G⟩:=u;rw[j]at v;cases v;have l:b≠H.nx:=fun e=>by rw[e,i.fresh _ (lh _)]at j;cases j
   obtain⟨p,q⟩:=i.push (w':=w.alloc (.mapIter (some loc.blk) f #[] f)) oI ⟨w.heap.size,0,0,0⟩ (.fQ (Nat.succ b) f 0) rfl rfl rfl (by simp) (fun c k=>Below.heap_alloc w _ c k) rfl ⟨_,some loc.blk,Im.aZ _ _ _,rfl,by show(w.heap.push _)[w.heap.size]? =_;simp,loc,by rw[Im.dU _ _ l];exact j,rfl⟩;refine⟨.value (.pointer (some ⟨w.heap.size,0,none⟩)),_,_,_,?_,.inl rfl,?_,p,q⟩
   ·simp[execOp,r,A,Instr.range,bP s,Sem.run,getObj,C]
   ·simp only[aL];exact⟨_,Im.aZ _ _ _,rfl⟩
  ·trivial
 ·trivial
theorem z8t{x:Operand}(u:o.op=.next x false)(g:HR ι H w)(h:LR ι d n L a.tmps):r9 P o a.eval ι H w (z2e H ((aH d n x).f L)):=by
 have A:=dP h x;unfold z2e;split
 ·rename_i b B V;rw[V]at A;simp only[aL]at A;obtain⟨loc,k,t⟩:=A;have M:=g.blk b (g.lt k);cases J:Nat.beq B 0 with
  |false=>trivial
  |true=>
   obtain rfl:=qp J;split
   ·rename_i m l C O;rw[O]at M;obtain⟨l',r,Q,g0,y,R⟩:=M;rw[k]at Q;cases Q;rw[g0,yw]at t;cases m with
    |zero=>
     subst R;refine⟨.value (.tuple #[.bool false]),_,_,ι,?_,.inl rfl,?_,g,Fr.refl _ _ _⟩
     ·simp[execOp,u,t,Instr.next,getObj,Sem.run,y]
     ·simp only[aL,aK];exact⟨_,⟨_,_,rfl,rfl,rfl⟩,rfl⟩
    |succ m=>
     obtain⟨D,F,rfl⟩:=R;have N:=g.blk m (g.lt F);simp only;split
     ·rename_i es f G;rw[G]at N;obtain⟨l2,ES,S,I,z⟩:=N;rw[F]at S;cases S;cases K:Nat.beq f l with
      |false=>trivial
      |true=>
       obtain rfl:=qp K;unfold z7a;split
       ·simp only[bV]at z;subst z;refine⟨.value (.tuple #[.bool false]),_,_,ι,?_,.inl rfl,?_,g,Fr.refl _ _ _⟩
        ·simp[execOp,u,t,Instr.next,getObj,Sem.run,y,I,choose,Question.forced]
        ·simp only[aL,aK];exact⟨_,⟨_,_,rfl,rfl,rfl⟩,rfl⟩
       ·rename_i e;simp only[bV]at z;obtain⟨E,_,rfl,W,X,T,rfl⟩:=z;cases i:Nat.blt e.born f with
        |false=>trivial
        |true=>
         have i:=nP i;rw[<-T]at i;simp only[uC];cases C with
         |zero=>
          have q:(H.get b).wr=true:=by rw[O];rfl
          have s:=g.low b loc (g.lt k) (bO.bC q) k;obtain⟨Y,Z⟩:=g.put (w':={w with heap:=w.heap.setIfInBounds loc.blk (.mapIter (some D.blk) f #[E.born] f)}) (g.lt k) q k (.fQ (Nat.succ m) f (Nat.succ e.born)) rfl rfl rfl (by simp) (fun c U=>by
           rw[Array.getElem?_setIfInBounds_ne (Ne.symm U)]) ⟨loc,some D.blk,k,g0,by
           rw[Array.getElem?_setIfInBounds_self_of_lt s,T],D,F,rfl⟩
          refine⟨.value (.tuple #[.bool true,E.key,E.val]),_,_,ι,?_,.inl rfl,?_,Y,Z⟩
          ·have j:¬ f<=E.born:=by omega
           simp[execOp,u,t,Instr.next,getObj,setObj,Sem.run,y,I,choose,Question.forced,j,show E.born<f from i]
          ·simp only[aL,aK];exact⟨_,⟨_,_,rfl,rfl,_,_,rfl,W,_,_,rfl,X,rfl⟩,rfl⟩
         |succ p=>
          cases v:Nat.beq (p+1) (Nat.succ e.born)with
          |false=>trivial
          |true=>
           have v:p+1=e.born+1:=qp v;have v:p=E.born:=by omega
           subst v;refine⟨.value (.tuple #[.bool false]),_,_,ι,?_,.inl rfl,?_,g,Fr.refl _ _ _⟩
           ·have j:¬ f<=E.born:=by omega
            simp[execOp,u,t,Instr.next,getObj,Sem.run,y,I,choose,Question.forced,j]
           ·simp only[aL,aK];exact⟨_,⟨_,_,rfl,rfl,rfl⟩,rfl⟩
       ·trivial
     ·trivial
   ·trivial
 ·trivial
theorem z3g{t F G:TypeId}{x y:Operand}(I:o.op=.mapEntry t x y)(J:P.underlying t=some (.map F G)){K:Ky}(g:rU P F=some K){z:Value}(U:(P.info? G).bind (·.zero)=some z)(k:HR ι H w)(h:LR ι d n L a.tmps):r9 P o a.eval ι H w (zm8 K (qxc z) H ((aH d n x).f L) ((aH d n y).f L)):=by
 have q:=dP h x;have i:=dP h y;unfold zm8;split
 ·rename_i b W;rw[W]at q;simp only[aL]at q;obtain⟨loc,l,N⟩:=q;have M:=k.blk b (k.lt l);split
  ·rename_i O c s;rw[s]at M;obtain⟨l',X,Q,S,m⟩:=M;rw[l]at Q;cases Q;split
   ·rename_i f u;obtain⟨v,R,A,p⟩:=qfn g i m u;obtain⟨V,E,rfl,d1,T,Y,Z,d5,d6⟩:=p;cases D:sameKey f.x.key ((aH d n y).f L)with
    |false=>trivial
    |true=>
     have r:=qsv D Y i;obtain⟨B,C⟩:=qdq k l s (O.set f.i ⟨(aH d n y).f L,f.x.val,f.x.born⟩) c (m.set f.i _ ⟨a.eval y,E.val,E.born⟩ i (by rw[d5];exact Z) d6);refine⟨.value (.tuple #[V,.int .i64 (E.born:Int)]),_,_,ι,?_,.inl rfl,?_,B,C⟩
     ·have j:=qk0 X f.i E T (fun e=>{e with key:=a.eval y});simp[execOp,I,N,Instr.mapEntry,bP J,getObj,setObj,Sem.run,S,v,A,T,Instr.keyThatStays,r,j,goInt]
     ·simp only[aL,aK];simp_all
   ·rename_i u;obtain⟨v,R,A,p⟩:=qfn g i m u;simp only[q7p]at p;subst p;obtain⟨B,C⟩:=qdq k l s (O++[⟨(aH d n y).f L,qxc z,c⟩]) (c+1) (m.snoc _ ⟨a.eval y,z,c⟩ i (qf6 z) rfl);refine⟨.value (.tuple #[z,.int .i64 (c:Int)]),_,_,ι,?_,.inl rfl,?_,B,C⟩
    ·simp[execOp,I,N,Instr.mapEntry,bP J,getObj,setObj,Sem.run,S,v,A,qde U,goInt]
    ·simp only[aL,aK];exact⟨[z,.int .i64 (c:Int)],⟨z,_,rfl,qf6 z,_,_,rfl,rfl,rfl⟩,rfl⟩
   ·trivial
  ·trivial
 ·trivial
theorem qzc{k:Nat}:∀(c:List mD) (d:List MapEntry) (i:Nat) (a:Hit),bV ι c d->zkj k c i=some a -> ∃E j,a.i=i+j/\d[j]? =some E/\d.findIdx? (fun e=>(e.born:Int)==(k:Int))=some j/\aL ι a.x.key E.key/\E.born=a.x.born
 | [],d,i,a,hE,b=>by trivial
 |x::c,d,i,a,hE,b=>by
  obtain⟨e,r,rfl,m,t,g,n⟩:=hE;have b:(bif Nat.beq x.born k then some ⟨i,x⟩else zkj k c (i+1))=some a:=b;cases f:Nat.beq x.born k with
  |true=>rw[f]at b;simp only[uC,qh]at b;subst b;have:=uD f;exact⟨e,0,rfl,rfl,by simp[List.findIdx?_cons,g,this],m,g⟩
  |false=>
   rw[f]at b;simp only[aj]at b;have h:=qx5 f;obtain⟨E,j,u,o,p,q,s⟩:=qzc c r (i+1) a n b;refine⟨E,j+1,by omega,by simpa using o,?_,q,s⟩;have l:(((e.born:Int))==(k:Int))=false:=by rw[g];simp;omega
   rw[List.findIdx?_cons,l,p];rfl
theorem znh{t:TypeId}{x y z:Operand}(B:o.op=.entryStore t x y z)(i:HR ι H w)(h:LR ι d n L a.tmps):r9 P o a.eval ι H w (qxu H ((aH d n x).f L) ((aH d n y).f L) ((aH d n z).f L)):=by
 have k:=dP h x;have l:=dP h y;have C:=dP h z;unfold qxu;split
 ·rename_i b T m D F;rw[D]at k;rw[F]at l;simp only[aL]at k l;obtain⟨loc,p,G⟩:=k;have q:=i.blk b (i.lt p);split
  ·rename_i r f s;rw[s]at q;obtain⟨U,u,v,I,A⟩:=q;rw[p]at v;cases v;split
   ·rename_i c J;obtain⟨E,j,K,M,N,O,Q⟩:=qzc r u 0 c A J;obtain⟨R,S⟩:=qdq i p s (r.set c.i ⟨c.x.key,(aH d n z).f L,c.x.born⟩) f (A.set c.i _ ⟨E.key,a.eval z,E.born⟩ O C Q);refine⟨.skip,Go.undef,_,ι,?_,.inr ⟨rfl,rfl⟩,by simp[aL,Go.undef],R,S⟩;have g:=qk0 u j E M (fun e=>{e with val:=a.eval z});simp[execOp,B,G,l,Instr.entryStore,getObj,setObj,Sem.run,I,asInt,asIntOf,N,g,K]
   ·trivial
  ·trivial
 ·trivial
theorem aLj{t z M:TypeId}{x y:Operand}{ts:Array TypeId}(A:o.op=.call {callee:=.builtin .delete,args:= #[x,y],argTypes:=ts})(e:ts[0]? =some t)(B:P.underlying t=some (.map z M)){C:Ky}(f:rU P z=some C)(i:HR ι H w)(h:LR ι d n L a.tmps):r9 P o a.eval ι H w (aGp C H ((aH d n x).f L) ((aH d n y).f L)):=by
 have m:=dP h x;have D:=dP h y;unfold aGp;split
 ·rename_i b O;rw[O]at m;simp only[aL]at m;obtain⟨loc,j,G⟩:=m;have F:=i.blk b (i.lt j);split
  ·rename_i I c p;rw[p]at F;obtain⟨S,T,J,K,k⟩:=F;rw[j]at J;cases J;split
   ·rename_i g q;obtain⟨r,R,s,l⟩:=qfn f D k q;obtain⟨V,E,rfl,d1,Q,U,W,X,Y⟩:=l;obtain⟨u,v⟩:=qdq i j p (I.eraseIdx g.i) c (k.erase g.i);refine⟨.value (.tuple #[]),_,_,ι,?_,.inl rfl,by simp[aL],u,v⟩;have N:=(ql.1 Q).1;simp[execOp,A,resolve,invoke,builtin,Builtin.delete_,G,e,bP B,getObj,setObj,Sem.run,K,r,s]
   ·rename_i q;obtain⟨r,R,s,l⟩:=qfn f D k q;simp only[q7p]at l;subst l;obtain⟨u,v⟩:=qdq i j p I c k;refine⟨.value (.tuple #[]),_,_,ι,?_,.inl rfl,by simp[aL],u,v⟩;simp[execOp,A,resolve,invoke,builtin,Builtin.delete_,G,e,bP B,getObj,setObj,Sem.run,K,r,s]
   ·trivial
  ·trivial
 ·trivial
theorem qfz(a:Value)(k:Nat):Builtin.zeroCells a.cells k=(gN a.cells.toList k).toArray:=by have:=range_zero a.cells k a.cells.size rfl;trivial
theorem zui{t k e:TypeId}{x:Operand}(l:o.op=.call {callee:=.builtin .clear,args:= #[x],argTypes:= #[t]})(m:P.underlying t=some (.map k e))(g:HR ι H w)(h:LR ι d n L a.tmps):r9 P o a.eval ι H w (zn0 H ((aH d n x).f L)):=by
 have f:=dP h x;unfold zn0;split
 ·rename_i i;rw[i]at f;simp only[aL]at f;refine⟨.value (.tuple #[]),_,w,ι,?_,.inl rfl,by simp[aL],g,Fr.refl _ _ _⟩;simp[execOp,l,resolve,invoke,builtin,Builtin.clear_,f,bP m]
 ·rename_i b i;rw[i]at f;simp only[aL]at f;obtain⟨loc,j,s⟩:=f;have p:=g.blk b (g.lt j);split
  ·rename_i z c q;rw[q]at p;obtain⟨A,B,r,u,C⟩:=p;rw[j]at r;cases r;obtain⟨v,y⟩:=qdq g j q [] c (ES':=[]) (by simp[bV]);refine⟨.value (.tuple #[]),_,_,ι,?_,.inl rfl,by simp[aL],v,y⟩;simp[execOp,l,resolve,invoke,builtin,Builtin.clear_,s,bP m,getObj,setObj,Sem.run,u]
  ·trivial
 ·trivial
theorem zni{t e:TypeId}{x:Operand}(g:o.op=.call {callee:=.builtin .clear,args:= #[x],argTypes:= #[t]})(j:P.underlying t=some (.slice e)){k:Ap}(l:apS P e=some k)(p:HR ι H w)(h:LR ι d n L a.tmps):r9 P o a.eval ι H w (qif k.zl H ((aH d n x).f L)):=by
 have c:=dP h x;obtain⟨J,K,z,M,_⟩:=qqg l;obtain⟨N,A,B,C⟩:=qcv (ι:=ι) z;unfold qif;split
 ·rename_i q;rw[q]at c;simp only[aL]at c;refine⟨.value (.tuple #[]),_,w,ι,?_,.inl rfl,by simp[aL],p,Fr.refl _ _ _⟩;simp[execOp,g,resolve,invoke,builtin,Builtin.clear_,c,bP j]
 ·rename_i b i m D O q;rw[q]at c;simp only[aL]at c;obtain⟨_,loc,E,u⟩:=c;cases f:Nat.beq m 0 with
  |true=>have f:=uD f;subst f;refine⟨.value (.tuple #[]),_,w,ι,?_,.inl rfl,by simp[aL],p,Fr.refl _ _ _⟩;simp[execOp,g,resolve,invoke,builtin,Builtin.clear_,u,bP j]
  |false=>
   have f:=qx5 f;cases r:storeAt H b i (bB k.zl m) .undef with
   |bad=>trivial
   |ok v H'=>obtain⟨rfl,w',F,G,I⟩:=qd2 P p E (qja B m) (fun v y=>C v (qgs y)) r;refine⟨.value (.tuple #[]),_,w',ι,?_,.inl rfl,by simp[aL],G,I⟩;obtain⟨s,rfl⟩:∃ s,m=s+1:=⟨m-1,by omega⟩;simp[execOp,g,resolve,invoke,builtin,Builtin.clear_,u,bP j,qde A,qfz,F]
 ·trivial
theorem qh7{t u e ty:TypeId}(p:P.underlying t=some (.slice e)){A:IntKind}(q:P.underlying u=some (.int A)){z b:Nat}(r:gQ P e=some z)(B:qjp P e=some b){k:Value}(l:(P.info? e).bind (·.zero)=some k){y:List AV}(s:aK ι y k.cells.toList)(D:y.length=z)(base:Option Addr)(d C:Nat){k2:IntKind}{m:Nat}(G:m<=1099511627776)(E:m*b<=1099511627776)(f:d+m<=C){w':World}(a:∀ j,base=some j->(storeCells (j.add (d*z)) (gN k.cells.toList m)).run P w=.ok () w')(n:base=none->w'=w):(Builtin.append_ #[t,u] ty #[.slice base d C,.int k2 (m:Int)]).run P w=.ok (.slice base (d+m) C) w':=by
 obtain⟨ti,h,x⟩:=qw7 (P:=P) B;have w1:IntKind.i64.wrap (m:Int)=m:=IntWalk.i64_in _ (by omega);have g:¬((m:Int)<0):=by omega
 have c:¬(281474976710656<(m:Int)*(ti.bytes:Int)):=by rw[x];omega
 have v:k.cells.size=z:=by have:=s.length;simp at this;omega
 have o:m*z=0->gN k.cells.toList m=[]:=fun i=>tq.1 (by rw[qcf];simp[v,i]);by_cases i:m*z=0
 ·have F:=o i;cases base with
  |none=>rw[n rfl];simp[Builtin.append_,bP p,bP q,mH r,asInt,asIntOf,w1,g,h,c,i,f]
  |some j=>have a:=a j rfl;rw[F]at a;simp[Builtin.append_,bP p,bP q,mH r,asInt,asIntOf,w1,g,h,c,i,f,a]
 ·cases base with
  |none=>rw[n rfl];simp[Builtin.append_,bP p,bP q,mH r,asInt,asIntOf,w1,g,h,c,f,qde l]
  |some j=>have a:=a j rfl;simp[Builtin.append_,bP p,bP q,mH r,asInt,asIntOf,w1,g,h,c,i,f,qde l,qfz,a]
set_option maxHeartbeats 1000000 in
theorem qlk{t u e ty:TypeId}(x:P.underlying t=some (.slice e)){H:IntKind}(y:P.underlying u=some (.int H)){z b:Nat}(A:gQ P e=some z)(I:qjp P e=some b){f:Value}(g:(P.info? e).bind (·.zero)=some f){B:List AV}(q:aK ι B f.cells.toList)(J:B.length=z)(base:Option Addr)(a C:Nat){k2:IntKind}{m:Nat}{iO:List Value}(D:m<=1099511627776)(K:m*b<=1099511627776)(h:(Builtin.firstCells z a (.slice base a C)).run P w.drew=.ok iO.toArray w.drew)(i:¬ a+m<=C)(E:(a+m)*b<=1099511627776)(r:a+m<=1099511627776):∃c,a+m<=c/\(Builtin.append_ #[t,u] ty #[.slice base a C,.int k2 (m:Int)]).run P w=.ok (.slice (some ⟨w.heap.size,0,none⟩) (a+m) c) (w.drew.alloc (.cells (iO.toArray++(gN f.cells.toList m).toArray++Builtin.zeroCells f.cells (c-(a+m))) e)):=by
 obtain⟨ti,o,p⟩:=qw7 (P:=P) I;have w1:IntKind.i64.wrap (m:Int)=m:=IntWalk.i64_in _ (by omega);have k:¬((m:Int)<0):=by omega
 have l:¬(281474976710656<(m:Int)*(ti.bytes:Int)):=by
  rw[p];have:((m*b:Nat):Int)<=281474976710656:=by omega
  have e:((m*b:Nat):Int)=(m:Int)*(b:Int):=by simp
  omega
 have s:f.cells.size=z:=by have:=q.length;simp at this;omega
 have n:m*z=0->gN f.cells.toList m=[]:=fun j=>tq.1 (by rw[qcf];simp[s,j]);have v:=qs8 (need:=a+m) (old:=C) (by omega);have F:¬(2 ^ 48<Builtin.nextslicecap (a+m) C*ti.bytes):=by have D:Builtin.nextslicecap (a+m) C*ti.bytes<=3*(a+m)*ti.bytes:=um _ v;rw[p]at D ⊢;have:3*(a+m)*b=3*((a+m)*b):=Nat.mul_assoc _ _ _;omega
 refine⟨(Question.appendCap (a+m) C e).cut (w.tape w.drawn (.appendCap (a+m) C e)),by simp only[Question.cut];omega,?_⟩;generalize d:(Question.appendCap (a+m) C e).cut (w.tape w.drawn (.appendCap (a+m) C e))=cap;by_cases j:m*z=0
 ·rw[n j];simp[Builtin.append_,bP x,bP y,mH A,asInt,asIntOf,w1,k,o,l,i,F,Question.forced,d,h,j,qde g,newRow];intro G;omega
 ·simp[Builtin.append_,bP x,bP y,mH A,asInt,asIntOf,w1,k,o,l,i,F,Question.forced,d,h,j,qde g,newRow];rw[lu (by omega),qfz f m,<-Array.append_assoc];simp
theorem z8v{t u e:TypeId}{x y:Operand}(ho:o.op=.call {callee:=.builtin .append,args:= #[x,y],argTypes:= #[t,u]})(T:P.underlying t=some (.slice e)){kk:IntKind}(U:P.underlying u=some (.int kk)){g:Ap}(G:apS P e=some g)(D:HR ι H w)(h:LR ι d n L a.tmps):r9 P o a.eval ι H w (lI g.z g.w H ((aH d n x).f L) (qt2 g.w g.zl ((aH d n y).f L))):=by
 have K:=dP h x;have W:=dP h y;obtain⟨Y,Z,a3,R,_⟩:=qqg G;obtain⟨zv,M,N,z3⟩:=qcv (ι:=ι) a3;cases F:qt2 g.w g.zl ((aH d n y).f L)with
 |none=>trivial
 |some s=>
  unfold qt2 at F;split at F
  ·rename_i k2 m e2;rw[e2]at W;simp only[aL]at W;cases A:(Nat.ble m fO&&Nat.ble (Nat.mul m g.w) fO)with
   |false=>rw[A]at F;cases F
   |true=>
    rw[A]at F;simp only[uC,qh]at F;subst F;simp only[qc]at A;have X:m<=1099511627776:=nP A.1;have O:m*g.w<=1099511627776:=nP A.2;have W:a.eval y=.int k2 (m:Int):=W;have q:∀ S V w',a.eval x=S->(Builtin.append_ #[t,u] o.type #[S,.int k2 (m:Int)]).run P w=.ok V w'->(execOp a.eval o).run P w=.ok (.value V) w':=fun S V w' I J=>by simp[execOp,ho,resolve,invoke,builtin,I,W,J]
    have x1:=qja N m;have x2:∀ v∈gN zv.cells.toList m,v.oneCell=true:=fun v c=>z3 v (qgs c);have x3:(gN zv.cells.toList m).length=m*g.z:=by rw[qcf,N.length,R]
    cases c:lI g.z g.w H ((aH d n x).f L) (some ⟨m,bB g.zl m⟩)with
    |bad=>trivial
    |ok v H'=>
     unfold lI at c;simp only at c;split at c
     ·rename_i e1;rw[e1]at K;simp only[aL]at K;cases Q:Nat.beq m 0 with
      |true=>have Q:=uD Q;subst Q;simp only[show Nat.beq 0 0=true from rfl,uC,R1.ok.injEq]at c;obtain⟨rfl,rfl⟩:=c;have r:=qh7 (P:=P) (ty:=o.type) (k2:=k2) T U Y Z M N R none 0 0 X O (by omega) (w':=w) (fun _ h=>by cases h) (fun _=>rfl);exact⟨_,.slice none 0 0,w,ι,q _ _ _ K r,.inl rfl,by simp only[aL],D,Fr.refl _ _ _⟩
      |false=>
       rw[Q]at c;simp only[aj]at c;have Q:=qx5 Q;cases l:(Nat.ble (Nat.mul m g.w) fO&&Nat.ble m fO)with
       |false=>rw[l]at c;cases c
       |true=>rw[l]at c;simp only[uC]at c;obtain⟨nc,c1,c2⟩:=qlk (P:=P) (w:=w) (ty:=o.type) (k2:=k2) (iO:=[]) T U Y Z M N R none 0 0 X O (by simp[Builtin.firstCells]) (by omega) (by rw[pq];exact O) (by omega);rw[pq]at c1 c2;obtain⟨ι',d1,d2,d3⟩:=qxp G D (iO:=[]) (show aK ι [] []by simp[aK]) (by simp) x1 x2 (by simp[x3]) c nc c1 M w.drew rfl;exact⟨_,_,_,ι',q _ _ _ K c2,.inl rfl,d1,d2,d3⟩
     ·rename_i b i f p ex e1;rw[e1]at K;simp only[aL]at K;obtain⟨hlc,loc,I,J⟩:=K;cases k:Nat.ble (f+m) p with
      |true=>
       rw[k]at c;simp only[uC]at c;have k:=nP k;obtain⟨rfl,w',r1,r2,r3⟩:=qd2 P D I x1 x2 c;have r:=qh7 (P:=P) (ty:=o.type) (k2:=k2) T U Y Z M N R (some ⟨loc.blk,loc.base+i,none⟩) f (if ex then p else p+loc.ext) X O (by split<;>omega) (w':=w')
        (fun ad h=>by cases h;rw[addr_add,ui];exact r1) (fun h=>by cases h)
       refine⟨_,_,w',ι,q _ _ _ J r,.inl rfl,?_,r2,r3⟩;simp only[aL];exact⟨k,loc,I,rfl⟩
      |false=>
       rw[k]at c;simp only[aj]at c;have k:=z9m k;cases l:(Nat.ble (Nat.mul (f+m) g.w) fO&&Nat.ble (f+m) fO)with
       |false=>rw[l]at c;cases c
       |true=>
        rw[l]at c;simp only[uC]at c;simp only[qc]at l;have g1:(f+m)*g.w<=1099511627776:=nP l.1;have g2:f+m<=1099511627776:=nP l.2;split at c
        ·cases c
        ·rename_i old E;have z:∀ C,¬f+m<=C->a.eval x=.slice (some ⟨loc.blk,loc.base+i,none⟩) f C->∀(H1:Hp),HR ι H1 w->Fr ι ι H H1 w w->grow g.z H1 old ⟨m,bB g.zl m⟩ (f+m)=.ok v H'->r9 P o a.eval ι H w (.ok v H'):=by
          intro C hC hxC H1 hH1 hF1 hg;obtain⟨iO,o1,o2,o3,o4⟩:=zxl (P:=P) (w:=w.drew) (C:=C) D.drew I E;obtain⟨nc,c1,c2⟩:=qlk (P:=P) (w:=w) (ty:=o.type) (k2:=k2) T U Y Z M N R (some ⟨loc.blk,loc.base+i,none⟩) f C X O o4 hC g1 g2;obtain⟨ι',d1,d2,d3⟩:=qxp G hH1 o1 o2 x1 x2 (by rw[o3,x3,xk]) hg nc c1 M w.drew rfl;exact⟨_,_,_,ι',q _ _ _ hxC c2,.inl rfl,d1,d2,hF1.trans d3⟩
         cases ex with
         |true=>simp only[uC]at c;exact z p k (by simpa using J) H D (Fr.refl _ _ _) c
         |false=>
          simp only[aj]at c;cases j:qhm (H.get b) (i+p*g.z) g.z with
          |false=>rw[j]at c;cases c
          |true=>
           rw[j]at c;simp only[uC]at c;simp only[cu,lA9]at J;by_cases B:f+m<=p+loc.ext
           ·obtain⟨w',ι',q1,q2,q3,q4⟩:=zlm (P:=P) (x:=⟨m,bB g.zl m⟩) D I j E x1 x2 x3 hlc k B c;have r:=qh7 (P:=P) (ty:=o.type) (k2:=k2) T U Y Z M N R (some ⟨loc.blk,loc.base+i,none⟩) f (p+loc.ext) X O B (w':=w')
             (fun ad h=>by cases h;rw[addr_add];exact q1) (fun h=>by cases h)
            exact⟨_,_,w',ι',q _ _ _ J r,.inl rfl,q2,q3,q4⟩
           ·have hwr:(H.get b).wr=true:=by
             unfold qhm at j;split at j
             ·rename_i hg;rw[hg];rfl
             ·cases j
            obtain⟨k1,k2⟩:=D.kill (D.lt I) hwr;exact z _ B J _ k1 k2 c
     ·cases c
  ·cases F
def Post(ι:Im)(H:Hp)(w:World)(v:AV)(H':Hp):Ending->World->Prop
 | .returned V,w'=>∃ ι',aL ι' v V/\HR ι' H' w'/\Fr ι ι' H H' w w'
 |_,_=>False
structure qer(P:Program)(O:Call):Prop where
 fn:∀ f args H v H',O (.f f) args H=.ok v H'->∀ ι w bA,HR ι H w->aK ι args bA ->
  (callFunc f bA.toArray).run P w=.ok (.enter f bA.toArray) w/\∀ m,CallsIn Fence.wide m P f bA.toArray w (Post ι H w v H')
 yd:∀ b args H v H',O (.y b) args H=.ok v H'->∀ ι w bA loc,HR ι H w->aK ι args bA->ι b=some loc ->
  ∃f tmps assign body,(Instr.yield loc.blk bA.toArray).run P w=.ok (.round loc.blk f tmps assign body) w /\
   ∀m,RoundIn Fence.wide m P loc.blk f tmps assign body w (Post ι H w v H')
 df:∀ f args H v H',O (.d f) args H=.ok v H'->∀ ι w bA,HR ι H w->aK ι args bA ->
  (callFunc f bA.toArray).run P w=.ok (.enter f bA.toArray) w/\∀ m,CallsDIn Fence.wide m P f bA.toArray .returning w (fun e u' w'=>u'=.returning/\Post ι H w v H' e w')
structure Fence.dM(F:Fence):Prop where
 eq:∃ r,F={Fence.wide with round:=r}
theorem Fence.zR:Fence.dM Fence.wide:=⟨none,rfl⟩
theorem Fence.nI(l:Nat):Fence.dM (Fence.wide.inRound l):=⟨some l,rfl⟩
theorem Fence.dM.fn{F:Fence}(h:Fence.dM F)(f:FuncId):F.fn f:=by obtain⟨r,rfl⟩:=h;trivial
theorem Fence.dM.depth{F:Fence}(h:Fence.dM F):F.depth=none:=by obtain⟨r,rfl⟩:=h;rfl
theorem Fence.dM.calls{F:Fence}(h:Fence.dM F){m:Nat}{f:FuncId}{args:Array Value}{R:Ending->World->Prop}(k:CallsIn Fence.wide m P f args w R):CallsIn F m P f args w R:=by obtain⟨r,rfl⟩:=h;exact k
theorem Fence.dM.round{F:Fence}(h:Fence.dM F){m l:Nat}{f:FuncId}{tmps:Array Value}{a b:Code}{R:Ending->World->Prop}(k:RoundIn Fence.wide m P l f tmps a b w R):RoundIn F m P l f tmps a b w R:=by obtain⟨r,rfl⟩:=h;exact k
theorem qdd{F:Fence}{ρ:Operand->Value}(h:∀ c,o.op≠ .defer c):o.semAt F.round ρ=execOp ρ o:=by
 cases F.round with
 |none=>exact Oper.semAt_none ..
 |some l=>exact Oper.semAt_some l ρ o h
def Nx(ι:Im)(H:Hp)(w:World)(a:Act)(o:Oper)(v:AV)(H':Hp)(next:Act->World->Prop):Prop:=
 ∀V w' ι',aL ι' v V->HR ι' H' w'->Fr ι ι' H H' w w'->next (a.put o.dst V) w'
theorem qdo{F:Fence}(j:Fence.dM F)(hd:∀ c,o.op≠ .defer c){v:AV}{b:Hp}(h:r9 P o a.eval ι H w (.ok v b)){m:Nat}{next:Act->World->Prop}{Q:Exit->Act->World->Prop}(d:Nx ι H w a o v b next):o.wpIn F m P a w next Q:=by
 obtain⟨N,V,w',n,k,l,e,g,i⟩:=h;refine⟨fun f _=>j.fn f,?_⟩;rw[qdd hd,k];rcases l with rfl|⟨rfl,rfl⟩
 ·exact d _ _ _ e g i
 ·exact d _ _ _ e g i
theorem qz3{v:AV}{c:Hp}{next:Act->World->Prop}{Q:Exit->Act->World->Prop}(d:Nx ι H w a o v c next):∀e w',Post ι H w v c e w'->(match e,w' with
   | .returned v,b=>next (a.put o.dst v) b
   | .panicked chain,b=>Q (.panic chain) a b
   | .outgrown,_=>LetsOut Q):=by
 intro e w' h;cases e with
 |returned V=>obtain⟨j,f,g,i⟩:=h;exact d _ _ _ f g i
 |panicked=>exact h.elim
 |outgrown=>exact h.elim
theorem zjv{F:Fence}(i:Fence.dM F){c:Go.Call}(k:o.op=.call c){x:Operand}(r:c.callee=.value x){O:Call}(s:qer P O)(t:HR ι H w){fv:AV}(u:aL ι fv (a.eval x)){args:List AV}(y:aK ι args (c.args.toList.map a.eval)){v:AV}{z:Hp}(h:vP O fv args H=.ok v z){m:Nat}{next:Act->World->Prop}{Q:Exit->Act->World->Prop}(B:Nx ι H w a o v z next):o.wpIn F m P a w next Q:=by
 refine⟨fun f _=>i.fn f,?_⟩;rw[qdd (by intro G;rw[k];exact fun h=>by cases h)];have d:c.args.map a.eval=(c.args.toList.map a.eval).toArray:=by rw[<-lA7]
 unfold vP at h;split at h
 ·rename_i g first D
  obtain⟨A,C,l,E,n⟩:=u;obtain⟨p,q⟩:=s.fn _ _ _ _ _ h ι w (A++c.args.toList.map a.eval++C) t ((l.append y).append E);have:(execOp a.eval o).run P w=.ok (.enter g (A++c.args.toList.map a.eval++C).toArray) w:=by simp only[execOp,k,resolve,r,n,Deferred.ofValue,d];simpa [invoke] using p
  rw[this];exact⟨by simp[i.depth],CallsIn.mono (i.calls (q _)) (qz3 B)⟩
 ·rename_i b;obtain⟨loc,l,n⟩:=u;obtain⟨f,tmps,e,j,p,q⟩:=s.yd _ _ _ _ _ h ι w _ loc t y l;have:(execOp a.eval o).run P w=.ok (.round loc.blk f tmps e j) w:=by
   simp only[execOp,k,resolve,r,n,Deferred.ofValue,d];simpa [invoke] using p
  rw[this];exact⟨by simp[i.depth],RoundIn.mono (i.round (q _)) (qz3 B)⟩
 ·cases h
end Go.Ev
end
section
namespace Go.Ev
open Go.RowKit
variable {P:Program} {w:World} {ι:Im} {o:Oper} {a:Act} {d n:Nat} {L:TT AV d} {H:Hp} {O:Call} {F:Fence} {m:Nat} {next:Act->World->Prop} {Q:Exit->Act->World->Prop}
theorem z9p{args:List Operand}{ts:List TypeId}(g:o.op=.call {callee:=.builtin .append,args:=args.toArray,argTypes:=ts.toArray}){f:Call->TT AV d->Hp->R1}(b:aAi P d n args ts=.e f)(i:HR ι H w)(h:LR ι d n L a.tmps):r9 P o a.eval ι H w (f O L H):=by
 unfold aAi at b;split at b
 ·split at b
  ·rename_i j;split at b
   ·rename_i c e;cases b;exact z8v g j e c i h
   ·rename_i c e;cases b;exact zbc g j e (.inr ⟨_,rfl⟩) c i h
   ·rename_i c e;cases b;exact zbc g j e (.inl rfl) c i h
   ·cases b;trivial
  ·cases b;trivial
 ·cases b;trivial
theorem z3r{args:List Operand}{ts:List TypeId}(c:o.op=.call {callee:=.builtin .copy,args:=args.toArray,argTypes:=ts.toArray}){f:Call->TT AV d->Hp->R1}(b:q7d P d n args ts=.e f)(e:HR ι H w)(h:LR ι d n L a.tmps):r9 P o a.eval ι H w (f O L H):=by
 unfold q7d at b;split at b
 ·split at b
  ·rename_i g;split at b
   ·rename_i i;cases b;exact z8u c g i e h
   ·cases b;trivial
  ·cases b;trivial
 ·cases b;trivial
theorem z88{args:List Operand}{ts:List TypeId}(c:o.op=.call {callee:=.builtin .delete,args:=args.toArray,argTypes:=ts.toArray}){f:Call->TT AV d->Hp->R1}(b:aAk P d n args ts=.e f)(e:HR ι H w)(h:LR ι d n L a.tmps):r9 P o a.eval ι H w (f O L H):=by
 unfold aAk at b;split at b
 ·split at b
  ·rename_i g;split at b
   ·rename_i i;cases b;exact aLj c (by simp) g i e h
   ·cases b;trivial
  ·cases b;trivial
 ·cases b;trivial
theorem z9e{args:List Operand}{ts:List TypeId}(e:o.op=.call {callee:=.builtin .clear,args:=args.toArray,argTypes:=ts.toArray}){f:Call->TT AV d->Hp->R1}(b:zK P d n args ts=.e f)(g:HR ι H w)(h:LR ι d n L a.tmps):r9 P o a.eval ι H w (f O L H):=by
 unfold zK at b;split at b
 ·split at b
  ·rename_i c;split at b
   ·rename_i i;cases b;exact zni e c i g h
   ·cases b;trivial
  ·rename_i c;cases b;exact zui e c g h
  ·cases b;trivial
 ·cases b;trivial
theorem z7u{args:List Operand}{ts:List TypeId}{f:Call->TT AV d->Hp->R1}(a:u6 P d n args ts=.e f):f O L H=.bad:=by
 unfold u6 at a;split at a
 ·split at a
  ·cases a
  ·split at a<;>cases a;rfl
  ·cases a
  ·cases a
  ·cases a
  ·cases a;rfl
 ·cases a;rfl
theorem z9i{args:List Operand}{ts:List TypeId}{f:Call->TT AV d->Hp->R1}(a:zZ P d n args ts=.e f):f O L H=.bad:=by
 unfold zZ at a;split at a
 ·split at a
  ·cases a
  ·cases a
  ·cases a;rfl
 ·cases a;rfl
theorem z7g{args:List Operand}{f:Call->TT AV d->Hp->R1}(a:aAg d n args=.e f):f O L H=.bad:=by
 unfold aAg at a;split at a
 ·cases a
 ·cases a;rfl
theorem z7i{args:List Operand}{f:Call->TT AV d->Hp->R1}(a:zF d n args=.e f):f O L H=.bad:=by
 unfold zF at a;split at a
 ·cases a
 ·cases a;rfl
theorem zdq{b:Builtin}{args:Array Operand}{ts:Array TypeId}(e:o.op=.call {callee:=.builtin b,args,argTypes:=ts}){f:Call->TT AV d->Hp->R1}(c:qeo P d n b args.toList ts.toList=.e f)(g:HR ι H w)(h:LR ι d n L a.tmps):r9 P o a.eval ι H w (f O L H):=by
 unfold qeo at c;split at c
 ·rw[z7u c];trivial
 ·rw[z9i c];trivial
 ·rw[z7g c];trivial
 ·rw[z7i c];trivial
 ·exact z9p (by simpa using e) c g h
 ·exact z3r (by simpa using e) c g h
 ·exact z88 (by simpa using e) c g h
 ·exact z9e (by simpa using e) c g h
 ·cases c;trivial
theorem z6w{f:Call->TT AV d->Hp->R1}(b:gW P d n o=.e f)(C:qer P O)(r:Fence.dM F)(p:HR ι H w)(h:LR ι d n L a.tmps){v:AV}{D:Hp}(l:f O L H=.ok v D)(t:Nx ι H w a o v D next):o.wpIn F m P a w next Q:=by
 have i:dX d=.e f->False:=fun e=>by cases e;cases l
 unfold gW at b;split at b
 ·cases b
 ·cases b
 ·cases b
 ·unfold q9v at b;split at b
  ·cases b
  ·exact(i b).elim
 ·unfold aCr at b;split at b
  ·cases b
  ·cases b
  ·exact(i b).elim
 ·unfold q9u at b;split at b
  ·split at b
   ·split at b
    ·cases b
    ·exact(i b).elim
   ·exact(i b).elim
  ·split at b
   ·split at b
    ·cases b
    ·exact(i b).elim
   ·exact(i b).elim
  ·exact(i b).elim
 ·unfold qff at b;split at b
  ·split at b
   ·rename_i s z k u;cases B:(Nat.ble (_*s) 65536&&Nat.beq z.length s)with
    |false=>rw[B]at b;exact(i b).elim
    |true=>
     rw[B]at b;simp only[uC]at b;split at b
     ·cases b
     ·exact(i b).elim
   ·exact(i b).elim
  ·exact(i b).elim
 ·unfold zkt at b;split at b
  ·cases b
  ·cases b
  ·exact(i b).elim
 ·rename_i j;refine qdo r (by intro c;rw[j];exact fun h=>by cases h) ?_ t;unfold qzl at b;split at b
  ·rename_i q k u y;cases b;have:=zug (P:=P) j k p h;rw[u,y]at this;rw[<-l];exact this
  ·rename_i q k u y;cases b;have:=zuh (P:=P) j k p h;rw[u,y]at this;rw[<-l];exact this
  ·exact(i b).elim
 ·cases b
 ·cases b
 ·cases b
 ·unfold qmv at b;split at b
  ·cases b
  ·cases b
  ·split at b
   ·cases b
   ·exact(i b).elim
  ·split at b
   ·split at b
    ·cases b
    ·exact(i b).elim
   ·exact(i b).elim
  ·exact(i b).elim
 ·unfold qdh at b;split at b
  ·exact(i b).elim
  ·cases b
  ·exact(i b).elim
 ·cases b
 ·cases b
 ·unfold qgr at b;split at b
  ·split at b
   ·rename_i z w' s y A G;cases B:Nat.beq z.length s with
    |false=>rw[B]at b;exact(i b).elim
    |true=>rw[B]at b;cases b
   ·exact(i b).elim
  ·exact(i b).elim
 ·unfold q9p at b;split at b
  ·split at b
   ·cases b
   ·exact(i b).elim
  ·split at b
   ·cases b
   ·exact(i b).elim
  ·split at b
   ·cases b
   ·exact(i b).elim
  ·split at b
   ·split at b
    ·cases b
    ·exact(i b).elim
   ·exact(i b).elim
  ·exact(i b).elim
 ·unfold qe2 at b;split at b
  ·split at b
   ·split at b
    ·cases b
    ·exact(i b).elim
   ·exact(i b).elim
  ·exact(i b).elim
 ·unfold qzo at b;split at b
  ·split at b
   ·cases b
   ·exact(i b).elim
  ·exact(i b).elim
 ·unfold qe1 at b;split at b
  ·split at b
   ·cases b
   ·exact(i b).elim
  ·split at b
   ·cases b
   ·exact(i b).elim
  ·exact(i b).elim
 ·unfold qzn at b;split at b
  ·cases b
  ·split at b
   ·cases b
   ·exact(i b).elim
  ·exact(i b).elim
 ·unfold qwz at b;split at b
  ·split at b
   ·cases b
   ·exact(i b).elim
  ·exact(i b).elim
 ·rename_i j;refine qdo r (by intro c;rw[j];exact fun h=>by cases h) ?_ t;unfold qd3 at b;split at b
  ·rename_i q k u y;split at b
   ·rename_i A;cases b;have:=z8s (P:=P) (.inl j) q A p h;rw[k,u,y]at this;rw[<-l];exact this
   ·exact(i b).elim
  ·exact(i b).elim
 ·rename_i j;refine qdo r (by intro c;rw[j];exact fun h=>by cases h) ?_ t;unfold qd3 at b;split at b
  ·rename_i q k u y;split at b
   ·rename_i A;cases b;have:=z8s (P:=P) (.inr j) q A p h;rw[k,u,y]at this;rw[<-l];exact this
   ·exact(i b).elim
  ·exact(i b).elim
 ·rename_i j;refine qdo r (by intro c;rw[j];exact fun h=>by cases h) ?_ t;unfold qi9 at b;split at b
  ·rename_i q k u;split at b
   ·rename_i A G;cases b;have:=z3g (P:=P) j q A G p h;rw[k,u]at this;rw[<-l];exact this
   ·exact(i b).elim
  ·exact(i b).elim
 ·rename_i j;refine qdo r (by intro c;rw[j];exact fun h=>by cases h) ?_ t;cases b;rw[<-l];exact znh j p h
 ·cases b
 ·rename_i j;refine qdo r (by intro c;rw[j];exact fun h=>by cases h) ?_ t;unfold q9q at b;split at b
  ·rename_i q k;cases b;have:=z3f (P:=P) j q p h;rw[k]at this;rw[<-l];exact this
  ·exact(i b).elim
 ·rename_i j;refine qdo r (by intro c;rw[j];exact fun h=>by cases h) ?_ t;unfold zst at b;split at b
  ·rename_i k;cases b;have:=z8t (P:=P) j p h;rw[k]at this;rw[<-l];exact this
  ·exact(i b).elim
 ·cases b
 ·rename_i j;refine qdo r (by intro c;rw[j];exact fun h=>by cases h) ?_ t;rw[<-l];exact zdq j b p h
 ·rename_i g args ts j;unfold q9t at b;split at b
  ·cases b
  ·rename_i I q k;cases b;have E:=qcz h args.toList;rw[q]at E;refine zjv r j rfl C p (fv:=.fn g [] []) ?_ E ?_ t
   ·simp only[aL,aK];exact⟨[],[],rfl,rfl,rfl⟩
   ·simpa [vP] using l
 ·rename_i x args ts _ j;cases b;exact zjv r j rfl C p (dP h x) (qcz h _) l t
 ·exact(i b).elim
end Go.Ev
end
section
namespace Go.Ev
open Go.RowKit
variable {P:Program} {w:World} {ι:Im} {o:Oper} {a:Act} {d n:Nat} {L:TT AV d} {H:Hp} {O:Call} {F:Fence} {m:Nat} {K:Act->World->Prop} {Q:Exit->Act->World->Prop} {ops:Array Oper}
theorem qh9(h:LR ι d n L a.tmps)(t:Option Tmp){v:AV}{V:Value}(c:aL ι v V):LR ι d n ((dS d n t).f L v) (a.put t V).tmps:=by
 cases t with
 |none=>exact h
 |some t=>
  unfold dS;simp only[Act.put];cases b:Nat.blt t n with
  |true=>simp only[uC];exact h.set (uE b) c
  |false=>rw[Array.setIfInBounds_eq_of_size_le (by rw[h.size];exact lEB (zdt b))];exact h
theorem put_defers(a:Act)(t:Option Tmp)(V:Value):(a.put t V).defers=a.defers:=by cases t<;>rfl
theorem qi3(h:LR ι d n L a.tmps){b:Bool}(c:(sV d n ops o).f L=some b):Region.wanted o (yielded ops a.tmps)=b:=by
 unfold sV at c;unfold Region.wanted;split at c
 ·rename_i l;rw[l];simpa using c
 ·rename_i j e l;rw[l];simp only;split at c
  ·rename_i t q;cases m:Nat.blt t n with
   |false=>rw[m]at c;cases c
   |true=>
    rw[m]at c;simp only[uC]at c;have i:=uE m;have g:=h.get t i;have p:yielded ops a.tmps j=(match a.tmps[t]? with|some (.bool b)=>some b|_=>none):=by unfold yielded;rw[q];rfl
    have k:t<a.tmps.size:=by rw[h.size];exact i
    rw[p];rw[zx,bg k]at g;rw[bg k];simp only[Option.getD_some]at g;split at c
    ·rename_i r f;rw[f]at g;rw[g];simp only[qh]at c;rw[<-c];cases r<;>cases e<;>rfl
    ·rename_i f;rw[f]at g;rw[g];simp only[qh]at c;rw[<-c];cases e<;>rfl
    ·cases c
  ·cases c
def Then(ι:Im)(H:Hp)(w:World)(a:Act)(d n:Nat)(L':TT AV d)(H':Hp)(K:Act->World->Prop):Prop:=
 ∀a' w' ι',LR ι' d n L' a'.tmps->a'.defers=a.defers->HR ι' H' w'->Fr ι ι' H H' w w'->K a' w'
theorem aNt{C:Bool}{f:Nat->TT AV d->Hp->R0}(p:gW P d n o=.q C f)(D:Fence.dM F)(j:HR ι H w)(h:LR ι d n L a.tmps){i:TT AV d->AV->TT AV d}(O:dS d n o.dst=⟨i⟩){z:TT AV d}{A:Hp}(k:doQ i L H (f H.nx L H)=.ok z A)(B:Then ι H w a d n z A K):o.wpIn F m P a w K Q:=by
 have q:=z16 (nm:=H.nx) p j h;have t:∀ c,o.op≠ .defer c:=fun c E=>by unfold gW at p;rw[E]at p;cases p
 have e:∀{r:Im} (_:ι.le r) {v:AV} {V:Value},aL r v V->LR r d n (i L v) (a.put o.dst V).tmps:=fun s v V G=>by have:=qh9 (a:=a) (h.mono s) o.dst G;simp_all
 refine⟨fun f _=>D.fn f,?_⟩;rw[qdd t];unfold doQ at k;split at k
 ·cases k
 ·rename_i v x;rw[x]at q;obtain⟨V,y,g⟩:=q;rw[y];cases k;exact B _ _ ι (e (Im.le_refl _) g) (put_defers ..) j (Fr.refl ..)
 ·rename_i v b x;rw[x]at q
  ·
   cases k;obtain⟨V,w',l,y,g,I⟩:=q;rw[y];have u:gZ (H.nx):=oI;obtain⟨J,M⟩:=I (ι.set H.nx l) (Im.iT l (j.fresh _ (lh _))) (Im.aZ ..);obtain⟨N,k2⟩:=j.push u l b g.os g.tape g.output (by rw[g.size];exact dC _) g.keep g.blk M;exact B _ _ _ (e (Im.iT l (j.fresh _ (lh _))) J) (put_defers ..) N k2
theorem zsh(B:qer P O)(l:Fence.dM F)(s:HR ι H w)(h:LR ι d n L a.tmps){t:TT AV d}{u:Hp}(e:(yT P d n ops o).f O L H=.ok t u)(x:Then ι H w a d n t u K):if Region.wanted o (yielded ops a.tmps)then o.wpIn F m P a w K Q else(∀f,o.about P w a.eval=some f->F.fn f)/\K (a.put o.dst Go.undef) w:=by
 have i:∀{b:TT AV d->AV->TT AV d} (_:dS d n o.dst=⟨b⟩) {k:Im} (_:ι.le k) {v:AV} {V:Value},aL k v V->LR k d n (b L v) (a.put o.dst V).tmps:=fun g k y v V C=>by have:=qh9 (a:=a) (h.mono y) o.dst C;simp_all
 have p:∀{b:TT AV d->AV->TT AV d} (_:dS d n o.dst=⟨b⟩),t=b L .undef->u=H->K (a.put o.dst Go.undef) w:=fun g D E=>by subst D;subst E;exact x _ _ ι (i g (Im.le_refl _) (by simp only[aL];rfl)) (put_defers ..) s (Fr.refl ..)
 have A:∀{b:TT AV d->AV->TT AV d} (_:dS d n o.dst=⟨b⟩) {f:Call->TT AV d->Hp->R1} (_:gW P d n o=.e f),doE b L (f O L H)=.ok t u->o.wpIn F m P a w K Q:=fun g f j hd=>by
  unfold doE at hd;split at hd
  ·cases hd
  ·rename_i v H1 J;cases hd;exact z6w j B l s h J fun V w' k G I z=>x _ _ k (i g z.le G) (put_defers ..) I z
 unfold yT at e;split at e
 ·rename_i f b j q g;simp only[Region.wanted,q,oh];exact aNt j l s h g e x
 ·rename_i f b j q g;simp only[Region.wanted,q,oh];simp_all
 ·rename_i f _ M b j q r g;simp only[ifW]at e;split at e
  ·rename_i c;rw[qi3 (o:=o) (ops:=ops) h (by rw[r];exact c),kz rfl];exact aNt j l s h g e x
  ·rename_i c;rw[qi3 (o:=o) (ops:=ops) h (by rw[r];exact c)];cases e;exact⟨fun f _=>l.fn f,p g rfl rfl⟩
  ·cases e
 ·rename_i f _ M b j q r g;simp only[ifW]at e;split at e
  ·rename_i c;rw[qi3 (o:=o) (ops:=ops) h (by rw[r];exact c),kz rfl];simp_all
  ·rename_i c;rw[qi3 (o:=o) (ops:=ops) h (by rw[r];exact c)];cases e;exact⟨fun f _=>l.fn f,p g rfl rfl⟩
  ·cases e
end Go.Ev
end
section
namespace Go.Ev
open Go.RowKit
/- bits -/
theorem qpy(m i:Nat):hasB m i=m.testBit i:=by unfold hasB Nat.testBit;rw[show Nat.land (Nat.shiftRight m i) 1=(m >>> i) &&& 1 from rfl,Nat.and_comm 1,Nat.and_one_is_mod];rcases Nat.mod_two_eq_zero_or_one (m >>> i)with h|h<;>rw[h]<;>rfl
theorem qxn(a b i:Nat):hasB (Nat.lor a b) i=(hasB a i||hasB b i):=by simp only[qpy];exact Nat.testBit_or a b i
theorem qgf(m j i:Nat):hasB (sO m j) i=(hasB m i||decide (j=i)):=by unfold sO;rw[qxn];congr 1;rw[qpy,show Nat.shiftLeft 1 j=1 <<< j from rfl,Nat.one_shiftLeft,Nat.testBit_two_pow]
theorem q0s(i:Nat):hasB 0 i=false:=by rw[qpy];exact Nat.zero_testBit i
theorem zsf{m k:Nat}(h:aBD m k=true){i:Nat}(a:hasB m i=true):hasB k i=true:=by have:=qp h;rw[<-this,qxn,a];rfl
/- masks -/
theorem qlp(l:List Oper):∀ ms i,i<ms.length->(qbt ms l).getD i 0=ms.getD i 0:=by
 induction l with
 |nil=>intro ms i _;rfl
 |cons o r ih=>intro ms i a;rw[qbt,ih _ _ (by simp;omega),kw,kw,qx a]
theorem qhl{ms a:List Nat}:∀(l:List Nat) (s:Nat),(∀j∈l,ms.getD j 0=a.getD j 0) -> l.foldl (fun s j=>Nat.lor (sO s j) (ms.getD j 0)) s=l.foldl (fun s j=>Nat.lor (sO s j) (a.getD j 0)) s
 | [],_,_=>rfl
 |j::l,s,h=>by simp only[List.foldl_cons];rw[h j (by simp)];exact qhl l _ fun x b=>h x (by simp[b])
theorem q0n(l:List Oper):∀ ms i o,l[i]? =some o->(∀j∈vO o,j<ms.length+i)->(qbt ms l).getD (ms.length+i) 0=qtc (qbt ms l) o:=by
 induction l with
 |nil=>intro ms i o h;simp at h
 |cons o' r ih=>
  intro ms i o h b;rw[qbt];cases i with
  |zero=>simp at h;subst h;rw[yw,qlp _ _ _ (by simp)];simp only[kw,List.getElem?_concat_length,Option.getD_some];refine qhl _ _ fun j a=>?_;have:=b j a;rw[qlp _ _ _ (by simp;omega),kw,kw,qx this]
  |succ i=>have:=ih (ms++[qtc ms o']) i o h (fun j a=>by have:=b j a;simp;omega);rw[show(ms++[qtc ms o']).length+i=ms.length+(i+1)by simp;omega]at this;exact this
theorem q0t(ms:List Nat)(k:Nat):∀(l:List Nat) (s:Nat),hasB (l.foldl (fun s j=>Nat.lor (sO s j) (ms.getD j 0)) s) k=true↔hasB s k=true\/∃ j∈l,k=j\/hasB (ms.getD j 0) k=true
 | [],s=>by simp
 |j::l,s=>by
  rw[List.foldl_cons,q0t ms k l,qxn,qgf];simp only[ig,yc,qm,exists_eq_or_imp];constructor
  ·rintro (((h|h)|h)|h)
   ·exact .inl h
   ·omega
   ·simp_all
   ·simp_all
  ·rintro (h|(h|h)|h)
   ·simp_all
   ·omega
   ·simp_all
   ·exact .inr h
theorem q61(ms:List Nat)(o:Oper)(k:Nat):hasB (qtc ms o) k=true↔∃ j∈vO o,k=j\/hasB (ms.getD j 0) k=true:=by unfold qtc;rw[q0t,q0s];simp
theorem q1i:∀(l:List Oper) (k:Nat),qtt k l=true->∀ i o,l[i]? =some o->∀ j∈vO o,j<k+i
 | [],_,_,i,o,h,j,hj=>by simp at h
 |o'::r,k,hb,i,o,h,j,hj=>by
  simp only[qtt,qc,yl]at hb;cases i with
  |zero=>simp at h;subst h;exact ai (hb.1 j hj)
  |succ i=>simp at h;have:=q1i r (k+1) hb.2 i o h j hj;omega
structure Edg(ops:Array Oper)(ms:List Nat):Prop where
 back:∀ i o,ops[i]? =some o->∀ j∈vO o,j<i
 mask:∀ i o k,ops[i]? =some o->(hasB (ms.getD i 0) k=true↔∃ j∈vO o,k=j\/hasB (ms.getD j 0) k=true)
 tmps:∀ i k o' o t,ops[i]? =some o'->ops[k]? =some o->o'.dst=some t->i=k\/hasB (ms.getD k 0) i=true\/hasB (ms.getD i 0) k=true\/(t∉kR ops o/\o.dst≠some t)
theorem Edg.of{ops:Array Oper}(n:qtt 0 ops.toList=true)(b:q9c ops (qbt [] ops.toList)=true):Edg ops (qbt [] ops.toList):=by
 have m:∀ i o,ops[i]? =some o->∀ j∈vO o,j<i:=fun i o h j c=>by have:=q1i ops.toList 0 n i o (by simpa using h) j c;omega
 refine⟨m,fun i o k h=>?_,fun i k q o t g l p=>?_⟩
 ·have:=q0n ops.toList [] i o (by simpa using h) (fun j c=>by have:=m i o h j c;simpa using this);simp only[uk,pq]at this;rw[this,q61]
 ·unfold q9c at b;rw[yl]at b;have d:k<ops.size:=(ay.1 l).1;have e:i<ops.size:=(ay.1 g).1;have f:=b k (xu.2 d);rw[l]at f;simp only[yl]at f;have a:=f i (xu.2 e);rw[g]at a;simp only[p,ig,yg,lAN]at a;rcases a with((a|a)|a)|a
  ·simp_all
  ·simp_all
  ·simp_all
  ·simp_all
variable {ops:Array Oper} {ms:List Nat}
theorem Edg.ex(h:Edg ops ms){i j:Nat}{o:Oper}(a:ops[i]? =some o)(b:j∈vO o):∃ c,ops[j]? =some c:=by have d:=h.back i o a j b;have e:i<ops.size:=(ay.1 a).1;exact⟨ops[j]'(by omega),bg (by omega)⟩
theorem Edg.aHM(h:Edg ops ms):∀ i o k,ops[i]? =some o->hasB (ms.getD i 0) k=true->k<i:=by
 intro i
 induction i using Nat.strongRecOn with
 |ind i ih=>
  intro o k b f;obtain⟨j,e,c⟩:=(h.mask i o k b).1 f;have a:=h.back i o b j e;rcases c with rfl|c
  ·exact a
  ·obtain⟨g,d⟩:=h.ex b e;exact lEK (ih j a g k d c) a
def Shut(ops:Array Oper)(S:Nat->Prop):Prop:=∀ i o,ops[i]? =some o->S i->∀ j∈vO o,S j
theorem Edg.vC(h:Edg ops ms){S:Nat->Prop}(l:Shut ops S):∀ i o k,ops[i]? =some o->(∀j∈vO o,S j)->hasB (ms.getD i 0) k=true->S k:=by
 intro i
 induction i using Nat.strongRecOn with
 |ind i ih=>
  intro o k d f m;obtain⟨j,b,e⟩:=(h.mask i o k d).1 m;have c:=h.back i o d j b;rcases e with rfl|e
  ·exact f _ b
  ·obtain⟨g,a⟩:=h.ex d b;exact ih j c g k a (l j g a (f j b)) e
theorem Edg.qJ(h:Edg ops ms){S:Nat->Prop}(a:Shut ops S){i:Nat}{o:Oper}{k:Nat}(b:ops[i]? =some o)(c:S i)(d:hasB (ms.getD i 0) k=true):S k:=
 h.vC a i o k b (a i o b c) d
/- projections -/
theorem qo8{d n:Nat}{L a:TT AV d}:∀(ts:List Tmp),(∀t∈ts,t<n->(dJ d t).f L=(dJ d t).f a)->(mQ d n ts).f L=(mQ d n ts).f a
 | [],_=>rfl
 |t::r,h=>by
  unfold mQ;have ih:=qo8 r fun x b=>h x (by simp[b]);cases c:Nat.blt t n with
  |true=>simp_all
  |false=>simp only[aj];exact ih
theorem qz2{d n:Nat}(c:n<=8 ^ d){L:TT AV d}{i:Nat}(b:i<8 ^ d):∀(ts:List Tmp),(dJ d i).f ((mQ d n ts).f L)=if i∈ts/\i<n then(dJ d i).f L else .undef
 | []=>by simp[mQ,qg0]
 |t::r=>by
  unfold mQ;have ih:=qz2 (n:=n) c (L:=L) b r;cases a:Nat.blt t n with
  |true=>
   simp only[uC];rw[qey _ _ _ _ _ b (by have:=uE a;omega)];by_cases e:i=t
   ·simp_all
   ·simp_all
  |false=>
   simp only[aj];rw[ih];have a:=zdt a;by_cases e:i=t
   ·subst e;simp[a]
   ·simp[e]
def qia(ts:List Tmp)(tmps:Array Value):Array Value:=Array.ofFn (n:=tmps.size) fun i=>if i.1∈ts then tmps[i]else Go.undef
theorem qgx(ts:List Tmp)(tmps:Array Value):(qia ts tmps).size=tmps.size:=by simp[qia]
theorem qo7(ts:List Tmp)(tmps:Array Value)(i:Nat):(qia ts tmps).getD i Go.undef=if i∈ts then tmps.getD i Go.undef else Go.undef:=by
 simp only[qia,zx,Array.getElem?_ofFn];by_cases h:i<tmps.size
 ·simp_all
 ·rw[dif_neg h];simp[lE2 (lEB h)]
theorem LR.proj{ι:Im}{d n:Nat}{L:TT AV d}{tmps:Array Value}(h:LR ι d n L tmps)(ts:List Tmp):LR ι d n ((mQ d n ts).f L) (qia ts tmps):=by
 refine⟨by rw[qgx,h.size],h.fits,fun i a=>?_⟩;rw[qz2 h.fit (lq a h.fit),qo7];have c:=h.get i a;by_cases b:i∈ts
 ·by_cases e:i<n
  ·simp_all
  ·omega
 ·rw[lu (by simp[b]),lu b];simp only[aL];rfl
theorem zm6(a:Act)(ts:List Tmp)(x:Operand)(b:∀ t,z5k x=some t->t∈ts):({a with tmps:=qia ts a.tmps}:Act).eval x=a.eval x:=by
 cases x with
 |tmp t=>have:=b t rfl;show(qia ts a.tmps).getD t Go.undef=a.tmps.getD t Go.undef;rw[qo7,kz this]
 |_=>rfl
theorem qyx(a:Act)(o:Oper):Region.wanted o (yielded ops (qia (kR ops o) a.tmps))=Region.wanted o (yielded ops a.tmps):=by
 unfold Region.wanted;cases i:o.guard with
 |none=>rfl
 |some gw=>
  obtain⟨g,e⟩:=gw;have f:yielded ops (qia (kR ops o) a.tmps) g=yielded ops a.tmps g:=by
   unfold yielded;cases j:(ops[g]?).bind (·.dst)with
   |none=>rfl
   |some t=>
    have h:t∈kR ops o:=by simp[kR,i,j]
    show(match(qia (kR ops o) a.tmps)[t]? with|some (.bool b)=>some b|_=>none)=(match a.tmps[t]? with|some (.bool b)=>some b|_=>none);have d:=qo7 (kR ops o) a.tmps t;rw[kz h]at d;rw[zx,zx]at d;by_cases c:t<a.tmps.size
    ·rw[bg (by rw[qgx];exact c),bg c]at d ⊢;simp_all
    ·rw[lE2 (by rw[qgx];exact lEB c),lE2 (lEB c)]
  simp only[f]
theorem qp3(a:Act)(o:Oper)(c:∀ cs b,o.op≠ .select cs b):execOp ({a with tmps:=qia (kR ops o) a.tmps}:Act).eval o=execOp a.eval o:=
 execOp_congr o c fun x d=>zm6 a _ x fun t e=>by exact vz _ (List.mem_filterMap.2 ⟨x,by simpa using d,e⟩)
/- a quiet operation that does not look -/
theorem q6y{P:Program}{d n:Nat}{args:List Operand}{ts:List TypeId}{f:Nat->TT AV d->Hp->R0}(a:u6 P d n args ts=.q false f)(nm:Nat)(L:TT AV d)(H b:Hp):f nm L H=f nm L b:=by
 unfold u6 at a;split at a
 ·split at a
  ·cases a;rfl
  ·split at a<;>cases a;rfl
  ·cases a;rfl
  ·cases a;rfl
  ·cases a
  ·cases a
 ·cases a
theorem qs6{P:Program}{d n:Nat}{o:Oper}{f:Nat->TT AV d->Hp->R0}(a:gW P d n o=.q false f)(nm:Nat)(L:TT AV d)(H b:Hp):f nm L H=f nm L b:=by
 unfold gW at a;split at a
 all_goals first
  |(cases a;done)
  |(cases a;rfl)
  |(unfold q9q at a;split at a<;>(cases a;done))
  |(unfold zst at a;split at a<;>(cases a;done))
  |(unfold zxf at a;cases a;done)
  |(unfold z5z at a;(repeat' split at a)<;>first|(cases a;done)|(cases a;rfl))
  |(unfold z1j at a;(repeat' split at a)<;>first|(cases a;done)|(cases a;rfl))
  |(unfold q9v at a;(repeat' split at a)<;>first|(cases a;done)|(cases a;rfl))
  |(unfold aCr at a;(repeat' split at a)<;>first|(cases a;done)|(cases a;rfl))
  |(unfold q9u at a;(repeat' split at a)<;>first|(cases a;done)|(cases a;rfl))
  |(unfold qff at a;simp only[Bool.cond_eq_ite]at a;(repeat' split at a)<;>first|(cases a;done)|(cases a;rfl))
  |(unfold zkt at a;(repeat' split at a)<;>first|(cases a;done)|(cases a;rfl))
  |(unfold qzl at a;(repeat' split at a)<;>first|(cases a;done)|(cases a;rfl))
  |(unfold qoz at a;(repeat' split at a)<;>first|(cases a;done)|(cases a;rfl))
  |(unfold zkv at a;(repeat' split at a)<;>first|(cases a;done)|(cases a;rfl))
  |(unfold z5x at a;(repeat' split at a)<;>first|(cases a;done)|(cases a;rfl))
  |(unfold qmv at a;(repeat' split at a)<;>first|(cases a;done)|(cases a;rfl))
  |(unfold qdh at a;(repeat' split at a)<;>first|(cases a;done)|(cases a;rfl))
  |(unfold qzm at a;(repeat' split at a)<;>first|(cases a;done)|(cases a;rfl))
  |(unfold q9s at a;(repeat' split at a)<;>first|(cases a;done)|(cases a;rfl))
  |(unfold qgr at a;simp only[Bool.cond_eq_ite]at a;(repeat' split at a)<;>first|(cases a;done)|(cases a;rfl))
  |(unfold q9p at a;(repeat' split at a)<;>first|(cases a;done)|(cases a;rfl))
  |(unfold qe2 at a;(repeat' split at a)<;>first|(cases a;done)|(cases a;rfl))
  |(unfold qzo at a;(repeat' split at a)<;>first|(cases a;done)|(cases a;rfl))
  |(unfold qe1 at a;(repeat' split at a)<;>first|(cases a;done)|(cases a;rfl))
  |(unfold qzn at a;(repeat' split at a)<;>first|(cases a;done)|(cases a;rfl))
  |(unfold qwz at a;(repeat' split at a)<;>first|(cases a;done)|(cases a;rfl))
  |(unfold qd3 at a;(repeat' split at a)<;>first|(cases a;done)|(cases a;rfl))
  |(unfold qi9 at a;(repeat' split at a)<;>first|(cases a;done)|(cases a;rfl))
  |(unfold qo0 at a;(repeat' split at a)<;>first|(cases a;done)|(cases a;rfl))
  |(unfold qw0 at a;(repeat' split at a)<;>first|(cases a;done)|(cases a;rfl))
  |(unfold zZ at a;(repeat' split at a)<;>first|(cases a;done)|(cases a;rfl))
  |(unfold aAg at a;(repeat' split at a)<;>first|(cases a;done)|(cases a;rfl))
  |(unfold zF at a;(repeat' split at a)<;>first|(cases a;done)|(cases a;rfl))
  |(unfold aAi at a;(repeat' split at a)<;>first|(cases a;done)|(cases a;rfl))
  |(unfold q7d at a;(repeat' split at a)<;>first|(cases a;done)|(cases a;rfl))
  |(unfold aAk at a;(repeat' split at a)<;>first|(cases a;done)|(cases a;rfl))
  |(unfold zK at a;(repeat' split at a)<;>first|(cases a;done)|(cases a;rfl))
  |(unfold q9t at a;(repeat' split at a)<;>first|(cases a;done)|(cases a;rfl))
  |skip
 unfold qeo at a;split at a
 ·exact q6y a nm L H b
 all_goals first
  |(cases a;done)
  |(unfold zZ at a;(repeat' split at a)<;>first|(cases a;done)|(cases a;rfl))
  |(unfold aAg at a;(repeat' split at a)<;>first|(cases a;done)|(cases a;rfl))
  |(unfold zF at a;(repeat' split at a)<;>first|(cases a;done)|(cases a;rfl))
  |(unfold aAi at a;(repeat' split at a)<;>first|(cases a;done)|(cases a;rfl))
  |(unfold q7d at a;(repeat' split at a)<;>first|(cases a;done)|(cases a;rfl))
  |(unfold aAk at a;(repeat' split at a)<;>first|(cases a;done)|(cases a;rfl))
  |(unfold zK at a;(repeat' split at a)<;>first|(cases a;done)|(cases a;rfl))
end Go.Ev
end
