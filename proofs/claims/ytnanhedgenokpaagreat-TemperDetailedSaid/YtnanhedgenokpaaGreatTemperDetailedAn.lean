/-
  The ideal machine: calls, on the model's machine. The ideal machine: rounds of loops over functions; all calls. What the whole layer is for: 'ideal_calls'.
-/
import Derived.Test.YtnanhedgenokpaaGreatTemperDetailedAm
import Derived.Laws.Externs
import Derived.KernelRfl
import Derived.RowKit3
set_option linter.unusedVariables false
set_option linter.unusedSimpArgs false
set_option linter.defProp false
set_option linter.deprecated false
namespace Go.Id
open Go Go.RowKit
theorem unwind_marks {P:Program} {B:Nat} {w0:World} {m:Mp} {h:IH} {z:Nat} (hB:B≤z) : ∀(rs:List Nat) (fr:Frame) (cs:List Frame) (w:World),fr.mode=.returning→fr.defers=rs.map markOf→rs.Nodup →
  (∀r∈rs,z≤r∧w.heap[r]?=some (.deferred (some [])) ∧ ∀k s,k<h.n→m (2*k)≠some (r,s))→Rel B w0 m h w →
  ∃w',Steps P (lone fr cs w) (lone { fr with defers:=[] } cs w')∧Rel B w0 m h w'∧w'.heap.size=w.heap.size ∧ ∀r,r∉rs→w'.heap[r]?=w.heap[r]?
 | [],fr,cs,w,hm,hd,_,_,R=>by
  have:({ fr with defers:=[] }:Frame)=fr:=by cases fr;simp at hd;subst hd;rfl
  exact⟨w,by rw[this];exact .refl _ _,R,rfl,fun _ _=>rfl⟩
 | r :: rs,fr,cs,w,hm,hd,hn,hr,R=>by
  obtain⟨a1,a2,a3⟩:=hr r (by simp)
  have hst:=step_collected (P:=P) (fr:=fr) (cs:=cs) (d:=markOf r) (r:=r) (ds:=rs.map markOf) (by rw[hm];simp) (by rw[hd];rfl) rfl (run_takeDeferred a2)
  have hother : ∀r',r'≠r→(w.putObj r (.deferred none)).heap[r']?=w.heap[r']?:=fun r' h'=>World.putObj_heap_other h'
  have R1:Rel B w0 m h (w.putObj r (.deferred none)):=by
   refine R.keep (below_put R.below (by omega) _) (by simp) ?_
   rintro r' (h1|⟨k,s,h1,h2⟩)
   ·exact hother r' (by omega)
   ·exact hother r' (by rintro rfl;exact a3 k s h1 h2)
  obtain⟨w',b1,b2,b3,b4⟩:=unwind_marks hB rs { fr with defers:=[] ++ rs.map markOf } cs (w.putObj r (.deferred none)) hm rfl (List.nodup_cons.1 hn).2 (fun r' h'=>by
   obtain⟨c1,c2,c3⟩:=hr r' (by simp[h'])
   exact⟨c1,by rw[hother r' (by rintro rfl;exact(List.nodup_cons.1 hn).1 h')];exact c2,c3⟩) R1
  refine⟨w',.head hst b1,b2,by rw[b3];simp,fun r' h'=>?_⟩
  rw[b4 r' (fun h=>h' (by simp[h])),hother r' (fun h=>h' (by simp[h]))]
def resSem (tmps:Array Value):ResultVar→Sem Value
 | .tmp t=>pure (tmps.getD t undef)
 | .cell a t=>do loadVar t (←Go.asAddr (tmps.getD a undef))
theorem results_eq (fn:Func) (tmps:Array Value):results fn tmps=(do let vs ←fn.results.mapM (resSem tmps);pure (if h:vs.size=1 then vs[0] else .tuple vs)):=by
 unfold results
 congr 1
theorem resultOf_run {P:Program} {B:Nat} {w0:World} {m:Mp} {h:IH} {w:World} (R:Rel B w0 m h w) {fr:Fr} {tmps:Array Value} (hf:FrRel m fr tmps) {rv:ResultVar} {v:Value} (hr:resultOf P fr h rv=some v) :
  ∃v',(resSem tmps rv).run P w=.ok v' w∧VRel m v v':=by
 cases rv with
 | tmp t =>
  obtain⟨v',h1,h2⟩:=hf t v hr
  exact⟨v',by simp[resSem,Array.getD_eq_getD_getElem?,h1,Sem.run_pure],h2⟩
 | cell a t =>
  simp only[resultOf] at hr
  split at hr
  ·rename_i va hva
   obtain⟨va',h1,h2⟩:=hf a va hva
   obtain⟨v',h3,h4⟩:=R.load hr h2
   refine⟨v',?_,h4⟩
   have hp : ∃b o,va=.pointer (some ⟨b,o,none⟩):=by
    unfold Id.load at hr
    cases hA:Id.asAddr va with
    | none=>simp[hA] at hr
    | some bo=>unfold Id.asAddr at hA;split at hA<;>simp_all
   obtain⟨b,o,rfl⟩:=hp
   obtain⟨r,s,_,rfl⟩:=h2.ptr_inv
   simp only[resSem,Array.getD_eq_getD_getElem?,h1,Option.getD_some]
   simpa [Instr.loadAt,Instr.sureAddr,Go.asAddr,Sem.run_bind,Sem.run_pure] using h3
  ·cases hr
theorem resultsOf_run {P:Program} {B:Nat} {w0:World} {m:Mp} {h:IH} {w:World} (R:Rel B w0 m h w) {fr:Fr} {tmps:Array Value} (hf:FrRel m fr tmps) : ∀(l:List ResultVar) (vs:List Value),resultsOf P fr h l=some vs →
  ∃vs',(l.mapM (resSem tmps)).run P w=.ok vs' w∧LRel m vs vs'
 | [],vs,hr=>by simp only[resultsOf] at hr;cases hr;exact⟨[],by simp[Sem.run_pure],.nil m⟩
 | rv :: l,vs,hr=>by
  rw[resultsOf] at hr
  split at hr
  ·rename_i v vs1 h1 h2
   cases hr
   obtain⟨v',a1,a2⟩:=resultOf_run R hf h1
   obtain⟨vs',b1,b2⟩:=resultsOf_run R hf l vs1 h2
   refine⟨v' :: vs',?_,.cons a2 b2⟩
   rw[List.mapM_cons]
   simp only[Sem.run_bind,Sem.run_pure]
   rw[a1]
   simp only[Result.andThen_ok]
   rw[b1]
   simp only[Result.andThen_ok]
  ·cases hr
theorem single_rel {m:Mp} {vs vs':List Value} (h:LRel m vs vs'):VRel m (single vs) (if h:vs'.toArray.size=1 then vs'.toArray[0] else .tuple vs'.toArray):=by
 have hl:=h.1
 match vs,vs',h,hl with
 | [],[],h,_=>exact VRel.tuple_iff h
 | [v],[v'],h,_=>exact h.2 0 v v' rfl rfl
 | v :: u :: vs,v' :: u' :: vs',h,_ =>
  have : ¬(v' :: u' :: vs').toArray.size=1:=by simp
  rw[dif_neg this]
  exact VRel.tuple_iff h
theorem results_run {P:Program} {B:Nat} {w0:World} {m:Mp} {h:IH} {w:World} (R:Rel B w0 m h w) {fr:Fr} {tmps:Array Value} (hf:FrRel m fr tmps) {fn:Func} {vs:List Value} (hr:resultsOf P fr h fn.results.toList=some vs) :
  ∃v',(results fn tmps).run P w=.ok v' w∧VRel m (single vs) v':=by
 obtain⟨vs',h1,h2⟩:=resultsOf_run R hf _ _ hr
 refine⟨_,?_,single_rel h2⟩
 rw[results_eq,Sem.run_bind,Array.mapM_eq_mapM_toList,map_eq_pure_bind,Sem.run_bind,h1]
 simp only[Result.andThen_ok,Sem.run_pure]
def CallsTo (P:Program) (f:FuncId) (args:Array Value) (B:Nat) (w0:World) (m:Mp) (h:IH) (w:World) (v:Value) (h':IH):Prop :=
 Calls P f args w fun e w' => ∃v' m',e=.returned v'∧VRel m' v v'∧Rel B w0 m' h' w'∧Step m h w m' h' w'
structure Sound (E:Env):Prop where
 mixed:E.P.follows .mixedOrders=true
 names : ∀(f:FuncId) (fn:Func),E.P.funcs[f]?=some fn→fn.body.isSome=true→(fn.name == "runtime.NumGoroutine")=false
 origin : ∀(f:FuncId) (fn:Func),E.P.funcs[f]?=some fn→fn.body=none → ∀{args:List Value} {v:Value},carryI fn.name args=some v→fn.origin=fn.name∨fn.origin = ""
 intrN : ∀f g,E.intr f=some g → ∀args h v h',g args h=some (v,h')→h.n≤h'.n
 intr : ∀f g,E.intr f=some g→(∃fn,E.P.funcs[f]?=some fn∧fn.body.isSome=true) ∧ ∀args h v h',g args h=some (v,h') → ∀(B:Nat) (w0:World) (m:Mp) (w:World) (args':Array Value),
  Rel B w0 m h w→LRel m args args'.toList→Fresh m h.n h'.n→CallsTo E.P f args' B w0 m h w v h'
theorem fget_enterFr : ∀(l:List Value) (i t:Nat),fget (enterFr i l) t=if i≤t then l[t - i]? else none
 | [],i,t=>by simp[enterFr,fget]
 | v :: l,i,t=>by
  simp only[enterFr,fget,cond_eq_ite,beq_iff_eq,fget_enterFr l (i+1) t]
  by_cases h1:i=t
  ·subst h1;simp
  ·by_cases h2:i≤t
   ·rw[if_neg h1,if_pos h2,if_pos (by omega),show t - i=(t - (i+1))+1 from by omega,List.getElem?_cons_succ]
   ·rw[if_neg h1,if_neg h2,if_neg (by omega)]
theorem callFn_n {E:Env} (S:Sound E) {call:CallV} (hmono:CallMono call) {n:Nat} {f:FuncId} {args:List Value} {h h':IH} {v:Value} (hr:callFn E call n f args h=some (v,h')):h.n≤h'.n:=by
 unfold callFn at hr
 split at hr
 ·rename_i g hg;exact S.intrN _ _ hg _ _ _ _ hr
 ·split at hr
  ·cases hr
  ·split at hr
   ·obtain⟨vs,_,e⟩:=Option.map_eq_some_iff.1 hr
    cases e
    exact Nat.le_refl _
   ·simp only[cond_eq_ite] at hr
    split at hr
    ·split at hr
     ·cases hr
     ·rename_i fr1 h1 _ hx
      obtain⟨vs,_,e⟩:=Option.map_eq_some_iff.1 hr
      cases e
      exact evC_n hmono _ _ _ _ _ _ hx
     ·cases hr
    ·cases hr
theorem callFn_sim {E:Env} (S:Sound E) {call:CallV} (hcall:CallSim E.P call) (hmono:CallMono call) {n:Nat} {f:FuncId} {args:List Value} {h h':IH} {v:Value} (hr:callFn E call n f args h=some (v,h'))
  {B:Nat} {w0:World} {m:Mp} {w:World} {args':Array Value} (R:Rel B w0 m h w) (hargs:LRel m args args'.toList) (hfr:Fresh m h.n h'.n) :
  ((∃fn,E.P.funcs[f]?=some fn∧fn.body.isSome=true)∧CallsTo E.P f args' B w0 m h w v h')∨(∃fn,E.P.funcs[f]?=some fn∧fn.body=none∧h'=h∧carryI fn.name args=some v):=by
 unfold callFn at hr
 split at hr
 ·rename_i g hg
  obtain⟨h1,h2⟩:=S.intr f g hg
  exact .inl ⟨h1,h2 args h v h' hr B w0 m w args' R hargs hfr⟩
 ·split at hr
  ·cases hr
  ·rename_i fn hfn
   split at hr
   ·rename_i hbn
    obtain⟨vs,hv,e⟩:=Option.map_eq_some_iff.1 hr
    cases e
    exact .inr ⟨fn,hfn,hbn,rfl,hv⟩
   ·rename_i c hc
    refine .inl ⟨⟨fn,hfn,by rw[hc];rfl⟩,?_⟩
    simp only[cond_eq_ite] at hr
    split at hr
    ·rename_i hlen
     have hlen':args.length≤fn.ntmps:=by simpa using hlen
     have hsz:args'.size=args.length:=by rw[hargs.1];simp
     split at hr
     ·cases hr
     ·rename_i e fr1 h1 hne hx
      obtain⟨vs,hvs,he⟩:=Option.map_eq_some_iff.1 hr
      cases he
      intro cs
      let b:Frame:={ fn:=f,tmps:=#[],todo:=[],defers:=[],mode:=.run,kind:=.normal,roundOf:=none }
      let tmps:Array Value:=args' ++ Array.replicate (fn.ntmps - args'.size) undef
      have hen:Frame.enter E.P f args' .normal=on b tmps [.code c] []:=by
       simp[Frame.enter,hfn,hc,on,b,tmps]
      have htmps:FrRel m (enterFr 0 args) tmps:=by
       intro t u hu
       rw[fget_enterFr] at hu
       simp only[Nat.zero_le,if_true,Nat.sub_zero] at hu
       obtain⟨u',h2,h3⟩:=hargs.get hu
       have h4:args'[t]?=some u':=by simpa using h2
       refine⟨u',?_,h3⟩
       have:=(Array.getElem?_eq_some_iff.1 h4).1
       rw[Array.getElem?_append_left this,h4]
      have htsz:fn.ntmps≤tmps.size:=by simp[tmps];omega
      obtain⟨m1,w1,tmps1,ds1,k1,a1,a2,a3,a4,a5,a6,a7⟩:=sim_code (b:=b) (rd:=none) (z:=w.heap.size) (cs:=cs) hcall hmono S.mixed n c _ _ _ _ _ hx m w tmps [] [] R htmps htsz hfr (.inl ⟨rfl,rfl⟩) (DefOK.nil _ _ _ _) (Nat.le_refl _)
      obtain⟨rs,d1,d2,d3⟩:=a7
      have hleave : ∃todo,step E.P (lone (on b tmps1 k1 ds1) cs w1)=.next (lone { on b tmps1 todo ds1 with mode:=.returning } cs w1):=by
       cases e with
       | normal=>obtain rfl:k1=_:=a2;exact⟨_,stepR_end (b:=b) (a:=⟨tmps1,ds1⟩) rfl⟩
       | exit i=>exact absurd rfl (hne i)
       | ret=>obtain⟨k2,rfl⟩:=a2;exact⟨_,stepR_ret (b:=b) (a:=⟨tmps1,ds1⟩) rfl⟩
      obtain⟨todo,hleave⟩:=hleave
      obtain⟨w2,b1,b2,b3,b4⟩:=unwind_marks (P:=E.P) R.size rs { on b tmps1 todo ds1 with mode:=.returning } cs w1 rfl d1 d2 d3 a5
      obtain⟨v',r1,r2⟩:=results_run b2 a3 hvs
      refine⟨.returned v',w2,{ on b tmps1 todo ds1 with mode:=.returning,defers:=[] },⟨v',m1,rfl,r2,b2,?_⟩,?_,?_,?_⟩
      ·refine⟨a6.le,a6.new,a6.n,a6.base,fun r hr hk=>?_,a6.idle,by rw[b3];exact a6.size,a6.img,a6.idleF⟩
       rw[b4 r (fun hm=>by have:=(d3 r hm).1;omega)]
       exact a6.frame r hr hk
      ·exact(by rw[hen];exact a1.trans (.head hleave b1):Steps E.P (lone (Frame.enter E.P f args' .normal) cs w) _)
      ·rfl
      ·exact⟨rfl,rfl,rfl,fn,hfn,r1⟩
     ·cases hr
    ·cases hr
theorem CallsTo.run {P:Program} {f:FuncId} {args:Array Value} {B:Nat} {w0:World} {m:Mp} {h:IH} {w:World} {v:Value} {h':IH} (H:CallsTo P f args B w0 m h w v h') (c:Frame) (cs:List Frame) :
  ∃v' m' w',VRel m' v v'∧Rel B w0 m' h' w'∧Step m h w m' h' w'∧Steps P (lone (Frame.enter P f args .normal) (c :: cs) w) (lone (c.finish v') cs w'):=by
 obtain⟨e,w',fr,⟨v',m',rfl,h1,h2,h3⟩,hc,_,hl⟩:=H (c :: cs)
 exact⟨v',m',w',h1,h2,h3,Steps.trans hc (.one (step_leave_returned hl))⟩
theorem callFunc_run {P:Program} {f:FuncId} {fn:Func} {args:Array Value} {w:World} (hf:P.funcs[f]?=some fn) (hb:fn.body.isSome=true) (hn:(fn.name == "runtime.NumGoroutine")=false):(callFunc f args).run P w=.ok (.enter f args) w:=by
 have hb':fn.body.isNone=false:=by cases h:fn.body<;>simp_all
 have hp:(program:Sem Program).run P w=.ok P w:=rfl
 simp only[callFunc,Sem.run_bind,hp,Result.andThen_ok,hf,hn,hb']
 rfl
def subEntry:Array Value→Sem Value:=fun args=>do
 let (x,y,b) ←Extern.MathBitsCarry.three "Sub64" args
 pure (Extern.MathBitsCarry.pair ((x+Extern.MathBitsCarry.m64 - y - b) % Extern.MathBitsCarry.m64) (if x<y+b then 1 else 0))
theorem find_add {fn:Func} (h:fn.name = "math/bits.Add64"):Extern.find fn=some add64Entry:=by
 obtain⟨name,origin,params,resultTypes⟩:=fn
 simp only at h;subst h
 kernel_rfl
theorem find_sub {fn:Func} (h:fn.name = "math/bits.Sub64"):Extern.find fn=some subEntry:=by
 obtain⟨name,origin,params,resultTypes⟩:=fn
 simp only at h;subst h
 kernel_rfl
theorem next_add {fn:Func} (h:fn.name = "math/bits.Add64") (ho:fn.origin = "math/bits.Add64" ∨ fn.origin = ""):Extern.findNext fn=none:=by
 obtain⟨name,origin,params,resultTypes⟩:=fn
 simp only at h ho;subst h
 rcases ho with ho|ho<;>subst ho<;>kernel_rfl
theorem next_sub {fn:Func} (h:fn.name = "math/bits.Sub64") (ho:fn.origin = "math/bits.Sub64" ∨ fn.origin = ""):Extern.findNext fn=none:=by
 obtain⟨name,origin,params,resultTypes⟩:=fn
 simp only at h ho;subst h
 rcases ho with ho|ho<;>subst ho<;>kernel_rfl
theorem run_sub64 {P:Program} (x y:Nat) {c:Nat} (hc:c≤1) (w:World) :
  (subEntry #[.int .u64 (x:Int),.int .u64 (y:Int),.int .u64 (c:Int)]).run P w=.ok (.tuple #[.int .u64 (((x+18446744073709551616 - y - c) % 18446744073709551616:Nat):Int),.int .u64 ((if x<y+c then 1 else 0:Nat):Int)]) w:=by
 have:c=0∨c=1:=by omega
 rcases this with rfl|rfl<;>rfl
end Go.Id

namespace Go.Id
open Go Go.RowKit
theorem putParams_rel {m:Mp} {nt:Nat} : ∀(ps:List Nat) (vs:List Value) (vs':List Value) (fr fr':Fr) (tmps:Array Value),putParams nt ps vs fr=some fr'→LRel m vs vs'→FrRel m fr tmps→nt≤tmps.size →
  ps.length=vs.length∧FrRel m fr' ((ps.zip vs').foldl (fun tmps (x:Nat×Value)=>tmps.setIfInBounds x.1 x.2) tmps)∧nt≤((ps.zip vs').foldl (fun tmps (x:Nat×Value)=>tmps.setIfInBounds x.1 x.2) tmps).size
 | [],[],vs',fr,fr',tmps,h,hL,hf,ht=>by
  simp only[putParams] at h;cases h
  exact⟨rfl,hf,ht⟩
 | t :: ps,v :: vs,[],fr,fr',tmps,h,hL,hf,ht=>by have:=hL.1;simp at this
 | t :: ps,v :: vs,v' :: vs',fr,fr',tmps,h,hL,hf,ht=>by
  rw[putParams] at h
  split at h
  ·rename_i fr1 hp
   obtain⟨h1,h2⟩:=fput_rel hp hf ht (hL.2 0 v v' rfl rfl)
   have hL':LRel m vs vs':=⟨by have:=hL.1;simpa using this,fun i x x' a b=>hL.2 (i+1) x x' (by simpa using a) (by simpa using b)⟩
   obtain⟨a,b,c⟩:=putParams_rel ps vs vs' fr1 fr' (tmps.setIfInBounds t v') h hL' h1 h2
   exact⟨by simp[a],b,c⟩
  ·cases h
 | [],_ :: _,_,_,_,_,h,_,_,_=>by simp[putParams] at h
 | _ :: _,[],_,_,_,_,h,_,_,_=>by simp[putParams] at h
theorem LoopRel.busy {m:Mp} {l:ILoop} {l':Loop} (h:LoopRel m l l') (st:LoopState) (p:Option Code):LoopRel m { l with state:=st,pending:=p } { l' with state:=st,pending:=p } :=
 ⟨rfl,rfl,h.fn,h.tmps,h.nt,h.params,h.assign,h.body⟩
theorem LoopRel.state_ {m:Mp} {l:ILoop} {l':Loop} (h:LoopRel m l l') (st:LoopState):LoopRel m { l with state:=st } { l' with state:=st } :=
 ⟨rfl,h.pending,h.fn,h.tmps,h.nt,h.params,h.assign,h.body⟩
structure YieldInv (E:Env) (call:CallV) (n l:Nat) (args:List Value) (h h':IH) (v:Value) where
 r:ILoop
 r1:ILoop
 r2:ILoop
 fr1:Fr
 fr2:Fr
 fr3:Fr
 h1:IH
 h2:IH
 e:IExit
 loop:loopOf h l=some r
 put:putParams r.nt r.params args r.fr=some fr1
 assign:evC E call r.fn r.nt (some l) n r.assign fr1 h=some (.normal,fr2,h1)
 loop1:loopOf h1 l=some r1
 ready:r1.state=.ready
 body:evC E call r.fn r.nt (some l) n r.body fr2 { h1 with ext:=h1.ext.set l (.loop { r1 with state:=.busy }) }=some (e,fr3,h2)
 loop2:loopOf h2 l=some r2
 done:(e=.normal∧v=.bool true∧h' = { h2 with ext:=h2.ext.set l (.loop { r2 with state:=.ready,pending:=none }) }) ∨
  (∃i,e=.exit i∧v=.bool false∧h' = { h2 with ext:=h2.ext.set l (.loop { r2 with state:=.done,pending:=some (.exit i) }) }) ∨
  (e=.ret∧v=.bool false∧h' = { h2 with ext:=h2.ext.set l (.loop { r2 with state:=.done,pending:=some .ret }) })
theorem callYield_inv {E:Env} {call:CallV} {n l:Nat} {args:List Value} {h h':IH} {v:Value} (hr:callYield E call n l args h=some (v,h')):Nonempty (YieldInv E call n l args h h' v):=by
 unfold callYield at hr
 split at hr
 ·cases hr
 ·rename_i r hl
  split at hr
  ·cases hr
  ·rename_i fr1 hp
   split at hr
   ·rename_i fr2 h1 hx
    split at hr
    ·cases hr
    ·rename_i r1 hl1
     simp only[cond_eq_ite,beq_iff_eq] at hr
     split at hr
     ·rename_i hst
      split at hr
      ·cases hr
      ·rename_i e fr3 h2 hy
       split at hr
       ·cases hr
       ·rename_i r2 hl2
        split at hr<;>cases hr
        ·exact⟨⟨r,r1,r2,fr1,fr2,fr3,h1,h2,_,hl,hp,hx,hl1,hst,hy,hl2,.inl ⟨rfl,rfl,rfl⟩⟩⟩
        ·exact⟨⟨r,r1,r2,fr1,fr2,fr3,h1,h2,_,hl,hp,hx,hl1,hst,hy,hl2,.inr (.inl ⟨_,rfl,rfl,rfl⟩)⟩⟩
        ·exact⟨⟨r,r1,r2,fr1,fr2,fr3,h1,h2,_,hl,hp,hx,hl1,hst,hy,hl2,.inr (.inr ⟨rfl,rfl,rfl⟩)⟩⟩
     ·cases hr
   ·cases hr
theorem callYield_n {E:Env} {call:CallV} (hmono:CallMono call) {n l:Nat} {args:List Value} {h h':IH} {v:Value} (hr:callYield E call n l args h=some (v,h')):h.n≤h'.n:=by
 obtain⟨Y⟩:=callYield_inv hr
 have n1:=evC_n hmono _ _ _ _ _ _ Y.assign
 have n2:=evC_n hmono _ _ _ _ _ _ Y.body
 have n3:h'.n=Y.h2.n:=by rcases Y.done with⟨_,_,e⟩|⟨_,_,_,e⟩|⟨_,_,e⟩<;>exact(congrArg IH.n e).trans rfl
 rw[n3]
 exact Nat.le_trans n1 n2
theorem callYield_sim {E:Env} (S:Sound E) {call:CallV} (hcall:CallSim E.P call) (hmono:CallMono call) {n l:Nat} {args:List Value} {h h':IH} {v:Value} (hr:callYield E call n l args h=some (v,h'))
  {B:Nat} {w0:World} {m:Mp} {w:World} {args':Array Value} (R:Rel B w0 m h w) (hargs:LRel m args args'.toList) (hfr:Fresh m h.n h'.n) {r0 s0:Nat} (hm:m (2*l)=some (r0,s0)) :
  ∃f ts a c,(Instr.yield r0 args').run E.P w=.ok (.round r0 f ts a c) w ∧
   ∀(c0:Frame) (cs:List Frame),∃v' m' w',VRel m' v v'∧Rel B w0 m' h' w'∧Step m h w m' h' w'∧Steps E.P (lone (Frame.round r0 f ts a c .normal) (c0 :: cs) w) (lone (c0.finish v') cs w'):=by
 obtain⟨Y⟩:=callYield_inv hr
 have n1:=evC_n hmono _ _ _ _ _ _ Y.assign
 have n2:=evC_n hmono _ _ _ _ _ _ Y.body
 have n3:h'.n=Y.h2.n:=by rcases Y.done with⟨_,_,e⟩|⟨_,_,_,e⟩|⟨_,_,e⟩<;>exact(congrArg IH.n e).trans rfl
 obtain⟨_,L,hL,hrel⟩:=R.obj _ _ _ _ (loopOf_get Y.loop) hm
 obtain⟨p1,p2,p3⟩:=putParams_rel Y.r.params args args'.toList Y.r.fr Y.fr1 L.tmps Y.put hargs hrel.tmps hrel.nt
 have hsz:args'.size=L.params.size:=by
  have h1:L.params.size=Y.r.params.length:=by rw[←hrel.params];simp
  have h2:=hargs.1
  simp at h2
  omega
 have htm:(L.params.zip args').foldl (fun tmps (x:Tmp×Value)=>tmps.setIfInBounds x.1 x.2) L.tmps=(Y.r.params.zip args'.toList).foldl (fun tmps (x:Nat×Value)=>tmps.setIfInBounds x.1 x.2) L.tmps:=by
  rw[←Array.foldl_toList,Array.toList_zip,hrel.params]
 rw[←htm] at p2 p3
 refine⟨_,_,_,_,run_yield hL hsz,fun c0 cs=>?_⟩
 let b:Frame:={ fn:=L.fn,tmps:=#[],todo:=[],defers:=[],mode:=.run,kind:=.normal,roundOf:=some r0 }
 have hb:b.fn=Y.r.fn:=hrel.fn
 have hx:=Y.assign
 rw[←hb] at hx
 obtain⟨m1,w1,tmps1,ds1,k1,a1,a2,a3,a4,a5,a6,a7⟩:=sim_code (b:=b) (rd:=some l) (z:=w.heap.size) (cs:=c0 :: cs) hcall hmono S.mixed n Y.r.assign _ _ _ _ _ hx m w _ [.beginRound,.code Y.r.body] [] R p2 p3 (hfr.sub (Nat.le_refl _) (by rw[n3];exact n2)) (.inr ⟨l,r0,s0,rfl,rfl,hm⟩) (DefOK.nil _ _ _ _) (Nat.le_refl _)
 obtain rfl:k1=_:=a2
 have hm1:=(a6.le _ _ hm).1
 obtain⟨hs0,L1,hL1,hrel1⟩:=a5.obj _ _ _ _ (loopOf_get Y.loop1) hm1
 obtain⟨Rb,Sb⟩:=a5.setObj (o1:=.loop { Y.r1 with state:=.busy }) (o':=.loop { L1 with state:=.busy }) (loopOf_get Y.loop1) rfl rfl hm1 rfl (fun w' z e=>⟨hs0,_,e,hrel1.state_ .busy⟩)
 have hbeg:(Instr.beginRound r0).run E.P w1=.ok () (w1.putObj r0 (.loop { L1 with state:=.busy })):=run_beginRound hL1 (by rw[hrel1.state];exact Y.ready)
 have st1:step E.P (lone (on b tmps1 (.beginRound :: [.code Y.r.body]) ds1) (c0 :: cs) w1)=.next (lone (on b tmps1 [.code Y.r.body] ds1) (c0 :: cs) (w1.putObj r0 (.loop { L1 with state:=.busy }))) :=
  stepR_beginRound (b:=b) (a:=⟨tmps1,ds1⟩) rfl hbeg
 have hy:=Y.body
 rw[←hb] at hy
 have S1b:=a6.trans Sb
 obtain⟨m2,w2,tmps2,ds2,k2,b1,b2,b3,b4,b5,b6,b7⟩:=sim_code (b:=b) (rd:=some l) (z:=w.heap.size) (cs:=c0 :: cs) hcall hmono S.mixed n Y.r.body _ _ _ _ _ hy m1 _ tmps1 [] ds1 Rb a3 a4 ((S1b.fresh hfr).sub (Nat.le_refl _) (by rw[n3];exact Nat.le_refl _)) (.inr ⟨l,r0,s0,rfl,rfl,hm1⟩) (a7.step Sb) (Nat.le_trans a6.size Sb.size)
 have hm2:=(b6.le _ _ hm1).1
 obtain⟨_,L2,hL2,hrel2⟩:=b5.obj _ _ _ _ (loopOf_get Y.loop2) hm2
 have start:lone (Frame.round r0 L.fn ((L.params.zip args').foldl (fun tmps (x:Tmp×Value)=>tmps.setIfInBounds x.1 x.2) L.tmps) L.assign L.body .normal) (c0 :: cs) w =
   lone (on b ((L.params.zip args').foldl (fun tmps (x:Tmp×Value)=>tmps.setIfInBounds x.1 x.2) L.tmps) (.code Y.r.assign :: [.beginRound,.code Y.r.body]) []) (c0 :: cs) w:=by
  rw[hrel.assign,hrel.body];rfl
 have path:=a1.trans (.head st1 b1)
 have fin : ∀(e:IExit) (u:Value) (st:LoopState) (jump:Option Code),h' = { Y.h2 with ext:=Y.h2.ext.set l (.loop { Y.r2 with state:=st,pending:=jump }) }→u=.bool jump.isNone→v=u →
   (st=if jump.isNone then .ready else .done) →
   step E.P (lone (on b tmps2 k2 ds2) (c0 :: cs) w2)=.next (lone (c0.finish u) cs (w2.putObj r0 (.loop { L2 with state:=if jump.isNone then .ready else .done,pending:=jump }))) →
   ∃v' m' w',VRel m' v v'∧Rel B w0 m' h' w'∧Step m h w m' h' w'∧Steps E.P (lone (Frame.round r0 L.fn ((L.params.zip args').foldl (fun tmps (x:Tmp×Value)=>tmps.setIfInBounds x.1 x.2) L.tmps) L.assign L.body .normal) (c0 :: cs) w) (lone (c0.finish v') cs w'):=by
  intro e u st jump e1 e2 e3 e4 hst
  obtain⟨R3,S3⟩:=b5.setObj (o1:=.loop { Y.r2 with state:=st,pending:=jump }) (o':=.loop { L2 with state:=st,pending:=jump }) (loopOf_get Y.loop2) rfl rfl hm2 rfl (fun w' z e=>⟨hs0,_,e,hrel2.busy st jump⟩)
  refine⟨u,m2,_,by rw[e3,e2];exact .scal rfl,by rw[e1];exact R3,by rw[e1];exact(S1b.trans b6).trans S3,?_⟩
  rw[start]
  rw[←e4] at hst
  exact path.trans (.one hst)
 rcases Y.done with⟨e1,e2,e3⟩|⟨i,e1,e2,e3⟩|⟨e1,e2,e3⟩
 ·rw[e1] at b2
  obtain rfl:k2=_:=b2
  exact fin .normal (.bool true) .ready none e3 rfl e2 rfl (stepR_round_end (b:=b) (a:=⟨tmps2,ds2⟩) rfl rfl (run_endRound none hL2))
 ·rw[e1] at b2
  obtain⟨k3,rfl,hk3⟩:=b2
  exact fin (.exit i) (.bool false) .done (some (.exit i)) e3 rfl e2 rfl (stepR_round_exit (b:=b) (a:=⟨tmps2,ds2⟩) rfl rfl (by rw[hk3];rfl) (run_endRound (some (.exit i)) hL2))
 ·rw[e1] at b2
  obtain⟨k3,rfl⟩:=b2
  exact fin .ret (.bool false) .done (some .ret) e3 rfl e2 rfl (stepR_round_ret (b:=b) (a:=⟨tmps2,ds2⟩) rfl rfl (run_endRound (some .ret) hL2))
theorem carry_sim {P:Program} {f:FuncId} {fn:Func} (hf:P.funcs[f]?=some fn) (hb:fn.body=none) (ho:fn.origin=fn.name∨fn.origin = "") {args:List Value} {v:Value} (hc:carryI fn.name args=some v) {m:Mp} {args':Array Value} (hargs:LRel m args args'.toList) (w:World) :
  ∃v',(callFunc f args').run P w=.ok (.value v') w∧VRel m v v' ∧ ∀a∈args'.toList,∃k n,a=Value.int k n:=by
 unfold carryI at hc
 split at hc
 case h_2=>cases hc
 rename_i x y c
 simp only[cond_eq_ite] at hc
 split at hc
 case isFalse=>cases hc
 rename_i hle
 have hle':c≤1:=by simpa using hle
 obtain⟨a0,b0,r0⟩:=hargs.get (i:=0) rfl
 obtain⟨a1,b1,r1⟩:=hargs.get (i:=1) rfl
 obtain⟨a2,b2,r2⟩:=hargs.get (i:=2) rfl
 have e0:=r0.scal_eq rfl
 have e1:=r1.scal_eq rfl
 have e2:=r2.scal_eq rfl
 subst e0;subst e1;subst e2
 have hl:args'.toList = [.int .u64 (.ofNat x),.int .u64 (.ofNat y),.int .u64 (.ofNat c)]:=by
  have h1:=hargs.1
  apply List.ext_getElem?
  intro i
  match i with
  | 0=>exact b0
  | 1=>exact b1
  | 2=>exact b2
  | i+3=>rw[List.getElem?_eq_none (by simp at h1 ⊢;omega),List.getElem?_eq_none (by simp)]
 have ha:args' = #[.int .u64 (.ofNat x),.int .u64 (.ofNat y),.int .u64 (.ofNat c)]:=by rw[←Array.toArray_toList (xs:=args'),hl]
 have hint : ∀a∈args'.toList,∃k n,a=Value.int k n:=by
  rw[hl]
  intro a h
  simp only[List.mem_cons,List.not_mem_nil,or_false] at h
  rcases h with rfl|rfl|rfl<;>exact⟨_,_,rfl⟩
 split at hc
 ·rename_i hn
  have hn:fn.name = "math/bits.Add64" := by simpa using hn
  cases hc
  refine⟨_,?_,VRel.tuple_iff (cs:=#[.int .u64 _,.int .u64 _]) (cs':=#[.int .u64 _,.int .u64 _]) (.cons (.scal rfl) (.cons (.scal rfl) (.nil _))),hint⟩
  rw[run_callFunc_extern hf (by rw[hn];decide +kernel) (by rw[hb];rfl) (next_add hn (ho.imp (fun e=>by rw[e,hn]) id)) (find_add hn),ha,run_add64 _ _ _ (by exact Int.natCast_nonneg _) (by exact Int.natCast_nonneg _) (by exact Int.natCast_nonneg _) (by exact Int.ofNat_le.2 hle')]
  simp only[Result.andThen_ok]
  rfl
 ·split at hc
  ·rename_i hn
   have hn:fn.name = "math/bits.Sub64" := by simpa using hn
   cases hc
   refine⟨_,?_,VRel.tuple_iff (cs:=#[.int .u64 _,.int .u64 _]) (cs':=#[.int .u64 _,.int .u64 _]) (.cons (.scal rfl) (.cons (.scal rfl) (.nil _))),hint⟩
   rw[run_callFunc_extern hf (by rw[hn];decide +kernel) (by rw[hb];rfl) (next_sub hn (ho.imp (fun e=>by rw[e,hn]) id)) (find_sub hn),ha]
   show((subEntry #[.int .u64 (x:Int),.int .u64 (y:Int),.int .u64 (c:Int)]).run P w).andThen _=_
   rw[run_sub64 x y hle']
   simp only[Result.andThen_ok]
   congr 4
   by_cases hlt:x<y+c
   ·simp[hlt]
   ·simp[hlt]
  ·cases hc
theorem callV_mono {E:Env} (S:Sound E) : ∀n,CallMono (callV E n)
 | 0=>fun fv vs h h' v hr=>by simp[callV] at hr
 | n+1=>fun fv vs h h' v hr=>by
  unfold callV at hr
  split at hr
  ·exact callFn_n S (callV_mono S n) hr
  ·simp only[cond_eq_ite] at hr
   split at hr
   ·exact callYield_n (callV_mono S n) hr
   ·cases hr
  ·cases hr
theorem callV_sim {E:Env} (S:Sound E) : ∀n,CallSim E.P (callV E n)
 | 0=>fun fv vs h h' v hr=>by simp[callV] at hr
 | n+1=>fun fv vs h h' v hr B w0 m w fv' vs' R hfv hvs hfr=>by
  unfold callV at hr
  split at hr
  ·rename_i f first cap
   obtain⟨fn',first',cap',rfl,hfn,h1,h2⟩:=hfv.func_inv
   cases fn'<;>simp only[FnRel] at hfn
   subst hfn
   have hargs:LRel m (first.toList ++ (vs ++ cap.toList)) (first' ++ vs' ++ cap').toList:=by
    rw[Array.toList_append,Array.toList_append,List.append_assoc]
    exact h1.append (hvs.append h2)
   rcases callFn_sim S (callV_sim S n) (callV_mono S n) hr R hargs hfr with⟨⟨fn,hf,hb⟩,hC⟩|⟨fn,hf,hb,rfl,hcv⟩
   case inr =>
    obtain⟨v',e1,e2,e3⟩:=carry_sim hf hb (S.origin f fn hf hb hcv) hcv hargs w
    refine⟨.value v',?_,.inl ⟨v',rfl,rfl,e2,fun a ha=>e3 a (by rw[Array.toList_append,Array.toList_append];simp[ha])⟩⟩
    simp only[Deferred.ofValue,Sem.run_bind,Sem.run_pure,Result.andThen_ok,invoke]
    exact e1
   refine⟨.enter f (first' ++ vs' ++ cap'),?_,.inr ⟨_,.inl ⟨_,_,rfl,rfl⟩,fun c cs=>hC.run c cs⟩⟩
   simp only[Deferred.ofValue,Sem.run_bind,Sem.run_pure,Result.andThen_ok,invoke]
   exact callFunc_run hf hb (S.names f fn hf hb)
  ·rename_i l first cap
   simp only[cond_eq_ite,beq_iff_eq] at hr
   split at hr
   ·rename_i hev
    obtain⟨fn',first',cap',rfl,hfn,h1,h2⟩:=hfv.func_inv
    cases fn'<;>simp only[FnRel] at hfn
    obtain⟨s,hm⟩:=hfn
    have hl:2*(l / 2)=l:=by omega
    rw[←hl] at hm
    have hargs:LRel m (first.toList ++ vs) (first' ++ vs').toList:=by
     rw[Array.toList_append]
     exact h1.append hvs
    obtain⟨f,ts,a,c,hy,hrun⟩:=callYield_sim S (callV_sim S n) (callV_mono S n) hr R hargs hfr hm
    refine⟨_,?_,.inr ⟨_,.inr ⟨_,f,ts,a,c,rfl,rfl⟩,hrun⟩⟩
    simp only[Deferred.ofValue,Sem.run_bind,Sem.run_pure,Result.andThen_ok,invoke]
    exact hy
   ·cases hr
  ·cases hr
end Go.Id

namespace Go.Id
open Go Go.RowKit
def IH.start (base:Nat→Option (List Value)):IH:={ base,n:=0,ext:=.leaf,fams:=.leaf }
def Mp.startOf (A:Nat→Nat×Nat):Mp:=⟨fun b=>if b % 2=1 then some (if b / 2<4294967296 then (b / 2,0) else A (b / 2 - 4294967296)) else none,fun _=>(0,0)⟩
theorem Mp.startOf_low (A:Nat→Nat×Nat) {b:Nat} (h:b<4294967296):Mp.startOf A (2*b+1)=some (b,0):=by
 show(if (2*b+1) % 2=1 then some (if (2*b+1) / 2<4294967296 then ((2*b+1) / 2,0) else A ((2*b+1) / 2 - 4294967296)) else none)=some (b,0)
 rw[if_pos (by omega),if_pos (by omega),show(2*b+1) / 2=b from by omega]
theorem Mp.startOf_high (A:Nat→Nat×Nat) (i:Nat):Mp.startOf A (2*(4294967296+i)+1)=some (A i):=by
 show(if (2*(4294967296+i)+1) % 2=1 then some (if (2*(4294967296+i)+1) / 2<4294967296 then ((2*(4294967296+i)+1) / 2,0) else A ((2*(4294967296+i)+1) / 2 - 4294967296)) else none)=some (A i)
 rw[if_pos (by omega),if_neg (by omega),show(2*(4294967296+i)+1) / 2 - 4294967296=i from by omega]
theorem Mp.startOf_even (A:Nat→Nat×Nat) (k:Nat):Mp.startOf A (2*k)=none:=by
 show(if (2*k) % 2=1 then _ else none)=none
 rw[if_neg (by omega)]
def BaseOK (A:Nat→Nat×Nat) (base:Nat→Option (List Value)) (w:World):Prop:=∀b cs,base b=some cs → ∃r s,Mp.startOf A (2*b+1)=some (r,s) ∧ ∃c el fz,w.heap[r]?=some (.cells c el fz)∧RowAt (Mp.startOf A) cs c s
theorem Rel.start {A:Nat→Nat×Nat} {base:Nat→Option (List Value)} {w:World} (hb:BaseOK A base w):Rel w.heap.size w (Mp.startOf A) (IH.start base) w:=by
 have leaf : ∀{α:Type} (k:Nat),(Tr.leaf:Tr α).get k=none:=fun k=>rfl
 refine⟨Below.refl _ _,Nat.le_refl _,?_,fun b h=>Mp.startOf_low A h,?_,fun k _=>leaf k,?_,?_,?_,?_,?_,?_⟩
 ·intro b cs h
  obtain⟨r,s,h0,c,el,fz,h1,h2⟩:=hb b cs h
  exact⟨r,s,h0,(Array.getElem?_eq_some_iff.1 h1).1,c,el,fz,h1,h2⟩
 ·intro k r s h
  rw[Mp.startOf_even] at h;cases h
 ·intro k o r s h;cases h
 ·intro k k' o o' r s s' _ h;cases h
 ·intro f st h;cases h
 ·intro k cs t f h;cases h
 ·intro f st h;cases h
 ·intro f st x y h;cases h
theorem keptBut_of_below {w w':World} (h:Below w.heap.size w w') (may:MemPlace→Prop):w.keptBut w' may:=by
 refine⟨h.os,h.output,fun i hi=>?_⟩
 rw[h.block i hi]
 cases hx:w.heap[i]? with
 | none=>rfl
 | some o =>
  cases o with
  | cells c t fr=>exact⟨rfl,rfl,rfl,fun _ _=>rfl⟩
  | map es cl=>exact .inr ⟨rfl,rfl⟩
  | _=>rfl
theorem post_of_below {H:Type} {enc:TypeId×Value→H} {P:Program} {f:Func} {s:ChangeSpec} {apart fresh handsOn:Bool} {W W':World} {args:Array Value} {v:Value} {ds gs:List (DataW H)} {before pa pv:List MemPlace}
  (hW:DataW.Whole enc P f.params.toList s.vars apart W args.toList ds gs before)
  (hres : ∀(b:Nat) (sp:Nat→Bool) (hd:Bool),DataW.TrodAll enc P W' b sp hd f.resultTypes.toList (v.resultList f.resultTypes.size) (s.fn H (ds ++ gs)).results [])
  (hargs : ∀sp:Nat→Bool,(∀p∈before,sp p.block=true)→DataW.TrodAll enc P W' 0 sp true f.params.toList args.toList (s.fn H (ds ++ gs)).args pa)
  (hvars : ∀sp:Nat→Bool,(∀p∈before,sp p.block=true)→DataW.TrodVars enc P W' sp s.vars (s.fn H (ds ++ gs)).vars pv)
  (hk:Below W.heap.size W W'):s.post enc P f apart fresh handsOn false W args v W':=by
 have hold : ∀p∈before,(fun b=>decide (b<W.heap.size)) p.block=true:=fun p hp=>by simpa using hW.lt p hp
 exact⟨ds,gs,before,[],pa,pv,hW,hres _ _ _,hargs _ hold,hvars _ hold,keptBut_of_below hk _,fun h=>by cases h⟩
end Go.Id
