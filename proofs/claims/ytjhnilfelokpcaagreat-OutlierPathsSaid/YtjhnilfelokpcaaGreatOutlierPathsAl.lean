/-
  The ideal machine: calls, on the model's machine. The ideal machine: rounds of loops over functions; all calls. What the whole layer is for: 'ideal_calls'.
-/
import Derived.Test.YtjhnilfelokpcaaGreatOutlierPathsAk
import Derived.Laws.Externs
import Derived.KernelRfl
import Derived.RowKit3
set_option linter.unusedVariables false
set_option linter.unusedSimpArgs false
set_option linter.defProp false
set_option linter.deprecated false
namespace Go.Id
open Go Go.RowKit
theorem oA {P:Program} {B:Nat} {w0:World} {m:Mp} {h:IH} {z:Nat} (hB:B≤z) : ∀(rs:List Nat) (fr:Frame) (cs:List Frame) (w:World),fr.mode=.returning→fr.defers=rs.map nh→rs.Nodup →
  (∀r∈rs,z≤r∧w.heap[r]?=some (.deferred (some [])) ∧ ∀k s,k<h.n→m (2*k)≠some (r,s))→Rel B w0 m h w →
  ∃w',Steps P (lone fr cs w) (lone { fr with defers:=[] } cs w')∧Rel B w0 m h w'∧w'.heap.size=w.heap.size ∧ ∀r,r∉rs→w'.heap[r]?=w.heap[r]?
 | [],fr,cs,w,hm,hd,_,_,R=>by
  have:({ fr with defers:=[] }:Frame)=fr:=by cases fr;simp at hd;subst hd;rfl
  exact⟨w,by rw[this];exact .refl _ _,R,rfl,fun _ _=>rfl⟩
 | r :: rs,fr,cs,w,hm,hd,hn,hr,R=>by
  obtain⟨a1,a2,a3⟩:=hr r (by simp)
  have hst:=step_collected (P:=P) (fr:=fr) (cs:=cs) (d:=nh r) (r:=r) (ds:=rs.map nh) (by rw[hm];simp) (by rw[hd];rfl) rfl (run_takeDeferred a2)
  have Ds : ∀r',r'≠r→(w.putObj r (.deferred none)).heap[r']?=w.heap[r']?:=fun r' h'=>World.putObj_heap_other h'
  have R1:Rel B w0 m h (w.putObj r (.deferred none)):=by
   refine R.ae (rq R.below (by omega) _) (by simp) ?_
   rintro r' (h1|⟨k,s,h1,h2⟩)
   ·exact Ds r' (by omega)
   ·exact Ds r' (by rintro rfl;exact a3 k s h1 h2)
  obtain⟨w',b1,b2,b3,b4⟩:=oA hB rs { fr with defers:=[] ++ rs.map nh } cs (w.putObj r (.deferred none)) hm rfl (List.nodup_cons.1 hn).2 (fun r' h'=>by
   obtain⟨c1,c2,c3⟩:=hr r' (by simp[h'])
   exact⟨c1,by rw[Ds r' (by rintro rfl;exact(List.nodup_cons.1 hn).1 h')];exact c2,c3⟩) R1
  refine⟨w',.head hst b1,b2,by rw[b3];simp,fun r' h'=>?_⟩
  rw[b4 r' (fun h=>h' (by simp[h])),Ds r' (fun h=>h' (by simp[h]))]
def yU (tmps:Array Value):ResultVar→Sem Value
 | .tmp t=>pure (tmps.getD t undef)
 | .cell a t=>do loadVar t (←Go.asAddr (tmps.getD a undef))
theorem Hq (fn:Func) (tmps:Array Value):results fn tmps=(do let vs ←fn.results.mapM (yU tmps);pure (if h:vs.size=1 then vs[0] else .tuple vs)):=by
 unfold results
 congr 1
theorem CV {P:Program} {B:Nat} {w0:World} {m:Mp} {h:IH} {w:World} (R:Rel B w0 m h w) {fr:Fr} {tmps:Array Value} (hf:dF m fr tmps) {rv:ResultVar} {v:Value} (hr:gE P fr h rv=some v) :
  ∃v',(yU tmps rv).run P w=.ok v' w∧aC m v v':=by
 cases rv with
 | tmp t =>
  obtain⟨v',h1,h2⟩:=hf t v hr
  exact⟨v',by simp[yU,Array.getD_eq_getD_getElem?,h1,Sem.run_pure],h2⟩
 | cell a t =>
  simp only[gE] at hr
  split at hr
  ·rename_i va hva
   obtain⟨va',h1,h2⟩:=hf a va hva
   obtain⟨v',h3,h4⟩:=R.load hr h2
   refine⟨v',?_,h4⟩
   have hp : ∃b o,va=.pointer (some ⟨b,o,none⟩):=by
    unfold Id.load at hr
    cases hA:Id.asAddr va with
    | none=>simp[hA] at hr
    | some bo=>unfold Id.asAddr at hA;split at hA<;>simp_all
   obtain⟨b,o,rfl⟩:=hp
   obtain⟨r,s,_,rfl⟩:=h2.jU
   simp only[yU,Array.getD_eq_getD_getElem?,h1,Option.getD_some]
   simpa [Instr.loadAt,Instr.sureAddr,Go.asAddr,Sem.run_bind,Sem.run_pure] using h3
  ·cases hr
theorem rN {P:Program} {B:Nat} {w0:World} {m:Mp} {h:IH} {w:World} (R:Rel B w0 m h w) {fr:Fr} {tmps:Array Value} (hf:dF m fr tmps) : ∀(l:List ResultVar) (vs:List Value),bg P fr h l=some vs →
  ∃vs',(l.mapM (yU tmps)).run P w=.ok vs' w∧bz m vs vs'
 | [],vs,hr=>by simp only[bg] at hr;cases hr;exact⟨[],by simp[Sem.run_pure],.nil m⟩
 | rv :: l,vs,hr=>by
  rw[bg] at hr
  split at hr
  ·rename_i v vs1 h1 h2
   cases hr
   obtain⟨v',a1,a2⟩:=CV R hf h1
   obtain⟨vs',b1,b2⟩:=rN R hf l vs1 h2
   refine⟨v' :: vs',?_,.cons a2 b2⟩
   rw[List.mapM_cons]
   simp only[Sem.run_bind,Sem.run_pure]
   rw[a1]
   simp only[Result.andThen_ok]
   rw[b1]
   simp only[Result.andThen_ok]
  ·cases hr
theorem Hg {m:Mp} {vs vs':List Value} (h:bz m vs vs'):aC m (single vs) (if h:vs'.toArray.size=1 then vs'.toArray[0] else .tuple vs'.toArray):=by
 have hl:=h.1
 match vs,vs',h,hl with
 | [],[],h,_=>exact aC.fu h
 | [v],[v'],h,_=>exact h.2 0 v v' rfl rfl
 | v :: u :: vs,v' :: u' :: vs',h,_ =>
  have : ¬(v' :: u' :: vs').toArray.size=1:=by simp
  rw[dif_neg this]
  exact aC.fu h
theorem wH {P:Program} {B:Nat} {w0:World} {m:Mp} {h:IH} {w:World} (R:Rel B w0 m h w) {fr:Fr} {tmps:Array Value} (hf:dF m fr tmps) {fn:Func} {vs:List Value} (hr:bg P fr h fn.results.toList=some vs) :
  ∃v',(results fn tmps).run P w=.ok v' w∧aC m (single vs) v':=by
 obtain⟨vs',h1,h2⟩:=rN R hf _ _ hr
 refine⟨_,?_,Hg h2⟩
 rw[Hq,Sem.run_bind,Array.mapM_eq_mapM_toList,map_eq_pure_bind,Sem.run_bind,h1]
 simp only[Result.andThen_ok,Sem.run_pure]
def j5 (P:Program) (f:FuncId) (args:Array Value) (B:Nat) (w0:World) (m:Mp) (h:IH) (w:World) (v:Value) (h':IH):Prop :=
 Calls P f args w fun e w' => ∃v' m',e=.returned v'∧aC m' v v'∧Rel B w0 m' h' w'∧Step m h w m' h' w'
structure Sound (E:Env):Prop where
 mixed:E.P.follows .mixedOrders=true
 names : ∀(f:FuncId) (fn:Func),E.P.funcs[f]?=some fn→fn.body.isSome=true→(fn.name == "runtime.NumGoroutine")=false
 origin : ∀(f:FuncId) (fn:Func),E.P.funcs[f]?=some fn→fn.body=none → ∀{args:List Value} {v:Value},mu fn.name args=some v→fn.origin=fn.name∨fn.origin = ""
 FZ : ∀f g,E.rE f=some g → ∀args h v h',g args h=some (v,h')→h.n≤h'.n
 rE : ∀f g,E.rE f=some g→(∃fn,E.P.funcs[f]?=some fn∧fn.body.isSome=true) ∧ ∀args h v h',g args h=some (v,h') → ∀(B:Nat) (w0:World) (m:Mp) (w:World) (args':Array Value),
  Rel B w0 m h w→bz m args args'.toList→dX m h.n h'.n→j5 E.P f args' B w0 m h w v h'
theorem oX : ∀(l:List Value) (i t:Nat),ai (dC i l) t=if i≤t then l[t - i]? else none
 | [],i,t=>by simp[dC,ai]
 | v :: l,i,t=>by
  simp only[dC,ai,cond_eq_ite,beq_iff_eq,oX l (i+1) t]
  by_cases h1:i=t
  ·subst h1;simp
  ·by_cases h2:i≤t
   ·rw[if_neg h1,if_pos h2,if_pos (by omega),show t - i=(t - (i+1))+1 from by omega,List.getElem?_cons_succ]
   ·rw[if_neg h1,if_neg h2,if_neg (by omega)]
theorem QT {E:Env} (S:Sound E) {call:bd} (cI:dw call) {n:Nat} {f:FuncId} {args:List Value} {h h':IH} {v:Value} (hr:nk E call n f args h=some (v,h')):h.n≤h'.n:=by
 unfold nk at hr
 split at hr
 ·rename_i g hg;exact S.FZ _ _ hg _ _ _ _ hr
 ·split at hr
  ·cases hr
  ·split at hr
   ·obtain⟨vs,_,e⟩:=Option.map_eq_some_iff.1 hr
    cases e
    exact Nat.le_refl _
   ·simp only[cond_eq_ite] at hr
    split at hr
    ·split at hr
     ·cases hr
     ·rename_i fr1 h1 _ hx
      obtain⟨vs,_,e⟩:=Option.map_eq_some_iff.1 hr
      cases e
      exact rT cI _ _ _ _ _ _ hx
     ·cases hr
    ·cases hr
theorem tv {E:Env} (S:Sound E) {call:bd} (fD:j6 E.P call) (cI:dw call) {n:Nat} {f:FuncId} {args:List Value} {h h':IH} {v:Value} (hr:nk E call n f args h=some (v,h'))
  {B:Nat} {w0:World} {m:Mp} {w:World} {args':Array Value} (R:Rel B w0 m h w) (fS:bz m args args'.toList) (hfr:dX m h.n h'.n) :
  ((∃fn,E.P.funcs[f]?=some fn∧fn.body.isSome=true)∧j5 E.P f args' B w0 m h w v h')∨(∃fn,E.P.funcs[f]?=some fn∧fn.body=none∧h'=h∧mu fn.name args=some v):=by
 unfold nk at hr
 split at hr
 ·rename_i g hg
  obtain⟨h1,h2⟩:=S.rE f g hg
  exact .inl ⟨h1,h2 args h v h' hr B w0 m w args' R fS hfr⟩
 ·split at hr
  ·cases hr
  ·rename_i fn hfn
   split at hr
   ·rename_i hbn
    obtain⟨vs,hv,e⟩:=Option.map_eq_some_iff.1 hr
    cases e
    exact .inr ⟨fn,hfn,hbn,rfl,hv⟩
   ·rename_i c hc
    refine .inl ⟨⟨fn,hfn,by rw[hc];rfl⟩,?_⟩
    simp only[cond_eq_ite] at hr
    split at hr
    ·rename_i hlen
     have J9:args.length≤fn.ntmps:=by simpa using hlen
     have hsz:args'.size=args.length:=by rw[fS.1];simp
     split at hr
     ·cases hr
     ·rename_i e fr1 h1 hne hx
      obtain⟨vs,hvs,he⟩:=Option.map_eq_some_iff.1 hr
      cases he
      intro cs
      let b:Frame:={ fn:=f,tmps:=#[],todo:=[],defers:=[],mode:=.run,kind:=.normal,roundOf:=none }
      let tmps:Array Value:=args' ++ Array.replicate (fn.ntmps - args'.size) undef
      have hen:Frame.enter E.P f args' .normal=on b tmps [.code c] []:=by
       simp[Frame.enter,hfn,hc,on,b,tmps]
      have PH:dF m (dC 0 args) tmps:=by
       intro t u hu
       rw[oX] at hu
       simp only[Nat.zero_le,if_true,Nat.sub_zero] at hu
       obtain⟨u',h2,h3⟩:=fS.get hu
       have h4:args'[t]?=some u':=by simpa using h2
       refine⟨u',?_,h3⟩
       have:=(Array.getElem?_eq_some_iff.1 h4).1
       rw[Array.getElem?_append_left this,h4]
      have Vk:fn.ntmps≤tmps.size:=by simp[tmps];omega
      obtain⟨m1,w1,cH,ds1,k1,a1,a2,a3,a4,a5,a6,a7⟩:=tS (b:=b) (rd:=none) (z:=w.heap.size) (cs:=cs) fD cI S.mixed n c _ _ _ _ _ hx m w tmps [] [] R PH Vk hfr (.inl ⟨rfl,rfl⟩) (kG.nil _ _ _ _) (Nat.le_refl _)
      obtain⟨rs,d1,d2,d3⟩:=a7
      have tf : ∃todo,step E.P (lone (on b cH k1 ds1) cs w1)=.next (lone { on b cH todo ds1 with mode:=.returning } cs w1):=by
       cases e with
       | normal=>obtain rfl:k1=_:=a2;exact⟨_,stepR_end (b:=b) (a:=⟨cH,ds1⟩) rfl⟩
       | exit i=>exact absurd rfl (hne i)
       | ret=>obtain⟨k2,rfl⟩:=a2;exact⟨_,stepR_ret (b:=b) (a:=⟨cH,ds1⟩) rfl⟩
      obtain⟨todo,tf⟩:=tf
      obtain⟨w2,b1,b2,b3,b4⟩:=oA (P:=E.P) R.size rs { on b cH todo ds1 with mode:=.returning } cs w1 rfl d1 d2 d3 a5
      obtain⟨v',r1,r2⟩:=wH b2 a3 hvs
      refine⟨.returned v',w2,{ on b cH todo ds1 with mode:=.returning,defers:=[] },⟨v',m1,rfl,r2,b2,?_⟩,?_,?_,?_⟩
      ·refine⟨a6.le,a6.new,a6.n,a6.base,fun r hr hk=>?_,a6.idle,by rw[b3];exact a6.size,a6.img,a6.mP⟩
       rw[b4 r (fun hm=>by have:=(d3 r hm).1;omega)]
       exact a6.frame r hr hk
      ·exact(by rw[hen];exact a1.trans (.head tf b1):Steps E.P (lone (Frame.enter E.P f args' .normal) cs w) _)
      ·rfl
      ·exact⟨rfl,rfl,rfl,fn,hfn,r1⟩
     ·cases hr
    ·cases hr
theorem j5.run {P:Program} {f:FuncId} {args:Array Value} {B:Nat} {w0:World} {m:Mp} {h:IH} {w:World} {v:Value} {h':IH} (H:j5 P f args B w0 m h w v h') (c:Frame) (cs:List Frame) :
  ∃v' m' w',aC m' v v'∧Rel B w0 m' h' w'∧Step m h w m' h' w'∧Steps P (lone (Frame.enter P f args .normal) (c :: cs) w) (lone (c.finish v') cs w'):=by
 obtain⟨e,w',fr,⟨v',m',rfl,h1,h2,h3⟩,hc,_,hl⟩:=H (c :: cs)
 exact⟨v',m',w',h1,h2,h3,Steps.trans hc (.one (step_leave_returned hl))⟩
theorem DO {P:Program} {f:FuncId} {fn:Func} {args:Array Value} {w:World} (hf:P.funcs[f]?=some fn) (hb:fn.body.isSome=true) (hn:(fn.name == "runtime.NumGoroutine")=false):(callFunc f args).run P w=.ok (.enter f args) w:=by
 have hb':fn.body.isNone=false:=by cases h:fn.body<;>simp_all
 have hp:(program:Sem Program).run P w=.ok P w:=rfl
 simp only[callFunc,Sem.run_bind,hp,Result.andThen_ok,hf,hn,hb']
 rfl
def yC:Array Value→Sem Value:=fun args=>do
 let (x,y,b) ←Extern.MathBitsCarry.three "Sub64" args
 pure (Extern.MathBitsCarry.pair ((x+Extern.MathBitsCarry.m64 - y - b) % Extern.MathBitsCarry.m64) (if x<y+b then 1 else 0))
theorem P5 {fn:Func} (h:fn.name = "math/bits.Add64"):Extern.find fn=some add64Entry:=by
 obtain⟨name,origin,params,resultTypes⟩:=fn
 simp only at h;subst h
 kernel_rfl
theorem P4 {fn:Func} (h:fn.name = "math/bits.Sub64"):Extern.find fn=some yC:=by
 obtain⟨name,origin,params,resultTypes⟩:=fn
 simp only at h;subst h
 kernel_rfl
theorem Pm {fn:Func} (h:fn.name = "math/bits.Add64") (ho:fn.origin = "math/bits.Add64" ∨ fn.origin = ""):Extern.findNext fn=none:=by
 obtain⟨name,origin,params,resultTypes⟩:=fn
 simp only at h ho;subst h
 rcases ho with ho|ho<;>subst ho<;>kernel_rfl
theorem Pj {fn:Func} (h:fn.name = "math/bits.Sub64") (ho:fn.origin = "math/bits.Sub64" ∨ fn.origin = ""):Extern.findNext fn=none:=by
 obtain⟨name,origin,params,resultTypes⟩:=fn
 simp only at h ho;subst h
 rcases ho with ho|ho<;>subst ho<;>kernel_rfl
theorem Lv {P:Program} (x y:Nat) {c:Nat} (hc:c≤1) (w:World) :
  (yC #[.int .u64 (x:Int),.int .u64 (y:Int),.int .u64 (c:Int)]).run P w=.ok (.tuple #[.int .u64 (((x+18446744073709551616 - y - c) % 18446744073709551616:Nat):Int),.int .u64 ((if x<y+c then 1 else 0:Nat):Int)]) w:=by
 have:c=0∨c=1:=by omega
 rcases this with rfl|rfl<;>rfl
end Go.Id

namespace Go.Id
open Go Go.RowKit
theorem rQ {m:Mp} {nt:Nat} : ∀(ps:List Nat) (vs:List Value) (vs':List Value) (fr fr':Fr) (tmps:Array Value),dQ nt ps vs fr=some fr'→bz m vs vs'→dF m fr tmps→nt≤tmps.size →
  ps.length=vs.length∧dF m fr' ((ps.zip vs').foldl (fun tmps (x:Nat×Value)=>tmps.setIfInBounds x.1 x.2) tmps)∧nt≤((ps.zip vs').foldl (fun tmps (x:Nat×Value)=>tmps.setIfInBounds x.1 x.2) tmps).size
 | [],[],vs',fr,fr',tmps,h,hL,hf,ht=>by
  simp only[dQ] at h;cases h
  exact⟨rfl,hf,ht⟩
 | t :: ps,v :: vs,[],fr,fr',tmps,h,hL,hf,ht=>by have:=hL.1;simp at this
 | t :: ps,v :: vs,v' :: vs',fr,fr',tmps,h,hL,hf,ht=>by
  rw[dQ] at h
  split at h
  ·rename_i fr1 hp
   obtain⟨h1,h2⟩:=qz hp hf ht (hL.2 0 v v' rfl rfl)
   have hL':bz m vs vs':=⟨by have:=hL.1;simpa using this,fun i x x' a b=>hL.2 (i+1) x x' (by simpa using a) (by simpa using b)⟩
   obtain⟨a,b,c⟩:=rQ ps vs vs' fr1 fr' (tmps.setIfInBounds t v') h hL' h1 h2
   exact⟨by simp[a],b,c⟩
  ·cases h
 | [],_ :: _,_,_,_,_,h,_,_,_=>by simp[dQ] at h
 | _ :: _,[],_,_,_,_,h,_,_,_=>by simp[dQ] at h
theorem kZ.busy {m:Mp} {l:gP} {l':Loop} (h:kZ m l l') (st:LoopState) (p:Option Code):kZ m { l with state:=st,pending:=p } { l' with state:=st,pending:=p } :=
 ⟨rfl,rfl,h.fn,h.tmps,h.nt,h.params,h.assign,h.body⟩
theorem kZ.UK {m:Mp} {l:gP} {l':Loop} (h:kZ m l l') (st:LoopState):kZ m { l with state:=st } { l' with state:=st } :=
 ⟨rfl,h.pending,h.fn,h.tmps,h.nt,h.params,h.assign,h.body⟩
structure Rl (E:Env) (call:bd) (n l:Nat) (args:List Value) (h h':IH) (v:Value) where
 r:gP
 r1:gP
 r2:gP
 fr1:Fr
 fr2:Fr
 fr3:Fr
 h1:IH
 h2:IH
 e:bh
 loop:fg h l=some r
 put:dQ r.nt r.params args r.fr=some fr1
 assign:evC E call r.fn r.nt (some l) n r.assign fr1 h=some (.normal,fr2,h1)
 TW:fg h1 l=some r1
 ready:r1.state=.ready
 body:evC E call r.fn r.nt (some l) n r.body fr2 { h1 with ext:=h1.ext.set l (.loop { r1 with state:=.busy }) }=some (e,fr3,h2)
 TV:fg h2 l=some r2
 done:(e=.normal∧v=.bool true∧h' = { h2 with ext:=h2.ext.set l (.loop { r2 with state:=.ready,pending:=none }) }) ∨
  (∃i,e=.exit i∧v=.bool false∧h' = { h2 with ext:=h2.ext.set l (.loop { r2 with state:=.done,pending:=some (.exit i) }) }) ∨
  (e=.ret∧v=.bool false∧h' = { h2 with ext:=h2.ext.set l (.loop { r2 with state:=.done,pending:=some .ret }) })
theorem rV {E:Env} {call:bd} {n l:Nat} {args:List Value} {h h':IH} {v:Value} (hr:dD E call n l args h=some (v,h')):Nonempty (Rl E call n l args h h' v):=by
 unfold dD at hr
 split at hr
 ·cases hr
 ·rename_i r hl
  split at hr
  ·cases hr
  ·rename_i fr1 hp
   split at hr
   ·rename_i fr2 h1 hx
    split at hr
    ·cases hr
    ·rename_i r1 hl1
     simp only[cond_eq_ite,beq_iff_eq] at hr
     split at hr
     ·rename_i hst
      split at hr
      ·cases hr
      ·rename_i e fr3 h2 hy
       split at hr
       ·cases hr
       ·rename_i r2 hl2
        split at hr<;>cases hr
        ·exact⟨⟨r,r1,r2,fr1,fr2,fr3,h1,h2,_,hl,hp,hx,hl1,hst,hy,hl2,.inl ⟨rfl,rfl,rfl⟩⟩⟩
        ·exact⟨⟨r,r1,r2,fr1,fr2,fr3,h1,h2,_,hl,hp,hx,hl1,hst,hy,hl2,.inr (.inl ⟨_,rfl,rfl,rfl⟩)⟩⟩
        ·exact⟨⟨r,r1,r2,fr1,fr2,fr3,h1,h2,_,hl,hp,hx,hl1,hst,hy,hl2,.inr (.inr ⟨rfl,rfl,rfl⟩)⟩⟩
     ·cases hr
   ·cases hr
theorem Gy {E:Env} {call:bd} (cI:dw call) {n l:Nat} {args:List Value} {h h':IH} {v:Value} (hr:dD E call n l args h=some (v,h')):h.n≤h'.n:=by
 obtain⟨Y⟩:=rV hr
 have n1:=rT cI _ _ _ _ _ _ Y.assign
 have n2:=rT cI _ _ _ _ _ _ Y.body
 have n3:h'.n=Y.h2.n:=by rcases Y.done with⟨_,_,e⟩|⟨_,_,_,e⟩|⟨_,_,e⟩<;>exact(congrArg IH.n e).trans rfl
 rw[n3]
 exact Nat.le_trans n1 n2
theorem AQ {E:Env} (S:Sound E) {call:bd} (fD:j6 E.P call) (cI:dw call) {n l:Nat} {args:List Value} {h h':IH} {v:Value} (hr:dD E call n l args h=some (v,h'))
  {B:Nat} {w0:World} {m:Mp} {w:World} {args':Array Value} (R:Rel B w0 m h w) (fS:bz m args args'.toList) (hfr:dX m h.n h'.n) {r0 s0:Nat} (hm:m (2*l)=some (r0,s0)) :
  ∃f ts a c,(Instr.yield r0 args').run E.P w=.ok (.round r0 f ts a c) w ∧
   ∀(c0:Frame) (cs:List Frame),∃v' m' w',aC m' v v'∧Rel B w0 m' h' w'∧Step m h w m' h' w'∧Steps E.P (lone (Frame.round r0 f ts a c .normal) (c0 :: cs) w) (lone (c0.finish v') cs w'):=by
 obtain⟨Y⟩:=rV hr
 have n1:=rT cI _ _ _ _ _ _ Y.assign
 have n2:=rT cI _ _ _ _ _ _ Y.body
 have n3:h'.n=Y.h2.n:=by rcases Y.done with⟨_,_,e⟩|⟨_,_,_,e⟩|⟨_,_,e⟩<;>exact(congrArg IH.n e).trans rfl
 obtain⟨_,L,hL,iO⟩:=R.obj _ _ _ _ (gH Y.loop) hm
 obtain⟨p1,p2,p3⟩:=rQ Y.r.params args args'.toList Y.r.fr Y.fr1 L.tmps Y.put fS iO.tmps iO.nt
 have hsz:args'.size=L.params.size:=by
  have h1:L.params.size=Y.r.params.length:=by rw[←iO.params];simp
  have h2:=fS.1
  simp at h2
  omega
 have htm:(L.params.zip args').foldl (fun tmps (x:Tmp×Value)=>tmps.setIfInBounds x.1 x.2) L.tmps=(Y.r.params.zip args'.toList).foldl (fun tmps (x:Nat×Value)=>tmps.setIfInBounds x.1 x.2) L.tmps:=by
  rw[←Array.foldl_toList,Array.toList_zip,iO.params]
 rw[←htm] at p2 p3
 refine⟨_,_,_,_,run_yield hL hsz,fun c0 cs=>?_⟩
 let b:Frame:={ fn:=L.fn,tmps:=#[],todo:=[],defers:=[],mode:=.run,kind:=.normal,roundOf:=some r0 }
 have hb:b.fn=Y.r.fn:=iO.fn
 have hx:=Y.assign
 rw[←hb] at hx
 obtain⟨m1,w1,cH,ds1,k1,a1,a2,a3,a4,a5,a6,a7⟩:=tS (b:=b) (rd:=some l) (z:=w.heap.size) (cs:=c0 :: cs) fD cI S.mixed n Y.r.assign _ _ _ _ _ hx m w _ [.beginRound,.code Y.r.body] [] R p2 p3 (hfr.sub (Nat.le_refl _) (by rw[n3];exact n2)) (.inr ⟨l,r0,s0,rfl,rfl,hm⟩) (kG.nil _ _ _ _) (Nat.le_refl _)
 obtain rfl:k1=_:=a2
 have hm1:=(a6.le _ _ hm).1
 obtain⟨hs0,L1,hL1,T5⟩:=a5.obj _ _ _ _ (gH Y.TW) hm1
 obtain⟨Rb,Sb⟩:=a5.setObj (o1:=.loop { Y.r1 with state:=.busy }) (o':=.loop { L1 with state:=.busy }) (gH Y.TW) rfl rfl hm1 rfl (fun w' z e=>⟨hs0,_,e,T5.UK .busy⟩)
 have ZU:(Instr.beginRound r0).run E.P w1=.ok () (w1.putObj r0 (.loop { L1 with state:=.busy })):=run_beginRound hL1 (by rw[T5.state];exact Y.ready)
 have st1:step E.P (lone (on b cH (.beginRound :: [.code Y.r.body]) ds1) (c0 :: cs) w1)=.next (lone (on b cH [.code Y.r.body] ds1) (c0 :: cs) (w1.putObj r0 (.loop { L1 with state:=.busy }))) :=
  stepR_beginRound (b:=b) (a:=⟨cH,ds1⟩) rfl ZU
 have hy:=Y.body
 rw[←hb] at hy
 have S1b:=a6.trans Sb
 obtain⟨m2,w2,Bd,ds2,k2,b1,b2,b3,b4,b5,b6,b7⟩:=tS (b:=b) (rd:=some l) (z:=w.heap.size) (cs:=c0 :: cs) fD cI S.mixed n Y.r.body _ _ _ _ _ hy m1 _ cH [] ds1 Rb a3 a4 ((S1b.fresh hfr).sub (Nat.le_refl _) (by rw[n3];exact Nat.le_refl _)) (.inr ⟨l,r0,s0,rfl,rfl,hm1⟩) (a7.step Sb) (Nat.le_trans a6.size Sb.size)
 have hm2:=(b6.le _ _ hm1).1
 obtain⟨_,L2,hL2,Xf⟩:=b5.obj _ _ _ _ (gH Y.TV) hm2
 have start:lone (Frame.round r0 L.fn ((L.params.zip args').foldl (fun tmps (x:Tmp×Value)=>tmps.setIfInBounds x.1 x.2) L.tmps) L.assign L.body .normal) (c0 :: cs) w =
   lone (on b ((L.params.zip args').foldl (fun tmps (x:Tmp×Value)=>tmps.setIfInBounds x.1 x.2) L.tmps) (.code Y.r.assign :: [.beginRound,.code Y.r.body]) []) (c0 :: cs) w:=by
  rw[iO.assign,iO.body];rfl
 have path:=a1.trans (.head st1 b1)
 have fin : ∀(e:bh) (u:Value) (st:LoopState) (zG:Option Code),h' = { Y.h2 with ext:=Y.h2.ext.set l (.loop { Y.r2 with state:=st,pending:=zG }) }→u=.bool zG.isNone→v=u →
   (st=if zG.isNone then .ready else .done) →
   step E.P (lone (on b Bd k2 ds2) (c0 :: cs) w2)=.next (lone (c0.finish u) cs (w2.putObj r0 (.loop { L2 with state:=if zG.isNone then .ready else .done,pending:=zG }))) →
   ∃v' m' w',aC m' v v'∧Rel B w0 m' h' w'∧Step m h w m' h' w'∧Steps E.P (lone (Frame.round r0 L.fn ((L.params.zip args').foldl (fun tmps (x:Tmp×Value)=>tmps.setIfInBounds x.1 x.2) L.tmps) L.assign L.body .normal) (c0 :: cs) w) (lone (c0.finish v') cs w'):=by
  intro e u st zG e1 e2 e3 e4 hst
  obtain⟨R3,S3⟩:=b5.setObj (o1:=.loop { Y.r2 with state:=st,pending:=zG }) (o':=.loop { L2 with state:=st,pending:=zG }) (gH Y.TV) rfl rfl hm2 rfl (fun w' z e=>⟨hs0,_,e,Xf.busy st zG⟩)
  refine⟨u,m2,_,by rw[e3,e2];exact .bJ rfl,by rw[e1];exact R3,by rw[e1];exact(S1b.trans b6).trans S3,?_⟩
  rw[start]
  rw[←e4] at hst
  exact path.trans (.one hst)
 rcases Y.done with⟨e1,e2,e3⟩|⟨i,e1,e2,e3⟩|⟨e1,e2,e3⟩
 ·rw[e1] at b2
  obtain rfl:k2=_:=b2
  exact fin .normal (.bool true) .ready none e3 rfl e2 rfl (stepR_round_end (b:=b) (a:=⟨Bd,ds2⟩) rfl rfl (run_endRound none hL2))
 ·rw[e1] at b2
  obtain⟨k3,rfl,hk3⟩:=b2
  exact fin (.exit i) (.bool false) .done (some (.exit i)) e3 rfl e2 rfl (stepR_round_exit (b:=b) (a:=⟨Bd,ds2⟩) rfl rfl (by rw[hk3];rfl) (run_endRound (some (.exit i)) hL2))
 ·rw[e1] at b2
  obtain⟨k3,rfl⟩:=b2
  exact fin .ret (.bool false) .done (some .ret) e3 rfl e2 rfl (stepR_round_ret (b:=b) (a:=⟨Bd,ds2⟩) rfl rfl (run_endRound (some .ret) hL2))
theorem M3 {P:Program} {f:FuncId} {fn:Func} (hf:P.funcs[f]?=some fn) (hb:fn.body=none) (ho:fn.origin=fn.name∨fn.origin = "") {args:List Value} {v:Value} (hc:mu fn.name args=some v) {m:Mp} {args':Array Value} (fS:bz m args args'.toList) (w:World) :
  ∃v',(callFunc f args').run P w=.ok (.value v') w∧aC m v v' ∧ ∀a∈args'.toList,∃k n,a=Value.int k n:=by
 unfold mu at hc
 split at hc
 case h_2=>cases hc
 rename_i x y c
 simp only[cond_eq_ite] at hc
 split at hc
 case isFalse=>cases hc
 rename_i hle
 have PR:c≤1:=by simpa using hle
 obtain⟨a0,b0,r0⟩:=fS.get (i:=0) rfl
 obtain⟨a1,b1,r1⟩:=fS.get (i:=1) rfl
 obtain⟨a2,b2,r2⟩:=fS.get (i:=2) rfl
 have e0:=r0.ct rfl
 have e1:=r1.ct rfl
 have e2:=r2.ct rfl
 subst e0;subst e1;subst e2
 have hl:args'.toList = [.int .u64 (.ofNat x),.int .u64 (.ofNat y),.int .u64 (.ofNat c)]:=by
  have h1:=fS.1
  apply List.ext_getElem?
  intro i
  match i with
  | 0=>exact b0
  | 1=>exact b1
  | 2=>exact b2
  | i+3=>rw[List.getElem?_eq_none (by simp at h1 ⊢;omega),List.getElem?_eq_none (by simp)]
 have ha:args' = #[.int .u64 (.ofNat x),.int .u64 (.ofNat y),.int .u64 (.ofNat c)]:=by rw[←Array.toArray_toList (xs:=args'),hl]
 have hint : ∀a∈args'.toList,∃k n,a=Value.int k n:=by
  rw[hl]
  intro a h
  simp only[List.mem_cons,List.not_mem_nil,or_false] at h
  rcases h with rfl|rfl|rfl<;>exact⟨_,_,rfl⟩
 split at hc
 ·rename_i hn
  have hn:fn.name = "math/bits.Add64" := by simpa using hn
  cases hc
  refine⟨_,?_,aC.fu (cs:=#[.int .u64 _,.int .u64 _]) (cs':=#[.int .u64 _,.int .u64 _]) (.cons (.bJ rfl) (.cons (.bJ rfl) (.nil _))),hint⟩
  rw[run_callFunc_extern hf (by rw[hn];decide +kernel) (by rw[hb];rfl) (Pm hn (ho.imp (fun e=>by rw[e,hn]) id)) (P5 hn),ha,run_add64 _ _ _ (by exact Int.natCast_nonneg _) (by exact Int.natCast_nonneg _) (by exact Int.natCast_nonneg _) (by exact Int.ofNat_le.2 PR)]
  simp only[Result.andThen_ok]
  rfl
 ·split at hc
  ·rename_i hn
   have hn:fn.name = "math/bits.Sub64" := by simpa using hn
   cases hc
   refine⟨_,?_,aC.fu (cs:=#[.int .u64 _,.int .u64 _]) (cs':=#[.int .u64 _,.int .u64 _]) (.cons (.bJ rfl) (.cons (.bJ rfl) (.nil _))),hint⟩
   rw[run_callFunc_extern hf (by rw[hn];decide +kernel) (by rw[hb];rfl) (Pj hn (ho.imp (fun e=>by rw[e,hn]) id)) (P4 hn),ha]
   show((yC #[.int .u64 (x:Int),.int .u64 (y:Int),.int .u64 (c:Int)]).run P w).andThen _=_
   rw[Lv x y PR]
   simp only[Result.andThen_ok]
   congr 4
   by_cases hlt:x<y+c
   ·simp[hlt]
   ·simp[hlt]
  ·cases hc
theorem gL {E:Env} (S:Sound E) : ∀n,dw (cb E n)
 | 0=>fun fv vs h h' v hr=>by simp[cb] at hr
 | n+1=>fun fv vs h h' v hr=>by
  unfold cb at hr
  split at hr
  ·exact QT S (gL S n) hr
  ·simp only[cond_eq_ite] at hr
   split at hr
   ·exact Gy (gL S n) hr
   ·cases hr
  ·cases hr
theorem oj {E:Env} (S:Sound E) : ∀n,j6 E.P (cb E n)
 | 0=>fun fv vs h h' v hr=>by simp[cb] at hr
 | n+1=>fun fv vs h h' v hr B w0 m w fv' vs' R hfv hvs hfr=>by
  unfold cb at hr
  split at hr
  ·rename_i f first cap
   obtain⟨fn',DE,VV,rfl,hfn,h1,h2⟩:=hfv.uB
   cases fn'<;>simp only[qL] at hfn
   subst hfn
   have fS:bz m (first.toList ++ (vs ++ cap.toList)) (DE ++ vs' ++ VV).toList:=by
    rw[Array.toList_append,Array.toList_append,List.append_assoc]
    exact h1.append (hvs.append h2)
   rcases tv S (oj S n) (gL S n) hr R fS hfr with⟨⟨fn,hf,hb⟩,hC⟩|⟨fn,hf,hb,rfl,hcv⟩
   case inr =>
    obtain⟨v',e1,e2,e3⟩:=M3 hf hb (S.origin f fn hf hb hcv) hcv fS w
    refine⟨.value v',?_,.inl ⟨v',rfl,rfl,e2,fun a ha=>e3 a (by rw[Array.toList_append,Array.toList_append];simp[ha])⟩⟩
    simp only[Deferred.ofValue,Sem.run_bind,Sem.run_pure,Result.andThen_ok,invoke]
    exact e1
   refine⟨.enter f (DE ++ vs' ++ VV),?_,.inr ⟨_,.inl ⟨_,_,rfl,rfl⟩,fun c cs=>hC.run c cs⟩⟩
   simp only[Deferred.ofValue,Sem.run_bind,Sem.run_pure,Result.andThen_ok,invoke]
   exact DO hf hb (S.names f fn hf hb)
  ·rename_i l first cap
   simp only[cond_eq_ite,beq_iff_eq] at hr
   split at hr
   ·rename_i hev
    obtain⟨fn',DE,VV,rfl,hfn,h1,h2⟩:=hfv.uB
    cases fn'<;>simp only[qL] at hfn
    obtain⟨s,hm⟩:=hfn
    have hl:2*(l / 2)=l:=by omega
    rw[←hl] at hm
    have fS:bz m (first.toList ++ vs) (DE ++ vs').toList:=by
     rw[Array.toList_append]
     exact h1.append hvs
    obtain⟨f,ts,a,c,hy,bB⟩:=AQ S (oj S n) (gL S n) hr R fS hfr hm
    refine⟨_,?_,.inr ⟨_,.inr ⟨_,f,ts,a,c,rfl,rfl⟩,bB⟩⟩
    simp only[Deferred.ofValue,Sem.run_bind,Sem.run_pure,Result.andThen_ok,invoke]
    exact hy
   ·cases hr
  ·cases hr
end Go.Id

namespace Go.Id
open Go Go.RowKit
def IH.start (base:Nat→Option (List Value)):IH:={ base,n:=0,ext:=.leaf,bQ:=.leaf }
def Mp.kQ (A:Nat→Nat×Nat):Mp:=⟨fun b=>if b % 2=1 then some (if b / 2<4294967296 then (b / 2,0) else A (b / 2 - 4294967296)) else none,fun _=>(0,0)⟩
theorem Mp.wy (A:Nat→Nat×Nat) {b:Nat} (h:b<4294967296):Mp.kQ A (2*b+1)=some (b,0):=by
 show(if (2*b+1) % 2=1 then some (if (2*b+1) / 2<4294967296 then ((2*b+1) / 2,0) else A ((2*b+1) / 2 - 4294967296)) else none)=some (b,0)
 rw[if_pos (by omega),if_pos (by omega),show(2*b+1) / 2=b from by omega]
theorem Mp.tK (A:Nat→Nat×Nat) (i:Nat):Mp.kQ A (2*(4294967296+i)+1)=some (A i):=by
 show(if (2*(4294967296+i)+1) % 2=1 then some (if (2*(4294967296+i)+1) / 2<4294967296 then ((2*(4294967296+i)+1) / 2,0) else A ((2*(4294967296+i)+1) / 2 - 4294967296)) else none)=some (A i)
 rw[if_pos (by omega),if_neg (by omega),show(2*(4294967296+i)+1) / 2 - 4294967296=i from by omega]
theorem Mp.tL (A:Nat→Nat×Nat) (k:Nat):Mp.kQ A (2*k)=none:=by
 show(if (2*k) % 2=1 then _ else none)=none
 rw[if_neg (by omega)]
def IM (A:Nat→Nat×Nat) (base:Nat→Option (List Value)) (w:World):Prop:=∀b cs,base b=some cs → ∃r s,Mp.kQ A (2*b+1)=some (r,s) ∧ ∃c el fz,w.heap[r]?=some (.cells c el fz)∧mX (Mp.kQ A) cs c s
theorem Rel.start {A:Nat→Nat×Nat} {base:Nat→Option (List Value)} {w:World} (hb:IM A base w):Rel w.heap.size w (Mp.kQ A) (IH.start base) w:=by
 have leaf : ∀{α:Type} (k:Nat),(Tr.leaf:Tr α).get k=none:=fun k=>rfl
 refine⟨Below.refl _ _,Nat.le_refl _,?_,fun b h=>Mp.wy A h,?_,fun k _=>leaf k,?_,?_,?_,?_,?_,?_⟩
 ·intro b cs h
  obtain⟨r,s,h0,c,el,fz,h1,h2⟩:=hb b cs h
  exact⟨r,s,h0,(Array.getElem?_eq_some_iff.1 h1).1,c,el,fz,h1,h2⟩
 ·intro k r s h
  rw[Mp.tL] at h;cases h
 ·intro k o r s h;cases h
 ·intro k k' o o' r s s' _ h;cases h
 ·intro f st h;cases h
 ·intro k cs t f h;cases h
 ·intro f st h;cases h
 ·intro f st x y h;cases h
theorem vF {w w':World} (h:Below w.heap.size w w') (may:MemPlace→Prop):w.keptBut w' may:=by
 refine⟨h.os,h.output,fun i hi=>?_⟩
 rw[h.block i hi]
 cases hx:w.heap[i]? with
 | none=>rfl
 | some o =>
  cases o with
  | cells c t fr=>exact⟨rfl,rfl,rfl,fun _ _=>rfl⟩
  | map es cl=>exact .inr ⟨rfl,rfl⟩
  | _=>rfl
theorem AG {H:Type} {enc:TypeId×Value→H} {P:Program} {f:Func} {s:ChangeSpec} {apart fresh handsOn:Bool} {W W':World} {args:Array Value} {v:Value} {ds gs:List (DataW H)} {before pa pv:List MemPlace}
  (hW:DataW.Whole enc P f.params.toList s.vars apart W args.toList ds gs before)
  (HX : ∀(b:Nat) (sp:Nat→Bool) (hd:Bool),DataW.TrodAll enc P W' b sp hd f.resultTypes.toList (v.resultList f.resultTypes.size) (s.fn H (ds ++ gs)).results [])
  (fS : ∀sp:Nat→Bool,(∀p∈before,sp p.block=true)→DataW.TrodAll enc P W' 0 sp true f.params.toList args.toList (s.fn H (ds ++ gs)).args pa)
  (W5 : ∀sp:Nat→Bool,(∀p∈before,sp p.block=true)→DataW.TrodVars enc P W' sp s.vars (s.fn H (ds ++ gs)).vars pv)
  (hk:Below W.heap.size W W'):s.post enc P f apart fresh handsOn false W args v W':=by
 have hold : ∀p∈before,(fun b=>decide (b<W.heap.size)) p.block=true:=fun p hp=>by simpa using hW.lt p hp
 exact⟨ds,gs,before,[],pa,pv,hW,HX _ _ _,fS _ hold,W5 _ hold,vF hk _,fun h=>by cases h⟩
end Go.Id

namespace Go.Id
open Go
def vW (o:Oper):Bool:=cG o.op == .pure || cG o.op == .load
def jc (ops:List Oper) (i p:Nat):Bool :=
 (List.range ops.length).all fun j => !(Nat.ble (min i p) j && Nat.blt j (max i p)) || (match ops[j]? with|some o=>vW o|none=>false)
def Bz (ops:List Oper):List (Nat×List Nat):=(xF ops).filterMap fun e=>match e.2.filter (fun p => !jc ops e.1 p) with
 | []=>none
 | l=>some (e.1,l)
theorem M9 {E:Env} {call:bd} {nt:Nat} {ops:List Oper} {o:Oper} {fr fr':Fr} {h h':IH} (hc:vW o=true) (hs:cT E call nt ops o fr h=some (fr',h')):h'=h:=by
 have hne:cG o.op≠.chain:=by
  intro hk;simp[vW,hk] at hc
 unfold cT at hs
 split at hs
 ·rw[eK hne] at hs
  split at hs
  ·rename_i v h1 hi
   obtain⟨f,_,e⟩:=Option.map_eq_some_iff.1 hs
   cases e
   simp only[vW,Bool.or_eq_true,beq_iff_eq] at hc
   rcases hc with hc|hc
   ·exact(zI hc hi).1
   ·exact zJ hc hi
  ·cases hs
 ·obtain⟨f,_,e⟩:=Option.map_eq_some_iff.1 hs
  cases e;rfl
 ·cases hs
theorem tu {E:Env} {call:bd} {nt:Nat} {ops:List Oper} {fr:Fr} {h:IH} {tr:List (Fr×IH)} (ht:trace E call nt ops ops fr h=some tr) : ∀(d a:Nat) (x y:Fr×IH),(∀j,a≤j→j<a+d → ∃o,ops[j]?=some o∧vW o=true)→tr[a]?=some x→tr[a+d]?=some y→y.2=x.2
 | 0,a,x,y,_,hx,hy=>by rw[Nat.add_zero,hx] at hy;cases hy;rfl
 | d+1,a,x,y,hc,hx,hy=>by
  obtain⟨o,ho,hco⟩:=hc a (Nat.le_refl _) (by omega)
  obtain⟨_,_,h3⟩:=oB ops fr h tr ht
  obtain⟨fr1,h1,fr2,h2,e1,e2,hs⟩:=h3 a o ho
  rw[hx] at e1;cases e1
  have e3:=M9 hco hs
  have:=tu ht d (a+1) (fr2,h2) y (fun j a1 a2=>hc j (by omega) (by omega)) e2 (by rw[←hy];congr 1;omega)
  rw[this];exact e3
theorem Na {E:Env} {call:bd} {nt:Nat} {ops:List Oper} {fr:Fr} {h:IH} {tr:List (Fr×IH)} (ht:trace E call nt ops ops fr h=some tr) {i p:Nat} (hc:jc ops i p=true) (hi:i≤ops.length) (hp:p≤ops.length) {x y:Fr×IH} (hx:tr[i]?=some x) (hy:tr[p]?=some y):y.2=x.2:=by
 simp only[jc,List.all_eq_true,List.mem_range,Bool.or_eq_true,Bool.not_eq_true',Bool.and_eq_false_iff] at hc
 have key : ∀j,min i p≤j→j<max i p → ∃o,ops[j]?=some o∧vW o=true:=by
  intro j a b
  rcases hc j (by omega) with hh|hh
  ·rcases hh with hh|hh
   ·rw[Bool.eq_false_iff] at hh;exact absurd (by rw[Nat.ble_eq];exact a) hh
   ·rw[Bool.eq_false_iff] at hh;exact absurd (by simp only[Nat.blt,Nat.ble_eq];omega) hh
  ·split at hh
   ·rename_i o ho;exact⟨o,ho,hh⟩
   ·cases hh
 rcases Nat.le_total i p with hip|hip
 ·exact tu ht (p - i) i x y (fun j a b=>key j (by omega) (by omega)) hx (by rw[←hy];congr 1;omega)
 ·exact(tu ht (i - p) p y x (fun j a b=>key j (by omega) (by omega)) hy (by rw[←hx];congr 1;omega)).symm
theorem OZ {ops:List Oper} {e:Nat×List Nat} (he:e∈xF ops):(∃o,ops[e.1]?=some o∧cG o.op=.load) ∧ ∀p∈e.2,p≤ops.length:=by
 simp only[xF,List.mem_filterMap,List.mem_range] at he
 obtain⟨i,hi,he⟩:=he
 split at he
 ·cases he
 ·rename_i o ho
  simp only[cond_eq_ite,beq_iff_eq] at he
  split at he
  ·rename_i hk
   cases he
   refine⟨⟨o,ho,hk⟩,fun p hp=>?_⟩
   have:=(List.mem_filter.1 hp).1
   rw[List.mem_append] at this
   rcases this with h1|h1
   ·have:=(List.mem_filter.1 h1).1;rw[List.mem_range] at this;omega
   ·simp at h1;omega
  ·cases he
theorem yE {E:Env} {call:bd} {nt:Nat} {ops:List Oper} {fr:Fr} {h:IH} {tr:List (Fr×IH)} (ht:trace E call nt ops ops fr h=some tr) (hs:steady E.P ops tr (Bz ops)=true):steady E.P ops tr (xF ops)=true:=by
 simp only[steady,List.all_eq_true] at hs ⊢
 intro e he
 obtain⟨⟨o,ho,hk⟩,hps⟩:=OZ he
 obtain⟨hlen,_,h3⟩:=oB ops fr h tr ht
 obtain⟨fr1,h1,fr2,h2,e1,e2,hst⟩:=h3 e.1 o ho
 have hi:e.1<ops.length:=(List.getElem?_eq_some_iff.1 ho).1
 simp only[ho,e1]
 split
 ·rename_i hw
  rw[List.all_eq_true]
  intro p hp
  have hpl:=hps p hp
  obtain⟨⟨fp,hpp⟩,hp1⟩ : ∃y,tr[p]?=some y:=⟨tr[p]'(by omega),List.getElem?_eq_getElem (by omega)⟩
  cases hcb:jc ops e.1 p with
  | true =>
   have dU:=Na ht hcb (Nat.le_of_lt hi) hpl e1 hp1
   simp only at dU
   simp only[hp1]
   subst dU
   unfold cT at hst
   simp only[hw] at hst
   rw[eK (by rw[hk];simp)] at hst
   split at hst
   ·rename_i v h1' hv
    simp[fP,hv,Gg]
   ·cases hst
  | false =>
   have HY : ∃l,(e.1,l)∈Bz ops∧p∈l:=by
    refine⟨e.2.filter (fun p => !jc ops e.1 p),?_,by simp[hp,hcb]⟩
    simp only[Bz,List.mem_filterMap]
    refine⟨e,he,?_⟩
    split
    ·rename_i PM
     have:p∈e.2.filter (fun p => !jc ops e.1 p):=by simp[hp,hcb]
     rw[PM] at this;cases this
    ·rfl
   obtain⟨l,hl,hpl⟩:=HY
   have:=hs _ hl
   simp only[ho,e1,hw,List.all_eq_true] at this
   exact this p hpl
 ·rfl
theorem tU {E:Env} {call:bd} {nt:Nat} {ops:List Oper} : ∀(l:List Oper) (fr:Fr) (h:IH) (r:Fr×IH),ff E call nt ops l fr h=some r → ∃tr,trace E call nt ops l fr h=some tr∧tr[l.length]?=some r
 | [],fr,h,r,hr=>by simp only[ff] at hr;cases hr;exact⟨_,rfl,rfl⟩
 | o :: l,fr,h,r,hr=>by
  rw[ff] at hr
  split at hr
  ·rename_i fr1 h1 hs
   obtain⟨tr,e1,e2⟩:=tU l fr1 h1 r hr
   exact⟨(fr,h) :: tr,by simp[trace,hs,e1],by simpa using e2⟩
  ·cases hr
def fL (ops:List Oper):Bool:=kT ops && (Bz ops).isEmpty
theorem AF {E:Env} {call:bd} {nt:Nat} {ops:List Oper} {fr:Fr} {h:IH} {r:Fr×IH} (hc:fL ops=true) (hr:ff E call nt ops ops fr h=some r):gD E call nt ops fr h=some r:=by
 simp only[fL,Bool.and_eq_true,List.isEmpty_iff] at hc
 obtain⟨tr,e1,e2⟩:=tU ops fr h r hr
 have hs:steady E.P ops tr (xF ops)=true:=yE e1 (by rw[hc.2];rfl)
 simp[gD,e1,hc.1,hs,e2]
end Go.Id
