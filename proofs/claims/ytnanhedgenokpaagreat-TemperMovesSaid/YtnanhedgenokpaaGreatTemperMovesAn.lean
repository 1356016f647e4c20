/-
  The ideal machine: calls, on the model's machine. The ideal machine: rounds of loops over functions; all calls. What the whole layer is for: 'ideal_calls'.
-/
import Derived.Test.YtnanhedgenokpaaGreatTemperMovesAm
import Derived.Laws.Externs
import Derived.KernelRfl
import Derived.RowKit3
set_option linter.unusedVariables false
set_option linter.unusedSimpArgs false
set_option linter.defProp false
set_option linter.deprecated false
namespace Go.Id
open Go Go.RowKit
theorem rA {P:Program} {B:Nat} {w0:World} {m:Mp} {h:IH} {z:Nat} (hB:B≤z) : ∀(rs:List Nat) (fr:Frame) (cs:List Frame) (w:World),fr.mode=.returning→fr.defers=rs.map mf→rs.Nodup →
  (∀r∈rs,z≤r∧w.heap[r]?=some (.deferred (some [])) ∧ ∀k s,k<h.n→m (2*k)≠some (r,s))→Rel B w0 m h w →
  ∃w',Steps P (lone fr cs w) (lone { fr with defers:=[] } cs w')∧Rel B w0 m h w'∧w'.heap.size=w.heap.size ∧ ∀r,r∉rs→w'.heap[r]?=w.heap[r]?
 | [],fr,cs,w,hm,hd,_,_,R=>by
  have:({ fr with defers:=[] }:Frame)=fr:=by cases fr;simp at hd;subst hd;rfl
  exact⟨w,by rw[this];exact .refl _ _,R,rfl,fun _ _=>rfl⟩
 | r :: rs,fr,cs,w,hm,hd,hn,hr,R=>by
  obtain⟨a1,a2,a3⟩:=hr r (by simp)
  have hst:=step_collected (P:=P) (fr:=fr) (cs:=cs) (d:=mf r) (r:=r) (ds:=rs.map mf) (by rw[hm];simp) (by rw[hd];rfl) rfl (run_takeDeferred a2)
  have Bn : ∀r',r'≠r→(w.putObj r (.deferred none)).heap[r']?=w.heap[r']?:=fun r' h'=>World.putObj_heap_other h'
  have R1:Rel B w0 m h (w.putObj r (.deferred none)):=by
   refine R.ab (pP R.below (by omega) _) (by simp) ?_
   rintro r' (h1|⟨k,s,h1,h2⟩)
   ·exact Bn r' (by omega)
   ·exact Bn r' (by rintro rfl;exact a3 k s h1 h2)
  obtain⟨w',b1,b2,b3,b4⟩:=rA hB rs { fr with defers:=[] ++ rs.map mf } cs (w.putObj r (.deferred none)) hm rfl (List.nodup_cons.1 hn).2 (fun r' h'=>by
   obtain⟨c1,c2,c3⟩:=hr r' (by simp[h'])
   exact⟨c1,by rw[Bn r' (by rintro rfl;exact(List.nodup_cons.1 hn).1 h')];exact c2,c3⟩) R1
  refine⟨w',.head hst b1,b2,by rw[b3];simp,fun r' h'=>?_⟩
  rw[b4 r' (fun h=>h' (by simp[h])),Bn r' (fun h=>h' (by simp[h]))]
def wP (tmps:Array Value):ResultVar→Sem Value
 | .tmp t=>pure (tmps.getD t undef)
 | .cell a t=>do loadVar t (←Go.asAddr (tmps.getD a undef))
theorem EJ (fn:Func) (tmps:Array Value):results fn tmps=(do let vs ←fn.results.mapM (wP tmps);pure (if h:vs.size=1 then vs[0] else .tuple vs)):=by
 unfold results
 congr 1
theorem A6 {P:Program} {B:Nat} {w0:World} {m:Mp} {h:IH} {w:World} (R:Rel B w0 m h w) {fr:Fr} {tmps:Array Value} (hf:dJ m fr tmps) {rv:ResultVar} {v:Value} (hr:jT P fr h rv=some v) :
  ∃v',(wP tmps rv).run P w=.ok v' w∧aB m v v':=by
 cases rv with
 | tmp t =>
  obtain⟨v',h1,h2⟩:=hf t v hr
  exact⟨v',by simp[wP,Array.getD_eq_getD_getElem?,h1,Sem.run_pure],h2⟩
 | cell a t =>
  simp only[jT] at hr
  split at hr
  ·rename_i va hva
   obtain⟨va',h1,h2⟩:=hf a va hva
   obtain⟨v',h3,h4⟩:=R.load hr h2
   refine⟨v',?_,h4⟩
   have hp : ∃b o,va=.pointer (some ⟨b,o,none⟩):=by
    unfold Id.load at hr
    cases hA:Id.asAddr va with
    | none=>simp[hA] at hr
    | some bo=>unfold Id.asAddr at hA;split at hA<;>simp_all
   obtain⟨b,o,rfl⟩:=hp
   obtain⟨r,s,_,rfl⟩:=h2.jL
   simp only[wP,Array.getD_eq_getD_getElem?,h1,Option.getD_some]
   simpa [Instr.loadAt,Instr.sureAddr,Go.asAddr,Sem.run_bind,Sem.run_pure] using h3
  ·cases hr
theorem qe {P:Program} {B:Nat} {w0:World} {m:Mp} {h:IH} {w:World} (R:Rel B w0 m h w) {fr:Fr} {tmps:Array Value} (hf:dJ m fr tmps) : ∀(l:List ResultVar) (vs:List Value),bW P fr h l=some vs →
  ∃vs',(l.mapM (wP tmps)).run P w=.ok vs' w∧bC m vs vs'
 | [],vs,hr=>by simp only[bW] at hr;cases hr;exact⟨[],by simp[Sem.run_pure],.nil m⟩
 | rv :: l,vs,hr=>by
  rw[bW] at hr
  split at hr
  ·rename_i v vs1 h1 h2
   cases hr
   obtain⟨v',a1,a2⟩:=A6 R hf h1
   obtain⟨vs',b1,b2⟩:=qe R hf l vs1 h2
   refine⟨v' :: vs',?_,.cons a2 b2⟩
   rw[List.mapM_cons]
   simp only[Sem.run_bind,Sem.run_pure]
   rw[a1]
   simp only[Result.andThen_ok]
   rw[b1]
   simp only[Result.andThen_ok]
  ·cases hr
theorem Ew {m:Mp} {vs vs':List Value} (h:bC m vs vs'):aB m (single vs) (if h:vs'.toArray.size=1 then vs'.toArray[0] else .tuple vs'.toArray):=by
 have hl:=h.1
 match vs,vs',h,hl with
 | [],[],h,_=>exact aB.gE h
 | [v],[v'],h,_=>exact h.2 0 v v' rfl rfl
 | v :: u :: vs,v' :: u' :: vs',h,_ =>
  have : ¬(v' :: u' :: vs').toArray.size=1:=by simp
  rw[dif_neg this]
  exact aB.gE h
theorem CI {P:Program} {B:Nat} {w0:World} {m:Mp} {h:IH} {w:World} (R:Rel B w0 m h w) {fr:Fr} {tmps:Array Value} (hf:dJ m fr tmps) {fn:Func} {vs:List Value} (hr:bW P fr h fn.results.toList=some vs) :
  ∃v',(results fn tmps).run P w=.ok v' w∧aB m (single vs) v':=by
 obtain⟨vs',h1,h2⟩:=qe R hf _ _ hr
 refine⟨_,?_,Ew h2⟩
 rw[EJ,Sem.run_bind,Array.mapM_eq_mapM_toList,map_eq_pure_bind,Sem.run_bind,h1]
 simp only[Result.andThen_ok,Sem.run_pure]
def tp (P:Program) (f:FuncId) (args:Array Value) (B:Nat) (w0:World) (m:Mp) (h:IH) (w:World) (v:Value) (h':IH):Prop :=
 Calls P f args w fun e w' => ∃v' m',e=.returned v'∧aB m' v v'∧Rel B w0 m' h' w'∧Step m h w m' h' w'
structure Sound (E:Env):Prop where
 mixed:E.P.follows .mixedOrders=true
 names : ∀(f:FuncId) (fn:Func),E.P.funcs[f]?=some fn→fn.body.isSome=true→(fn.name == "runtime.NumGoroutine")=false
 origin : ∀(f:FuncId) (fn:Func),E.P.funcs[f]?=some fn→fn.body=none → ∀{args:List Value} {v:Value},jC fn.name args=some v→fn.origin=fn.name∨fn.origin = ""
 Pa : ∀f g,E.Dp f=some g → ∀args h v h',g args h=some (v,h')→h.n≤h'.n
 Dp : ∀f g,E.Dp f=some g→(∃fn,E.P.funcs[f]?=some fn∧fn.body.isSome=true) ∧ ∀args h v h',g args h=some (v,h') → ∀(B:Nat) (w0:World) (m:Mp) (w:World) (args':Array Value),
  Rel B w0 m h w→bC m args args'.toList→fy m h.n h'.n→tp E.P f args' B w0 m h w v h'
theorem sH : ∀(l:List Value) (i t:Nat),ah (jc i l) t=if i≤t then l[t - i]? else none
 | [],i,t=>by simp[jc,ah]
 | v :: l,i,t=>by
  simp only[jc,ah,cond_eq_ite,beq_iff_eq,sH l (i+1) t]
  by_cases h1:i=t
  ·subst h1;simp
  ·by_cases h2:i≤t
   ·rw[if_neg h1,if_pos h2,if_pos (by omega),show t - i=(t - (i+1))+1 from by omega,List.getElem?_cons_succ]
   ·rw[if_neg h1,if_neg h2,if_neg (by omega)]
theorem Mm {E:Env} (S:Sound E) {call:bK} (cy:dv call) {n:Nat} {f:FuncId} {args:List Value} {h h':IH} {v:Value} (hr:qZ E call n f args h=some (v,h')):h.n≤h'.n:=by
 unfold qZ at hr
 split at hr
 ·rename_i g hg;exact S.Pa _ _ hg _ _ _ _ hr
 ·split at hr
  ·cases hr
  ·split at hr
   ·obtain⟨vs,_,e⟩:=Option.map_eq_some_iff.1 hr
    cases e
    exact Nat.le_refl _
   ·simp only[cond_eq_ite] at hr
    split at hr
    ·split at hr
     ·cases hr
     ·rename_i fr1 h1 _ hx
      obtain⟨vs,_,e⟩:=Option.map_eq_some_iff.1 hr
      cases e
      exact sJ cy _ _ _ _ _ _ hx
     ·cases hr
    ·cases hr
theorem yg {E:Env} (S:Sound E) {call:bK} (fC:jP E.P call) (cy:dv call) {n:Nat} {f:FuncId} {args:List Value} {h h':IH} {v:Value} (hr:qZ E call n f args h=some (v,h'))
  {B:Nat} {w0:World} {m:Mp} {w:World} {args':Array Value} (R:Rel B w0 m h w) (fT:bC m args args'.toList) (hfr:fy m h.n h'.n) :
  ((∃fn,E.P.funcs[f]?=some fn∧fn.body.isSome=true)∧tp E.P f args' B w0 m h w v h')∨(∃fn,E.P.funcs[f]?=some fn∧fn.body=none∧h'=h∧jC fn.name args=some v):=by
 unfold qZ at hr
 split at hr
 ·rename_i g hg
  obtain⟨h1,h2⟩:=S.Dp f g hg
  exact .inl ⟨h1,h2 args h v h' hr B w0 m w args' R fT hfr⟩
 ·split at hr
  ·cases hr
  ·rename_i fn hfn
   split at hr
   ·rename_i hbn
    obtain⟨vs,hv,e⟩:=Option.map_eq_some_iff.1 hr
    cases e
    exact .inr ⟨fn,hfn,hbn,rfl,hv⟩
   ·rename_i c hc
    refine .inl ⟨⟨fn,hfn,by rw[hc];rfl⟩,?_⟩
    simp only[cond_eq_ite] at hr
    split at hr
    ·rename_i hlen
     have Le:args.length≤fn.ntmps:=by simpa using hlen
     have hsz:args'.size=args.length:=by rw[fT.1];simp
     split at hr
     ·cases hr
     ·rename_i e fr1 h1 hne hx
      obtain⟨vs,hvs,he⟩:=Option.map_eq_some_iff.1 hr
      cases he
      intro cs
      let b:Frame:={ fn:=f,tmps:=#[],todo:=[],defers:=[],mode:=.run,kind:=.normal,roundOf:=none }
      let tmps:Array Value:=args' ++ Array.replicate (fn.ntmps - args'.size) undef
      have hen:Frame.enter E.P f args' .normal=on b tmps [.code c] []:=by
       simp[Frame.enter,hfn,hc,on,b,tmps]
      have Sa:dJ m (jc 0 args) tmps:=by
       intro t u hu
       rw[sH] at hu
       simp only[Nat.zero_le,if_true,Nat.sub_zero] at hu
       obtain⟨u',h2,h3⟩:=fT.get hu
       have h4:args'[t]?=some u':=by simpa using h2
       refine⟨u',?_,h3⟩
       have:=(Array.getElem?_eq_some_iff.1 h4).1
       rw[Array.getElem?_append_left this,h4]
      have Uq:fn.ntmps≤tmps.size:=by simp[tmps];omega
      obtain⟨m1,w1,dP,ds1,k1,a1,a2,a3,a4,a5,a6,a7⟩:=wG (b:=b) (rd:=none) (z:=w.heap.size) (cs:=cs) fC cy S.mixed n c _ _ _ _ _ hx m w tmps [] [] R Sa Uq hfr (.inl ⟨rfl,rfl⟩) (kH.nil _ _ _ _) (Nat.le_refl _)
      obtain⟨rs,d1,d2,d3⟩:=a7
      have Fp : ∃todo,step E.P (lone (on b dP k1 ds1) cs w1)=.next (lone { on b dP todo ds1 with mode:=.returning } cs w1):=by
       cases e with
       | normal=>obtain rfl:k1=_:=a2;exact⟨_,stepR_end (b:=b) (a:=⟨dP,ds1⟩) rfl⟩
       | exit i=>exact absurd rfl (hne i)
       | ret=>obtain⟨k2,rfl⟩:=a2;exact⟨_,stepR_ret (b:=b) (a:=⟨dP,ds1⟩) rfl⟩
      obtain⟨todo,Fp⟩:=Fp
      obtain⟨w2,b1,b2,b3,b4⟩:=rA (P:=E.P) R.size rs { on b dP todo ds1 with mode:=.returning } cs w1 rfl d1 d2 d3 a5
      obtain⟨v',r1,r2⟩:=CI b2 a3 hvs
      refine⟨.returned v',w2,{ on b dP todo ds1 with mode:=.returning,defers:=[] },⟨v',m1,rfl,r2,b2,?_⟩,?_,?_,?_⟩
      ·refine⟨a6.le,a6.new,a6.n,a6.base,fun r hr hk=>?_,a6.idle,by rw[b3];exact a6.size,a6.img,a6.mD⟩
       rw[b4 r (fun hm=>by have:=(d3 r hm).1;omega)]
       exact a6.frame r hr hk
      ·exact(by rw[hen];exact a1.trans (.head Fp b1):Steps E.P (lone (Frame.enter E.P f args' .normal) cs w) _)
      ·rfl
      ·exact⟨rfl,rfl,rfl,fn,hfn,r1⟩
     ·cases hr
    ·cases hr
theorem tp.run {P:Program} {f:FuncId} {args:Array Value} {B:Nat} {w0:World} {m:Mp} {h:IH} {w:World} {v:Value} {h':IH} (H:tp P f args B w0 m h w v h') (c:Frame) (cs:List Frame) :
  ∃v' m' w',aB m' v v'∧Rel B w0 m' h' w'∧Step m h w m' h' w'∧Steps P (lone (Frame.enter P f args .normal) (c :: cs) w) (lone (c.finish v') cs w'):=by
 obtain⟨e,w',fr,⟨v',m',rfl,h1,h2,h3⟩,hc,_,hl⟩:=H (c :: cs)
 exact⟨v',m',w',h1,h2,h3,Steps.trans hc (.one (step_leave_returned hl))⟩
theorem BK {P:Program} {f:FuncId} {fn:Func} {args:Array Value} {w:World} (hf:P.funcs[f]?=some fn) (hb:fn.body.isSome=true) (hn:(fn.name == "runtime.NumGoroutine")=false):(callFunc f args).run P w=.ok (.enter f args) w:=by
 have hb':fn.body.isNone=false:=by cases h:fn.body<;>simp_all
 have hp:(program:Sem Program).run P w=.ok P w:=rfl
 simp only[callFunc,Sem.run_bind,hp,Result.andThen_ok,hf,hn,hb']
 rfl
def we:Array Value→Sem Value:=fun args=>do
 let (x,y,b) ←Extern.MathBitsCarry.three "Sub64" args
 pure (Extern.MathBitsCarry.pair ((x+Extern.MathBitsCarry.m64 - y - b) % Extern.MathBitsCarry.m64) (if x<y+b then 1 else 0))
theorem Lx {fn:Func} (h:fn.name = "math/bits.Add64"):Extern.find fn=some add64Entry:=by
 obtain⟨name,origin,params,resultTypes⟩:=fn
 simp only at h;subst h
 kernel_rfl
theorem Lv {fn:Func} (h:fn.name = "math/bits.Sub64"):Extern.find fn=some we:=by
 obtain⟨name,origin,params,resultTypes⟩:=fn
 simp only at h;subst h
 kernel_rfl
theorem KA {fn:Func} (h:fn.name = "math/bits.Add64") (ho:fn.origin = "math/bits.Add64" ∨ fn.origin = ""):Extern.findNext fn=none:=by
 obtain⟨name,origin,params,resultTypes⟩:=fn
 simp only at h ho;subst h
 rcases ho with ho|ho<;>subst ho<;>kernel_rfl
theorem Ky {fn:Func} (h:fn.name = "math/bits.Sub64") (ho:fn.origin = "math/bits.Sub64" ∨ fn.origin = ""):Extern.findNext fn=none:=by
 obtain⟨name,origin,params,resultTypes⟩:=fn
 simp only at h ho;subst h
 rcases ho with ho|ho<;>subst ho<;>kernel_rfl
theorem Ie {P:Program} (x y:Nat) {c:Nat} (hc:c≤1) (w:World) :
  (we #[.int .u64 (x:Int),.int .u64 (y:Int),.int .u64 (c:Int)]).run P w=.ok (.tuple #[.int .u64 (((x+18446744073709551616 - y - c) % 18446744073709551616:Nat):Int),.int .u64 ((if x<y+c then 1 else 0:Nat):Int)]) w:=by
 have:c=0∨c=1:=by omega
 rcases this with rfl|rfl<;>rfl
end Go.Id

namespace Go.Id
open Go Go.RowKit
theorem qh {m:Mp} {nt:Nat} : ∀(ps:List Nat) (vs:List Value) (vs':List Value) (fr fr':Fr) (tmps:Array Value),ef nt ps vs fr=some fr'→bC m vs vs'→dJ m fr tmps→nt≤tmps.size →
  ps.length=vs.length∧dJ m fr' ((ps.zip vs').foldl (fun tmps (x:Nat×Value)=>tmps.setIfInBounds x.1 x.2) tmps)∧nt≤((ps.zip vs').foldl (fun tmps (x:Nat×Value)=>tmps.setIfInBounds x.1 x.2) tmps).size
 | [],[],vs',fr,fr',tmps,h,hL,hf,ht=>by
  simp only[ef] at h;cases h
  exact⟨rfl,hf,ht⟩
 | t :: ps,v :: vs,[],fr,fr',tmps,h,hL,hf,ht=>by have:=hL.1;simp at this
 | t :: ps,v :: vs,v' :: vs',fr,fr',tmps,h,hL,hf,ht=>by
  rw[ef] at h
  split at h
  ·rename_i fr1 hp
   obtain⟨h1,h2⟩:=oT hp hf ht (hL.2 0 v v' rfl rfl)
   have hL':bC m vs vs':=⟨by have:=hL.1;simpa using this,fun i x x' a b=>hL.2 (i+1) x x' (by simpa using a) (by simpa using b)⟩
   obtain⟨a,b,c⟩:=qh ps vs vs' fr1 fr' (tmps.setIfInBounds t v') h hL' h1 h2
   exact⟨by simp[a],b,c⟩
  ·cases h
 | [],_ :: _,_,_,_,_,h,_,_,_=>by simp[ef] at h
 | _ :: _,[],_,_,_,_,h,_,_,_=>by simp[ef] at h
theorem kT.busy {m:Mp} {l:fa} {l':Loop} (h:kT m l l') (st:LoopState) (p:Option Code):kT m { l with state:=st,pending:=p } { l' with state:=st,pending:=p } :=
 ⟨rfl,rfl,h.fn,h.tmps,h.nt,h.params,h.assign,h.body⟩
theorem kT.PX {m:Mp} {l:fa} {l':Loop} (h:kT m l l') (st:LoopState):kT m { l with state:=st } { l' with state:=st } :=
 ⟨rfl,h.pending,h.fn,h.tmps,h.nt,h.params,h.assign,h.body⟩
structure MG (E:Env) (call:bK) (n l:Nat) (args:List Value) (h h':IH) (v:Value) where
 r:fa
 r1:fa
 r2:fa
 fr1:Fr
 fr2:Fr
 fr3:Fr
 h1:IH
 h2:IH
 e:bd
 loop:iy h l=some r
 put:ef r.nt r.params args r.fr=some fr1
 assign:evC E call r.fn r.nt (some l) n r.assign fr1 h=some (.normal,fr2,h1)
 O8:iy h1 l=some r1
 ready:r1.state=.ready
 body:evC E call r.fn r.nt (some l) n r.body fr2 { h1 with ext:=h1.ext.set l (.loop { r1 with state:=.busy }) }=some (e,fr3,h2)
 O7:iy h2 l=some r2
 done:(e=.normal∧v=.bool true∧h' = { h2 with ext:=h2.ext.set l (.loop { r2 with state:=.ready,pending:=none }) }) ∨
  (∃i,e=.exit i∧v=.bool false∧h' = { h2 with ext:=h2.ext.set l (.loop { r2 with state:=.done,pending:=some (.exit i) }) }) ∨
  (e=.ret∧v=.bool false∧h' = { h2 with ext:=h2.ext.set l (.loop { r2 with state:=.done,pending:=some .ret }) })
theorem qq {E:Env} {call:bK} {n l:Nat} {args:List Value} {h h':IH} {v:Value} (hr:ct E call n l args h=some (v,h')):Nonempty (MG E call n l args h h' v):=by
 unfold ct at hr
 split at hr
 ·cases hr
 ·rename_i r hl
  split at hr
  ·cases hr
  ·rename_i fr1 hp
   split at hr
   ·rename_i fr2 h1 hx
    split at hr
    ·cases hr
    ·rename_i r1 hl1
     simp only[cond_eq_ite,beq_iff_eq] at hr
     split at hr
     ·rename_i hst
      split at hr
      ·cases hr
      ·rename_i e fr3 h2 hy
       split at hr
       ·cases hr
       ·rename_i r2 hl2
        split at hr<;>cases hr
        ·exact⟨⟨r,r1,r2,fr1,fr2,fr3,h1,h2,_,hl,hp,hx,hl1,hst,hy,hl2,.inl ⟨rfl,rfl,rfl⟩⟩⟩
        ·exact⟨⟨r,r1,r2,fr1,fr2,fr3,h1,h2,_,hl,hp,hx,hl1,hst,hy,hl2,.inr (.inl ⟨_,rfl,rfl,rfl⟩)⟩⟩
        ·exact⟨⟨r,r1,r2,fr1,fr2,fr3,h1,h2,_,hl,hp,hx,hl1,hst,hy,hl2,.inr (.inr ⟨rfl,rfl,rfl⟩)⟩⟩
     ·cases hr
   ·cases hr
theorem DS {E:Env} {call:bK} (cy:dv call) {n l:Nat} {args:List Value} {h h':IH} {v:Value} (hr:ct E call n l args h=some (v,h')):h.n≤h'.n:=by
 obtain⟨Y⟩:=qq hr
 have n1:=sJ cy _ _ _ _ _ _ Y.assign
 have n2:=sJ cy _ _ _ _ _ _ Y.body
 have n3:h'.n=Y.h2.n:=by rcases Y.done with⟨_,_,e⟩|⟨_,_,_,e⟩|⟨_,_,e⟩<;>exact(congrArg IH.n e).trans rfl
 rw[n3]
 exact Nat.le_trans n1 n2
theorem yU {E:Env} (S:Sound E) {call:bK} (fC:jP E.P call) (cy:dv call) {n l:Nat} {args:List Value} {h h':IH} {v:Value} (hr:ct E call n l args h=some (v,h'))
  {B:Nat} {w0:World} {m:Mp} {w:World} {args':Array Value} (R:Rel B w0 m h w) (fT:bC m args args'.toList) (hfr:fy m h.n h'.n) {r0 s0:Nat} (hm:m (2*l)=some (r0,s0)) :
  ∃f ts a c,(Instr.yield r0 args').run E.P w=.ok (.round r0 f ts a c) w ∧
   ∀(c0:Frame) (cs:List Frame),∃v' m' w',aB m' v v'∧Rel B w0 m' h' w'∧Step m h w m' h' w'∧Steps E.P (lone (Frame.round r0 f ts a c .normal) (c0 :: cs) w) (lone (c0.finish v') cs w'):=by
 obtain⟨Y⟩:=qq hr
 have n1:=sJ cy _ _ _ _ _ _ Y.assign
 have n2:=sJ cy _ _ _ _ _ _ Y.body
 have n3:h'.n=Y.h2.n:=by rcases Y.done with⟨_,_,e⟩|⟨_,_,_,e⟩|⟨_,_,e⟩<;>exact(congrArg IH.n e).trans rfl
 obtain⟨_,L,hL,iz⟩:=R.obj _ _ _ _ (gf Y.loop) hm
 obtain⟨p1,p2,p3⟩:=qh Y.r.params args args'.toList Y.r.fr Y.fr1 L.tmps Y.put fT iz.tmps iz.nt
 have hsz:args'.size=L.params.size:=by
  have h1:L.params.size=Y.r.params.length:=by rw[←iz.params];simp
  have h2:=fT.1
  simp at h2
  omega
 have htm:(L.params.zip args').foldl (fun tmps (x:Tmp×Value)=>tmps.setIfInBounds x.1 x.2) L.tmps=(Y.r.params.zip args'.toList).foldl (fun tmps (x:Nat×Value)=>tmps.setIfInBounds x.1 x.2) L.tmps:=by
  rw[←Array.foldl_toList,Array.toList_zip,iz.params]
 rw[←htm] at p2 p3
 refine⟨_,_,_,_,run_yield hL hsz,fun c0 cs=>?_⟩
 let b:Frame:={ fn:=L.fn,tmps:=#[],todo:=[],defers:=[],mode:=.run,kind:=.normal,roundOf:=some r0 }
 have hb:b.fn=Y.r.fn:=iz.fn
 have hx:=Y.assign
 rw[←hb] at hx
 obtain⟨m1,w1,dP,ds1,k1,a1,a2,a3,a4,a5,a6,a7⟩:=wG (b:=b) (rd:=some l) (z:=w.heap.size) (cs:=c0 :: cs) fC cy S.mixed n Y.r.assign _ _ _ _ _ hx m w _ [.beginRound,.code Y.r.body] [] R p2 p3 (hfr.sub (Nat.le_refl _) (by rw[n3];exact n2)) (.inr ⟨l,r0,s0,rfl,rfl,hm⟩) (kH.nil _ _ _ _) (Nat.le_refl _)
 obtain rfl:k1=_:=a2
 have hm1:=(a6.le _ _ hm).1
 obtain⟨hs0,L1,hL1,Pe⟩:=a5.obj _ _ _ _ (gf Y.O8) hm1
 obtain⟨Rb,Sb⟩:=a5.setObj (o1:=.loop { Y.r1 with state:=.busy }) (o':=.loop { L1 with state:=.busy }) (gf Y.O8) rfl rfl hm1 rfl (fun w' z e=>⟨hs0,_,e,Pe.PX .busy⟩)
 have UK:(Instr.beginRound r0).run E.P w1=.ok () (w1.putObj r0 (.loop { L1 with state:=.busy })):=run_beginRound hL1 (by rw[Pe.state];exact Y.ready)
 have st1:step E.P (lone (on b dP (.beginRound :: [.code Y.r.body]) ds1) (c0 :: cs) w1)=.next (lone (on b dP [.code Y.r.body] ds1) (c0 :: cs) (w1.putObj r0 (.loop { L1 with state:=.busy }))) :=
  stepR_beginRound (b:=b) (a:=⟨dP,ds1⟩) rfl UK
 have hy:=Y.body
 rw[←hb] at hy
 have S1b:=a6.trans Sb
 obtain⟨m2,w2,zf,ds2,k2,b1,b2,b3,b4,b5,b6,b7⟩:=wG (b:=b) (rd:=some l) (z:=w.heap.size) (cs:=c0 :: cs) fC cy S.mixed n Y.r.body _ _ _ _ _ hy m1 _ dP [] ds1 Rb a3 a4 ((S1b.fresh hfr).sub (Nat.le_refl _) (by rw[n3];exact Nat.le_refl _)) (.inr ⟨l,r0,s0,rfl,rfl,hm1⟩) (a7.step Sb) (Nat.le_trans a6.size Sb.size)
 have hm2:=(b6.le _ _ hm1).1
 obtain⟨_,L2,hL2,Sh⟩:=b5.obj _ _ _ _ (gf Y.O7) hm2
 have start:lone (Frame.round r0 L.fn ((L.params.zip args').foldl (fun tmps (x:Tmp×Value)=>tmps.setIfInBounds x.1 x.2) L.tmps) L.assign L.body .normal) (c0 :: cs) w =
   lone (on b ((L.params.zip args').foldl (fun tmps (x:Tmp×Value)=>tmps.setIfInBounds x.1 x.2) L.tmps) (.code Y.r.assign :: [.beginRound,.code Y.r.body]) []) (c0 :: cs) w:=by
  rw[iz.assign,iz.body];rfl
 have path:=a1.trans (.head st1 b1)
 have fin : ∀(e:bd) (u:Value) (st:LoopState) (xk:Option Code),h' = { Y.h2 with ext:=Y.h2.ext.set l (.loop { Y.r2 with state:=st,pending:=xk }) }→u=.bool xk.isNone→v=u →
   (st=if xk.isNone then .ready else .done) →
   step E.P (lone (on b zf k2 ds2) (c0 :: cs) w2)=.next (lone (c0.finish u) cs (w2.putObj r0 (.loop { L2 with state:=if xk.isNone then .ready else .done,pending:=xk }))) →
   ∃v' m' w',aB m' v v'∧Rel B w0 m' h' w'∧Step m h w m' h' w'∧Steps E.P (lone (Frame.round r0 L.fn ((L.params.zip args').foldl (fun tmps (x:Tmp×Value)=>tmps.setIfInBounds x.1 x.2) L.tmps) L.assign L.body .normal) (c0 :: cs) w) (lone (c0.finish v') cs w'):=by
  intro e u st xk e1 e2 e3 e4 hst
  obtain⟨R3,S3⟩:=b5.setObj (o1:=.loop { Y.r2 with state:=st,pending:=xk }) (o':=.loop { L2 with state:=st,pending:=xk }) (gf Y.O7) rfl rfl hm2 rfl (fun w' z e=>⟨hs0,_,e,Sh.busy st xk⟩)
  refine⟨u,m2,_,by rw[e3,e2];exact .bP rfl,by rw[e1];exact R3,by rw[e1];exact(S1b.trans b6).trans S3,?_⟩
  rw[start]
  rw[←e4] at hst
  exact path.trans (.one hst)
 rcases Y.done with⟨e1,e2,e3⟩|⟨i,e1,e2,e3⟩|⟨e1,e2,e3⟩
 ·rw[e1] at b2
  obtain rfl:k2=_:=b2
  exact fin .normal (.bool true) .ready none e3 rfl e2 rfl (stepR_round_end (b:=b) (a:=⟨zf,ds2⟩) rfl rfl (run_endRound none hL2))
 ·rw[e1] at b2
  obtain⟨k3,rfl,hk3⟩:=b2
  exact fin (.exit i) (.bool false) .done (some (.exit i)) e3 rfl e2 rfl (stepR_round_exit (b:=b) (a:=⟨zf,ds2⟩) rfl rfl (by rw[hk3];rfl) (run_endRound (some (.exit i)) hL2))
 ·rw[e1] at b2
  obtain⟨k3,rfl⟩:=b2
  exact fin .ret (.bool false) .done (some .ret) e3 rfl e2 rfl (stepR_round_ret (b:=b) (a:=⟨zf,ds2⟩) rfl rfl (run_endRound (some .ret) hL2))
theorem Jc {P:Program} {f:FuncId} {fn:Func} (hf:P.funcs[f]?=some fn) (hb:fn.body=none) (ho:fn.origin=fn.name∨fn.origin = "") {args:List Value} {v:Value} (hc:jC fn.name args=some v) {m:Mp} {args':Array Value} (fT:bC m args args'.toList) (w:World) :
  ∃v',(callFunc f args').run P w=.ok (.value v') w∧aB m v v' ∧ ∀a∈args'.toList,∃k n,a=Value.int k n:=by
 unfold jC at hc
 split at hc
 case h_2=>cases hc
 rename_i x y c
 simp only[cond_eq_ite] at hc
 split at hc
 case isFalse=>cases hc
 rename_i hle
 have Sr:c≤1:=by simpa using hle
 obtain⟨a0,b0,r0⟩:=fT.get (i:=0) rfl
 obtain⟨a1,b1,r1⟩:=fT.get (i:=1) rfl
 obtain⟨a2,b2,r2⟩:=fT.get (i:=2) rfl
 have e0:=r0.dw rfl
 have e1:=r1.dw rfl
 have e2:=r2.dw rfl
 subst e0;subst e1;subst e2
 have hl:args'.toList = [.int .u64 (.ofNat x),.int .u64 (.ofNat y),.int .u64 (.ofNat c)]:=by
  have h1:=fT.1
  apply List.ext_getElem?
  intro i
  match i with
  | 0=>exact b0
  | 1=>exact b1
  | 2=>exact b2
  | i+3=>rw[List.getElem?_eq_none (by simp at h1 ⊢;omega),List.getElem?_eq_none (by simp)]
 have ha:args' = #[.int .u64 (.ofNat x),.int .u64 (.ofNat y),.int .u64 (.ofNat c)]:=by rw[←Array.toArray_toList (xs:=args'),hl]
 have hint : ∀a∈args'.toList,∃k n,a=Value.int k n:=by
  rw[hl]
  intro a h
  simp only[List.mem_cons,List.not_mem_nil,or_false] at h
  rcases h with rfl|rfl|rfl<;>exact⟨_,_,rfl⟩
 split at hc
 ·rename_i hn
  have hn:fn.name = "math/bits.Add64" := by simpa using hn
  cases hc
  refine⟨_,?_,aB.gE (cs:=#[.int .u64 _,.int .u64 _]) (cs':=#[.int .u64 _,.int .u64 _]) (.cons (.bP rfl) (.cons (.bP rfl) (.nil _))),hint⟩
  rw[run_callFunc_extern hf (by rw[hn];decide +kernel) (by rw[hb];rfl) (KA hn (ho.imp (fun e=>by rw[e,hn]) id)) (Lx hn),ha,run_add64 _ _ _ (by exact Int.natCast_nonneg _) (by exact Int.natCast_nonneg _) (by exact Int.natCast_nonneg _) (by exact Int.ofNat_le.2 Sr)]
  simp only[Result.andThen_ok]
  rfl
 ·split at hc
  ·rename_i hn
   have hn:fn.name = "math/bits.Sub64" := by simpa using hn
   cases hc
   refine⟨_,?_,aB.gE (cs:=#[.int .u64 _,.int .u64 _]) (cs':=#[.int .u64 _,.int .u64 _]) (.cons (.bP rfl) (.cons (.bP rfl) (.nil _))),hint⟩
   rw[run_callFunc_extern hf (by rw[hn];decide +kernel) (by rw[hb];rfl) (Ky hn (ho.imp (fun e=>by rw[e,hn]) id)) (Lv hn),ha]
   show((we #[.int .u64 (x:Int),.int .u64 (y:Int),.int .u64 (c:Int)]).run P w).andThen _=_
   rw[Ie x y Sr]
   simp only[Result.andThen_ok]
   congr 4
   by_cases hlt:x<y+c
   ·simp[hlt]
   ·simp[hlt]
  ·cases hc
theorem lK {E:Env} (S:Sound E) : ∀n,dv (cI E n)
 | 0=>fun fv vs h h' v hr=>by simp[cI] at hr
 | n+1=>fun fv vs h h' v hr=>by
  unfold cI at hr
  split at hr
  ·exact Mm S (lK S n) hr
  ·simp only[cond_eq_ite] at hr
   split at hr
   ·exact DS (lK S n) hr
   ·cases hr
  ·cases hr
theorem tX {E:Env} (S:Sound E) : ∀n,jP E.P (cI E n)
 | 0=>fun fv vs h h' v hr=>by simp[cI] at hr
 | n+1=>fun fv vs h h' v hr B w0 m w fv' vs' R hfv hvs hfr=>by
  unfold cI at hr
  split at hr
  ·rename_i f first cap
   obtain⟨fn',BC,QP,rfl,hfn,h1,h2⟩:=hfv.sE
   cases fn'<;>simp only[pj] at hfn
   subst hfn
   have fT:bC m (first.toList ++ (vs ++ cap.toList)) (BC ++ vs' ++ QP).toList:=by
    rw[Array.toList_append,Array.toList_append,List.append_assoc]
    exact h1.append (hvs.append h2)
   rcases yg S (tX S n) (lK S n) hr R fT hfr with⟨⟨fn,hf,hb⟩,hC⟩|⟨fn,hf,hb,rfl,hcv⟩
   case inr =>
    obtain⟨v',e1,e2,e3⟩:=Jc hf hb (S.origin f fn hf hb hcv) hcv fT w
    refine⟨.value v',?_,.inl ⟨v',rfl,rfl,e2,fun a ha=>e3 a (by rw[Array.toList_append,Array.toList_append];simp[ha])⟩⟩
    simp only[Deferred.ofValue,Sem.run_bind,Sem.run_pure,Result.andThen_ok,invoke]
    exact e1
   refine⟨.enter f (BC ++ vs' ++ QP),?_,.inr ⟨_,.inl ⟨_,_,rfl,rfl⟩,fun c cs=>hC.run c cs⟩⟩
   simp only[Deferred.ofValue,Sem.run_bind,Sem.run_pure,Result.andThen_ok,invoke]
   exact BK hf hb (S.names f fn hf hb)
  ·rename_i l first cap
   simp only[cond_eq_ite,beq_iff_eq] at hr
   split at hr
   ·rename_i hev
    obtain⟨fn',BC,QP,rfl,hfn,h1,h2⟩:=hfv.sE
    cases fn'<;>simp only[pj] at hfn
    obtain⟨s,hm⟩:=hfn
    have hl:2*(l / 2)=l:=by omega
    rw[←hl] at hm
    have fT:bC m (first.toList ++ vs) (BC ++ vs').toList:=by
     rw[Array.toList_append]
     exact h1.append hvs
    obtain⟨f,ts,a,c,hy,bf⟩:=yU S (tX S n) (lK S n) hr R fT hfr hm
    refine⟨_,?_,.inr ⟨_,.inr ⟨_,f,ts,a,c,rfl,rfl⟩,bf⟩⟩
    simp only[Deferred.ofValue,Sem.run_bind,Sem.run_pure,Result.andThen_ok,invoke]
    exact hy
   ·cases hr
  ·cases hr
theorem Dr {E:Env} (S:Sound E) {n:Nat} {f:FuncId} {args:List Value} {h h':IH} {v:Value} (hr:cI E (n+1) (.func (.func f) #[] #[]) args h=some (v,h'))
  {B:Nat} {w0:World} {m:Mp} {w:World} {args':Array Value} (R:Rel B w0 m h w) (fT:bC m args args'.toList) (hfr:fy m h.n h'.n) (hv : ∀n a,jC n a≠some v):tp E.P f args' B w0 m h w v h':=by
 unfold cI at hr
 rcases yg S (tX S n) (lK S n) hr R (by simpa using fT) hfr with⟨_,h⟩|⟨_,_,_,_,h⟩
 ·exact h
 ·exact absurd h (hv _ _)
end Go.Id

namespace Go.Id
open Go Go.RowKit
def IH.start (base:Nat→Option (List Value)):IH:={ base,n:=0,ext:=.leaf,cM:=.leaf }
def Mp.jI (A:Nat→Nat×Nat):Mp:=⟨fun b=>if b % 2=1 then some (if b / 2<4294967296 then (b / 2,0) else A (b / 2 - 4294967296)) else none,fun _=>(0,0)⟩
theorem Mp.uh (A:Nat→Nat×Nat) {b:Nat} (h:b<4294967296):Mp.jI A (2*b+1)=some (b,0):=by
 show(if (2*b+1) % 2=1 then some (if (2*b+1) / 2<4294967296 then ((2*b+1) / 2,0) else A ((2*b+1) / 2 - 4294967296)) else none)=some (b,0)
 rw[if_pos (by omega),if_pos (by omega),show(2*b+1) / 2=b from by omega]
theorem Mp.rF (A:Nat→Nat×Nat) (i:Nat):Mp.jI A (2*(4294967296+i)+1)=some (A i):=by
 show(if (2*(4294967296+i)+1) % 2=1 then some (if (2*(4294967296+i)+1) / 2<4294967296 then ((2*(4294967296+i)+1) / 2,0) else A ((2*(4294967296+i)+1) / 2 - 4294967296)) else none)=some (A i)
 rw[if_pos (by omega),if_neg (by omega),show(2*(4294967296+i)+1) / 2 - 4294967296=i from by omega]
theorem Mp.rG (A:Nat→Nat×Nat) (k:Nat):Mp.jI A (2*k)=none:=by
 show(if (2*k) % 2=1 then _ else none)=none
 rw[if_neg (by omega)]
def BX (A:Nat→Nat×Nat) (base:Nat→Option (List Value)) (w:World):Prop:=∀b cs,base b=some cs → ∃r s,Mp.jI A (2*b+1)=some (r,s) ∧ ∃c el fz,w.heap[r]?=some (.cells c el fz)∧qA (Mp.jI A) cs c s
theorem Rel.start {A:Nat→Nat×Nat} {base:Nat→Option (List Value)} {w:World} (hb:BX A base w):Rel w.heap.size w (Mp.jI A) (IH.start base) w:=by
 have leaf : ∀{α:Type} (k:Nat),(Tr.leaf:Tr α).get k=none:=fun k=>rfl
 refine⟨Below.refl _ _,Nat.le_refl _,?_,fun b h=>Mp.uh A h,?_,fun k _=>leaf k,?_,?_,?_,?_,?_,?_⟩
 ·intro b cs h
  obtain⟨r,s,h0,c,el,fz,h1,h2⟩:=hb b cs h
  exact⟨r,s,h0,(Array.getElem?_eq_some_iff.1 h1).1,c,el,fz,h1,h2⟩
 ·intro k r s h
  rw[Mp.rG] at h;cases h
 ·intro k o r s h;cases h
 ·intro k k' o o' r s s' _ h;cases h
 ·intro f st h;cases h
 ·intro k cs t f h;cases h
 ·intro f st h;cases h
 ·intro f st x y h;cases h
theorem tN {w w':World} (h:Below w.heap.size w w') (may:MemPlace→Prop):w.keptBut w' may:=by
 refine⟨h.os,h.output,fun i hi=>?_⟩
 rw[h.block i hi]
 cases hx:w.heap[i]? with
 | none=>rfl
 | some o =>
  cases o with
  | cells c t fr=>exact⟨rfl,rfl,rfl,fun _ _=>rfl⟩
  | map es cl=>exact .inr ⟨rfl,rfl⟩
  | _=>rfl
theorem yH {H:Type} {enc:TypeId×Value→H} {P:Program} {f:Func} {s:ChangeSpec} {apart fresh handsOn:Bool} {W W':World} {args:Array Value} {v:Value} {ds gs:List (DataW H)} {before pa pv:List MemPlace}
  (hW:DataW.Whole enc P f.params.toList s.vars apart W args.toList ds gs before)
  (Fm : ∀(b:Nat) (sp:Nat→Bool) (hd:Bool),DataW.TrodAll enc P W' b sp hd f.resultTypes.toList (v.resultList f.resultTypes.size) (s.fn H (ds ++ gs)).results [])
  (fT : ∀sp:Nat→Bool,(∀p∈before,sp p.block=true)→DataW.TrodAll enc P W' 0 sp true f.params.toList args.toList (s.fn H (ds ++ gs)).args pa)
  (R8 : ∀sp:Nat→Bool,(∀p∈before,sp p.block=true)→DataW.TrodVars enc P W' sp s.vars (s.fn H (ds ++ gs)).vars pv)
  (hk:Below W.heap.size W W'):s.post enc P f apart fresh handsOn false W args v W':=by
 have hold : ∀p∈before,(fun b=>decide (b<W.heap.size)) p.block=true:=fun p hp=>by simpa using hW.lt p hp
 exact⟨ds,gs,before,[],pa,pv,hW,Fm _ _ _,fT _ hold,R8 _ hold,tN hk _,fun h=>by cases h⟩
theorem FM (n:String) (a:List Value):jC n a≠some (.bool true):=by
 intro h
 unfold jC at h
 split at h
 ·simp only[cond_eq_ite] at h
  repeat' split at h
  all_goals first|cases h|contradiction
 ·cases h
theorem Fj {E:Env} (S:Sound E) {n:Nat} {f:FuncId} {args:List Value} {h':IH} {A:Nat→Nat×Nat} {base:Nat→Option (List Value)} (hr:cI E (n+1) (.func (.func f) #[] #[]) args (IH.start base)=some (.bool true,h'))
  {w:World} {args':Array Value} (hb:BX A base w) (fT:bC (Mp.jI A) args args'.toList):Calls E.P f args' w fun e w'=>e=.returned (.bool true)∧Below w.heap.size w w':=by
 refine(Dr S hr (Rel.start hb) fT (fun k _ _=>Mp.rG A k) FM).mono fun e w' ⟨v',m',he,hv,R,_⟩=>?_
 rw[he,hv.dw rfl]
 exact⟨rfl,R.below⟩
end Go.Id

namespace Go.Id
open Go
def tW (o:Oper):Bool:=cw o.op == .pure || cw o.op == .load
def iL (ops:List Oper) (i p:Nat):Bool :=
 (List.range ops.length).all fun j => !(Nat.ble (min i p) j && Nat.blt j (max i p)) || (match ops[j]? with|some o=>tW o|none=>false)
def zy (ops:List Oper):List (Nat×List Nat):=(yI ops).filterMap fun e=>match e.2.filter (fun p => !iL ops e.1 p) with
 | []=>none
 | l=>some (e.1,l)
theorem Jg {E:Env} {call:bK} {nt:Nat} {ops:List Oper} {o:Oper} {fr fr':Fr} {h h':IH} (hc:tW o=true) (hs:dR E call nt ops o fr h=some (fr',h')):h'=h:=by
 have hne:cw o.op≠.chain:=by
  intro hk;simp[tW,hk] at hc
 unfold dR at hs
 split at hs
 ·rw[eE hne] at hs
  split at hs
  ·rename_i v h1 hi
   obtain⟨f,_,e⟩:=Option.map_eq_some_iff.1 hs
   cases e
   simp only[tW,Bool.or_eq_true,beq_iff_eq] at hc
   rcases hc with hc|hc
   ·exact(xo hc hi).1
   ·exact xp hc hi
  ·cases hs
 ·obtain⟨f,_,e⟩:=Option.map_eq_some_iff.1 hs
  cases e;rfl
 ·cases hs
theorem qY {E:Env} {call:bK} {nt:Nat} {ops:List Oper} {fr:Fr} {h:IH} {tr:List (Fr×IH)} (ht:trace E call nt ops ops fr h=some tr) : ∀(d a:Nat) (x y:Fr×IH),(∀j,a≤j→j<a+d → ∃o,ops[j]?=some o∧tW o=true)→tr[a]?=some x→tr[a+d]?=some y→y.2=x.2
 | 0,a,x,y,_,hx,hy=>by rw[Nat.add_zero,hx] at hy;cases hy;rfl
 | d+1,a,x,y,hc,hx,hy=>by
  obtain⟨o,ho,hco⟩:=hc a (Nat.le_refl _) (by omega)
  obtain⟨_,_,h3⟩:=mR ops fr h tr ht
  obtain⟨fr1,h1,fr2,h2,e1,e2,hs⟩:=h3 a o ho
  rw[hx] at e1;cases e1
  have e3:=Jg hco hs
  have:=qY ht d (a+1) (fr2,h2) y (fun j a1 a2=>hc j (by omega) (by omega)) e2 (by rw[←hy];congr 1;omega)
  rw[this];exact e3
theorem Jh {E:Env} {call:bK} {nt:Nat} {ops:List Oper} {fr:Fr} {h:IH} {tr:List (Fr×IH)} (ht:trace E call nt ops ops fr h=some tr) {i p:Nat} (hc:iL ops i p=true) (hi:i≤ops.length) (hp:p≤ops.length) {x y:Fr×IH} (hx:tr[i]?=some x) (hy:tr[p]?=some y):y.2=x.2:=by
 simp only[iL,List.all_eq_true,List.mem_range,Bool.or_eq_true,Bool.not_eq_true',Bool.and_eq_false_iff] at hc
 have key : ∀j,min i p≤j→j<max i p → ∃o,ops[j]?=some o∧tW o=true:=by
  intro j a b
  rcases hc j (by omega) with hh|hh
  ·rcases hh with hh|hh
   ·rw[Bool.eq_false_iff] at hh;exact absurd (by rw[Nat.ble_eq];exact a) hh
   ·rw[Bool.eq_false_iff] at hh;exact absurd (by simp only[Nat.blt,Nat.ble_eq];omega) hh
  ·split at hh
   ·rename_i o ho;exact⟨o,ho,hh⟩
   ·cases hh
 rcases Nat.le_total i p with hip|hip
 ·exact qY ht (p - i) i x y (fun j a b=>key j (by omega) (by omega)) hx (by rw[←hy];congr 1;omega)
 ·exact(qY ht (i - p) p y x (fun j a b=>key j (by omega) (by omega)) hy (by rw[←hx];congr 1;omega)).symm
theorem Ko {ops:List Oper} {e:Nat×List Nat} (he:e∈yI ops):(∃o,ops[e.1]?=some o∧cw o.op=.load) ∧ ∀p∈e.2,p≤ops.length:=by
 simp only[yI,List.mem_filterMap,List.mem_range] at he
 obtain⟨i,hi,he⟩:=he
 split at he
 ·cases he
 ·rename_i o ho
  simp only[cond_eq_ite,beq_iff_eq] at he
  split at he
  ·rename_i hk
   cases he
   refine⟨⟨o,ho,hk⟩,fun p hp=>?_⟩
   have:=(List.mem_filter.1 hp).1
   rw[List.mem_append] at this
   rcases this with h1|h1
   ·have:=(List.mem_filter.1 h1).1;rw[List.mem_range] at this;omega
   ·simp at h1;omega
  ·cases he
theorem wh {E:Env} {call:bK} {nt:Nat} {ops:List Oper} {fr:Fr} {h:IH} {tr:List (Fr×IH)} (ht:trace E call nt ops ops fr h=some tr) (hs:steady E.P ops tr (zy ops)=true):steady E.P ops tr (yI ops)=true:=by
 simp only[steady,List.all_eq_true] at hs ⊢
 intro e he
 obtain⟨⟨o,ho,hk⟩,hps⟩:=Ko he
 obtain⟨hlen,_,h3⟩:=mR ops fr h tr ht
 obtain⟨fr1,h1,fr2,h2,e1,e2,hst⟩:=h3 e.1 o ho
 have hi:e.1<ops.length:=(List.getElem?_eq_some_iff.1 ho).1
 simp only[ho,e1]
 split
 ·rename_i hw
  rw[List.all_eq_true]
  intro p hp
  have hpl:=hps p hp
  obtain⟨⟨fp,hpp⟩,hp1⟩ : ∃y,tr[p]?=some y:=⟨tr[p]'(by omega),List.getElem?_eq_getElem (by omega)⟩
  cases hcb:iL ops e.1 p with
  | true =>
   have dS:=Jh ht hcb (Nat.le_of_lt hi) hpl e1 hp1
   simp only at dS
   simp only[hp1]
   subst dS
   unfold dR at hst
   simp only[hw] at hst
   rw[eE (by rw[hk];simp)] at hst
   split at hst
   ·rename_i v h1' hv
    simp[gT,hv,DC]
   ·cases hst
  | false =>
   have Fo : ∃l,(e.1,l)∈zy ops∧p∈l:=by
    refine⟨e.2.filter (fun p => !iL ops e.1 p),?_,by simp[hp,hcb]⟩
    simp only[zy,List.mem_filterMap]
    refine⟨e,he,?_⟩
    split
    ·rename_i Qo
     have:p∈e.2.filter (fun p => !iL ops e.1 p):=by simp[hp,hcb]
     rw[Qo] at this;cases this
    ·rfl
   obtain⟨l,hl,hpl⟩:=Fo
   have:=hs _ hl
   simp only[ho,e1,hw,List.all_eq_true] at this
   exact this p hpl
 ·rfl
theorem rQ {E:Env} {call:bK} {nt:Nat} {ops:List Oper} : ∀(l:List Oper) (fr:Fr) (h:IH) (r:Fr×IH),gM E call nt ops l fr h=some r → ∃tr,trace E call nt ops l fr h=some tr∧tr[l.length]?=some r
 | [],fr,h,r,hr=>by simp only[gM] at hr;cases hr;exact⟨_,rfl,rfl⟩
 | o :: l,fr,h,r,hr=>by
  rw[gM] at hr
  split at hr
  ·rename_i fr1 h1 hs
   obtain⟨tr,e1,e2⟩:=rQ l fr1 h1 r hr
   exact⟨(fr,h) :: tr,by simp[trace,hs,e1],by simpa using e2⟩
  ·cases hr
def fG (ops:List Oper):Bool:=ni ops && (zy ops).isEmpty
theorem yF {E:Env} {call:bK} {nt:Nat} {ops:List Oper} {fr:Fr} {h:IH} {r:Fr×IH} (hc:fG ops=true) (hr:gM E call nt ops ops fr h=some r):jS E call nt ops fr h=some r:=by
 simp only[fG,Bool.and_eq_true,List.isEmpty_iff] at hc
 obtain⟨tr,e1,e2⟩:=rQ ops fr h r hr
 have hs:steady E.P ops tr (yI ops)=true:=wh e1 (by rw[hc.2];rfl)
 simp[jS,e1,hc.1,hs,e2]
end Go.Id
