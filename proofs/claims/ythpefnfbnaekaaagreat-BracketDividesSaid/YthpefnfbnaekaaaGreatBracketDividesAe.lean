/-
  The ideal machine: code, on the model's machine. The ideal machine: calls, on the model's machine.
-/
import Derived.Test.YthpefnfbnaekaaaGreatBracketDividesAd
import Derived.Laws.Externs
import Derived.KernelRfl
import Derived.RowKit3
set_option linter.unusedVariables false
set_option linter.unusedSimpArgs false
set_option linter.defProp false
set_option linter.deprecated false
namespace Go.Id
open Go Go.RowKit
def LandsAt:IExit→List Item→List Item→Prop
 | .normal,k,k'=>k'=k
 | .exit i,k,k' => ∃k1,k'=.code (.exit i) :: k1∧exitTo i k1=exitTo i k
 | .ret,_,k' => ∃k1,k'=.code .ret :: k1
def FrameOK (b:Frame) (rd:Option Nat) (m:Mp):Prop:=(b.roundOf=none∧rd=none) ∨ ∃l r s,rd=some l∧b.roundOf=some r∧m (2*l)=some (r,s)
theorem FrameOK.mono {b:Frame} {rd:Option Nat} {m m':Mp} (h:FrameOK b rd m) (hm:m.le m'):FrameOK b rd m':=by
 rcases h with h|⟨l,r,s,h1,h2,h3⟩
 ·exact .inl h
 ·exact .inr ⟨l,r,s,h1,h2,(hm _ _ h3).1⟩
def Ran (E:Env) (b:Frame) (B:Nat) (w0:World) (z:Nat) (nt:Nat) (cs:List Frame) (m:Mp) (h:IH) (w:World) (k0:List Item) (M:Machine) (e:IExit) (fr':Fr) (h':IH):Prop :=
 ∃m' w' tmps' ds' k',Steps E.P M (lone (on b tmps' k' ds') cs w')∧LandsAt e k0 k'∧FrRel m' fr' tmps'∧nt≤tmps'.size∧Rel B w0 m' h' w'∧Step m h w m' h' w'∧DefOK z m' h' w' ds'
def SimCode (E:Env) (run:Fr→IH→Out) (b:Frame) (rd:Option Nat) (B:Nat) (w0:World) (z nt:Nat) (cs:List Frame) (c:Code):Prop :=
 ∀(fr:Fr) (h:IH) (e:IExit) (fr':Fr) (h':IH),run fr h=some (e,fr',h') → ∀(m:Mp) (w:World) (tmps:Array Value) (k:List Item) (ds:List Deferred),
  Rel B w0 m h w→FrRel m fr tmps→nt≤tmps.size→Fresh m h.n h'.n→FrameOK b rd m→DefOK z m h w ds→z≤w.heap.size →
  Ran E b B w0 z nt cs m h w k (lone (on b tmps (.code c :: k) ds) cs w) e fr' h'
theorem Ran.first {E:Env} {b:Frame} {B:Nat} {w0:World} {z:Nat} {nt:Nat} {cs:List Frame} {m:Mp} {h:IH} {w:World} {k0:List Item} {M M1:Machine} {e:IExit} {fr':Fr} {h':IH}
  (hs:Steps E.P M M1) (r:Ran E b B w0 z nt cs m h w k0 M1 e fr' h'):Ran E b B w0 z nt cs m h w k0 M e fr' h':=by
 obtain⟨m',w',tmps',ds',k',h1,h2⟩:=r
 exact⟨m',w',tmps',ds',k',hs.trans h1,h2⟩
theorem Ran.step {E:Env} {b:Frame} {B:Nat} {w0:World} {z:Nat} {nt:Nat} {cs:List Frame} {m m1:Mp} {h h1:IH} {w w1:World} {k0:List Item} {M:Machine} {e:IExit} {fr':Fr} {h':IH}
  (s:Step m h w m1 h1 w1) (r:Ran E b B w0 z nt cs m1 h1 w1 k0 M e fr' h'):Ran E b B w0 z nt cs m h w k0 M e fr' h':=by
 obtain⟨m',w',tmps',ds',k',a1,a2,a3,a4,a5,a6,a7⟩:=r
 exact⟨m',w',tmps',ds',k',a1,a2,a3,a4,a5,s.trans a6,a7⟩
section
variable {E:Env} {call:CallV} {b:Frame} {rd:Option Nat} {B:Nat} {w0:World} {z nt:Nat} {cs:List Frame}
theorem LandsAt.out {e:IExit} {k k1 k':List Item} (h:LandsAt e k1 k') (hn:e≠.normal) (hx : ∀i,e=.exit i→exitTo i k1=exitTo i k):LandsAt e k k':=by
 cases e with
 | normal=>exact absurd rfl hn
 | exit i=>obtain⟨k2,a,c⟩:=h;exact⟨k2,a,c.trans (hx i rfl)⟩
 | ret=>exact h
theorem Ran.out {m:Mp} {h:IH} {w:World} {k k1:List Item} {M:Machine} {e:IExit} {fr':Fr} {h':IH} (r:Ran E b B w0 z nt cs m h w k1 M e fr' h') (hn:e≠.normal) (hx : ∀i,e=.exit i→exitTo i k1=exitTo i k) :
  Ran E b B w0 z nt cs m h w k M e fr' h':=by
 obtain⟨m',w',tmps',ds',k',a1,a2,a3⟩:=r
 exact⟨m',w',tmps',ds',k',a1,a2.out hn hx,a3⟩
theorem sim_loop {run:Fr→IH→Out} {c:Code} (hmono : ∀fr h e fr' h',run fr h=some (e,fr',h')→h.n≤h'.n) (ih:SimCode E run b rd B w0 z nt cs c) : ∀(n:Nat) (fr:Fr) (h:IH) (e:IExit) (fr':Fr) (h':IH),loopN run n fr h=some (e,fr',h') →
  ∀(m:Mp) (w:World) (tmps:Array Value) (k:List Item) (ds:List Deferred),Rel B w0 m h w→FrRel m fr tmps→nt≤tmps.size→Fresh m h.n h'.n→FrameOK b rd m→DefOK z m h w ds→z≤w.heap.size →
   Ran E b B w0 z nt cs m h w k (lone (on b tmps (.code c :: .inLoop c :: k) ds) cs w) e fr' h'
 | 0,fr,h,e,fr',h',hr,m,w,tmps,k,ds,_,_,_,_,_,_,_=>by simp[loopN] at hr
 | n+1,fr,h,e,fr',h',hr,m,w,tmps,k,ds,R,hf,ht,hfr,hfo,hd,hz=>by
  rw[loopN] at hr
  split at hr
  ·rename_i fr1 h1 hx
   have n1:=hmono _ _ _ _ _ hx
   have n2:=loopN_n hmono n _ _ _ _ _ hr
   obtain⟨m1,w1,tmps1,ds1,k1,a1,a2,a3,a4,a5,a6,a7⟩:=ih fr h .normal fr1 h1 hx m w tmps (.inLoop c :: k) ds R hf ht (hfr.sub (Nat.le_refl _) n2) hfo hd hz
   obtain rfl:k1=_:=a2
   refine .first (a1.trans (.one st_inLoop)) (.step a6 ?_)
   exact sim_loop hmono ih n fr1 h1 e fr' h' hr m1 w1 tmps1 k ds1 a5 a3 a4 (a6.fresh hfr) (hfo.mono a6.le) a7 (Nat.le_trans hz a6.size)
  ·rename_i i fr1 h1 hx
   cases hr
   exact(ih fr h _ _ _ hx m w tmps (.inLoop c :: k) ds R hf ht hfr hfo hd hz).out (by simp) (fun i _=>rfl)
  ·rename_i fr1 h1 hx
   cases hr
   exact(ih fr h _ _ _ hx m w tmps (.inLoop c :: k) ds R hf ht hfr hfo hd hz).out (by simp) (fun i _=>rfl)
  ·cases hr
theorem FrRel.head {m:Mp} {fr:Fr} {tmps:Array Value} (hf:FrRel m fr tmps) (fn:FuncId) (id:Nat):FrRel m (headFr E fn id fr) tmps:=by
 unfold headFr
 split
 ·intro t v hv
  rw[fget_keepOnly] at hv
  split at hv
  ·exact hf t v hv
  ·cases hv
 ·exact hf
theorem loopOf_get {h:IH} {l:Nat} {r:ILoop} (hl:loopOf h l=some r):h.ext.get l=some (.loop r):=by
 unfold loopOf at hl
 split at hl
 ·rename_i r' hg;cases hl;exact hg
 ·cases hl
theorem LoopRel.jump {m:Mp} {l:ILoop} {l':Loop} (h:LoopRel m l l') {e:IExit} (he:exitOf l.pending=some e):(e=.normal∧l'.pending=none)∨(∃i,e=.exit i∧l'.pending=some (.exit i))∨(e=.ret∧l'.pending=some .ret):=by
 rw[h.pending]
 unfold exitOf at he
 split at he<;>first|(cases he;done)|skip
 ·rename_i hp;cases he;exact .inl ⟨rfl,hp⟩
 ·rename_i i hp;cases he;exact .inr (.inl ⟨i,rfl,hp⟩)
 ·rename_i hp;cases he;exact .inr (.inr ⟨rfl,hp⟩)
theorem sim_rangeFn (hcall:CallSim E.P call) (hmono:CallMono call) {f:Operand} {ps:Array Tmp} {a c:Code}:SimCode E (fun fr h=>rangeFn E call b.fn nt rd f ps.toList a c fr h) b rd B w0 z nt cs (.rangeFunc f ps a c):=by
 intro fr h e fr' h' hr m w tmps k ds R hf ht hfr hfo hd hz
 obtain⟨hro,rfl,fv,v,h1,r,hfv,hc,hl,hb,he,rfl⟩:=rangeFn_inv hr
 have hn1:(h.new (.loop { state:=.ready,pending:=none,fn:=b.fn,nt,fr:=fr',params:=ps.toList,assign:=a,body:=c })).n≤h1.n:=hmono _ _ _ _ _ hc
 have hnew:(h.new (.loop { state:=.ready,pending:=none,fn:=b.fn,nt,fr:=fr',params:=ps.toList,assign:=a,body:=c })).n=h.n+1:=rfl
 have hfr':Fresh m h.n h1.n:=hfr
 have laid : ∃wm mark dfs,(Instr.enterLoop b.fn tmps ps a c b.roundOf).run E.P w=.ok (wm.heap.size,mark) (wm.alloc (.loop { state:=.ready,pending:=none,fn:=b.fn,tmps,params:=ps,assign:=a,body:=c,defers:=dfs })) ∧
   Rel B w0 m h wm∧Step m h w m h wm∧DefOK z m h wm (mark ++ ds):=by
  rcases hfo with⟨h2,rfl⟩|⟨l,lr,s,rfl,h3,h4⟩
  ·have g:=R.ghost (.deferred (some []))
   refine⟨w.alloc (.deferred (some [])),[markOf w.heap.size],w.heap.size,?_,g.1,g.2,hd.push R hz⟩
   rw[h2,run_enterLoop_outer,size_alloc];rfl
  ·simp only[roundOK,Option.isSome_iff_exists] at hro
   obtain⟨rl,hrl⟩:=hro
   have hobj:=R.obj _ _ _ _ (loopOf_get hrl) h4
   obtain⟨rfl,l',hl',hrel⟩:=hobj
   refine⟨w,[],l'.defers,?_,R,Step.refl _ _ _,hd⟩
   rw[h3]
   simp only[Instr.enterLoop,Sem.run_bind,run_getLoop hl',Result.andThen_ok,Sem.run_pure,run_newObj_alloc]
 obtain⟨wm,mark,dfs,hent,Rm,Sm,Dm⟩:=laid
 have hm0:m (2*h.n)=none:=hfr' h.n (Nat.le_refl _) (by omega)
 obtain⟨R1,S1⟩:=Rm.new (.loop { state:=.ready,pending:=none,fn:=b.fn,nt,fr:=fr',params:=ps.toList,assign:=a,body:=c })
  (.loop { state:=.ready,pending:=none,fn:=b.fn,tmps,params:=ps,assign:=a,body:=c,defers:=dfs }) (0,0) hm0
  ⟨rfl,_,by rw[heap_alloc,if_pos rfl],⟨rfl,rfl,rfl,hf,ht,rfl,rfl,rfl⟩⟩ rfl
 have S01:=Sm.trans S1
 have Dm1:=Dm.step S1
 have hρ:=opd_evalT Rm hf
 have hyield:VRel (m.upd (2*h.n) (wm.heap.size,0) (0,0)) (.func (.yield (2*h.n)) #[] #[]) (.func (.yield wm.heap.size) #[] #[]) :=
  VRel.func_mk ⟨0,Mp.upd_self _ _ _ _⟩ (.nil _) (.nil _)
 obtain⟨nx,hinv,halt⟩:=hcall fv _ _ h1 v hc B w0 _ _ (evalT tmps f) #[.func (.yield wm.heap.size) #[] #[]] R1 ((hρ f fv hfv).mono S1.le) (.cons hyield (.nil _)) (S01.fresh hfr')
 obtain⟨fr0,hfr0,hrun⟩:=halt.resolve_left (by rintro⟨_,_,_,_,hint⟩;obtain⟨k,n,e⟩:=hint _ (List.mem_singleton.2 rfl);cases e)
 obtain⟨v',m2,w2,hv,R2,S2,hsteps⟩:=hrun (on b tmps (.inRangeFunc wm.heap.size :: k) (mark ++ ds)) cs
 have hev:(on b tmps (.inRangeFunc wm.heap.size :: k) (mark ++ ds)).eval=evalT tmps:=eval_on _ _ _ _
 have st1:step E.P (lone (on b tmps (.code (.rangeFunc f ps a c) :: k) ds) cs w)=.next (lone fr0 (on b tmps (.inRangeFunc wm.heap.size :: k) (mark ++ ds) :: cs) (wm.alloc (.loop { state:=.ready,pending:=none,fn:=b.fn,tmps,params:=ps,assign:=a,body:=c,defers:=dfs }))):=by
  have hres:(do let d ←resolve (on b tmps (.inRangeFunc wm.heap.size :: k) (mark ++ ds)).eval { callee:=.value f,args:=#[.const (.func (.yield wm.heap.size) #[] #[])],argTypes:=#[] } 0;invoke d.target d.args:Sem Next).run E.P
    (wm.alloc (.loop { state:=.ready,pending:=none,fn:=b.fn,tmps,params:=ps,assign:=a,body:=c,defers:=dfs }))=.ok nx (wm.alloc (.loop { state:=.ready,pending:=none,fn:=b.fn,tmps,params:=ps,assign:=a,body:=c,defers:=dfs })):=by
   rw[hev,show resolve (evalT tmps) { callee:=.value f,args:=#[.const (.func (.yield wm.heap.size) #[] #[])],argTypes:=#[] } 0=Deferred.ofValue (evalT tmps f) #[.func (.yield wm.heap.size) #[] #[]] from by simp[resolve,evalT]]
   exact hinv
  simp only[on] at hres
  refine step_lone_go ?_
  rcases hfr0 with⟨f',as,rfl,rfl⟩|⟨l,f',ts,a',c',rfl,rfl⟩
  ·simp[stepG,stepG.exec,on,Sem.runT_eq,hent,GStep.bare_after,stepG.apply,hres]
  ·simp[stepG,stepG.exec,on,Sem.runT_eq,hent,GStep.bare_after,stepG.apply,hres]
 have hfin:(on b tmps (.inRangeFunc wm.heap.size :: k) (mark ++ ds)).finish v'=on b tmps (.endRangeFunc wm.heap.size :: k) (mark ++ ds):=rfl
 rw[hfin] at hsteps
 have hm2:m2 (2*h.n)=some (wm.heap.size,0):=(S2.le _ _ (Mp.upd_self _ _ _ _)).1
 obtain⟨_,l',hl',hrel⟩:=R2.obj _ _ _ _ (loopOf_get hl) hm2
 have hend:(Instr.endLoop wm.heap.size).run E.P w2=.ok l'.pending (w2.putObj wm.heap.size (.loop { l' with state:=.exhausted })):=run_endLoop hl' (by rw[hrel.state];exact hb)
 obtain⟨R3,S3⟩:=R2.setObj (o1:=.dead) (o':=.loop { l' with state:=.exhausted }) (loopOf_get hl) rfl rfl hm2 rfl (fun _ _ _=>trivial)
 have st2:step E.P (lone (on b tmps (.endRangeFunc wm.heap.size :: k) (mark ++ ds)) cs w2)=.next (lone (on b tmps ((l'.pending.map Item.code).toList ++ k) (mark ++ ds)) cs (w2.putObj wm.heap.size (.loop { l' with state:=.exhausted }))) :=
  stepR_endRangeFunc (b:=b) (a:={ tmps:=tmps,defers:=mark ++ ds }) hend
 refine⟨m2,_,tmps,mark ++ ds,_,(Steps.one st1).trans (hsteps.trans (.one st2)),?_,hf.mono (S01.trans S2).le,ht,R3,(S01.trans S2).trans S3,(Dm1.step S2).step S3⟩
 rcases hrel.jump he with⟨rfl,hp⟩|⟨i,rfl,hp⟩|⟨rfl,hp⟩
 ·rw[hp];rfl
 ·rw[hp];exact⟨k,rfl,rfl⟩
 ·rw[hp];exact⟨k,rfl⟩
theorem sim_head {id:Nat} {ops:Array Oper} {it nx more kb k:Nat} {es:List (Value×Value)} {seen:List Nat} {ty1 ty2:TypeId} {ps1 ps2:String} {af1 af2:Array Edge} {fr:Fr} {h:IH} {m:Mp} {w:World} {tmps:Array Value} {kk:List Item} {ds:List Deferred}
  (hops:ops.toList = [⟨some nx,.next (.tmp it) false,ty1,ps1,af1,none⟩,⟨some more,.extract (.tmp nx) 0,ty2,ps2,af2,none⟩])
  (hok:iterOK fr h it kb k es seen) (R:Rel B w0 m h w) (hf:FrRel m fr tmps) (ht:nt≤tmps.size) :
  ((∀i,i<es.length→i∈seen) ∧ ∀fr2,putNext nt nx more (.tuple #[.bool false]) false fr=some fr2 →
   ∃w' tmps',Steps E.P (lone (on b tmps (.code (.region id ops false) :: kk) ds) cs w) (lone (on b tmps' kk ds) cs w')∧FrRel m fr2 tmps'∧nt≤tmps'.size∧Rel B w0 m h w'∧Step m h w m h w') ∨
  ∃i x,i∉seen∧es[i]?=some x ∧ ∀fr2,putNext nt nx more (.tuple #[.bool true,x.1,x.2]) true fr=some fr2 →
   ∃w' tmps',Steps E.P (lone (on b tmps (.code (.region id ops false) :: kk) ds) cs w) (lone (on b tmps' kk ds) cs w')∧FrRel m fr2 tmps'∧nt≤tmps'.size ∧
    Rel B w0 m { h with ext:=h.ext.set kb (.iter k es.length (seen ++ [i]) es.length) } w'∧Step m h w m { h with ext:=h.ext.set kb (.iter k es.length (seen ++ [i]) es.length) } w':=by
 obtain⟨g1,g2,g3⟩:=hok
 obtain⟨v1,t1,hv1⟩:=hf it _ g1
 obtain⟨r,s,hm,rfl⟩:=hv1.ptr_inv
 obtain⟨rfl,rm,hobj,hmk⟩:=R.obj kb _ r s g2 hm
 obtain⟨_,_,c,hmap,hcm⟩:=R.mapAt g3 hmk
 have hρ:evalT tmps (.tmp it)=.pointer (some ⟨r,0,none⟩):=by simp[evalT,Array.getD_eq_getD_getElem?,t1]
 have o0:ops[0]?=some ⟨some nx,.next (.tmp it) false,ty1,ps1,af1,none⟩:=by rw[←Array.getElem?_toList,hops];rfl
 have o1:ops[1]?=some ⟨some more,.extract (.tmp nx) 0,ty2,ps2,af2,none⟩:=by rw[←Array.getElem?_toList,hops];rfl
 have hsz:ops.size=2:=by rw[←Array.length_toList,hops];rfl
 have two : ∀(v v':Value) (bb:Bool) (w':World) (fr2:Fr),VRel m v v'→(∃cs',v=.tuple cs'∧cs'[0]?=some (.bool bb))→(Instr.next (.pointer (some ⟨r,0,none⟩)) false ty1).run E.P w=.ok v' w'→putNext nt nx more v bb fr=some fr2 →
   ∃tmps',Steps E.P (lone (on b tmps (.code (.region id ops false) :: kk) ds) cs w) (lone (on b tmps' kk ds) cs w')∧FrRel m fr2 tmps'∧nt≤tmps'.size:=by
  intro v v' bb w' fr2 hv hshape hrun hput
  unfold putNext at hput
  split at hput
  case h_2=>cases hput
  rename_i fra hpa
  obtain⟨hfa,hta⟩:=fput_rel hpa hf ht hv
  obtain⟨hfb,htb⟩:=fput_rel hput hfa hta (VRel.scal (m:=m) (v:=.bool bb) rfl)
  obtain⟨cs',rfl,hc0⟩:=hshape
  obtain⟨cs2,rfl,hL⟩:=hv.tuple_inv
  have hget:fget fra nx=some (.tuple cs'):=by
   unfold fput at hpa
   simp only[cond_eq_ite] at hpa
   split at hpa
   ·cases hpa;simp[fget]
   ·cases hpa
  obtain⟨v2,q1,q2⟩:=hfa nx _ hget
  obtain⟨u,q3,q4⟩:=hL.get (i:=0) (by simpa using hc0)
  have hu:=q4.scal_eq rfl
  subst hu
  have hpt:(putT tmps (some nx) (.tuple cs2))[nx]?=some (.tuple cs2):=by
   have hlt:nx<tmps.size:=by
    unfold fput at hpa
    simp only[cond_eq_ite] at hpa
    split at hpa
    ·rename_i hb;have:nx+1≤nt:=by simpa [Nat.blt] using hb
     omega
    ·cases hpa
   simp[putT,hlt]
  have hρ2:evalT (putT tmps (some nx) (.tuple cs2)) (.tmp nx)=.tuple cs2:=by simp[evalT,Array.getD_eq_getD_getElem?,hpt]
  have q3':cs2[0]?=some (.bool bb):=by simpa using q3
  have e1:=st_value (P:=E.P) (b:=b) (ds:=ds) (k:=kk) (cs:=cs) (tmps:=tmps) (ops:=ops) (i:=0) (rest:=[1]) (v:=.tuple cs2) (w:=w) (w':=w') o0 (by simp[Region.wanted]) (by simp) (by simp only[execOp,hρ,Sem.run_bind,hrun,Result.andThen_ok,Sem.run_pure])
  have e2:=st_value (P:=E.P) (b:=b) (ds:=ds) (k:=kk) (cs:=cs) (tmps:=putT tmps (some nx) (.tuple cs2)) (ops:=ops) (i:=1) (rest:=[]) (v:=.bool bb) (w:=w') (w':=w') o1 (by simp[Region.wanted]) (by simp) (by simp only[execOp,hρ2,Instr.extract,q3',Sem.run_bind,Result.andThen_ok,Sem.run_pure])
  refine⟨_,.head st_region (.head ?_ (.head e2 (.one st_region_end))),hfb,htb⟩
  rw[hsz]
  exact e1
 rcases run_next E.P hcm hobj hmap ty1 with⟨hall,d,hrun⟩|⟨i,e',d,hi,hci,hrun⟩
 ·refine .inl ⟨hall,fun fr2 hput=>?_⟩
  obtain⟨tmps',a1,a2,a3⟩:=two _ _ false _ fr2 (VRel.tuple_iff (.cons (.scal rfl) (.nil m))) ⟨_,rfl,rfl⟩ hrun hput
  exact⟨_,tmps',a1,a2,a3,R.congr rfl (below_drew R.below d),(Step.refl m h { w with drawn:=d }).congr rfl⟩
 ·have hic:i<c.size:=by
   rcases Nat.lt_or_ge i c.size with h|h
   ·exact h
   ·rw[Array.getElem?_eq_none h] at hci;cases hci
  have hie:i<es.length:=by have:=hcm.1;omega
  have hE:=(hcm.2 i es[i] e' (List.getElem?_eq_getElem hie) hci).1
  refine .inr ⟨i,es[i],hi,List.getElem?_eq_getElem hie,fun fr2 hput=>?_⟩
  obtain⟨tmps',a1,a2,a3⟩:=two _ _ true _ fr2 (VRel.tuple_iff (.cons (.scal rfl) (.cons (by rw[hE.1];exact VRel.plain_mk hE.2.1) (.cons hE.2.2 (.nil m))))) ⟨_,rfl,rfl⟩ hrun hput
  obtain⟨R1,S1⟩:=(R.congr (w':={ w with drawn:=d }) rfl (below_drew R.below d)).setObj (o1:=.iter k es.length (seen ++ [i]) es.length) (o':=.mapIter (some rm) es.length (seen.toArray.push i) es.length) g2 rfl rfl hm rfl (fun w' z e=>⟨rfl,rm,by rw[e];simp,hmk⟩)
  exact⟨_,tmps',a1,a2,a3,R1,S1.congr rfl⟩
theorem Rel.kill {m:Mp} {h:IH} {w:World} (R:Rel B w0 m h w) {kb k0 a0 c0 r s:Nat} {b0:List Nat} (hk:h.ext.get kb=some (.iter k0 a0 b0 c0)) (hm:m (2*kb)=some (r,s)) :
  Rel B w0 m { h with ext:=h.ext.set kb .dead } w∧Step m h w m { h with ext:=h.ext.set kb .dead } w:=by
 obtain⟨_,rm,hobj,_⟩:=R.obj kb _ r s hk hm
 have:=R.setObj (o1:=.dead) (o':=.mapIter (some rm) a0 b0.toArray c0) hk rfl rfl hm rfl (fun _ _ _=>trivial)
 rw[put_same hobj] at this
 exact this
theorem Ran.kill {m:Mp} {h:IH} {w:World} {k0:List Item} {M:Machine} {e:IExit} {frl fr':Fr} {hl:IH} {kb:Nat} {rs:Nat×Nat} (hm:m (2*kb)=some rs) (r:Ran E b B w0 z nt cs m h w k0 M e frl hl) (hk : ∃k1 a1 b1 c1,hl.ext.get kb=some (.iter k1 a1 b1 c1))
  (hfr : ∀t v,fget fr' t=some v→fget frl t=some v):Ran E b B w0 z nt cs m h w k0 M e fr' { hl with ext:=hl.ext.set kb .dead }:=by
 obtain⟨m',w',tmps',ds',k',a1,a2,a3,a4,a5,a6,a7⟩:=r
 obtain⟨k1,x1,b1,c1,hk⟩:=hk
 obtain⟨R1,S1⟩:=a5.kill hk (a6.le _ _ hm).1
 exact⟨m',w',tmps',ds',k',a1,a2,fun t v hv=>a3 t v (hfr t v hv),a4,R1,a6.trans S1,a7.step S1⟩
theorem sim_rounds {n id:Nat} {ops:Array Oper} {rest:Code} {it nx more kb k:Nat} {es:List (Value×Value)} {ty1 ty2:TypeId} {ps1 ps2:String} {af1 af2:Array Edge} {e:IExit} {fr':Fr} {h':IH}
  (hops:ops.toList = [⟨some nx,.next (.tmp it) false,ty1,ps1,af1,none⟩,⟨some more,.extract (.tmp nx) 0,ty2,ps2,af2,none⟩])
  (hmono : ∀fr h e fr' h',evC E call b.fn nt rd n rest fr h=some (e,fr',h')→h.n≤h'.n) (ih:SimCode E (evC E call b.fn nt rd n rest) b rd B w0 z nt cs rest) :
  ∀(q:Nat) (rem seen:List Nat) (fr:Fr) (h:IH),rem.length=q→(∀i,i∈rem↔i<es.length∧i∉seen)→rem.Nodup →
   (∀l:List Nat,l.Perm rem → ∃frl hl,mapRounds (evC E call b.fn nt rd n rest) (headFr E b.fn id) nt it nx more kb k es l seen fr h=some (e,frl,hl)∧(∃k0 a0 b0 c0,hl.ext.get kb=some (.iter k0 a0 b0 c0))∧h' = { hl with ext:=hl.ext.set kb .dead } ∧ ∀t v,fget fr' t=some v→fget frl t=some v) →
   ∀(m:Mp) (w:World) (tmps:Array Value) (kk:List Item) (ds:List Deferred) (rs:Nat×Nat),m (2*kb)=some rs→Rel B w0 m h w→FrRel m fr tmps→nt≤tmps.size→Fresh m h.n h'.n→FrameOK b rd m→DefOK z m h w ds→z≤w.heap.size →
    Ran E b B w0 z nt cs m h w kk (lone (on b tmps (.code (.seq (.region id ops false) rest) :: .inLoop (.seq (.region id ops false) rest) :: kk) ds) cs w) e fr' h'
 | q,rem,seen,fr,h,hq,hrem,hnd,hall,m,w,tmps,kk,ds,rs,hkb,R,hf,ht,hfr,hfo,hd,hz=>by
  have hok:iterOK (headFr E b.fn id fr) h it kb k es seen:=by
   obtain⟨frl,hl,h1,_⟩:=hall rem (List.Perm.refl _)
   unfold mapRounds at h1
   split at h1
   all_goals
    split at h1
    ·assumption
    ·cases h1
  have hn' : ∀{l:List Nat} {frl:Fr} {hl:IH},mapRounds (evC E call b.fn nt rd n rest) (headFr E b.fn id) nt it nx more kb k es l seen fr h=some (e,frl,hl)→h.n≤hl.n:=fun hx=>mapRounds_n hmono _ _ _ _ _ _ _ hx
  rcases sim_head (E:=E) (b:=b) (cs:=cs) (nt:=nt) (id:=id) (kk:=.code rest :: .inLoop (.seq (.region id ops false) rest) :: kk) (ds:=ds) hops hok R (hf.head b.fn id) ht with⟨hov,hst⟩|⟨i,x,hi,hx,hst⟩
  ·have hr0:rem = []:=by
    apply List.eq_nil_iff_forall_not_mem.2
    intro j hj
    obtain⟨h1,h2⟩:=(hrem j).1 hj
    exact h2 (hov j h1)
   subst hr0
   obtain⟨frl,hl,h1,hit,hh',hsub⟩:=hall [] (List.Perm.refl _)
   subst hh'
   unfold mapRounds at h1
   rw[if_pos hok] at h1
   split at h1
   ·cases h1
   ·rename_i fr2 hput
    obtain⟨w1,tmps1,s1,f1,t1,R1,S1⟩:=hst fr2 hput
    split at h1
    ·cases h1
    ·rename_i hnn
     refine .first (.head st_seq s1) (.step S1 ?_)
     have hR:=ih fr2 h e frl hl h1 m w1 tmps1 (.inLoop (.seq (.region id ops false) rest) :: kk) ds R1 f1 t1 hfr hfo (hd.step S1) (Nat.le_trans hz S1.size)
     have hne:e≠.normal:=fun he=>by subst he;exact hnn _ _ h1
     exact(Ran.out (k:=kk) hR hne (fun i _=>rfl)).kill hkb hit hsub
  ·have hie:i<es.length:=by
    rcases Nat.lt_or_ge i es.length with h|h
    ·exact h
    ·rw[List.getElem?_eq_none h] at hx;cases hx
   have him:i∈rem:=(hrem i).2 ⟨hie,hi⟩
   obtain⟨frl,hl,h1,hit,hh',hsub⟩:=hall (i :: rem.erase i) (List.perm_cons_erase him).symm
   have hall1 : ∀l:List Nat,l.Perm (rem.erase i) → ∃frl hl,mapRounds (evC E call b.fn nt rd n rest) (headFr E b.fn id) nt it nx more kb k es (i :: l) seen fr h=some (e,frl,hl)∧(∃k0 a0 b0 c0,hl.ext.get kb=some (.iter k0 a0 b0 c0))∧h' = { hl with ext:=hl.ext.set kb .dead } ∧ ∀t v,fget fr' t=some v→fget frl t=some v :=
    fun l hl=>hall (i :: l) ((hl.cons i).trans (List.perm_cons_erase him).symm)
   have hhn:hl.n≤h'.n:=by rw[hh'];exact Nat.le_refl _
   simp only[mapRounds,if_pos hok,hx] at h1 hall1
   cases hput:putNext nt nx more (.tuple #[.bool true,x.1,x.2]) true (headFr E b.fn id fr) with
   | none=>simp[hput] at h1
   | some fr2 =>
    simp only[hput] at h1 hall1
    obtain⟨w1,tmps1,s1,f1,t1,R1,S1⟩:=hst fr2 hput
    refine .first (.head st_seq s1) (.step S1 ?_)
    cases hbody:evC E call b.fn nt rd n rest fr2 { h with ext:=h.ext.set kb (.iter k es.length (seen ++ [i]) es.length) } with
    | none=>simp[hbody] at h1
    | some o =>
     obtain⟨e1,fr3,h3⟩:=o
     have hn3:=hmono _ _ _ _ _ hbody
     cases e1 with
     | normal =>
      simp only[hbody] at h1 hall1
      have hn4:=mapRounds_n hmono _ _ _ _ _ _ _ h1
      obtain⟨m2,w2,tmps2,ds2,k2,b1,b2,b3,b4,b5,b6,b7⟩:=ih fr2 _ _ _ _ hbody m w1 tmps1 (.inLoop (.seq (.region id ops false) rest) :: kk) ds R1 f1 t1 (hfr.sub (Nat.le_refl _) (Nat.le_trans hn4 hhn)) hfo (hd.step S1) (Nat.le_trans hz S1.size)
      obtain rfl:k2=_:=b2
      refine .first (b1.trans (.one st_inLoop)) (.step b6 ?_)
      have hlen:(rem.erase i).length<q:=by
       rw[List.length_erase_of_mem him,hq]
       have:0<rem.length:=List.length_pos_of_mem him
       omega
      refine sim_rounds hops hmono ih (rem.erase i).length (rem.erase i) (seen ++ [i]) fr3 h3 rfl (fun j=>?_) (hnd.erase i) hall1 m2 w2 tmps2 kk ds2 rs (b6.le _ _ hkb).1 b5 b3 b4 (b6.fresh hfr) (hfo.mono b6.le) b7 (Nat.le_trans (Nat.le_trans hz S1.size) b6.size)
      rw[hnd.mem_erase_iff,hrem j]
      simp only[List.mem_append,List.mem_singleton]
      constructor
      ·rintro⟨h1,h2,h3⟩;exact⟨h2,fun hh=>hh.elim h3 h1⟩
      ·rintro⟨h2,h3⟩;exact⟨fun hh=>h3 (.inr hh),h2,fun hh=>h3 (.inl hh)⟩
     | exit j =>
      simp only[hbody] at h1
      cases h1
      subst hh'
      have hR:=ih fr2 _ _ _ _ hbody m w1 tmps1 (.inLoop (.seq (.region id ops false) rest) :: kk) ds R1 f1 t1 hfr hfo (hd.step S1) (Nat.le_trans hz S1.size)
      exact(Ran.out (k:=kk) hR (by simp) (fun i _=>rfl)).kill hkb hit hsub
     | ret =>
      simp only[hbody] at h1
      cases h1
      subst hh'
      have hR:=ih fr2 _ _ _ _ hbody m w1 tmps1 (.inLoop (.seq (.region id ops false) rest) :: kk) ds R1 f1 t1 hfr hfo (hd.step S1) (Nat.le_trans hz S1.size)
      exact(Ran.out (k:=kk) hR (by simp) (fun i _=>rfl)).kill hkb hit hsub
 termination_by q=>q
 decreasing_by omega
theorem nextOf_some {ops:List Oper} {draw:Bool} {it nx more:Nat} (h:nextOf ops draw=some (it,nx,more)):draw=false ∧ ∃ty1 ps1 af1 ty2 ps2 af2,ops = [⟨some nx,.next (.tmp it) false,ty1,ps1,af1,none⟩,⟨some more,.extract (.tmp nx) 0,ty2,ps2,af2,none⟩]:=by
 unfold nextOf at h
 split at h
 case h_2=>cases h
 simp only[cond_eq_ite,beq_iff_eq] at h
 split at h
 ·rename_i hx
  cases h
  subst hx
  exact⟨rfl,_,_,_,_,_,_,rfl⟩
 ·cases h
theorem sim_mapLoop {n:Nat} {c:Code} {p:Nat×Nat×Nat×Nat×Code} (hp:headOf c=some p) (hmono : ∀fr h e fr' h',evC E call b.fn nt rd n p.2.2.2.2 fr h=some (e,fr',h')→h.n≤h'.n) (ih:SimCode E (evC E call b.fn nt rd n p.2.2.2.2) b rd B w0 z nt cs p.2.2.2.2)
  {fr:Fr} {h:IH} {e:IExit} {fr':Fr} {h':IH} (hx:mapLoop (evC E call b.fn nt rd n p.2.2.2.2) (headFr E b.fn p.1) nt p.2.1 p.2.2.1 p.2.2.2.1 fr h=some (e,fr',h')) (m:Mp) (w:World) (tmps:Array Value) (k:List Item) (ds:List Deferred)
  (R:Rel B w0 m h w) (hf:FrRel m fr tmps) (ht:nt≤tmps.size) (hfr:Fresh m h.n h'.n) (hfo:FrameOK b rd m) (hd:DefOK z m h w ds) (hz:z≤w.heap.size) :
  Ran E b B w0 z nt cs m h w k (lone (on b tmps (.code c :: .inLoop c :: k) ds) cs w) e fr' h':=by
 unfold headOf at hp
 split at hp
 case h_2=>cases hp
 rename_i id ops draw rest
 obtain⟨⟨it,nx,more⟩,hno,rfl⟩:=Option.map_eq_some_iff.1 hp
 obtain⟨rfl,ty1,ps1,af1,ty2,ps2,af2,hops⟩:=nextOf_some hno
 simp only at hx hmono ih
 obtain⟨kb,k0,since,seen0,last,es,g1,g2,g3,hall⟩:=mapLoop_some hx
 obtain⟨v1,t1,hv1⟩:=(hf.head b.fn id) it _ g1
 obtain⟨r,s,hm,rfl⟩:=hv1.ptr_inv
 exact sim_rounds hops hmono ih _ (List.range es.length) [] fr h rfl (fun i=>by simp) List.nodup_range hall m w tmps k ds (r,s) hm R hf ht hfr hfo hd hz
theorem sim_code (hcall:CallSim E.P call) (hmono:CallMono call) (hmix:E.P.follows .mixedOrders=true) (n:Nat) : ∀(c:Code),SimCode E (evC E call b.fn nt rd n c) b rd B w0 z nt cs c:=by
 intro c
 induction c using sizeInd with
 | h c IH =>
 cases c with
 | skip =>
  intro fr h e fr' h' hr m w tmps k ds R hf ht hfr hfo hd hz
  simp only[evC] at hr;cases hr
  exact⟨m,w,tmps,ds,k,.one st_skip,rfl,hf,ht,R,Step.refl _ _ _,hd⟩
 | label l =>
  intro fr h e fr' h' hr m w tmps k ds R hf ht hfr hfo hd hz
  simp only[evC] at hr;cases hr
  exact⟨m,w,tmps,ds,k,.one st_label,rfl,hf,ht,R,Step.refl _ _ _,hd⟩
 | region id ops draw =>
  intro fr h e fr' h' hr m w tmps k ds R hf ht hfr hfo hd hz
  simp only[evC] at hr
  split at hr
  ·rename_i fr1 h1 hx
   cases hr
   cases draw with
   | true =>
    rw[cond_true] at hx
    obtain⟨_,m',w',tmps',a1,a2,a3,a4,a5⟩:=sim_drawn hcall hmono hmix hx R (hf.head b.fn id) ht hfr b k ds cs id
    exact⟨m',w',tmps',ds,k,a1,rfl,a2,a3,a4,a5,hd.step a5⟩
   | false =>
    rw[cond_false] at hx
    obtain⟨m',w',tmps',a1,a2,a3,a4,a5⟩:=sim_ops hcall hmono b k ds cs ops.toList 0 _ _ _ _ m w tmps rfl hx R (hf.head b.fn id) ht hfr
    rw[←List.range_eq_range',Array.length_toList] at a1
    exact⟨m',w',tmps',ds,k,.head st_region a1,rfl,a2,a3,a4,a5,hd.step a5⟩
  ·cases hr
 | seq x y =>
  have ihx:=IH x (by simp<;>omega)
  have ihy:=IH y (by simp<;>omega)
  intro fr h e fr' h' hr m w tmps k ds R hf ht hfr hfo hd hz
  simp only[evC] at hr
  split at hr
  ·rename_i fr1 h1 hx
   have n1:=evC_n hmono _ _ _ _ _ _ hx
   have n2:=evC_n hmono _ _ _ _ _ _ hr
   obtain⟨m1,w1,tmps1,ds1,k1,a1,a2,a3,a4,a5,a6,a7⟩:=ihx fr h .normal fr1 h1 hx m w tmps (.code y :: k) ds R hf ht (hfr.sub (Nat.le_refl _) n2) hfo hd hz
   obtain rfl:k1=_:=a2
   refine .first (.head st_seq a1) (.step a6 ?_)
   exact ihy fr1 h1 e fr' h' hr m1 w1 tmps1 k ds1 a5 a3 a4 (a6.fresh hfr) (hfo.mono a6.le) a7 (Nat.le_trans hz a6.size)
  ·rename_i hx
   cases hr
   exact .first (.one st_seq) ((ihx fr h _ _ _ hx m w tmps (.code y :: k) ds R hf ht hfr hfo hd hz).out (by simp) (fun i _=>rfl))
  ·rename_i hx
   cases hr
   exact .first (.one st_seq) ((ihx fr h _ _ _ hx m w tmps (.code y :: k) ds R hf ht hfr hfo hd hz).out (by simp) (fun i _=>rfl))
  ·cases hr
 | cond x a c =>
  have iha:=IH a (by simp<;>omega)
  have ihc:=IH c (by simp<;>omega)
  intro fr h e fr' h' hr m w tmps k ds R hf ht hfr hfo hd hz
  simp only[evC] at hr
  have hρ:=opd_evalT R hf
  split at hr
  ·rename_i hx
   have hv:=(hρ x _ hx).scal_eq rfl
   exact .first (.one (st_cond hv)) (iha fr h _ _ _ hr m w tmps k ds R hf ht hfr hfo hd hz)
  ·rename_i hx
   have hv:=(hρ x _ hx).scal_eq rfl
   exact .first (.one (st_cond hv)) (ihc fr h _ _ _ hr m w tmps k ds R hf ht hfr hfo hd hz)
  ·cases hr
 | block id c =>
  have ih:=IH c (by simp<;>omega)
  intro fr h e fr' h' hr m w tmps k ds R hf ht hfr hfo hd hz
  simp only[evC,cond_eq_ite] at hr
  split at hr
  ·rename_i i fr1 h1 hx
   split at hr
   ·rename_i hi
    have hi':i=id:=by simpa using hi
    subst hi'
    cases hr
    obtain⟨m1,w1,tmps1,ds1,k1,a1,a2,a3⟩:=ih fr h _ _ _ hx m w tmps (.inBlock i :: k) ds R hf ht hfr hfo hd hz
    obtain⟨k2,rfl,hk2⟩:=a2
    exact⟨m1,w1,tmps1,ds1,k,.head st_block (a1.trans (.one (st_exit (by rw[hk2];simp[exitTo])))),rfl,a3⟩
   ·rename_i hi
    cases hr
    refine .first (.one st_block) ((ih fr h _ _ _ hx m w tmps (.inBlock id :: k) ds R hf ht hfr hfo hd hz).out (by simp) (fun j hj=>?_))
    cases hj
    have:(id == i)=false:=by
     simp only[beq_eq_false_iff_ne,ne_eq];rintro rfl;simp at hi
    simp[exitTo,this]
  ·rename_i fr1 h1 hx
   cases hr
   obtain⟨m1,w1,tmps1,ds1,k1,a1,a2,a3⟩:=ih fr h _ _ _ hx m w tmps (.inBlock id :: k) ds R hf ht hfr hfo hd hz
   obtain rfl:k1=_:=a2
   exact⟨m1,w1,tmps1,ds1,k,.head st_block (a1.trans (.one st_inBlock)),rfl,a3⟩
  ·rename_i fr1 h1 hx
   cases hr
   exact .first (.one st_block) ((ih fr h _ _ _ hx m w tmps (.inBlock id :: k) ds R hf ht hfr hfo hd hz).out (by simp) (fun j hj=>by cases hj))
  ·cases hr
 | loop c =>
  have ih:=IH c (by simp<;>omega)
  intro fr h e fr' h' hr m w tmps k ds R hf ht hfr hfo hd hz
  rw[evC_loop] at hr
  split at hr
  ·rename_i p hp
   exact .first (.one st_loop) (sim_mapLoop hp (fun fr h e fr' h' hx=>evC_n hmono _ fr h e fr' h' hx) (IH _ (Nat.lt_trans (headOf_size hp) (by simp<;>omega))) hr m w tmps k ds R hf ht hfr hfo hd hz)
  exact .first (.one st_loop) (sim_loop (fun fr h e fr' h' hx=>evC_n hmono c fr h e fr' h' hx) ih n fr h e fr' h' hr m w tmps k ds R hf ht hfr hfo hd hz)
 | scope c =>
  have ih:=IH c (by simp<;>omega)
  intro fr h e fr' h' hr m w tmps k ds R hf ht hfr hfo hd hz
  simp only[evC] at hr
  obtain⟨m1,w1,tmps1,ds1,k1,a1,a2,a3⟩:=ih fr h _ _ _ hr m w tmps (.inScope c :: k) ds R hf ht hfr hfo hd hz
  cases e with
  | normal =>
   obtain rfl:k1=_:=a2
   exact⟨m1,w1,tmps1,ds1,k,.head st_scope (a1.trans (.one st_inScope)),rfl,a3⟩
  | exit i=>exact⟨m1,w1,tmps1,ds1,k1,.head st_scope a1,a2.out (by simp) (fun j _=>rfl),a3⟩
  | ret=>exact⟨m1,w1,tmps1,ds1,k1,.head st_scope a1,a2,a3⟩
 | rangeFunc f ps a c =>
  intro fr h e fr' h' hr
  simp only[evC] at hr
  exact sim_rangeFn hcall hmono fr h e fr' h' hr
 | exit i =>
  intro fr h e fr' h' hr m w tmps k ds R hf ht hfr hfo hd hz
  simp only[evC] at hr;cases hr
  exact⟨m,w,tmps,ds,_,.refl _ _,⟨k,rfl,rfl⟩,hf,ht,R,Step.refl _ _ _,hd⟩
 | ret =>
  intro fr h e fr' h' hr m w tmps k ds R hf ht hfr hfo hd hz
  simp only[evC] at hr;cases hr
  exact⟨m,w,tmps,ds,_,.refl _ _,⟨k,rfl⟩,hf,ht,R,Step.refl _ _ _,hd⟩
 | goto i=>intro fr h e fr' h' hr;simp only[evC] at hr;cases hr
 | refuse i=>intro fr h e fr' h' hr;simp only[evC] at hr;cases hr
end
end Go.Id

namespace Go.Id
open Go Go.RowKit
theorem unwind_marks {P:Program} {B:Nat} {w0:World} {m:Mp} {h:IH} {z:Nat} (hB:B≤z) : ∀(rs:List Nat) (fr:Frame) (cs:List Frame) (w:World),fr.mode=.returning→fr.defers=rs.map markOf→rs.Nodup →
  (∀r∈rs,z≤r∧w.heap[r]?=some (.deferred (some [])) ∧ ∀k s,k<h.n→m (2*k)≠some (r,s))→Rel B w0 m h w →
  ∃w',Steps P (lone fr cs w) (lone { fr with defers:=[] } cs w')∧Rel B w0 m h w'∧w'.heap.size=w.heap.size ∧ ∀r,r∉rs→w'.heap[r]?=w.heap[r]?
 | [],fr,cs,w,hm,hd,_,_,R=>by
  have:({ fr with defers:=[] }:Frame)=fr:=by cases fr;simp at hd;subst hd;rfl
  exact⟨w,by rw[this];exact .refl _ _,R,rfl,fun _ _=>rfl⟩
 | r :: rs,fr,cs,w,hm,hd,hn,hr,R=>by
  obtain⟨a1,a2,a3⟩:=hr r (by simp)
  have hst:=step_collected (P:=P) (fr:=fr) (cs:=cs) (d:=markOf r) (r:=r) (ds:=rs.map markOf) (by rw[hm];simp) (by rw[hd];rfl) rfl (run_takeDeferred a2)
  have hother : ∀r',r'≠r→(w.putObj r (.deferred none)).heap[r']?=w.heap[r']?:=fun r' h'=>World.putObj_heap_other h'
  have R1:Rel B w0 m h (w.putObj r (.deferred none)):=by
   refine R.keep (below_put R.below (by omega) _) (by simp) ?_
   rintro r' (h1|⟨k,s,h1,h2⟩)
   ·exact hother r' (by omega)
   ·exact hother r' (by rintro rfl;exact a3 k s h1 h2)
  obtain⟨w',b1,b2,b3,b4⟩:=unwind_marks hB rs { fr with defers:=[] ++ rs.map markOf } cs (w.putObj r (.deferred none)) hm rfl (List.nodup_cons.1 hn).2 (fun r' h'=>by
   obtain⟨c1,c2,c3⟩:=hr r' (by simp[h'])
   exact⟨c1,by rw[hother r' (by rintro rfl;exact(List.nodup_cons.1 hn).1 h')];exact c2,c3⟩) R1
  refine⟨w',.head hst b1,b2,by rw[b3];simp,fun r' h'=>?_⟩
  rw[b4 r' (fun h=>h' (by simp[h])),hother r' (fun h=>h' (by simp[h]))]
def resSem (tmps:Array Value):ResultVar→Sem Value
 | .tmp t=>pure (tmps.getD t undef)
 | .cell a t=>do loadVar t (←Go.asAddr (tmps.getD a undef))
theorem results_eq (fn:Func) (tmps:Array Value):results fn tmps=(do let vs ←fn.results.mapM (resSem tmps);pure (if h:vs.size=1 then vs[0] else .tuple vs)):=by
 unfold results
 congr 1
theorem resultOf_run {P:Program} {B:Nat} {w0:World} {m:Mp} {h:IH} {w:World} (R:Rel B w0 m h w) {fr:Fr} {tmps:Array Value} (hf:FrRel m fr tmps) {rv:ResultVar} {v:Value} (hr:resultOf P fr h rv=some v) :
  ∃v',(resSem tmps rv).run P w=.ok v' w∧VRel m v v':=by
 cases rv with
 | tmp t =>
  obtain⟨v',h1,h2⟩:=hf t v hr
  exact⟨v',by simp[resSem,Array.getD_eq_getD_getElem?,h1,Sem.run_pure],h2⟩
 | cell a t =>
  simp only[resultOf] at hr
  split at hr
  ·rename_i va hva
   obtain⟨va',h1,h2⟩:=hf a va hva
   obtain⟨v',h3,h4⟩:=R.load hr h2
   refine⟨v',?_,h4⟩
   have hp : ∃b o,va=.pointer (some ⟨b,o,none⟩):=by
    unfold Id.load at hr
    cases hA:Id.asAddr va with
    | none=>simp[hA] at hr
    | some bo=>unfold Id.asAddr at hA;split at hA<;>simp_all
   obtain⟨b,o,rfl⟩:=hp
   obtain⟨r,s,_,rfl⟩:=h2.ptr_inv
   simp only[resSem,Array.getD_eq_getD_getElem?,h1,Option.getD_some]
   simpa [Instr.loadAt,Instr.sureAddr,Go.asAddr,Sem.run_bind,Sem.run_pure] using h3
  ·cases hr
theorem resultsOf_run {P:Program} {B:Nat} {w0:World} {m:Mp} {h:IH} {w:World} (R:Rel B w0 m h w) {fr:Fr} {tmps:Array Value} (hf:FrRel m fr tmps) : ∀(l:List ResultVar) (vs:List Value),resultsOf P fr h l=some vs →
  ∃vs',(l.mapM (resSem tmps)).run P w=.ok vs' w∧LRel m vs vs'
 | [],vs,hr=>by simp only[resultsOf] at hr;cases hr;exact⟨[],by simp[Sem.run_pure],.nil m⟩
 | rv :: l,vs,hr=>by
  rw[resultsOf] at hr
  split at hr
  ·rename_i v vs1 h1 h2
   cases hr
   obtain⟨v',a1,a2⟩:=resultOf_run R hf h1
   obtain⟨vs',b1,b2⟩:=resultsOf_run R hf l vs1 h2
   refine⟨v' :: vs',?_,.cons a2 b2⟩
   rw[List.mapM_cons]
   simp only[Sem.run_bind,Sem.run_pure]
   rw[a1]
   simp only[Result.andThen_ok]
   rw[b1]
   simp only[Result.andThen_ok]
  ·cases hr
theorem single_rel {m:Mp} {vs vs':List Value} (h:LRel m vs vs'):VRel m (single vs) (if h:vs'.toArray.size=1 then vs'.toArray[0] else .tuple vs'.toArray):=by
 have hl:=h.1
 match vs,vs',h,hl with
 | [],[],h,_=>exact VRel.tuple_iff h
 | [v],[v'],h,_=>exact h.2 0 v v' rfl rfl
 | v :: u :: vs,v' :: u' :: vs',h,_ =>
  have : ¬(v' :: u' :: vs').toArray.size=1:=by simp
  rw[dif_neg this]
  exact VRel.tuple_iff h
theorem results_run {P:Program} {B:Nat} {w0:World} {m:Mp} {h:IH} {w:World} (R:Rel B w0 m h w) {fr:Fr} {tmps:Array Value} (hf:FrRel m fr tmps) {fn:Func} {vs:List Value} (hr:resultsOf P fr h fn.results.toList=some vs) :
  ∃v',(results fn tmps).run P w=.ok v' w∧VRel m (single vs) v':=by
 obtain⟨vs',h1,h2⟩:=resultsOf_run R hf _ _ hr
 refine⟨_,?_,single_rel h2⟩
 rw[results_eq,Sem.run_bind,Array.mapM_eq_mapM_toList,map_eq_pure_bind,Sem.run_bind,h1]
 simp only[Result.andThen_ok,Sem.run_pure]
def CallsTo (P:Program) (f:FuncId) (args:Array Value) (B:Nat) (w0:World) (m:Mp) (h:IH) (w:World) (v:Value) (h':IH):Prop :=
 Calls P f args w fun e w' => ∃v' m',e=.returned v'∧VRel m' v v'∧Rel B w0 m' h' w'∧Step m h w m' h' w'
structure Sound (E:Env):Prop where
 mixed:E.P.follows .mixedOrders=true
 names : ∀(f:FuncId) (fn:Func),E.P.funcs[f]?=some fn→fn.body.isSome=true→(fn.name == "runtime.NumGoroutine")=false
 origin : ∀(f:FuncId) (fn:Func),E.P.funcs[f]?=some fn→fn.body=none → ∀{args:List Value} {v:Value},carryI fn.name args=some v→fn.origin=fn.name∨fn.origin = ""
 intrN : ∀f g,E.intr f=some g → ∀args h v h',g args h=some (v,h')→h.n≤h'.n
 intr : ∀f g,E.intr f=some g→(∃fn,E.P.funcs[f]?=some fn∧fn.body.isSome=true) ∧ ∀args h v h',g args h=some (v,h') → ∀(B:Nat) (w0:World) (m:Mp) (w:World) (args':Array Value),
  Rel B w0 m h w→LRel m args args'.toList→Fresh m h.n h'.n→CallsTo E.P f args' B w0 m h w v h'
theorem fget_enterFr : ∀(l:List Value) (i t:Nat),fget (enterFr i l) t=if i≤t then l[t - i]? else none
 | [],i,t=>by simp[enterFr,fget]
 | v :: l,i,t=>by
  simp only[enterFr,fget,cond_eq_ite,beq_iff_eq,fget_enterFr l (i+1) t]
  by_cases h1:i=t
  ·subst h1;simp
  ·by_cases h2:i≤t
   ·rw[if_neg h1,if_pos h2,if_pos (by omega),show t - i=(t - (i+1))+1 from by omega,List.getElem?_cons_succ]
   ·rw[if_neg h1,if_neg h2,if_neg (by omega)]
theorem callFn_n {E:Env} (S:Sound E) {call:CallV} (hmono:CallMono call) {n:Nat} {f:FuncId} {args:List Value} {h h':IH} {v:Value} (hr:callFn E call n f args h=some (v,h')):h.n≤h'.n:=by
 unfold callFn at hr
 split at hr
 ·rename_i g hg;exact S.intrN _ _ hg _ _ _ _ hr
 ·split at hr
  ·cases hr
  ·split at hr
   ·obtain⟨vs,_,e⟩:=Option.map_eq_some_iff.1 hr
    cases e
    exact Nat.le_refl _
   ·simp only[cond_eq_ite] at hr
    split at hr
    ·split at hr
     ·cases hr
     ·rename_i fr1 h1 _ hx
      obtain⟨vs,_,e⟩:=Option.map_eq_some_iff.1 hr
      cases e
      exact evC_n hmono _ _ _ _ _ _ hx
     ·cases hr
    ·cases hr
theorem callFn_sim {E:Env} (S:Sound E) {call:CallV} (hcall:CallSim E.P call) (hmono:CallMono call) {n:Nat} {f:FuncId} {args:List Value} {h h':IH} {v:Value} (hr:callFn E call n f args h=some (v,h'))
  {B:Nat} {w0:World} {m:Mp} {w:World} {args':Array Value} (R:Rel B w0 m h w) (hargs:LRel m args args'.toList) (hfr:Fresh m h.n h'.n) :
  ((∃fn,E.P.funcs[f]?=some fn∧fn.body.isSome=true)∧CallsTo E.P f args' B w0 m h w v h')∨(∃fn,E.P.funcs[f]?=some fn∧fn.body=none∧h'=h∧carryI fn.name args=some v):=by
 unfold callFn at hr
 split at hr
 ·rename_i g hg
  obtain⟨h1,h2⟩:=S.intr f g hg
  exact .inl ⟨h1,h2 args h v h' hr B w0 m w args' R hargs hfr⟩
 ·split at hr
  ·cases hr
  ·rename_i fn hfn
   split at hr
   ·rename_i hbn
    obtain⟨vs,hv,e⟩:=Option.map_eq_some_iff.1 hr
    cases e
    exact .inr ⟨fn,hfn,hbn,rfl,hv⟩
   ·rename_i c hc
    refine .inl ⟨⟨fn,hfn,by rw[hc];rfl⟩,?_⟩
    simp only[cond_eq_ite] at hr
    split at hr
    ·rename_i hlen
     have hlen':args.length≤fn.ntmps:=by simpa using hlen
     have hsz:args'.size=args.length:=by rw[hargs.1];simp
     split at hr
     ·cases hr
     ·rename_i e fr1 h1 hne hx
      obtain⟨vs,hvs,he⟩:=Option.map_eq_some_iff.1 hr
      cases he
      intro cs
      let b:Frame:={ fn:=f,tmps:=#[],todo:=[],defers:=[],mode:=.run,kind:=.normal,roundOf:=none }
      let tmps:Array Value:=args' ++ Array.replicate (fn.ntmps - args'.size) undef
      have hen:Frame.enter E.P f args' .normal=on b tmps [.code c] []:=by
       simp[Frame.enter,hfn,hc,on,b,tmps]
      have htmps:FrRel m (enterFr 0 args) tmps:=by
       intro t u hu
       rw[fget_enterFr] at hu
       simp only[Nat.zero_le,if_true,Nat.sub_zero] at hu
       obtain⟨u',h2,h3⟩:=hargs.get hu
       have h4:args'[t]?=some u':=by simpa using h2
       refine⟨u',?_,h3⟩
       have:=(Array.getElem?_eq_some_iff.1 h4).1
       rw[Array.getElem?_append_left this,h4]
      have htsz:fn.ntmps≤tmps.size:=by simp[tmps];omega
      obtain⟨m1,w1,tmps1,ds1,k1,a1,a2,a3,a4,a5,a6,a7⟩:=sim_code (b:=b) (rd:=none) (z:=w.heap.size) (cs:=cs) hcall hmono S.mixed n c _ _ _ _ _ hx m w tmps [] [] R htmps htsz hfr (.inl ⟨rfl,rfl⟩) (DefOK.nil _ _ _ _) (Nat.le_refl _)
      obtain⟨rs,d1,d2,d3⟩:=a7
      have hleave : ∃todo,step E.P (lone (on b tmps1 k1 ds1) cs w1)=.next (lone { on b tmps1 todo ds1 with mode:=.returning } cs w1):=by
       cases e with
       | normal=>obtain rfl:k1=_:=a2;exact⟨_,stepR_end (b:=b) (a:=⟨tmps1,ds1⟩) rfl⟩
       | exit i=>exact absurd rfl (hne i)
       | ret=>obtain⟨k2,rfl⟩:=a2;exact⟨_,stepR_ret (b:=b) (a:=⟨tmps1,ds1⟩) rfl⟩
      obtain⟨todo,hleave⟩:=hleave
      obtain⟨w2,b1,b2,b3,b4⟩:=unwind_marks (P:=E.P) R.size rs { on b tmps1 todo ds1 with mode:=.returning } cs w1 rfl d1 d2 d3 a5
      obtain⟨v',r1,r2⟩:=results_run b2 a3 hvs
      refine⟨.returned v',w2,{ on b tmps1 todo ds1 with mode:=.returning,defers:=[] },⟨v',m1,rfl,r2,b2,?_⟩,?_,?_,?_⟩
      ·refine⟨a6.le,a6.new,a6.n,a6.base,fun r hr hk=>?_,a6.idle,by rw[b3];exact a6.size,a6.img,a6.idleF⟩
       rw[b4 r (fun hm=>by have:=(d3 r hm).1;omega)]
       exact a6.frame r hr hk
      ·exact(by rw[hen];exact a1.trans (.head hleave b1):Steps E.P (lone (Frame.enter E.P f args' .normal) cs w) _)
      ·rfl
      ·exact⟨rfl,rfl,rfl,fn,hfn,r1⟩
     ·cases hr
    ·cases hr
theorem CallsTo.run {P:Program} {f:FuncId} {args:Array Value} {B:Nat} {w0:World} {m:Mp} {h:IH} {w:World} {v:Value} {h':IH} (H:CallsTo P f args B w0 m h w v h') (c:Frame) (cs:List Frame) :
  ∃v' m' w',VRel m' v v'∧Rel B w0 m' h' w'∧Step m h w m' h' w'∧Steps P (lone (Frame.enter P f args .normal) (c :: cs) w) (lone (c.finish v') cs w'):=by
 obtain⟨e,w',fr,⟨v',m',rfl,h1,h2,h3⟩,hc,_,hl⟩:=H (c :: cs)
 exact⟨v',m',w',h1,h2,h3,Steps.trans hc (.one (step_leave_returned hl))⟩
theorem callFunc_run {P:Program} {f:FuncId} {fn:Func} {args:Array Value} {w:World} (hf:P.funcs[f]?=some fn) (hb:fn.body.isSome=true) (hn:(fn.name == "runtime.NumGoroutine")=false):(callFunc f args).run P w=.ok (.enter f args) w:=by
 have hb':fn.body.isNone=false:=by cases h:fn.body<;>simp_all
 have hp:(program:Sem Program).run P w=.ok P w:=rfl
 simp only[callFunc,Sem.run_bind,hp,Result.andThen_ok,hf,hn,hb']
 rfl
def subEntry:Array Value→Sem Value:=fun args=>do
 let (x,y,b) ←Extern.MathBitsCarry.three "Sub64" args
 pure (Extern.MathBitsCarry.pair ((x+Extern.MathBitsCarry.m64 - y - b) % Extern.MathBitsCarry.m64) (if x<y+b then 1 else 0))
theorem find_add {fn:Func} (h:fn.name = "math/bits.Add64"):Extern.find fn=some add64Entry:=by
 obtain⟨name,origin,params,resultTypes⟩:=fn
 simp only at h;subst h
 kernel_rfl
theorem find_sub {fn:Func} (h:fn.name = "math/bits.Sub64"):Extern.find fn=some subEntry:=by
 obtain⟨name,origin,params,resultTypes⟩:=fn
 simp only at h;subst h
 kernel_rfl
theorem next_add {fn:Func} (h:fn.name = "math/bits.Add64") (ho:fn.origin = "math/bits.Add64" ∨ fn.origin = ""):Extern.findNext fn=none:=by
 obtain⟨name,origin,params,resultTypes⟩:=fn
 simp only at h ho;subst h
 rcases ho with ho|ho<;>subst ho<;>kernel_rfl
theorem next_sub {fn:Func} (h:fn.name = "math/bits.Sub64") (ho:fn.origin = "math/bits.Sub64" ∨ fn.origin = ""):Extern.findNext fn=none:=by
 obtain⟨name,origin,params,resultTypes⟩:=fn
 simp only at h ho;subst h
 rcases ho with ho|ho<;>subst ho<;>kernel_rfl
theorem run_sub64 {P:Program} (x y:Nat) {c:Nat} (hc:c≤1) (w:World) :
  (subEntry #[.int .u64 (x:Int),.int .u64 (y:Int),.int .u64 (c:Int)]).run P w=.ok (.tuple #[.int .u64 (((x+18446744073709551616 - y - c) % 18446744073709551616:Nat):Int),.int .u64 ((if x<y+c then 1 else 0:Nat):Int)]) w:=by
 have:c=0∨c=1:=by omega
 rcases this with rfl|rfl<;>rfl
end Go.Id

namespace Go.Id
open Go Go.RowKit
theorem putParams_rel {m:Mp} {nt:Nat} : ∀(ps:List Nat) (vs:List Value) (vs':List Value) (fr fr':Fr) (tmps:Array Value),putParams nt ps vs fr=some fr'→LRel m vs vs'→FrRel m fr tmps→nt≤tmps.size →
  ps.length=vs.length∧FrRel m fr' ((ps.zip vs').foldl (fun tmps (x:Nat×Value)=>tmps.setIfInBounds x.1 x.2) tmps)∧nt≤((ps.zip vs').foldl (fun tmps (x:Nat×Value)=>tmps.setIfInBounds x.1 x.2) tmps).size
 | [],[],vs',fr,fr',tmps,h,hL,hf,ht=>by
  simp only[putParams] at h;cases h
  exact⟨rfl,hf,ht⟩
 | t :: ps,v :: vs,[],fr,fr',tmps,h,hL,hf,ht=>by have:=hL.1;simp at this
 | t :: ps,v :: vs,v' :: vs',fr,fr',tmps,h,hL,hf,ht=>by
  rw[putParams] at h
  split at h
  ·rename_i fr1 hp
   obtain⟨h1,h2⟩:=fput_rel hp hf ht (hL.2 0 v v' rfl rfl)
   have hL':LRel m vs vs':=⟨by have:=hL.1;simpa using this,fun i x x' a b=>hL.2 (i+1) x x' (by simpa using a) (by simpa using b)⟩
   obtain⟨a,b,c⟩:=putParams_rel ps vs vs' fr1 fr' (tmps.setIfInBounds t v') h hL' h1 h2
   exact⟨by simp[a],b,c⟩
  ·cases h
 | [],_ :: _,_,_,_,_,h,_,_,_=>by simp[putParams] at h
 | _ :: _,[],_,_,_,_,h,_,_,_=>by simp[putParams] at h
theorem LoopRel.busy {m:Mp} {l:ILoop} {l':Loop} (h:LoopRel m l l') (st:LoopState) (p:Option Code):LoopRel m { l with state:=st,pending:=p } { l' with state:=st,pending:=p } :=
 ⟨rfl,rfl,h.fn,h.tmps,h.nt,h.params,h.assign,h.body⟩
theorem LoopRel.state_ {m:Mp} {l:ILoop} {l':Loop} (h:LoopRel m l l') (st:LoopState):LoopRel m { l with state:=st } { l' with state:=st } :=
 ⟨rfl,h.pending,h.fn,h.tmps,h.nt,h.params,h.assign,h.body⟩
structure YieldInv (E:Env) (call:CallV) (n l:Nat) (args:List Value) (h h':IH) (v:Value) where
 r:ILoop
 r1:ILoop
 r2:ILoop
 fr1:Fr
 fr2:Fr
 fr3:Fr
 h1:IH
 h2:IH
 e:IExit
 loop:loopOf h l=some r
 put:putParams r.nt r.params args r.fr=some fr1
 assign:evC E call r.fn r.nt (some l) n r.assign fr1 h=some (.normal,fr2,h1)
 loop1:loopOf h1 l=some r1
 ready:r1.state=.ready
 body:evC E call r.fn r.nt (some l) n r.body fr2 { h1 with ext:=h1.ext.set l (.loop { r1 with state:=.busy }) }=some (e,fr3,h2)
 loop2:loopOf h2 l=some r2
 done:(e=.normal∧v=.bool true∧h' = { h2 with ext:=h2.ext.set l (.loop { r2 with state:=.ready,pending:=none }) }) ∨
  (∃i,e=.exit i∧v=.bool false∧h' = { h2 with ext:=h2.ext.set l (.loop { r2 with state:=.done,pending:=some (.exit i) }) }) ∨
  (e=.ret∧v=.bool false∧h' = { h2 with ext:=h2.ext.set l (.loop { r2 with state:=.done,pending:=some .ret }) })
theorem callYield_inv {E:Env} {call:CallV} {n l:Nat} {args:List Value} {h h':IH} {v:Value} (hr:callYield E call n l args h=some (v,h')):Nonempty (YieldInv E call n l args h h' v):=by
 unfold callYield at hr
 split at hr
 ·cases hr
 ·rename_i r hl
  split at hr
  ·cases hr
  ·rename_i fr1 hp
   split at hr
   ·rename_i fr2 h1 hx
    split at hr
    ·cases hr
    ·rename_i r1 hl1
     simp only[cond_eq_ite,beq_iff_eq] at hr
     split at hr
     ·rename_i hst
      split at hr
      ·cases hr
      ·rename_i e fr3 h2 hy
       split at hr
       ·cases hr
       ·rename_i r2 hl2
        split at hr<;>cases hr
        ·exact⟨⟨r,r1,r2,fr1,fr2,fr3,h1,h2,_,hl,hp,hx,hl1,hst,hy,hl2,.inl ⟨rfl,rfl,rfl⟩⟩⟩
        ·exact⟨⟨r,r1,r2,fr1,fr2,fr3,h1,h2,_,hl,hp,hx,hl1,hst,hy,hl2,.inr (.inl ⟨_,rfl,rfl,rfl⟩)⟩⟩
        ·exact⟨⟨r,r1,r2,fr1,fr2,fr3,h1,h2,_,hl,hp,hx,hl1,hst,hy,hl2,.inr (.inr ⟨rfl,rfl,rfl⟩)⟩⟩
     ·cases hr
   ·cases hr
theorem callYield_n {E:Env} {call:CallV} (hmono:CallMono call) {n l:Nat} {args:List Value} {h h':IH} {v:Value} (hr:callYield E call n l args h=some (v,h')):h.n≤h'.n:=by
 obtain⟨Y⟩:=callYield_inv hr
 have n1:=evC_n hmono _ _ _ _ _ _ Y.assign
 have n2:=evC_n hmono _ _ _ _ _ _ Y.body
 have n3:h'.n=Y.h2.n:=by rcases Y.done with⟨_,_,e⟩|⟨_,_,_,e⟩|⟨_,_,e⟩<;>exact(congrArg IH.n e).trans rfl
 rw[n3]
 exact Nat.le_trans n1 n2
theorem callYield_sim {E:Env} (S:Sound E) {call:CallV} (hcall:CallSim E.P call) (hmono:CallMono call) {n l:Nat} {args:List Value} {h h':IH} {v:Value} (hr:callYield E call n l args h=some (v,h'))
  {B:Nat} {w0:World} {m:Mp} {w:World} {args':Array Value} (R:Rel B w0 m h w) (hargs:LRel m args args'.toList) (hfr:Fresh m h.n h'.n) {r0 s0:Nat} (hm:m (2*l)=some (r0,s0)) :
  ∃f ts a c,(Instr.yield r0 args').run E.P w=.ok (.round r0 f ts a c) w ∧
   ∀(c0:Frame) (cs:List Frame),∃v' m' w',VRel m' v v'∧Rel B w0 m' h' w'∧Step m h w m' h' w'∧Steps E.P (lone (Frame.round r0 f ts a c .normal) (c0 :: cs) w) (lone (c0.finish v') cs w'):=by
 obtain⟨Y⟩:=callYield_inv hr
 have n1:=evC_n hmono _ _ _ _ _ _ Y.assign
 have n2:=evC_n hmono _ _ _ _ _ _ Y.body
 have n3:h'.n=Y.h2.n:=by rcases Y.done with⟨_,_,e⟩|⟨_,_,_,e⟩|⟨_,_,e⟩<;>exact(congrArg IH.n e).trans rfl
 obtain⟨_,L,hL,hrel⟩:=R.obj _ _ _ _ (loopOf_get Y.loop) hm
 obtain⟨p1,p2,p3⟩:=putParams_rel Y.r.params args args'.toList Y.r.fr Y.fr1 L.tmps Y.put hargs hrel.tmps hrel.nt
 have hsz:args'.size=L.params.size:=by
  have h1:L.params.size=Y.r.params.length:=by rw[←hrel.params];simp
  have h2:=hargs.1
  simp at h2
  omega
 have htm:(L.params.zip args').foldl (fun tmps (x:Tmp×Value)=>tmps.setIfInBounds x.1 x.2) L.tmps=(Y.r.params.zip args'.toList).foldl (fun tmps (x:Nat×Value)=>tmps.setIfInBounds x.1 x.2) L.tmps:=by
  rw[←Array.foldl_toList,Array.toList_zip,hrel.params]
 rw[←htm] at p2 p3
 refine⟨_,_,_,_,run_yield hL hsz,fun c0 cs=>?_⟩
 let b:Frame:={ fn:=L.fn,tmps:=#[],todo:=[],defers:=[],mode:=.run,kind:=.normal,roundOf:=some r0 }
 have hb:b.fn=Y.r.fn:=hrel.fn
 have hx:=Y.assign
 rw[←hb] at hx
 obtain⟨m1,w1,tmps1,ds1,k1,a1,a2,a3,a4,a5,a6,a7⟩:=sim_code (b:=b) (rd:=some l) (z:=w.heap.size) (cs:=c0 :: cs) hcall hmono S.mixed n Y.r.assign _ _ _ _ _ hx m w _ [.beginRound,.code Y.r.body] [] R p2 p3 (hfr.sub (Nat.le_refl _) (by rw[n3];exact n2)) (.inr ⟨l,r0,s0,rfl,rfl,hm⟩) (DefOK.nil _ _ _ _) (Nat.le_refl _)
 obtain rfl:k1=_:=a2
 have hm1:=(a6.le _ _ hm).1
 obtain⟨hs0,L1,hL1,hrel1⟩:=a5.obj _ _ _ _ (loopOf_get Y.loop1) hm1
 obtain⟨Rb,Sb⟩:=a5.setObj (o1:=.loop { Y.r1 with state:=.busy }) (o':=.loop { L1 with state:=.busy }) (loopOf_get Y.loop1) rfl rfl hm1 rfl (fun w' z e=>⟨hs0,_,e,hrel1.state_ .busy⟩)
 have hbeg:(Instr.beginRound r0).run E.P w1=.ok () (w1.putObj r0 (.loop { L1 with state:=.busy })):=run_beginRound hL1 (by rw[hrel1.state];exact Y.ready)
 have st1:step E.P (lone (on b tmps1 (.beginRound :: [.code Y.r.body]) ds1) (c0 :: cs) w1)=.next (lone (on b tmps1 [.code Y.r.body] ds1) (c0 :: cs) (w1.putObj r0 (.loop { L1 with state:=.busy }))) :=
  stepR_beginRound (b:=b) (a:=⟨tmps1,ds1⟩) rfl hbeg
 have hy:=Y.body
 rw[←hb] at hy
 have S1b:=a6.trans Sb
 obtain⟨m2,w2,tmps2,ds2,k2,b1,b2,b3,b4,b5,b6,b7⟩:=sim_code (b:=b) (rd:=some l) (z:=w.heap.size) (cs:=c0 :: cs) hcall hmono S.mixed n Y.r.body _ _ _ _ _ hy m1 _ tmps1 [] ds1 Rb a3 a4 ((S1b.fresh hfr).sub (Nat.le_refl _) (by rw[n3];exact Nat.le_refl _)) (.inr ⟨l,r0,s0,rfl,rfl,hm1⟩) (a7.step Sb) (Nat.le_trans a6.size Sb.size)
 have hm2:=(b6.le _ _ hm1).1
 obtain⟨_,L2,hL2,hrel2⟩:=b5.obj _ _ _ _ (loopOf_get Y.loop2) hm2
 have start:lone (Frame.round r0 L.fn ((L.params.zip args').foldl (fun tmps (x:Tmp×Value)=>tmps.setIfInBounds x.1 x.2) L.tmps) L.assign L.body .normal) (c0 :: cs) w =
   lone (on b ((L.params.zip args').foldl (fun tmps (x:Tmp×Value)=>tmps.setIfInBounds x.1 x.2) L.tmps) (.code Y.r.assign :: [.beginRound,.code Y.r.body]) []) (c0 :: cs) w:=by
  rw[hrel.assign,hrel.body];rfl
 have path:=a1.trans (.head st1 b1)
 have fin : ∀(e:IExit) (u:Value) (st:LoopState) (jump:Option Code),h' = { Y.h2 with ext:=Y.h2.ext.set l (.loop { Y.r2 with state:=st,pending:=jump }) }→u=.bool jump.isNone→v=u →
   (st=if jump.isNone then .ready else .done) →
   step E.P (lone (on b tmps2 k2 ds2) (c0 :: cs) w2)=.next (lone (c0.finish u) cs (w2.putObj r0 (.loop { L2 with state:=if jump.isNone then .ready else .done,pending:=jump }))) →
   ∃v' m' w',VRel m' v v'∧Rel B w0 m' h' w'∧Step m h w m' h' w'∧Steps E.P (lone (Frame.round r0 L.fn ((L.params.zip args').foldl (fun tmps (x:Tmp×Value)=>tmps.setIfInBounds x.1 x.2) L.tmps) L.assign L.body .normal) (c0 :: cs) w) (lone (c0.finish v') cs w'):=by
  intro e u st jump e1 e2 e3 e4 hst
  obtain⟨R3,S3⟩:=b5.setObj (o1:=.loop { Y.r2 with state:=st,pending:=jump }) (o':=.loop { L2 with state:=st,pending:=jump }) (loopOf_get Y.loop2) rfl rfl hm2 rfl (fun w' z e=>⟨hs0,_,e,hrel2.busy st jump⟩)
  refine⟨u,m2,_,by rw[e3,e2];exact .scal rfl,by rw[e1];exact R3,by rw[e1];exact(S1b.trans b6).trans S3,?_⟩
  rw[start]
  rw[←e4] at hst
  exact path.trans (.one hst)
 rcases Y.done with⟨e1,e2,e3⟩|⟨i,e1,e2,e3⟩|⟨e1,e2,e3⟩
 ·rw[e1] at b2
  obtain rfl:k2=_:=b2
  exact fin .normal (.bool true) .ready none e3 rfl e2 rfl (stepR_round_end (b:=b) (a:=⟨tmps2,ds2⟩) rfl rfl (run_endRound none hL2))
 ·rw[e1] at b2
  obtain⟨k3,rfl,hk3⟩:=b2
  exact fin (.exit i) (.bool false) .done (some (.exit i)) e3 rfl e2 rfl (stepR_round_exit (b:=b) (a:=⟨tmps2,ds2⟩) rfl rfl (by rw[hk3];rfl) (run_endRound (some (.exit i)) hL2))
 ·rw[e1] at b2
  obtain⟨k3,rfl⟩:=b2
  exact fin .ret (.bool false) .done (some .ret) e3 rfl e2 rfl (stepR_round_ret (b:=b) (a:=⟨tmps2,ds2⟩) rfl rfl (run_endRound (some .ret) hL2))
theorem carry_sim {P:Program} {f:FuncId} {fn:Func} (hf:P.funcs[f]?=some fn) (hb:fn.body=none) (ho:fn.origin=fn.name∨fn.origin = "") {args:List Value} {v:Value} (hc:carryI fn.name args=some v) {m:Mp} {args':Array Value} (hargs:LRel m args args'.toList) (w:World) :
  ∃v',(callFunc f args').run P w=.ok (.value v') w∧VRel m v v' ∧ ∀a∈args'.toList,∃k n,a=Value.int k n:=by
 unfold carryI at hc
 split at hc
 case h_2=>cases hc
 rename_i x y c
 simp only[cond_eq_ite] at hc
 split at hc
 case isFalse=>cases hc
 rename_i hle
 have hle':c≤1:=by simpa using hle
 obtain⟨a0,b0,r0⟩:=hargs.get (i:=0) rfl
 obtain⟨a1,b1,r1⟩:=hargs.get (i:=1) rfl
 obtain⟨a2,b2,r2⟩:=hargs.get (i:=2) rfl
 have e0:=r0.scal_eq rfl
 have e1:=r1.scal_eq rfl
 have e2:=r2.scal_eq rfl
 subst e0;subst e1;subst e2
 have hl:args'.toList = [.int .u64 (.ofNat x),.int .u64 (.ofNat y),.int .u64 (.ofNat c)]:=by
  have h1:=hargs.1
  apply List.ext_getElem?
  intro i
  match i with
  | 0=>exact b0
  | 1=>exact b1
  | 2=>exact b2
  | i+3=>rw[List.getElem?_eq_none (by simp at h1 ⊢;omega),List.getElem?_eq_none (by simp)]
 have ha:args' = #[.int .u64 (.ofNat x),.int .u64 (.ofNat y),.int .u64 (.ofNat c)]:=by rw[←Array.toArray_toList (xs:=args'),hl]
 have hint : ∀a∈args'.toList,∃k n,a=Value.int k n:=by
  rw[hl]
  intro a h
  simp only[List.mem_cons,List.not_mem_nil,or_false] at h
  rcases h with rfl|rfl|rfl<;>exact⟨_,_,rfl⟩
 split at hc
 ·rename_i hn
  have hn:fn.name = "math/bits.Add64" := by simpa using hn
  cases hc
  refine⟨_,?_,VRel.tuple_iff (cs:=#[.int .u64 _,.int .u64 _]) (cs':=#[.int .u64 _,.int .u64 _]) (.cons (.scal rfl) (.cons (.scal rfl) (.nil _))),hint⟩
  rw[run_callFunc_extern hf (by rw[hn];decide +kernel) (by rw[hb];rfl) (next_add hn (ho.imp (fun e=>by rw[e,hn]) id)) (find_add hn),ha,run_add64 _ _ _ (by exact Int.natCast_nonneg _) (by exact Int.natCast_nonneg _) (by exact Int.natCast_nonneg _) (by exact Int.ofNat_le.2 hle')]
  simp only[Result.andThen_ok]
  rfl
 ·split at hc
  ·rename_i hn
   have hn:fn.name = "math/bits.Sub64" := by simpa using hn
   cases hc
   refine⟨_,?_,VRel.tuple_iff (cs:=#[.int .u64 _,.int .u64 _]) (cs':=#[.int .u64 _,.int .u64 _]) (.cons (.scal rfl) (.cons (.scal rfl) (.nil _))),hint⟩
   rw[run_callFunc_extern hf (by rw[hn];decide +kernel) (by rw[hb];rfl) (next_sub hn (ho.imp (fun e=>by rw[e,hn]) id)) (find_sub hn),ha]
   show((subEntry #[.int .u64 (x:Int),.int .u64 (y:Int),.int .u64 (c:Int)]).run P w).andThen _=_
   rw[run_sub64 x y hle']
   simp only[Result.andThen_ok]
   congr 4
   by_cases hlt:x<y+c
   ·simp[hlt]
   ·simp[hlt]
  ·cases hc
theorem callV_mono {E:Env} (S:Sound E) : ∀n,CallMono (callV E n)
 | 0=>fun fv vs h h' v hr=>by simp[callV] at hr
 | n+1=>fun fv vs h h' v hr=>by
  unfold callV at hr
  split at hr
  ·exact callFn_n S (callV_mono S n) hr
  ·simp only[cond_eq_ite] at hr
   split at hr
   ·exact callYield_n (callV_mono S n) hr
   ·cases hr
  ·cases hr
theorem callV_sim {E:Env} (S:Sound E) : ∀n,CallSim E.P (callV E n)
 | 0=>fun fv vs h h' v hr=>by simp[callV] at hr
 | n+1=>fun fv vs h h' v hr B w0 m w fv' vs' R hfv hvs hfr=>by
  unfold callV at hr
  split at hr
  ·rename_i f first cap
   obtain⟨fn',first',cap',rfl,hfn,h1,h2⟩:=hfv.func_inv
   cases fn'<;>simp only[FnRel] at hfn
   subst hfn
   have hargs:LRel m (first.toList ++ (vs ++ cap.toList)) (first' ++ vs' ++ cap').toList:=by
    rw[Array.toList_append,Array.toList_append,List.append_assoc]
    exact h1.append (hvs.append h2)
   rcases callFn_sim S (callV_sim S n) (callV_mono S n) hr R hargs hfr with⟨⟨fn,hf,hb⟩,hC⟩|⟨fn,hf,hb,rfl,hcv⟩
   case inr =>
    obtain⟨v',e1,e2,e3⟩:=carry_sim hf hb (S.origin f fn hf hb hcv) hcv hargs w
    refine⟨.value v',?_,.inl ⟨v',rfl,rfl,e2,fun a ha=>e3 a (by rw[Array.toList_append,Array.toList_append];simp[ha])⟩⟩
    simp only[Deferred.ofValue,Sem.run_bind,Sem.run_pure,Result.andThen_ok,invoke]
    exact e1
   refine⟨.enter f (first' ++ vs' ++ cap'),?_,.inr ⟨_,.inl ⟨_,_,rfl,rfl⟩,fun c cs=>hC.run c cs⟩⟩
   simp only[Deferred.ofValue,Sem.run_bind,Sem.run_pure,Result.andThen_ok,invoke]
   exact callFunc_run hf hb (S.names f fn hf hb)
  ·rename_i l first cap
   simp only[cond_eq_ite,beq_iff_eq] at hr
   split at hr
   ·rename_i hev
    obtain⟨fn',first',cap',rfl,hfn,h1,h2⟩:=hfv.func_inv
    cases fn'<;>simp only[FnRel] at hfn
    obtain⟨s,hm⟩:=hfn
    have hl:2*(l / 2)=l:=by omega
    rw[←hl] at hm
    have hargs:LRel m (first.toList ++ vs) (first' ++ vs').toList:=by
     rw[Array.toList_append]
     exact h1.append hvs
    obtain⟨f,ts,a,c,hy,hrun⟩:=callYield_sim S (callV_sim S n) (callV_mono S n) hr R hargs hfr hm
    refine⟨_,?_,.inr ⟨_,.inr ⟨_,f,ts,a,c,rfl,rfl⟩,hrun⟩⟩
    simp only[Deferred.ofValue,Sem.run_bind,Sem.run_pure,Result.andThen_ok,invoke]
    exact hy
   ·cases hr
  ·cases hr
end Go.Id

namespace Go.Id
open Go Go.RowKit
def IH.start (base:Nat→Option (List Value)):IH:={ base,n:=0,ext:=.leaf,fams:=.leaf }
def Mp.startOf (A:Nat→Nat×Nat):Mp:=⟨fun b=>if b % 2=1 then some (if b / 2<4294967296 then (b / 2,0) else A (b / 2 - 4294967296)) else none,fun _=>(0,0)⟩
theorem Mp.startOf_low (A:Nat→Nat×Nat) {b:Nat} (h:b<4294967296):Mp.startOf A (2*b+1)=some (b,0):=by
 show(if (2*b+1) % 2=1 then some (if (2*b+1) / 2<4294967296 then ((2*b+1) / 2,0) else A ((2*b+1) / 2 - 4294967296)) else none)=some (b,0)
 rw[if_pos (by omega),if_pos (by omega),show(2*b+1) / 2=b from by omega]
theorem Mp.startOf_high (A:Nat→Nat×Nat) (i:Nat):Mp.startOf A (2*(4294967296+i)+1)=some (A i):=by
 show(if (2*(4294967296+i)+1) % 2=1 then some (if (2*(4294967296+i)+1) / 2<4294967296 then ((2*(4294967296+i)+1) / 2,0) else A ((2*(4294967296+i)+1) / 2 - 4294967296)) else none)=some (A i)
 rw[if_pos (by omega),if_neg (by omega),show(2*(4294967296+i)+1) / 2 - 4294967296=i from by omega]
theorem Mp.startOf_even (A:Nat→Nat×Nat) (k:Nat):Mp.startOf A (2*k)=none:=by
 show(if (2*k) % 2=1 then _ else none)=none
 rw[if_neg (by omega)]
def BaseOK (A:Nat→Nat×Nat) (base:Nat→Option (List Value)) (w:World):Prop:=∀b cs,base b=some cs → ∃r s,Mp.startOf A (2*b+1)=some (r,s) ∧ ∃c el fz,w.heap[r]?=some (.cells c el fz)∧RowAt (Mp.startOf A) cs c s
theorem Rel.start {A:Nat→Nat×Nat} {base:Nat→Option (List Value)} {w:World} (hb:BaseOK A base w):Rel w.heap.size w (Mp.startOf A) (IH.start base) w:=by
 have leaf : ∀{α:Type} (k:Nat),(Tr.leaf:Tr α).get k=none:=fun k=>rfl
 refine⟨Below.refl _ _,Nat.le_refl _,?_,fun b h=>Mp.startOf_low A h,?_,fun k _=>leaf k,?_,?_,?_,?_,?_,?_⟩
 ·intro b cs h
  obtain⟨r,s,h0,c,el,fz,h1,h2⟩:=hb b cs h
  exact⟨r,s,h0,(Array.getElem?_eq_some_iff.1 h1).1,c,el,fz,h1,h2⟩
 ·intro k r s h
  rw[Mp.startOf_even] at h;cases h
 ·intro k o r s h;cases h
 ·intro k k' o o' r s s' _ h;cases h
 ·intro f st h;cases h
 ·intro k cs t f h;cases h
 ·intro f st h;cases h
 ·intro f st x y h;cases h
theorem keptBut_of_below {w w':World} (h:Below w.heap.size w w') (may:MemPlace→Prop):w.keptBut w' may:=by
 refine⟨h.os,h.output,fun i hi=>?_⟩
 rw[h.block i hi]
 cases hx:w.heap[i]? with
 | none=>rfl
 | some o =>
  cases o with
  | cells c t fr=>exact⟨rfl,rfl,rfl,fun _ _=>rfl⟩
  | map es cl=>exact .inr ⟨rfl,rfl⟩
  | _=>rfl
theorem post_of_below {H:Type} {enc:TypeId×Value→H} {P:Program} {f:Func} {s:ChangeSpec} {apart fresh handsOn:Bool} {W W':World} {args:Array Value} {v:Value} {ds gs:List (DataW H)} {before pa pv:List MemPlace}
  (hW:DataW.Whole enc P f.params.toList s.vars apart W args.toList ds gs before)
  (hres : ∀(b:Nat) (sp:Nat→Bool) (hd:Bool),DataW.TrodAll enc P W' b sp hd f.resultTypes.toList (v.resultList f.resultTypes.size) (s.fn H (ds ++ gs)).results [])
  (hargs : ∀sp:Nat→Bool,(∀p∈before,sp p.block=true)→DataW.TrodAll enc P W' 0 sp true f.params.toList args.toList (s.fn H (ds ++ gs)).args pa)
  (hvars : ∀sp:Nat→Bool,(∀p∈before,sp p.block=true)→DataW.TrodVars enc P W' sp s.vars (s.fn H (ds ++ gs)).vars pv)
  (hk:Below W.heap.size W W'):s.post enc P f apart fresh handsOn false W args v W':=by
 have hold : ∀p∈before,(fun b=>decide (b<W.heap.size)) p.block=true:=fun p hp=>by simpa using hW.lt p hp
 exact⟨ds,gs,before,[],pa,pv,hW,hres _ _ _,hargs _ hold,hvars _ hold,keptBut_of_below hk _,fun h=>by cases h⟩
end Go.Id

namespace Go.Id
open Go
def calmOp (o:Oper):Bool:=kindOf o.op == .pure || kindOf o.op == .load
def calmBetween (ops:List Oper) (i p:Nat):Bool :=
 (List.range ops.length).all fun j => !(Nat.ble (min i p) j && Nat.blt j (max i p)) || (match ops[j]? with|some o=>calmOp o|none=>false)
def plan2 (ops:List Oper):List (Nat×List Nat):=(plan ops).filterMap fun e=>match e.2.filter (fun p => !calmBetween ops e.1 p) with
 | []=>none
 | l=>some (e.1,l)
theorem calm_step {E:Env} {call:CallV} {nt:Nat} {ops:List Oper} {o:Oper} {fr fr':Fr} {h h':IH} (hc:calmOp o=true) (hs:stepOp E call nt ops o fr h=some (fr',h')):h'=h:=by
 have hne:kindOf o.op≠.chain:=by
  intro hk;simp[calmOp,hk] at hc
 unfold stepOp at hs
 split at hs
 ·rw[runOp_plain hne] at hs
  split at hs
  ·rename_i v h1 hi
   obtain⟨f,_,e⟩:=Option.map_eq_some_iff.1 hs
   cases e
   simp only[calmOp,Bool.or_eq_true,beq_iff_eq] at hc
   rcases hc with hc|hc
   ·exact(iop_pure hc hi).1
   ·exact iop_load hc hi
  ·cases hs
 ·obtain⟨f,_,e⟩:=Option.map_eq_some_iff.1 hs
  cases e;rfl
 ·cases hs
theorem calm_range {E:Env} {call:CallV} {nt:Nat} {ops:List Oper} {fr:Fr} {h:IH} {tr:List (Fr×IH)} (ht:trace E call nt ops ops fr h=some tr) : ∀(d a:Nat) (x y:Fr×IH),(∀j,a≤j→j<a+d → ∃o,ops[j]?=some o∧calmOp o=true)→tr[a]?=some x→tr[a+d]?=some y→y.2=x.2
 | 0,a,x,y,_,hx,hy=>by rw[Nat.add_zero,hx] at hy;cases hy;rfl
 | d+1,a,x,y,hc,hx,hy=>by
  obtain⟨o,ho,hco⟩:=hc a (Nat.le_refl _) (by omega)
  obtain⟨_,_,h3⟩:=trace_spec ops fr h tr ht
  obtain⟨fr1,h1,fr2,h2,e1,e2,hs⟩:=h3 a o ho
  rw[hx] at e1;cases e1
  have e3:=calm_step hco hs
  have:=calm_range ht d (a+1) (fr2,h2) y (fun j a1 a2=>hc j (by omega) (by omega)) e2 (by rw[←hy];congr 1;omega)
  rw[this];exact e3
theorem calm_same {E:Env} {call:CallV} {nt:Nat} {ops:List Oper} {fr:Fr} {h:IH} {tr:List (Fr×IH)} (ht:trace E call nt ops ops fr h=some tr) {i p:Nat} (hc:calmBetween ops i p=true) (hi:i≤ops.length) (hp:p≤ops.length) {x y:Fr×IH} (hx:tr[i]?=some x) (hy:tr[p]?=some y):y.2=x.2:=by
 simp only[calmBetween,List.all_eq_true,List.mem_range,Bool.or_eq_true,Bool.not_eq_true',Bool.and_eq_false_iff] at hc
 have key : ∀j,min i p≤j→j<max i p → ∃o,ops[j]?=some o∧calmOp o=true:=by
  intro j a b
  rcases hc j (by omega) with hh|hh
  ·rcases hh with hh|hh
   ·rw[Bool.eq_false_iff] at hh;exact absurd (by rw[Nat.ble_eq];exact a) hh
   ·rw[Bool.eq_false_iff] at hh;exact absurd (by simp only[Nat.blt,Nat.ble_eq];omega) hh
  ·split at hh
   ·rename_i o ho;exact⟨o,ho,hh⟩
   ·cases hh
 rcases Nat.le_total i p with hip|hip
 ·exact calm_range ht (p - i) i x y (fun j a b=>key j (by omega) (by omega)) hx (by rw[←hy];congr 1;omega)
 ·exact(calm_range ht (i - p) p y x (fun j a b=>key j (by omega) (by omega)) hy (by rw[←hx];congr 1;omega)).symm
theorem plan_mem {ops:List Oper} {e:Nat×List Nat} (he:e∈plan ops):(∃o,ops[e.1]?=some o∧kindOf o.op=.load) ∧ ∀p∈e.2,p≤ops.length:=by
 simp only[plan,List.mem_filterMap,List.mem_range] at he
 obtain⟨i,hi,he⟩:=he
 split at he
 ·cases he
 ·rename_i o ho
  simp only[cond_eq_ite,beq_iff_eq] at he
  split at he
  ·rename_i hk
   cases he
   refine⟨⟨o,ho,hk⟩,fun p hp=>?_⟩
   have:=(List.mem_filter.1 hp).1
   rw[List.mem_append] at this
   rcases this with h1|h1
   ·have:=(List.mem_filter.1 h1).1;rw[List.mem_range] at this;omega
   ·simp at h1;omega
  ·cases he
theorem steady_of2 {E:Env} {call:CallV} {nt:Nat} {ops:List Oper} {fr:Fr} {h:IH} {tr:List (Fr×IH)} (ht:trace E call nt ops ops fr h=some tr) (hs:steady E.P ops tr (plan2 ops)=true):steady E.P ops tr (plan ops)=true:=by
 simp only[steady,List.all_eq_true] at hs ⊢
 intro e he
 obtain⟨⟨o,ho,hk⟩,hps⟩:=plan_mem he
 obtain⟨hlen,_,h3⟩:=trace_spec ops fr h tr ht
 obtain⟨fr1,h1,fr2,h2,e1,e2,hst⟩:=h3 e.1 o ho
 have hi:e.1<ops.length:=(List.getElem?_eq_some_iff.1 ho).1
 simp only[ho,e1]
 split
 ·rename_i hw
  rw[List.all_eq_true]
  intro p hp
  have hpl:=hps p hp
  obtain⟨⟨fp,hpp⟩,hp1⟩ : ∃y,tr[p]?=some y:=⟨tr[p]'(by omega),List.getElem?_eq_getElem (by omega)⟩
  cases hcb:calmBetween ops e.1 p with
  | true =>
   have hsame:=calm_same ht hcb (Nat.le_of_lt hi) hpl e1 hp1
   simp only at hsame
   simp only[hp1]
   subst hsame
   unfold stepOp at hst
   simp only[hw] at hst
   rw[runOp_plain (by rw[hk];simp)] at hst
   split at hst
   ·rename_i v h1' hv
    simp[steadyAt,hv,eqV_refl]
   ·cases hst
  | false =>
   have hmem : ∃l,(e.1,l)∈plan2 ops∧p∈l:=by
    refine⟨e.2.filter (fun p => !calmBetween ops e.1 p),?_,by simp[hp,hcb]⟩
    simp only[plan2,List.mem_filterMap]
    refine⟨e,he,?_⟩
    split
    ·rename_i hnil
     have:p∈e.2.filter (fun p => !calmBetween ops e.1 p):=by simp[hp,hcb]
     rw[hnil] at this;cases this
    ·rfl
   obtain⟨l,hl,hpl⟩:=hmem
   have:=hs _ hl
   simp only[ho,e1,hw,List.all_eq_true] at this
   exact this p hpl
 ·rfl
theorem runOps_trace {E:Env} {call:CallV} {nt:Nat} {ops:List Oper} : ∀(l:List Oper) (fr:Fr) (h:IH) (r:Fr×IH),runOps E call nt ops l fr h=some r → ∃tr,trace E call nt ops l fr h=some tr∧tr[l.length]?=some r
 | [],fr,h,r,hr=>by simp only[runOps] at hr;cases hr;exact⟨_,rfl,rfl⟩
 | o :: l,fr,h,r,hr=>by
  rw[runOps] at hr
  split at hr
  ·rename_i fr1 h1 hs
   obtain⟨tr,e1,e2⟩:=runOps_trace l fr1 h1 r hr
   exact⟨(fr,h) :: tr,by simp[trace,hs,e1],by simpa using e2⟩
  ·cases hr
def calmRegion (ops:List Oper):Bool:=orderOK ops && (plan2 ops).isEmpty
theorem runDrawn_calm {E:Env} {call:CallV} {nt:Nat} {ops:List Oper} {fr:Fr} {h:IH} {r:Fr×IH} (hc:calmRegion ops=true) (hr:runOps E call nt ops ops fr h=some r):runDrawn E call nt ops fr h=some r:=by
 simp only[calmRegion,Bool.and_eq_true,List.isEmpty_iff] at hc
 obtain⟨tr,e1,e2⟩:=runOps_trace ops fr h r hr
 have hs:steady E.P ops tr (plan ops)=true:=steady_of2 e1 (by rw[hc.2];rfl)
 simp[runDrawn,e1,hc.1,hs,e2]
end Go.Id

namespace Go.Id
open Go
def E0 (P:Program):Env:=⟨P,fun _ _=>none,fun _=>none⟩
def Tm {α:Type} (o:Nat→Option α) (Q:α→Prop):Prop:=∃a,(∃N,∀n,N≤n→o n=some a)∧Q a
theorem Tm.mono {α:Type} {o:Nat→Option α} {Q R:α→Prop} (h:Tm o Q) (k : ∀a,Q a→R a):Tm o R :=
 let ⟨a,h1,h2⟩:=h;⟨a,h1,k a h2⟩
theorem Tm.of {α:Type} {o:Nat→Option α} {Q:α→Prop} {a:α} (h : ∀n,o n=some a) (q:Q a):Tm o Q:=⟨a,⟨0,fun n _=>h n⟩,q⟩
theorem Tm.of2 {α β:Type} {o:Nat→Option (α×β)} {K:α→β→Prop} {a:α} {b:β} (k:K a b) (h : ∀n,o n=some (a,b)):Tm o fun p=>K p.1 p.2:=⟨(a,b),⟨0,fun n _=>h n⟩,k⟩
theorem Tm.bind {α β:Type} {o:Nat→Option α} {p:Nat→Option β} {Q:β→Prop} (f:α→Nat→Option β) (h:Tm o fun a=>Tm (f a) Q) (hp : ∀n a,o n=some a→p n=f a n):Tm p Q:=by
 obtain⟨a,⟨N,h1⟩,b,⟨M,h2⟩,q⟩:=h
 refine⟨b,⟨max N M,fun n hn=>?_⟩,q⟩
 rw[hp n a (h1 n (Nat.le_trans (Nat.le_max_left _ _) hn)),h2 n (Nat.le_trans (Nat.le_max_right _ _) hn)]
theorem Tm.congr {α:Type} {o p:Nat→Option α} {Q:α→Prop} (h:Tm o Q) (e : ∀n,p n=o n):Tm p Q :=
 let ⟨a,⟨N,h1⟩,h2⟩:=h;⟨a,⟨N,fun n hn=>(e n).trans (h1 n hn)⟩,h2⟩
def Ex {α:Type} (o:Option α) (K:α→Prop):Prop:=∃v,o=some v∧K v
@[congr] theorem Ex_congr {α:Type} {o o':Option α} {K:α→Prop} (h:o=o'):Ex o K=Ex o' K:=by rw[h]
@[simp] theorem Ex_some {α:Type} (v:α) (K:α→Prop):Ex (some v) K=K v:=by simp[Ex]
@[simp] theorem Ex_none {α:Type} (K:α→Prop):Ex none K=False:=by simp[Ex]
@[simp] theorem Ex_map {α β:Type} (o:Option α) (f:α→β) (K:β→Prop):Ex (o.map f) K=Ex o fun v=>K (f v):=by cases o<;>simp[Ex]
theorem Ex.mono {α:Type} {o:Option α} {K L:α→Prop} (h:Ex o K) (k : ∀v,K v→L v):Ex o L:=let ⟨v,a,b⟩:=h;⟨v,a,k v b⟩
theorem Ex.intro {α:Type} {o:Option α} {K:α→Prop} {v:α} (h:o=some v) (k:K v):Ex o K:=⟨v,h,k⟩
def Br (b:Bool) (p q:Prop):Prop:=if b=true then p else q
@[congr] theorem Br_congr {b b':Bool} {p q:Prop} (h:b=b'):Br b p q=Br b' p q:=by rw[h]
@[simp] theorem Br_true (p q:Prop):Br true p q=p:=by simp[Br]
@[simp] theorem Br_false (p q:Prop):Br false p q=q:=by simp[Br]
theorem Br.intro {b:Bool} {p q:Prop} (h1:b=true→p) (h2:b=false→q):Br b p q:=by cases b<;>simp_all [Br]
def Lt (p:Prop):Prop:=p
@[congr] theorem Lt_congr {p:Prop}:Lt p=Lt p:=rfl
def WV (P:Program) (fv:Value) (vs:List Value) (h:IH) (K:Value→IH→Prop):Prop:=Tm (fun n=>callV (E0 P) n fv vs h) fun p=>K p.1 p.2
@[congr] theorem WV_congr {P:Program} {fv fv':Value} {vs vs':List Value} {h h':IH} {K:Value→IH→Prop} (a:fv=fv') (b:vs=vs') (c:h=h'):WV P fv vs h K=WV P fv' vs' h' K:=by rw[a,b,c]
theorem WV.mono {P:Program} {fv:Value} {vs:List Value} {h:IH} {K L:Value→IH→Prop} (w:WV P fv vs h K) (k : ∀v h',K v h'→L v h'):WV P fv vs h L:=Tm.mono w fun _ x=>k _ _ x
def wpOp (P:Program) (o:Op) (fr:Fr) (h:IH) (K:Value→IH→Prop):Prop :=
 match o with
 | .move x=>Ex (opd fr x) fun v=>K v h
 | .assign x=>Ex (opd fr x) fun v=>K v h
 | .pick c a b=>Ex (opd fr c) fun c=>Ex (opd fr a) fun a=>Ex (opd fr b) fun b=>c=.bool true∧K a h∨c=.bool false∧K b h
 | .alloc t=>Ex (zeroCellsT P t) fun z=>K (ptr (2*h.n) 0) (h.new (.cells z 0 none))
 | .box _ x=>Ex (opd fr x) fun v=>K (ptr (2*h.n) 0) (h.new (.cells v.cells.toList 0 none))
 | .load t a=>Ex (opd fr a) fun a=>Ex (load P h t a) fun v=>K v h
 | .store t a x=>Ex (opd fr a) fun a=>Ex (opd fr x) fun x=>Ex (store P h t a x) fun h=>K undef h
 | .binOp op t x y _=>Ex (opd fr x) fun a=>Ex (opd fr y) fun b=>Ex (binop P op t x y a b) fun v=>K v h
 | .fieldAddr t x f=>Ex (opd fr x) fun x=>Ex (fieldOf P t f) fun f=>Ex (asAddr x) fun a=>Ex (sizeT P f.type) fun n=>n≠0∧K (ptr a.1 (a.2+f.offset)) h
 | .indexAddr t x i=>Ex (opd fr x) fun x=>Ex (opd fr i) fun i=>Ex (indexAddr P t x i) fun v=>K v h
 | .extract x i=>Ex (opd fr x) fun x=>match x with
  | .tuple vs=>Ex vs[i]? fun v=>K v h
  | _=>False
 | .makeFunc fn first cap=>Ex (opds fr first.toList) fun a=>Ex (opds fr cap.toList) fun b=>match fn with
  | .func f=>K (.func (.func f) a.toArray b.toArray) h
  | _=>False
 | .call c=>match c.callee with
  | .value f=>Ex (opd fr f) fun fv=>Ex (opds fr c.args.toList) fun vs=>WV P fv vs h K
  | .builtin b=>Ex (opds fr c.args.toList) fun vs=>Ex (builtin P h b c.argTypes vs) fun r=>K r.1 r.2
  | _=>False
 | o=>Ex (iop P fr o h) fun r=>K r.1 r.2
theorem wpOp_sound {P:Program} {o:Op} {fr:Fr} {h:IH} {K:Value→IH→Prop} (w:wpOp P o fr h K):Tm (fun n=>runOp (E0 P) (callV (E0 P) n) fr o h) fun p=>K p.1 p.2:=by
 unfold wpOp at w
 split at w
 case h_13 c =>
  split at w
  ·obtain⟨fv,h1,vs,h2,k⟩:=w
   rename_i f hc
   refine Tm.congr k fun n=>?_
   simp[runOp,hc,h1,h2]
  ·obtain⟨vs,h1,r,h2,k⟩:=w
   rename_i b hc
   refine Tm.of (a:=r) (fun n=>?_) k
   simp[runOp,hc,iop,h1,h2,E0]
  ·exact w.elim
 case h_3 =>
  obtain⟨c,h1,a,h2,b,h3,⟨rfl,k⟩|⟨rfl,k⟩⟩:=w
  ·exact Tm.of (a:=(a,h)) (fun n=>by simp[runOp,iop,h1,h2]) k
  ·exact Tm.of (a:=(b,h)) (fun n=>by simp[runOp,iop,h1,h3]) k
 case h_11 =>
  obtain⟨x,h1,k⟩:=w
  split at k
  ·obtain⟨v,h2,k⟩:=k
   exact Tm.of (a:=(v,h)) (fun n=>by simp[runOp,iop,h1,h2]) k
  ·exact k.elim
 case h_12 =>
  obtain⟨x,h1,y,h2,k⟩:=w
  split at k
  ·exact Tm.of2 k fun n=>by simp[runOp,iop,h1,h2]
  ·exact k.elim
 case h_9 =>
  obtain⟨x,h1,f,h2,⟨b,o⟩,h3,n,h4,h5,k⟩:=w
  refine Tm.of2 k fun m=>?_
  have h6:(n == 0)=false:=by simpa using h5
  simp[runOp,iop,h1,h2,h3,h4,E0,h6]
 case h_14 =>
  obtain⟨r,h1,k⟩:=w
  refine Tm.of2 (a:=r.1) (b:=r.2) k fun n=>?_
  unfold runOp
  split
  ·simp_all
  ·exact h1
 all_goals
  simp only[Ex] at w
  first
   | (obtain⟨a,h1,b,h2,c,h3,k⟩:=w;exact Tm.of2 k fun n=>by simp[runOp,iop,h1,h2,h3,E0])
   | (obtain⟨a,h1,b,h2,k⟩:=w;exact Tm.of2 k fun n=>by simp[runOp,iop,h1,h2,E0])
   | (obtain⟨a,h1,k⟩:=w;exact Tm.of2 k fun n=>by simp[runOp,iop,h1,E0])
def wpPut (nt:Nat) (fr:Fr) (dst:Option Tmp) (v:Value) (K:Fr→Prop):Prop :=
 match dst with
 | none=>K fr
 | some d=>Br (Nat.blt d nt) (K ((d,v) :: fr)) False
theorem wpPut_sound {nt:Nat} {fr:Fr} {dst:Option Tmp} {v:Value} {K:Fr→Prop} (w:wpPut nt fr dst v K) : ∃fr',fput nt fr dst v=some fr'∧K fr':=by
 unfold wpPut at w
 split at w
 ·exact⟨_,rfl,w⟩
 ·rename_i d
  simp only[fput]
  cases hb:Nat.blt d nt<;>simp[hb] at w ⊢
  exact w
def wpOps (P:Program) (nt:Nat) (all:List Oper):List Oper→Fr→IH→(Fr→IH→Prop)→Prop
 | [],fr,h,K=>K fr h
 | o :: l,fr,h,K=>match o.guard with
  | none=>wpOp P o.op fr h fun v h=>wpPut nt fr o.dst v fun fr=>wpOps P nt all l fr h K
  | some (j,want)=>Ex ((all[j]?).bind (·.dst)) fun d=>Ex (fget fr d) fun b=>match b with
   | .bool b=>Br (b == want) (wpOp P o.op fr h fun v h=>wpPut nt fr o.dst v fun fr=>wpOps P nt all l fr h K) (wpPut nt fr o.dst undef fun fr=>wpOps P nt all l fr h K)
   | .tuple _=>wpPut nt fr o.dst undef fun fr=>wpOps P nt all l fr h K
   | _=>False
theorem wpOp_step {P:Program} {nt:Nat} {all:List Oper} {o:Oper} {fr:Fr} {h:IH} {K:Fr→IH→Prop} (hw:wantedI all o fr=some true)
  (w:wpOp P o.op fr h fun v h=>wpPut nt fr o.dst v fun fr=>K fr h):Tm (fun n=>stepOp (E0 P) (callV (E0 P) n) nt all o fr h) fun p=>K p.1 p.2:=by
 obtain⟨⟨v,h1⟩,⟨N,hN⟩,k⟩:=wpOp_sound w
 obtain⟨fr',hp,k⟩:=wpPut_sound k
 exact⟨(fr',h1),⟨N,fun n hn=>by simp[stepOp,hw,hN n hn,hp]⟩,k⟩
theorem wpOps_sound {P:Program} {nt:Nat} {all:List Oper} : ∀{l:List Oper} {fr:Fr} {h:IH} {K:Fr→IH→Prop},wpOps P nt all l fr h K →
  Tm (fun n=>runOps (E0 P) (callV (E0 P) n) nt all l fr h) fun p=>K p.1 p.2
 | [],fr,h,K,w=>Tm.of (a:=(fr,h)) (fun _=>rfl) w
 | o :: l,fr,h,K,w=>by
  have fin (s:Tm (fun n=>stepOp (E0 P) (callV (E0 P) n) nt all o fr h) fun p=>wpOps P nt all l p.1 p.2 K):Tm (fun n=>runOps (E0 P) (callV (E0 P) n) nt all (o :: l) fr h) fun p=>K p.1 p.2 :=
   Tm.bind (fun p n=>runOps (E0 P) (callV (E0 P) n) nt all l p.1 p.2) (s.mono fun _ x=>wpOps_sound x) fun n a ha=>by simp[runOps,ha]
  unfold wpOps at w
  split at w
  ·rename_i hg
   exact fin (wpOp_step (by simp[wantedI,hg]) w)
  ·rename_i j want hg
   obtain⟨d,h1,b,h2,w⟩:=w
   split at w
   ·rename_i b
    unfold Br at w
    split at w
    ·rename_i hb
     exact fin (wpOp_step (by simp[wantedI,hg,h1,h2,eq_of_beq hb]) w)
    ·rename_i hb
     obtain⟨fr',hp,k⟩:=wpPut_sound w
     refine fin (Tm.of (a:=(fr',h)) (fun n=>?_) k)
     have hb':(b == want)=false:=by simpa using hb
     simp[stepOp,wantedI,hg,h1,h2,hb',hp]
   ·obtain⟨fr',hp,k⟩:=wpPut_sound w
    refine fin (Tm.of (a:=(fr',h)) (fun n=>?_) k)
    simp[stepOp,wantedI,hg,h1,h2,hp]
   ·exact w.elim
def wpTrace (P:Program) (nt:Nat) (all:List Oper):List Oper→Fr→IH→List (Fr×IH)→(List (Fr×IH)→Prop)→Prop
 | [],fr,h,tr,K=>K (tr ++ [(fr,h)])
 | o :: l,fr,h,tr,K=>match o.guard with
  | none=>wpOp P o.op fr h fun v h1=>wpPut nt fr o.dst v fun fr1=>wpTrace P nt all l fr1 h1 (tr ++ [(fr,h)]) K
  | some (j,want)=>Ex ((all[j]?).bind (·.dst)) fun d=>Ex (fget fr d) fun b=>match b with
   | .bool b=>Br (b == want) (wpOp P o.op fr h fun v h1=>wpPut nt fr o.dst v fun fr1=>wpTrace P nt all l fr1 h1 (tr ++ [(fr,h)]) K)
     (wpPut nt fr o.dst undef fun fr1=>wpTrace P nt all l fr1 h (tr ++ [(fr,h)]) K)
   | .tuple _=>wpPut nt fr o.dst undef fun fr1=>wpTrace P nt all l fr1 h (tr ++ [(fr,h)]) K
   | _=>False
theorem wpTrace_sound {P:Program} {nt:Nat} {all:List Oper} : ∀{l:List Oper} {fr:Fr} {h:IH} {tr:List (Fr×IH)} {K:List (Fr×IH)→Prop},wpTrace P nt all l fr h tr K →
  Tm (fun n=>trace (E0 P) (callV (E0 P) n) nt all l fr h) fun t=>K (tr ++ t)
 | [],fr,h,tr,K,w=>Tm.of (a:=[(fr,h)]) (fun _=>rfl) w
 | o :: l,fr,h,tr,K,w=>by
  have fin (s:Tm (fun n=>stepOp (E0 P) (callV (E0 P) n) nt all o fr h) fun p=>wpTrace P nt all l p.1 p.2 (tr ++ [(fr,h)]) K):Tm (fun n=>trace (E0 P) (callV (E0 P) n) nt all (o :: l) fr h) fun t=>K (tr ++ t):=by
   refine Tm.bind (fun p n=>(trace (E0 P) (callV (E0 P) n) nt all l p.1 p.2).map ((fr,h) :: ·)) (s.mono fun p x=>?_) fun n a ha=>by simp[trace,ha]
   obtain⟨t,⟨N,hN⟩,k⟩:=wpTrace_sound x
   exact⟨(fr,h) :: t,⟨N,fun n hn=>by simp[hN n hn]⟩,by simpa using k⟩
  unfold wpTrace at w
  split at w
  ·rename_i hg
   exact fin (wpOp_step (K:=fun fr1 h1=>wpTrace P nt all l fr1 h1 (tr ++ [(fr,h)]) K) (by simp[wantedI,hg]) w)
  ·rename_i j want hg
   obtain⟨d,h1,b,h2,w⟩:=w
   split at w
   ·rename_i b
    unfold Br at w
    split at w
    ·rename_i hb
     exact fin (wpOp_step (K:=fun fr1 h1=>wpTrace P nt all l fr1 h1 (tr ++ [(fr,h)]) K) (by simp[wantedI,hg,h1,h2,eq_of_beq hb]) w)
    ·rename_i hb
     obtain⟨fr',hp,k⟩:=wpPut_sound w
     refine fin (Tm.of (a:=(fr',h)) (fun n=>?_) k)
     have hb':(b == want)=false:=by simpa using hb
     simp[stepOp,wantedI,hg,h1,h2,hb',hp]
   ·obtain⟨fr',hp,k⟩:=wpPut_sound w
    refine fin (Tm.of (a:=(fr',h)) (fun n=>?_) k)
    simp[stepOp,wantedI,hg,h1,h2,hp]
   ·exact w.elim
def wpSteady (P:Program) (ops:List Oper) (tr:List (Fr×IH)):List (Nat×List Nat)→Prop
 | []=>True
 | e :: l=>(match ops[e.1]?,tr[e.1]? with
  | some o,some (fr,h)=>match wantedI ops o fr with
   | some true => ∀p∈e.2,match tr[p]? with
    | some (_,h')=>steadyAt P fr o.op h h'=true
    | none=>False
   | _=>True
  | _,_=>False)∧wpSteady P ops tr l
theorem wpSteady_sound {P:Program} {ops:List Oper} {tr:List (Fr×IH)} : ∀{l:List (Nat×List Nat)},wpSteady P ops tr l→steady P ops tr l=true
 | [],_=>rfl
 | e :: l,w=>by
  unfold wpSteady at w
  obtain⟨w1,w2⟩:=w
  have:=wpSteady_sound w2
  simp only[steady,List.all_cons,Bool.and_eq_true] at this ⊢
  refine⟨?_,this⟩
  split at w1
  ·rename_i o fr h ho ht
   simp only[ho,ht]
   split at w1
   ·rename_i hw
    simp only[hw,List.all_eq_true]
    intro p hp
    have:=w1 p hp
    split at this
    ·rename_i h' hh;simp[hh,this]
    ·exact this.elim
   ·rename_i hne
    split
    ·rename_i heq;exact absurd heq hne
    ·rfl
  ·exact w1.elim
def wpLast (tr:List (Fr×IH)) (n:Nat) (K:Fr→IH→Prop):Prop:=Ex tr[n]? fun p=>K p.1 p.2
def WLoop (P:Program) (fn:FuncId) (nt:Nat) (rd:Option Nat) (b:Code) (fr:Fr) (h:IH) (Q:IExit→Fr→IH→Prop):Prop :=
 Tm (fun n=>evC (E0 P) (callV (E0 P) n) fn nt rd n (.loop b) fr h) fun p=>Q p.1 p.2.1 p.2.2
@[congr] theorem WLoop_congr {P:Program} {fn:FuncId} {nt:Nat} {rd:Option Nat} {b:Code} {fr fr':Fr} {h h':IH} {Q:IExit→Fr→IH→Prop} (e1:fr=fr') (e2:h=h'):WLoop P fn nt rd b fr h Q=WLoop P fn nt rd b fr' h' Q:=by rw[e1,e2]
def WRange (P:Program) (fn:FuncId) (nt:Nat) (rd:Option Nat) (f:Operand) (ps:Array Tmp) (a b:Code) (fr:Fr) (h:IH) (Q:IExit→Fr→IH→Prop):Prop :=
 Tm (fun n=>rangeFn (E0 P) (callV (E0 P) n) fn nt rd f ps.toList a b fr h) fun p=>Q p.1 p.2.1 p.2.2
@[congr] theorem WRange_congr {P:Program} {fn:FuncId} {nt:Nat} {rd:Option Nat} {f:Operand} {ps:Array Tmp} {a b:Code} {fr fr':Fr} {h h':IH} {Q:IExit→Fr→IH→Prop} (e1:fr=fr') (e2:h=h') :
  WRange P fn nt rd f ps a b fr h Q=WRange P fn nt rd f ps a b fr' h' Q:=by rw[e1,e2]
def wpDrawn (P:Program) (nt:Nat) (ops:List Oper) (fr:Fr) (h:IH) (K:Fr→IH→Prop):Prop :=
 orderOK ops=true∧wpTrace P nt ops ops fr h [] fun tr=>wpSteady P ops tr (plan2 ops)∧wpLast tr ops.length K
def wpC (P:Program) (fn:FuncId) (nt:Nat) (rd:Option Nat):Code→Fr→IH→(IExit→Fr→IH→Prop)→Prop
 | .skip,fr,h,Q=>Q .normal fr h
 | .label _,fr,h,Q=>Q .normal fr h
 | .region _ ops draw,fr,h,Q=>match draw with
  | false=>wpOps P nt ops.toList ops.toList fr h (Q .normal)
  | true=>(calmRegion ops.toList=true→wpOps P nt ops.toList ops.toList fr h (Q .normal))∧(calmRegion ops.toList=false→wpDrawn P nt ops.toList fr h (Q .normal))
 | .seq a b,fr,h,Q=>wpC P fn nt rd a fr h fun e fr h=>match e with
  | .normal=>wpC P fn nt rd b fr h Q
  | .exit i=>Q (.exit i) fr h
  | .ret=>Q .ret fr h
 | .cond c a b,fr,h,Q=>Ex (opd fr c) fun c=>match c with
  | .bool c=>Br c (wpC P fn nt rd a fr h Q) (wpC P fn nt rd b fr h Q)
  | _=>False
 | .block id b,fr,h,Q=>wpC P fn nt rd b fr h fun e fr h=>match e with
  | .exit i=>Br (i == id) (Q .normal fr h) (Q (.exit i) fr h)
  | .normal=>Q .normal fr h
  | .ret=>Q .ret fr h
 | .loop b,fr,h,Q=>WLoop P fn nt rd b fr h Q
 | .scope b,fr,h,Q=>wpC P fn nt rd b fr h Q
 | .rangeFunc f ps a b,fr,h,Q=>WRange P fn nt rd f ps a b fr h Q
 | .exit i,fr,h,Q=>Q (.exit i) fr h
 | .ret,fr,h,Q=>Q .ret fr h
 | .goto _,_,_,_=>False
 | .refuse _,_,_,_=>False
abbrev TmC (P:Program) (fn:FuncId) (nt:Nat) (rd:Option Nat) (c:Code) (fr:Fr) (h:IH) (Q:IExit→Fr→IH→Prop):Prop :=
 Tm (fun n=>evC (E0 P) (callV (E0 P) n) fn nt rd n c fr h) fun p=>Q p.1 p.2.1 p.2.2
theorem headFr0 (P:Program) (fn:FuncId) (id:Nat) (fr:Fr):headFr (E0 P) fn id fr=fr:=rfl
theorem wpC_sound {P:Program} {fn:FuncId} {nt:Nat} {rd:Option Nat} : ∀{c:Code} {fr:Fr} {h:IH} {Q:IExit→Fr→IH→Prop},wpC P fn nt rd c fr h Q→TmC P fn nt rd c fr h Q
 | .skip,fr,h,Q,w=>Tm.of (a:=(.normal,fr,h)) (fun _=>rfl) w
 | .label _,fr,h,Q,w=>Tm.of (a:=(.normal,fr,h)) (fun _=>rfl) w
 | .region id ops draw,fr,h,Q,w=>by
  cases draw with
  | false =>
   obtain⟨p,⟨N,h1⟩,k⟩:=wpOps_sound w
   exact⟨(.normal,p.1,p.2),⟨N,fun n hn=>by have:=h1 n hn;simp[evC,headFr0,this]⟩,k⟩
  | true =>
   cases hc:calmRegion ops.toList with
   | true =>
    obtain⟨p,⟨N,h1⟩,k⟩:=wpOps_sound (w.1 hc)
    exact⟨(.normal,p.1,p.2),⟨N,fun n hn=>by have:=runDrawn_calm hc (h1 n hn);simp[evC,headFr0,this]⟩,k⟩
   | false =>
    obtain⟨ho,w⟩:=w.2 hc
    obtain⟨tr,⟨N,h1⟩,hs,p,hp,k⟩:=wpTrace_sound w
    refine⟨(.normal,p.1,p.2),⟨N,fun n hn=>?_⟩,k⟩
    have h2:=h1 n hn
    simp only[List.nil_append,Array.length_toList] at hs hp
    simp only at h2
    have hs2:=steady_of2 h2 (wpSteady_sound hs)
    simp[evC,headFr0,runDrawn,h2,ho,show(E0 P).P=P from rfl,show steady P ops.toList tr (plan ops.toList)=true from hs2,hp]
 | .seq a b,fr,h,Q,w=>by
  have w1:=wpC_sound (c:=a) w
  obtain⟨⟨e,fr1,h1⟩,⟨N,hN⟩,k⟩:=w1
  cases e with
  | normal =>
   obtain⟨r,⟨M,hM⟩,k⟩:=wpC_sound (c:=b) k
   refine⟨r,⟨max N M,fun n hn=>?_⟩,k⟩
   have e1:=hN n (Nat.le_trans (Nat.le_max_left _ _) hn)
   have e2:=hM n (Nat.le_trans (Nat.le_max_right _ _) hn)
   simp[evC,e1,e2]
  | exit i=>exact⟨(.exit i,fr1,h1),⟨N,fun n hn=>by have:=hN n hn;simp[evC,this]⟩,k⟩
  | ret=>exact⟨(.ret,fr1,h1),⟨N,fun n hn=>by have:=hN n hn;simp[evC,this]⟩,k⟩
 | .cond c a b,fr,h,Q,w=>by
  obtain⟨v,hv,w⟩:=w
  split at w
  ·rename_i c
   cases c with
   | true =>
    obtain⟨r,⟨M,hM⟩,k⟩:=wpC_sound (c:=a) (by simpa using w)
    exact⟨r,⟨M,fun n hn=>by have:=hM n hn;simp[evC,hv,this]⟩,k⟩
   | false =>
    obtain⟨r,⟨M,hM⟩,k⟩:=wpC_sound (c:=b) (by simpa using w)
    exact⟨r,⟨M,fun n hn=>by have:=hM n hn;simp[evC,hv,this]⟩,k⟩
  ·exact w.elim
 | .block id b,fr,h,Q,w=>by
  obtain⟨⟨e,fr1,h1⟩,⟨N,hN⟩,k⟩:=wpC_sound (c:=b) w
  cases e with
  | normal=>exact⟨(.normal,fr1,h1),⟨N,fun n hn=>by have:=hN n hn;simp[evC,this]⟩,k⟩
  | ret=>exact⟨(.ret,fr1,h1),⟨N,fun n hn=>by have:=hN n hn;simp[evC,this]⟩,k⟩
  | exit i =>
   cases hi:(i == id) with
   | true=>exact⟨(.normal,fr1,h1),⟨N,fun n hn=>by have:=hN n hn;simp[evC,this,hi]⟩,by simpa [hi] using k⟩
   | false=>exact⟨(.exit i,fr1,h1),⟨N,fun n hn=>by have:=hN n hn;simp[evC,this,hi]⟩,by simpa [hi] using k⟩
 | .loop b,fr,h,Q,w=>w
 | .scope b,fr,h,Q,w=>by
  obtain⟨r,⟨M,hM⟩,k⟩:=wpC_sound (c:=b) w
  exact⟨r,⟨M,fun n hn=>by have:=hM n hn;simp[evC,this]⟩,k⟩
 | .rangeFunc f ps a b,fr,h,Q,w=>Tm.congr w fun n=>by simp[evC]
 | .exit i,fr,h,Q,w=>Tm.of (a:=(.exit i,fr,h)) (fun _=>rfl) w
 | .ret,fr,h,Q,w=>Tm.of (a:=(.ret,fr,h)) (fun _=>rfl) w
 | .goto _,_,_,_,w=>w.elim
 | .refuse _,_,_,_,w=>w.elim
end Go.Id
