/-
  The ideal machine: code, on the model's machine.
-/
import Derived.Test.YtnanhedgenokpaaGreatTemperDetailedAl
set_option linter.unusedVariables false
set_option linter.unusedSimpArgs false
set_option linter.defProp false
set_option linter.deprecated false
namespace Go.Id
open Go Go.RowKit
def LandsAt:IExit→List Item→List Item→Prop
 | .normal,k,k'=>k'=k
 | .exit i,k,k' => ∃k1,k'=.code (.exit i) :: k1∧exitTo i k1=exitTo i k
 | .ret,_,k' => ∃k1,k'=.code .ret :: k1
def FrameOK (b:Frame) (rd:Option Nat) (m:Mp):Prop:=(b.roundOf=none∧rd=none) ∨ ∃l r s,rd=some l∧b.roundOf=some r∧m (2*l)=some (r,s)
theorem FrameOK.mono {b:Frame} {rd:Option Nat} {m m':Mp} (h:FrameOK b rd m) (hm:m.le m'):FrameOK b rd m':=by
 rcases h with h|⟨l,r,s,h1,h2,h3⟩
 ·exact .inl h
 ·exact .inr ⟨l,r,s,h1,h2,(hm _ _ h3).1⟩
def Ran (E:Env) (b:Frame) (B:Nat) (w0:World) (z:Nat) (nt:Nat) (cs:List Frame) (m:Mp) (h:IH) (w:World) (k0:List Item) (M:Machine) (e:IExit) (fr':Fr) (h':IH):Prop :=
 ∃m' w' tmps' ds' k',Steps E.P M (lone (on b tmps' k' ds') cs w')∧LandsAt e k0 k'∧FrRel m' fr' tmps'∧nt≤tmps'.size∧Rel B w0 m' h' w'∧Step m h w m' h' w'∧DefOK z m' h' w' ds'
def SimCode (E:Env) (run:Fr→IH→Out) (b:Frame) (rd:Option Nat) (B:Nat) (w0:World) (z nt:Nat) (cs:List Frame) (c:Code):Prop :=
 ∀(fr:Fr) (h:IH) (e:IExit) (fr':Fr) (h':IH),run fr h=some (e,fr',h') → ∀(m:Mp) (w:World) (tmps:Array Value) (k:List Item) (ds:List Deferred),
  Rel B w0 m h w→FrRel m fr tmps→nt≤tmps.size→Fresh m h.n h'.n→FrameOK b rd m→DefOK z m h w ds→z≤w.heap.size →
  Ran E b B w0 z nt cs m h w k (lone (on b tmps (.code c :: k) ds) cs w) e fr' h'
theorem Ran.first {E:Env} {b:Frame} {B:Nat} {w0:World} {z:Nat} {nt:Nat} {cs:List Frame} {m:Mp} {h:IH} {w:World} {k0:List Item} {M M1:Machine} {e:IExit} {fr':Fr} {h':IH}
  (hs:Steps E.P M M1) (r:Ran E b B w0 z nt cs m h w k0 M1 e fr' h'):Ran E b B w0 z nt cs m h w k0 M e fr' h':=by
 obtain⟨m',w',tmps',ds',k',h1,h2⟩:=r
 exact⟨m',w',tmps',ds',k',hs.trans h1,h2⟩
theorem Ran.step {E:Env} {b:Frame} {B:Nat} {w0:World} {z:Nat} {nt:Nat} {cs:List Frame} {m m1:Mp} {h h1:IH} {w w1:World} {k0:List Item} {M:Machine} {e:IExit} {fr':Fr} {h':IH}
  (s:Step m h w m1 h1 w1) (r:Ran E b B w0 z nt cs m1 h1 w1 k0 M e fr' h'):Ran E b B w0 z nt cs m h w k0 M e fr' h':=by
 obtain⟨m',w',tmps',ds',k',a1,a2,a3,a4,a5,a6,a7⟩:=r
 exact⟨m',w',tmps',ds',k',a1,a2,a3,a4,a5,s.trans a6,a7⟩
section
variable {E:Env} {call:CallV} {b:Frame} {rd:Option Nat} {B:Nat} {w0:World} {z nt:Nat} {cs:List Frame}
theorem LandsAt.out {e:IExit} {k k1 k':List Item} (h:LandsAt e k1 k') (hn:e≠.normal) (hx : ∀i,e=.exit i→exitTo i k1=exitTo i k):LandsAt e k k':=by
 cases e with
 | normal=>exact absurd rfl hn
 | exit i=>obtain⟨k2,a,c⟩:=h;exact⟨k2,a,c.trans (hx i rfl)⟩
 | ret=>exact h
theorem Ran.out {m:Mp} {h:IH} {w:World} {k k1:List Item} {M:Machine} {e:IExit} {fr':Fr} {h':IH} (r:Ran E b B w0 z nt cs m h w k1 M e fr' h') (hn:e≠.normal) (hx : ∀i,e=.exit i→exitTo i k1=exitTo i k) :
  Ran E b B w0 z nt cs m h w k M e fr' h':=by
 obtain⟨m',w',tmps',ds',k',a1,a2,a3⟩:=r
 exact⟨m',w',tmps',ds',k',a1,a2.out hn hx,a3⟩
theorem sim_loop {run:Fr→IH→Out} {c:Code} (hmono : ∀fr h e fr' h',run fr h=some (e,fr',h')→h.n≤h'.n) (ih:SimCode E run b rd B w0 z nt cs c) : ∀(n:Nat) (fr:Fr) (h:IH) (e:IExit) (fr':Fr) (h':IH),loopN run n fr h=some (e,fr',h') →
  ∀(m:Mp) (w:World) (tmps:Array Value) (k:List Item) (ds:List Deferred),Rel B w0 m h w→FrRel m fr tmps→nt≤tmps.size→Fresh m h.n h'.n→FrameOK b rd m→DefOK z m h w ds→z≤w.heap.size →
   Ran E b B w0 z nt cs m h w k (lone (on b tmps (.code c :: .inLoop c :: k) ds) cs w) e fr' h'
 | 0,fr,h,e,fr',h',hr,m,w,tmps,k,ds,_,_,_,_,_,_,_=>by simp[loopN] at hr
 | n+1,fr,h,e,fr',h',hr,m,w,tmps,k,ds,R,hf,ht,hfr,hfo,hd,hz=>by
  rw[loopN] at hr
  split at hr
  ·rename_i fr1 h1 hx
   have n1:=hmono _ _ _ _ _ hx
   have n2:=loopN_n hmono n _ _ _ _ _ hr
   obtain⟨m1,w1,tmps1,ds1,k1,a1,a2,a3,a4,a5,a6,a7⟩:=ih fr h .normal fr1 h1 hx m w tmps (.inLoop c :: k) ds R hf ht (hfr.sub (Nat.le_refl _) n2) hfo hd hz
   obtain rfl:k1=_:=a2
   refine .first (a1.trans (.one st_inLoop)) (.step a6 ?_)
   exact sim_loop hmono ih n fr1 h1 e fr' h' hr m1 w1 tmps1 k ds1 a5 a3 a4 (a6.fresh hfr) (hfo.mono a6.le) a7 (Nat.le_trans hz a6.size)
  ·rename_i i fr1 h1 hx
   cases hr
   exact(ih fr h _ _ _ hx m w tmps (.inLoop c :: k) ds R hf ht hfr hfo hd hz).out (by simp) (fun i _=>rfl)
  ·rename_i fr1 h1 hx
   cases hr
   exact(ih fr h _ _ _ hx m w tmps (.inLoop c :: k) ds R hf ht hfr hfo hd hz).out (by simp) (fun i _=>rfl)
  ·cases hr
theorem FrRel.head {m:Mp} {fr:Fr} {tmps:Array Value} (hf:FrRel m fr tmps) (fn:FuncId) (id:Nat):FrRel m (headFr E fn id fr) tmps:=by
 unfold headFr
 split
 ·intro t v hv
  rw[fget_keepOnly] at hv
  split at hv
  ·exact hf t v hv
  ·cases hv
 ·exact hf
theorem loopOf_get {h:IH} {l:Nat} {r:ILoop} (hl:loopOf h l=some r):h.ext.get l=some (.loop r):=by
 unfold loopOf at hl
 split at hl
 ·rename_i r' hg;cases hl;exact hg
 ·cases hl
theorem LoopRel.jump {m:Mp} {l:ILoop} {l':Loop} (h:LoopRel m l l') {e:IExit} (he:exitOf l.pending=some e):(e=.normal∧l'.pending=none)∨(∃i,e=.exit i∧l'.pending=some (.exit i))∨(e=.ret∧l'.pending=some .ret):=by
 rw[h.pending]
 unfold exitOf at he
 split at he<;>first|(cases he;done)|skip
 ·rename_i hp;cases he;exact .inl ⟨rfl,hp⟩
 ·rename_i i hp;cases he;exact .inr (.inl ⟨i,rfl,hp⟩)
 ·rename_i hp;cases he;exact .inr (.inr ⟨rfl,hp⟩)
theorem sim_rangeFn (hcall:CallSim E.P call) (hmono:CallMono call) {f:Operand} {ps:Array Tmp} {a c:Code}:SimCode E (fun fr h=>rangeFn E call b.fn nt rd f ps.toList a c fr h) b rd B w0 z nt cs (.rangeFunc f ps a c):=by
 intro fr h e fr' h' hr m w tmps k ds R hf ht hfr hfo hd hz
 obtain⟨hro,rfl,fv,v,h1,r,hfv,hc,hl,hb,he,rfl⟩:=rangeFn_inv hr
 have hn1:(h.new (.loop { state:=.ready,pending:=none,fn:=b.fn,nt,fr:=fr',params:=ps.toList,assign:=a,body:=c })).n≤h1.n:=hmono _ _ _ _ _ hc
 have hnew:(h.new (.loop { state:=.ready,pending:=none,fn:=b.fn,nt,fr:=fr',params:=ps.toList,assign:=a,body:=c })).n=h.n+1:=rfl
 have hfr':Fresh m h.n h1.n:=hfr
 have laid : ∃wm mark dfs,(Instr.enterLoop b.fn tmps ps a c b.roundOf).run E.P w=.ok (wm.heap.size,mark) (wm.alloc (.loop { state:=.ready,pending:=none,fn:=b.fn,tmps,params:=ps,assign:=a,body:=c,defers:=dfs })) ∧
   Rel B w0 m h wm∧Step m h w m h wm∧DefOK z m h wm (mark ++ ds):=by
  rcases hfo with⟨h2,rfl⟩|⟨l,lr,s,rfl,h3,h4⟩
  ·have g:=R.ghost (.deferred (some []))
   refine⟨w.alloc (.deferred (some [])),[markOf w.heap.size],w.heap.size,?_,g.1,g.2,hd.push R hz⟩
   rw[h2,run_enterLoop_outer,size_alloc];rfl
  ·simp only[roundOK,Option.isSome_iff_exists] at hro
   obtain⟨rl,hrl⟩:=hro
   have hobj:=R.obj _ _ _ _ (loopOf_get hrl) h4
   obtain⟨rfl,l',hl',hrel⟩:=hobj
   refine⟨w,[],l'.defers,?_,R,Step.refl _ _ _,hd⟩
   rw[h3]
   simp only[Instr.enterLoop,Sem.run_bind,run_getLoop hl',Result.andThen_ok,Sem.run_pure,run_newObj_alloc]
 obtain⟨wm,mark,dfs,hent,Rm,Sm,Dm⟩:=laid
 have hm0:m (2*h.n)=none:=hfr' h.n (Nat.le_refl _) (by omega)
 obtain⟨R1,S1⟩:=Rm.new (.loop { state:=.ready,pending:=none,fn:=b.fn,nt,fr:=fr',params:=ps.toList,assign:=a,body:=c })
  (.loop { state:=.ready,pending:=none,fn:=b.fn,tmps,params:=ps,assign:=a,body:=c,defers:=dfs }) (0,0) hm0
  ⟨rfl,_,by rw[heap_alloc,if_pos rfl],⟨rfl,rfl,rfl,hf,ht,rfl,rfl,rfl⟩⟩ rfl
 have S01:=Sm.trans S1
 have Dm1:=Dm.step S1
 have hρ:=opd_evalT Rm hf
 have hyield:VRel (m.upd (2*h.n) (wm.heap.size,0) (0,0)) (.func (.yield (2*h.n)) #[] #[]) (.func (.yield wm.heap.size) #[] #[]) :=
  VRel.func_mk ⟨0,Mp.upd_self _ _ _ _⟩ (.nil _) (.nil _)
 obtain⟨nx,hinv,halt⟩:=hcall fv _ _ h1 v hc B w0 _ _ (evalT tmps f) #[.func (.yield wm.heap.size) #[] #[]] R1 ((hρ f fv hfv).mono S1.le) (.cons hyield (.nil _)) (S01.fresh hfr')
 obtain⟨fr0,hfr0,hrun⟩:=halt.resolve_left (by rintro⟨_,_,_,_,hint⟩;obtain⟨k,n,e⟩:=hint _ (List.mem_singleton.2 rfl);cases e)
 obtain⟨v',m2,w2,hv,R2,S2,hsteps⟩:=hrun (on b tmps (.inRangeFunc wm.heap.size :: k) (mark ++ ds)) cs
 have hev:(on b tmps (.inRangeFunc wm.heap.size :: k) (mark ++ ds)).eval=evalT tmps:=eval_on _ _ _ _
 have st1:step E.P (lone (on b tmps (.code (.rangeFunc f ps a c) :: k) ds) cs w)=.next (lone fr0 (on b tmps (.inRangeFunc wm.heap.size :: k) (mark ++ ds) :: cs) (wm.alloc (.loop { state:=.ready,pending:=none,fn:=b.fn,tmps,params:=ps,assign:=a,body:=c,defers:=dfs }))):=by
  have hres:(do let d ←resolve (on b tmps (.inRangeFunc wm.heap.size :: k) (mark ++ ds)).eval { callee:=.value f,args:=#[.const (.func (.yield wm.heap.size) #[] #[])],argTypes:=#[] } 0;invoke d.target d.args:Sem Next).run E.P
    (wm.alloc (.loop { state:=.ready,pending:=none,fn:=b.fn,tmps,params:=ps,assign:=a,body:=c,defers:=dfs }))=.ok nx (wm.alloc (.loop { state:=.ready,pending:=none,fn:=b.fn,tmps,params:=ps,assign:=a,body:=c,defers:=dfs })):=by
   rw[hev,show resolve (evalT tmps) { callee:=.value f,args:=#[.const (.func (.yield wm.heap.size) #[] #[])],argTypes:=#[] } 0=Deferred.ofValue (evalT tmps f) #[.func (.yield wm.heap.size) #[] #[]] from by simp[resolve,evalT]]
   exact hinv
  simp only[on] at hres
  refine step_lone_go ?_
  rcases hfr0 with⟨f',as,rfl,rfl⟩|⟨l,f',ts,a',c',rfl,rfl⟩
  ·simp[stepG,stepG.exec,on,Sem.runT_eq,hent,GStep.bare_after,stepG.apply,hres]
  ·simp[stepG,stepG.exec,on,Sem.runT_eq,hent,GStep.bare_after,stepG.apply,hres]
 have hfin:(on b tmps (.inRangeFunc wm.heap.size :: k) (mark ++ ds)).finish v'=on b tmps (.endRangeFunc wm.heap.size :: k) (mark ++ ds):=rfl
 rw[hfin] at hsteps
 have hm2:m2 (2*h.n)=some (wm.heap.size,0):=(S2.le _ _ (Mp.upd_self _ _ _ _)).1
 obtain⟨_,l',hl',hrel⟩:=R2.obj _ _ _ _ (loopOf_get hl) hm2
 have hend:(Instr.endLoop wm.heap.size).run E.P w2=.ok l'.pending (w2.putObj wm.heap.size (.loop { l' with state:=.exhausted })):=run_endLoop hl' (by rw[hrel.state];exact hb)
 obtain⟨R3,S3⟩:=R2.setObj (o1:=.dead) (o':=.loop { l' with state:=.exhausted }) (loopOf_get hl) rfl rfl hm2 rfl (fun _ _ _=>trivial)
 have st2:step E.P (lone (on b tmps (.endRangeFunc wm.heap.size :: k) (mark ++ ds)) cs w2)=.next (lone (on b tmps ((l'.pending.map Item.code).toList ++ k) (mark ++ ds)) cs (w2.putObj wm.heap.size (.loop { l' with state:=.exhausted }))) :=
  stepR_endRangeFunc (b:=b) (a:={ tmps:=tmps,defers:=mark ++ ds }) hend
 refine⟨m2,_,tmps,mark ++ ds,_,(Steps.one st1).trans (hsteps.trans (.one st2)),?_,hf.mono (S01.trans S2).le,ht,R3,(S01.trans S2).trans S3,(Dm1.step S2).step S3⟩
 rcases hrel.jump he with⟨rfl,hp⟩|⟨i,rfl,hp⟩|⟨rfl,hp⟩
 ·rw[hp];rfl
 ·rw[hp];exact⟨k,rfl,rfl⟩
 ·rw[hp];exact⟨k,rfl⟩
theorem sim_head {id:Nat} {ops:Array Oper} {it nx more kb k:Nat} {es:List (Value×Value)} {seen:List Nat} {ty1 ty2:TypeId} {ps1 ps2:String} {af1 af2:Array Edge} {fr:Fr} {h:IH} {m:Mp} {w:World} {tmps:Array Value} {kk:List Item} {ds:List Deferred}
  (hops:ops.toList = [⟨some nx,.next (.tmp it) false,ty1,ps1,af1,none⟩,⟨some more,.extract (.tmp nx) 0,ty2,ps2,af2,none⟩])
  (hok:iterOK fr h it kb k es seen) (R:Rel B w0 m h w) (hf:FrRel m fr tmps) (ht:nt≤tmps.size) :
  ((∀i,i<es.length→i∈seen) ∧ ∀fr2,putNext nt nx more (.tuple #[.bool false]) false fr=some fr2 →
   ∃w' tmps',Steps E.P (lone (on b tmps (.code (.region id ops false) :: kk) ds) cs w) (lone (on b tmps' kk ds) cs w')∧FrRel m fr2 tmps'∧nt≤tmps'.size∧Rel B w0 m h w'∧Step m h w m h w') ∨
  ∃i x,i∉seen∧es[i]?=some x ∧ ∀fr2,putNext nt nx more (.tuple #[.bool true,x.1,x.2]) true fr=some fr2 →
   ∃w' tmps',Steps E.P (lone (on b tmps (.code (.region id ops false) :: kk) ds) cs w) (lone (on b tmps' kk ds) cs w')∧FrRel m fr2 tmps'∧nt≤tmps'.size ∧
    Rel B w0 m { h with ext:=h.ext.set kb (.iter k es.length (seen ++ [i]) es.length) } w'∧Step m h w m { h with ext:=h.ext.set kb (.iter k es.length (seen ++ [i]) es.length) } w':=by
 obtain⟨g1,g2,g3⟩:=hok
 obtain⟨v1,t1,hv1⟩:=hf it _ g1
 obtain⟨r,s,hm,rfl⟩:=hv1.ptr_inv
 obtain⟨rfl,rm,hobj,hmk⟩:=R.obj kb _ r s g2 hm
 obtain⟨_,_,c,hmap,hcm⟩:=R.mapAt g3 hmk
 have hρ:evalT tmps (.tmp it)=.pointer (some ⟨r,0,none⟩):=by simp[evalT,Array.getD_eq_getD_getElem?,t1]
 have o0:ops[0]?=some ⟨some nx,.next (.tmp it) false,ty1,ps1,af1,none⟩:=by rw[←Array.getElem?_toList,hops];rfl
 have o1:ops[1]?=some ⟨some more,.extract (.tmp nx) 0,ty2,ps2,af2,none⟩:=by rw[←Array.getElem?_toList,hops];rfl
 have hsz:ops.size=2:=by rw[←Array.length_toList,hops];rfl
 have two : ∀(v v':Value) (bb:Bool) (w':World) (fr2:Fr),VRel m v v'→(∃cs',v=.tuple cs'∧cs'[0]?=some (.bool bb))→(Instr.next (.pointer (some ⟨r,0,none⟩)) false ty1).run E.P w=.ok v' w'→putNext nt nx more v bb fr=some fr2 →
   ∃tmps',Steps E.P (lone (on b tmps (.code (.region id ops false) :: kk) ds) cs w) (lone (on b tmps' kk ds) cs w')∧FrRel m fr2 tmps'∧nt≤tmps'.size:=by
  intro v v' bb w' fr2 hv hshape hrun hput
  unfold putNext at hput
  split at hput
  case h_2=>cases hput
  rename_i fra hpa
  obtain⟨hfa,hta⟩:=fput_rel hpa hf ht hv
  obtain⟨hfb,htb⟩:=fput_rel hput hfa hta (VRel.scal (m:=m) (v:=.bool bb) rfl)
  obtain⟨cs',rfl,hc0⟩:=hshape
  obtain⟨cs2,rfl,hL⟩:=hv.tuple_inv
  have hget:fget fra nx=some (.tuple cs'):=by
   unfold fput at hpa
   simp only[cond_eq_ite] at hpa
   split at hpa
   ·cases hpa;simp[fget]
   ·cases hpa
  obtain⟨v2,q1,q2⟩:=hfa nx _ hget
  obtain⟨u,q3,q4⟩:=hL.get (i:=0) (by simpa using hc0)
  have hu:=q4.scal_eq rfl
  subst hu
  have hpt:(putT tmps (some nx) (.tuple cs2))[nx]?=some (.tuple cs2):=by
   have hlt:nx<tmps.size:=by
    unfold fput at hpa
    simp only[cond_eq_ite] at hpa
    split at hpa
    ·rename_i hb;have:nx+1≤nt:=by simpa [Nat.blt] using hb
     omega
    ·cases hpa
   simp[putT,hlt]
  have hρ2:evalT (putT tmps (some nx) (.tuple cs2)) (.tmp nx)=.tuple cs2:=by simp[evalT,Array.getD_eq_getD_getElem?,hpt]
  have q3':cs2[0]?=some (.bool bb):=by simpa using q3
  have e1:=st_value (P:=E.P) (b:=b) (ds:=ds) (k:=kk) (cs:=cs) (tmps:=tmps) (ops:=ops) (i:=0) (rest:=[1]) (v:=.tuple cs2) (w:=w) (w':=w') o0 (by simp[Region.wanted]) (by simp) (by simp only[execOp,hρ,Sem.run_bind,hrun,Result.andThen_ok,Sem.run_pure])
  have e2:=st_value (P:=E.P) (b:=b) (ds:=ds) (k:=kk) (cs:=cs) (tmps:=putT tmps (some nx) (.tuple cs2)) (ops:=ops) (i:=1) (rest:=[]) (v:=.bool bb) (w:=w') (w':=w') o1 (by simp[Region.wanted]) (by simp) (by simp only[execOp,hρ2,Instr.extract,q3',Sem.run_bind,Result.andThen_ok,Sem.run_pure])
  refine⟨_,.head st_region (.head ?_ (.head e2 (.one st_region_end))),hfb,htb⟩
  rw[hsz]
  exact e1
 rcases run_next E.P hcm hobj hmap ty1 with⟨hall,d,hrun⟩|⟨i,e',d,hi,hci,hrun⟩
 ·refine .inl ⟨hall,fun fr2 hput=>?_⟩
  obtain⟨tmps',a1,a2,a3⟩:=two _ _ false _ fr2 (VRel.tuple_iff (.cons (.scal rfl) (.nil m))) ⟨_,rfl,rfl⟩ hrun hput
  exact⟨_,tmps',a1,a2,a3,R.congr rfl (below_drew R.below d),(Step.refl m h { w with drawn:=d }).congr rfl⟩
 ·have hic:i<c.size:=by
   rcases Nat.lt_or_ge i c.size with h|h
   ·exact h
   ·rw[Array.getElem?_eq_none h] at hci;cases hci
  have hie:i<es.length:=by have:=hcm.1;omega
  have hE:=(hcm.2 i es[i] e' (List.getElem?_eq_getElem hie) hci).1
  refine .inr ⟨i,es[i],hi,List.getElem?_eq_getElem hie,fun fr2 hput=>?_⟩
  obtain⟨tmps',a1,a2,a3⟩:=two _ _ true _ fr2 (VRel.tuple_iff (.cons (.scal rfl) (.cons (by rw[hE.1];exact VRel.plain_mk hE.2.1) (.cons hE.2.2 (.nil m))))) ⟨_,rfl,rfl⟩ hrun hput
  obtain⟨R1,S1⟩:=(R.congr (w':={ w with drawn:=d }) rfl (below_drew R.below d)).setObj (o1:=.iter k es.length (seen ++ [i]) es.length) (o':=.mapIter (some rm) es.length (seen.toArray.push i) es.length) g2 rfl rfl hm rfl (fun w' z e=>⟨rfl,rm,by rw[e];simp,hmk⟩)
  exact⟨_,tmps',a1,a2,a3,R1,S1.congr rfl⟩
theorem Rel.kill {m:Mp} {h:IH} {w:World} (R:Rel B w0 m h w) {kb k0 a0 c0 r s:Nat} {b0:List Nat} (hk:h.ext.get kb=some (.iter k0 a0 b0 c0)) (hm:m (2*kb)=some (r,s)) :
  Rel B w0 m { h with ext:=h.ext.set kb .dead } w∧Step m h w m { h with ext:=h.ext.set kb .dead } w:=by
 obtain⟨_,rm,hobj,_⟩:=R.obj kb _ r s hk hm
 have:=R.setObj (o1:=.dead) (o':=.mapIter (some rm) a0 b0.toArray c0) hk rfl rfl hm rfl (fun _ _ _=>trivial)
 rw[put_same hobj] at this
 exact this
theorem Ran.kill {m:Mp} {h:IH} {w:World} {k0:List Item} {M:Machine} {e:IExit} {frl fr':Fr} {hl:IH} {kb:Nat} {rs:Nat×Nat} (hm:m (2*kb)=some rs) (r:Ran E b B w0 z nt cs m h w k0 M e frl hl) (hk : ∃k1 a1 b1 c1,hl.ext.get kb=some (.iter k1 a1 b1 c1))
  (hfr : ∀t v,fget fr' t=some v→fget frl t=some v):Ran E b B w0 z nt cs m h w k0 M e fr' { hl with ext:=hl.ext.set kb .dead }:=by
 obtain⟨m',w',tmps',ds',k',a1,a2,a3,a4,a5,a6,a7⟩:=r
 obtain⟨k1,x1,b1,c1,hk⟩:=hk
 obtain⟨R1,S1⟩:=a5.kill hk (a6.le _ _ hm).1
 exact⟨m',w',tmps',ds',k',a1,a2,fun t v hv=>a3 t v (hfr t v hv),a4,R1,a6.trans S1,a7.step S1⟩
theorem sim_rounds {n id:Nat} {ops:Array Oper} {rest:Code} {it nx more kb k:Nat} {es:List (Value×Value)} {ty1 ty2:TypeId} {ps1 ps2:String} {af1 af2:Array Edge} {e:IExit} {fr':Fr} {h':IH}
  (hops:ops.toList = [⟨some nx,.next (.tmp it) false,ty1,ps1,af1,none⟩,⟨some more,.extract (.tmp nx) 0,ty2,ps2,af2,none⟩])
  (hmono : ∀fr h e fr' h',evC E call b.fn nt rd n rest fr h=some (e,fr',h')→h.n≤h'.n) (ih:SimCode E (evC E call b.fn nt rd n rest) b rd B w0 z nt cs rest) :
  ∀(q:Nat) (rem seen:List Nat) (fr:Fr) (h:IH),rem.length=q→(∀i,i∈rem↔i<es.length∧i∉seen)→rem.Nodup →
   (∀l:List Nat,l.Perm rem → ∃frl hl,mapRounds (evC E call b.fn nt rd n rest) (headFr E b.fn id) nt it nx more kb k es l seen fr h=some (e,frl,hl)∧(∃k0 a0 b0 c0,hl.ext.get kb=some (.iter k0 a0 b0 c0))∧h' = { hl with ext:=hl.ext.set kb .dead } ∧ ∀t v,fget fr' t=some v→fget frl t=some v) →
   ∀(m:Mp) (w:World) (tmps:Array Value) (kk:List Item) (ds:List Deferred) (rs:Nat×Nat),m (2*kb)=some rs→Rel B w0 m h w→FrRel m fr tmps→nt≤tmps.size→Fresh m h.n h'.n→FrameOK b rd m→DefOK z m h w ds→z≤w.heap.size →
    Ran E b B w0 z nt cs m h w kk (lone (on b tmps (.code (.seq (.region id ops false) rest) :: .inLoop (.seq (.region id ops false) rest) :: kk) ds) cs w) e fr' h'
 | q,rem,seen,fr,h,hq,hrem,hnd,hall,m,w,tmps,kk,ds,rs,hkb,R,hf,ht,hfr,hfo,hd,hz=>by
  have hok:iterOK (headFr E b.fn id fr) h it kb k es seen:=by
   obtain⟨frl,hl,h1,_⟩:=hall rem (List.Perm.refl _)
   unfold mapRounds at h1
   split at h1
   all_goals
    split at h1
    ·assumption
    ·cases h1
  have hn' : ∀{l:List Nat} {frl:Fr} {hl:IH},mapRounds (evC E call b.fn nt rd n rest) (headFr E b.fn id) nt it nx more kb k es l seen fr h=some (e,frl,hl)→h.n≤hl.n:=fun hx=>mapRounds_n hmono _ _ _ _ _ _ _ hx
  rcases sim_head (E:=E) (b:=b) (cs:=cs) (nt:=nt) (id:=id) (kk:=.code rest :: .inLoop (.seq (.region id ops false) rest) :: kk) (ds:=ds) hops hok R (hf.head b.fn id) ht with⟨hov,hst⟩|⟨i,x,hi,hx,hst⟩
  ·have hr0:rem = []:=by
    apply List.eq_nil_iff_forall_not_mem.2
    intro j hj
    obtain⟨h1,h2⟩:=(hrem j).1 hj
    exact h2 (hov j h1)
   subst hr0
   obtain⟨frl,hl,h1,hit,hh',hsub⟩:=hall [] (List.Perm.refl _)
   subst hh'
   unfold mapRounds at h1
   rw[if_pos hok] at h1
   split at h1
   ·cases h1
   ·rename_i fr2 hput
    obtain⟨w1,tmps1,s1,f1,t1,R1,S1⟩:=hst fr2 hput
    split at h1
    ·cases h1
    ·rename_i hnn
     refine .first (.head st_seq s1) (.step S1 ?_)
     have hR:=ih fr2 h e frl hl h1 m w1 tmps1 (.inLoop (.seq (.region id ops false) rest) :: kk) ds R1 f1 t1 hfr hfo (hd.step S1) (Nat.le_trans hz S1.size)
     have hne:e≠.normal:=fun he=>by subst he;exact hnn _ _ h1
     exact(Ran.out (k:=kk) hR hne (fun i _=>rfl)).kill hkb hit hsub
  ·have hie:i<es.length:=by
    rcases Nat.lt_or_ge i es.length with h|h
    ·exact h
    ·rw[List.getElem?_eq_none h] at hx;cases hx
   have him:i∈rem:=(hrem i).2 ⟨hie,hi⟩
   obtain⟨frl,hl,h1,hit,hh',hsub⟩:=hall (i :: rem.erase i) (List.perm_cons_erase him).symm
   have hall1 : ∀l:List Nat,l.Perm (rem.erase i) → ∃frl hl,mapRounds (evC E call b.fn nt rd n rest) (headFr E b.fn id) nt it nx more kb k es (i :: l) seen fr h=some (e,frl,hl)∧(∃k0 a0 b0 c0,hl.ext.get kb=some (.iter k0 a0 b0 c0))∧h' = { hl with ext:=hl.ext.set kb .dead } ∧ ∀t v,fget fr' t=some v→fget frl t=some v :=
    fun l hl=>hall (i :: l) ((hl.cons i).trans (List.perm_cons_erase him).symm)
   have hhn:hl.n≤h'.n:=by rw[hh'];exact Nat.le_refl _
   simp only[mapRounds,if_pos hok,hx] at h1 hall1
   cases hput:putNext nt nx more (.tuple #[.bool true,x.1,x.2]) true (headFr E b.fn id fr) with
   | none=>simp[hput] at h1
   | some fr2 =>
    simp only[hput] at h1 hall1
    obtain⟨w1,tmps1,s1,f1,t1,R1,S1⟩:=hst fr2 hput
    refine .first (.head st_seq s1) (.step S1 ?_)
    cases hbody:evC E call b.fn nt rd n rest fr2 { h with ext:=h.ext.set kb (.iter k es.length (seen ++ [i]) es.length) } with
    | none=>simp[hbody] at h1
    | some o =>
     obtain⟨e1,fr3,h3⟩:=o
     have hn3:=hmono _ _ _ _ _ hbody
     cases e1 with
     | normal =>
      simp only[hbody] at h1 hall1
      have hn4:=mapRounds_n hmono _ _ _ _ _ _ _ h1
      obtain⟨m2,w2,tmps2,ds2,k2,b1,b2,b3,b4,b5,b6,b7⟩:=ih fr2 _ _ _ _ hbody m w1 tmps1 (.inLoop (.seq (.region id ops false) rest) :: kk) ds R1 f1 t1 (hfr.sub (Nat.le_refl _) (Nat.le_trans hn4 hhn)) hfo (hd.step S1) (Nat.le_trans hz S1.size)
      obtain rfl:k2=_:=b2
      refine .first (b1.trans (.one st_inLoop)) (.step b6 ?_)
      have hlen:(rem.erase i).length<q:=by
       rw[List.length_erase_of_mem him,hq]
       have:0<rem.length:=List.length_pos_of_mem him
       omega
      refine sim_rounds hops hmono ih (rem.erase i).length (rem.erase i) (seen ++ [i]) fr3 h3 rfl (fun j=>?_) (hnd.erase i) hall1 m2 w2 tmps2 kk ds2 rs (b6.le _ _ hkb).1 b5 b3 b4 (b6.fresh hfr) (hfo.mono b6.le) b7 (Nat.le_trans (Nat.le_trans hz S1.size) b6.size)
      rw[hnd.mem_erase_iff,hrem j]
      simp only[List.mem_append,List.mem_singleton]
      constructor
      ·rintro⟨h1,h2,h3⟩;exact⟨h2,fun hh=>hh.elim h3 h1⟩
      ·rintro⟨h2,h3⟩;exact⟨fun hh=>h3 (.inr hh),h2,fun hh=>h3 (.inl hh)⟩
     | exit j =>
      simp only[hbody] at h1
      cases h1
      subst hh'
      have hR:=ih fr2 _ _ _ _ hbody m w1 tmps1 (.inLoop (.seq (.region id ops false) rest) :: kk) ds R1 f1 t1 hfr hfo (hd.step S1) (Nat.le_trans hz S1.size)
      exact(Ran.out (k:=kk) hR (by simp) (fun i _=>rfl)).kill hkb hit hsub
     | ret =>
      simp only[hbody] at h1
      cases h1
      subst hh'
      have hR:=ih fr2 _ _ _ _ hbody m w1 tmps1 (.inLoop (.seq (.region id ops false) rest) :: kk) ds R1 f1 t1 hfr hfo (hd.step S1) (Nat.le_trans hz S1.size)
      exact(Ran.out (k:=kk) hR (by simp) (fun i _=>rfl)).kill hkb hit hsub
 termination_by q=>q
 decreasing_by omega
theorem nextOf_some {ops:List Oper} {draw:Bool} {it nx more:Nat} (h:nextOf ops draw=some (it,nx,more)):draw=false ∧ ∃ty1 ps1 af1 ty2 ps2 af2,ops = [⟨some nx,.next (.tmp it) false,ty1,ps1,af1,none⟩,⟨some more,.extract (.tmp nx) 0,ty2,ps2,af2,none⟩]:=by
 unfold nextOf at h
 split at h
 case h_2=>cases h
 simp only[cond_eq_ite,beq_iff_eq] at h
 split at h
 ·rename_i hx
  cases h
  subst hx
  exact⟨rfl,_,_,_,_,_,_,rfl⟩
 ·cases h
theorem sim_mapLoop {n:Nat} {c:Code} {p:Nat×Nat×Nat×Nat×Code} (hp:headOf c=some p) (hmono : ∀fr h e fr' h',evC E call b.fn nt rd n p.2.2.2.2 fr h=some (e,fr',h')→h.n≤h'.n) (ih:SimCode E (evC E call b.fn nt rd n p.2.2.2.2) b rd B w0 z nt cs p.2.2.2.2)
  {fr:Fr} {h:IH} {e:IExit} {fr':Fr} {h':IH} (hx:mapLoop (evC E call b.fn nt rd n p.2.2.2.2) (headFr E b.fn p.1) nt p.2.1 p.2.2.1 p.2.2.2.1 fr h=some (e,fr',h')) (m:Mp) (w:World) (tmps:Array Value) (k:List Item) (ds:List Deferred)
  (R:Rel B w0 m h w) (hf:FrRel m fr tmps) (ht:nt≤tmps.size) (hfr:Fresh m h.n h'.n) (hfo:FrameOK b rd m) (hd:DefOK z m h w ds) (hz:z≤w.heap.size) :
  Ran E b B w0 z nt cs m h w k (lone (on b tmps (.code c :: .inLoop c :: k) ds) cs w) e fr' h':=by
 unfold headOf at hp
 split at hp
 case h_2=>cases hp
 rename_i id ops draw rest
 obtain⟨⟨it,nx,more⟩,hno,rfl⟩:=Option.map_eq_some_iff.1 hp
 obtain⟨rfl,ty1,ps1,af1,ty2,ps2,af2,hops⟩:=nextOf_some hno
 simp only at hx hmono ih
 obtain⟨kb,k0,since,seen0,last,es,g1,g2,g3,hall⟩:=mapLoop_some hx
 obtain⟨v1,t1,hv1⟩:=(hf.head b.fn id) it _ g1
 obtain⟨r,s,hm,rfl⟩:=hv1.ptr_inv
 exact sim_rounds hops hmono ih _ (List.range es.length) [] fr h rfl (fun i=>by simp) List.nodup_range hall m w tmps k ds (r,s) hm R hf ht hfr hfo hd hz
theorem sim_code (hcall:CallSim E.P call) (hmono:CallMono call) (hmix:E.P.follows .mixedOrders=true) (n:Nat) : ∀(c:Code),SimCode E (evC E call b.fn nt rd n c) b rd B w0 z nt cs c:=by
 intro c
 induction c using sizeInd with
 | h c IH =>
 cases c with
 | skip =>
  intro fr h e fr' h' hr m w tmps k ds R hf ht hfr hfo hd hz
  simp only[evC] at hr;cases hr
  exact⟨m,w,tmps,ds,k,.one st_skip,rfl,hf,ht,R,Step.refl _ _ _,hd⟩
 | label l =>
  intro fr h e fr' h' hr m w tmps k ds R hf ht hfr hfo hd hz
  simp only[evC] at hr;cases hr
  exact⟨m,w,tmps,ds,k,.one st_label,rfl,hf,ht,R,Step.refl _ _ _,hd⟩
 | region id ops draw =>
  intro fr h e fr' h' hr m w tmps k ds R hf ht hfr hfo hd hz
  simp only[evC] at hr
  split at hr
  ·rename_i fr1 h1 hx
   cases hr
   cases draw with
   | true =>
    rw[cond_true] at hx
    obtain⟨_,m',w',tmps',a1,a2,a3,a4,a5⟩:=sim_drawn hcall hmono hmix hx R (hf.head b.fn id) ht hfr b k ds cs id
    exact⟨m',w',tmps',ds,k,a1,rfl,a2,a3,a4,a5,hd.step a5⟩
   | false =>
    rw[cond_false] at hx
    obtain⟨m',w',tmps',a1,a2,a3,a4,a5⟩:=sim_ops hcall hmono b k ds cs ops.toList 0 _ _ _ _ m w tmps rfl hx R (hf.head b.fn id) ht hfr
    rw[←List.range_eq_range',Array.length_toList] at a1
    exact⟨m',w',tmps',ds,k,.head st_region a1,rfl,a2,a3,a4,a5,hd.step a5⟩
  ·cases hr
 | seq x y =>
  have ihx:=IH x (by simp<;>omega)
  have ihy:=IH y (by simp<;>omega)
  intro fr h e fr' h' hr m w tmps k ds R hf ht hfr hfo hd hz
  simp only[evC] at hr
  split at hr
  ·rename_i fr1 h1 hx
   have n1:=evC_n hmono _ _ _ _ _ _ hx
   have n2:=evC_n hmono _ _ _ _ _ _ hr
   obtain⟨m1,w1,tmps1,ds1,k1,a1,a2,a3,a4,a5,a6,a7⟩:=ihx fr h .normal fr1 h1 hx m w tmps (.code y :: k) ds R hf ht (hfr.sub (Nat.le_refl _) n2) hfo hd hz
   obtain rfl:k1=_:=a2
   refine .first (.head st_seq a1) (.step a6 ?_)
   exact ihy fr1 h1 e fr' h' hr m1 w1 tmps1 k ds1 a5 a3 a4 (a6.fresh hfr) (hfo.mono a6.le) a7 (Nat.le_trans hz a6.size)
  ·rename_i hx
   cases hr
   exact .first (.one st_seq) ((ihx fr h _ _ _ hx m w tmps (.code y :: k) ds R hf ht hfr hfo hd hz).out (by simp) (fun i _=>rfl))
  ·rename_i hx
   cases hr
   exact .first (.one st_seq) ((ihx fr h _ _ _ hx m w tmps (.code y :: k) ds R hf ht hfr hfo hd hz).out (by simp) (fun i _=>rfl))
  ·cases hr
 | cond x a c =>
  have iha:=IH a (by simp<;>omega)
  have ihc:=IH c (by simp<;>omega)
  intro fr h e fr' h' hr m w tmps k ds R hf ht hfr hfo hd hz
  simp only[evC] at hr
  have hρ:=opd_evalT R hf
  split at hr
  ·rename_i hx
   have hv:=(hρ x _ hx).scal_eq rfl
   exact .first (.one (st_cond hv)) (iha fr h _ _ _ hr m w tmps k ds R hf ht hfr hfo hd hz)
  ·rename_i hx
   have hv:=(hρ x _ hx).scal_eq rfl
   exact .first (.one (st_cond hv)) (ihc fr h _ _ _ hr m w tmps k ds R hf ht hfr hfo hd hz)
  ·cases hr
 | block id c =>
  have ih:=IH c (by simp<;>omega)
  intro fr h e fr' h' hr m w tmps k ds R hf ht hfr hfo hd hz
  simp only[evC,cond_eq_ite] at hr
  split at hr
  ·rename_i i fr1 h1 hx
   split at hr
   ·rename_i hi
    have hi':i=id:=by simpa using hi
    subst hi'
    cases hr
    obtain⟨m1,w1,tmps1,ds1,k1,a1,a2,a3⟩:=ih fr h _ _ _ hx m w tmps (.inBlock i :: k) ds R hf ht hfr hfo hd hz
    obtain⟨k2,rfl,hk2⟩:=a2
    exact⟨m1,w1,tmps1,ds1,k,.head st_block (a1.trans (.one (st_exit (by rw[hk2];simp[exitTo])))),rfl,a3⟩
   ·rename_i hi
    cases hr
    refine .first (.one st_block) ((ih fr h _ _ _ hx m w tmps (.inBlock id :: k) ds R hf ht hfr hfo hd hz).out (by simp) (fun j hj=>?_))
    cases hj
    have:(id == i)=false:=by
     simp only[beq_eq_false_iff_ne,ne_eq];rintro rfl;simp at hi
    simp[exitTo,this]
  ·rename_i fr1 h1 hx
   cases hr
   obtain⟨m1,w1,tmps1,ds1,k1,a1,a2,a3⟩:=ih fr h _ _ _ hx m w tmps (.inBlock id :: k) ds R hf ht hfr hfo hd hz
   obtain rfl:k1=_:=a2
   exact⟨m1,w1,tmps1,ds1,k,.head st_block (a1.trans (.one st_inBlock)),rfl,a3⟩
  ·rename_i fr1 h1 hx
   cases hr
   exact .first (.one st_block) ((ih fr h _ _ _ hx m w tmps (.inBlock id :: k) ds R hf ht hfr hfo hd hz).out (by simp) (fun j hj=>by cases hj))
  ·cases hr
 | loop c =>
  have ih:=IH c (by simp<;>omega)
  intro fr h e fr' h' hr m w tmps k ds R hf ht hfr hfo hd hz
  rw[evC_loop] at hr
  split at hr
  ·rename_i p hp
   exact .first (.one st_loop) (sim_mapLoop hp (fun fr h e fr' h' hx=>evC_n hmono _ fr h e fr' h' hx) (IH _ (Nat.lt_trans (headOf_size hp) (by simp<;>omega))) hr m w tmps k ds R hf ht hfr hfo hd hz)
  exact .first (.one st_loop) (sim_loop (fun fr h e fr' h' hx=>evC_n hmono c fr h e fr' h' hx) ih n fr h e fr' h' hr m w tmps k ds R hf ht hfr hfo hd hz)
 | scope c =>
  have ih:=IH c (by simp<;>omega)
  intro fr h e fr' h' hr m w tmps k ds R hf ht hfr hfo hd hz
  simp only[evC] at hr
  obtain⟨m1,w1,tmps1,ds1,k1,a1,a2,a3⟩:=ih fr h _ _ _ hr m w tmps (.inScope c :: k) ds R hf ht hfr hfo hd hz
  cases e with
  | normal =>
   obtain rfl:k1=_:=a2
   exact⟨m1,w1,tmps1,ds1,k,.head st_scope (a1.trans (.one st_inScope)),rfl,a3⟩
  | exit i=>exact⟨m1,w1,tmps1,ds1,k1,.head st_scope a1,a2.out (by simp) (fun j _=>rfl),a3⟩
  | ret=>exact⟨m1,w1,tmps1,ds1,k1,.head st_scope a1,a2,a3⟩
 | rangeFunc f ps a c =>
  intro fr h e fr' h' hr
  simp only[evC] at hr
  exact sim_rangeFn hcall hmono fr h e fr' h' hr
 | exit i =>
  intro fr h e fr' h' hr m w tmps k ds R hf ht hfr hfo hd hz
  simp only[evC] at hr;cases hr
  exact⟨m,w,tmps,ds,_,.refl _ _,⟨k,rfl,rfl⟩,hf,ht,R,Step.refl _ _ _,hd⟩
 | ret =>
  intro fr h e fr' h' hr m w tmps k ds R hf ht hfr hfo hd hz
  simp only[evC] at hr;cases hr
  exact⟨m,w,tmps,ds,_,.refl _ _,⟨k,rfl⟩,hf,ht,R,Step.refl _ _ _,hd⟩
 | goto i=>intro fr h e fr' h' hr;simp only[evC] at hr;cases hr
 | refuse i=>intro fr h e fr' h' hr;simp only[evC] at hr;cases hr
end
end Go.Id
