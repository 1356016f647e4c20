/-
  The ideal machine: code, on the model's machine.
-/
import Derived.Test.YtnnmjocmapilaaaGreatOutlierValidAi
import Derived.Laws.Externs
import Derived.KernelRfl
set_option linter.unusedVariables false
set_option linter.unusedSimpArgs false
set_option linter.defProp false
set_option linter.deprecated false
namespace Go.Id
open Go Go.RowKit
def yG:bf→List Item→List Item→Prop
 | .normal,k,k'=>k'=k
 | .exit i,k,k' => ∃k1,k'=.code (.exit i) :: k1∧exitTo i k1=exitTo i k
 | .ret,_,k' => ∃k1,k'=.code .ret :: k1
def pG (b:Frame) (rd:Option Nat) (m:Mp):Prop:=(b.roundOf=none∧rd=none) ∨ ∃l r s,rd=some l∧b.roundOf=some r∧m (2*l)=some (r,s)
theorem pG.mono {b:Frame} {rd:Option Nat} {m m':Mp} (h:pG b rd m) (hm:m.le m'):pG b rd m':=by
 rcases h with h|⟨l,r,s,h1,h2,h3⟩
 ·exact .inl h
 ·exact .inr ⟨l,r,s,h1,h2,(hm _ _ h3).1⟩
def Ran (E:Env) (b:Frame) (B:Nat) (w0:World) (z:Nat) (nt:Nat) (cs:List Frame) (m:Mp) (h:IH) (w:World) (k0:List Item) (M:Machine) (e:bf) (fr':Fr) (h':IH):Prop :=
 ∃m' w' bF ds' k',Steps E.P M (lone (on b bF k' ds') cs w')∧yG e k0 k'∧dG m' fr' bF∧nt≤bF.size∧Rel B w0 m' h' w'∧Step m h w m' h' w'∧kJ z m' h' w' ds'
def rV (E:Env) (run:Fr→IH→Out) (b:Frame) (rd:Option Nat) (B:Nat) (w0:World) (z nt:Nat) (cs:List Frame) (c:Code):Prop :=
 ∀(fr:Fr) (h:IH) (e:bf) (fr':Fr) (h':IH),run fr h=some (e,fr',h') → ∀(m:Mp) (w:World) (tmps:Array Value) (k:List Item) (ds:List Deferred),
  Rel B w0 m h w→dG m fr tmps→nt≤tmps.size→eo m h.n h'.n→pG b rd m→kJ z m h w ds→z≤w.heap.size →
  Ran E b B w0 z nt cs m h w k (lone (on b tmps (.code c :: k) ds) cs w) e fr' h'
theorem Ran.first {E:Env} {b:Frame} {B:Nat} {w0:World} {z:Nat} {nt:Nat} {cs:List Frame} {m:Mp} {h:IH} {w:World} {k0:List Item} {M M1:Machine} {e:bf} {fr':Fr} {h':IH}
  (hs:Steps E.P M M1) (r:Ran E b B w0 z nt cs m h w k0 M1 e fr' h'):Ran E b B w0 z nt cs m h w k0 M e fr' h':=by
 obtain⟨m',w',bF,ds',k',h1,h2⟩:=r
 exact⟨m',w',bF,ds',k',hs.trans h1,h2⟩
theorem Ran.step {E:Env} {b:Frame} {B:Nat} {w0:World} {z:Nat} {nt:Nat} {cs:List Frame} {m m1:Mp} {h h1:IH} {w w1:World} {k0:List Item} {M:Machine} {e:bf} {fr':Fr} {h':IH}
  (s:Step m h w m1 h1 w1) (r:Ran E b B w0 z nt cs m1 h1 w1 k0 M e fr' h'):Ran E b B w0 z nt cs m h w k0 M e fr' h':=by
 obtain⟨m',w',bF,ds',k',a1,a2,a3,a4,a5,a6,a7⟩:=r
 exact⟨m',w',bF,ds',k',a1,a2,a3,a4,a5,s.trans a6,a7⟩
section
variable {E:Env} {call:a8} {b:Frame} {rd:Option Nat} {B:Nat} {w0:World} {z nt:Nat} {cs:List Frame}
theorem yG.out {e:bf} {k k1 k':List Item} (h:yG e k1 k') (hn:e≠.normal) (hx : ∀i,e=.exit i→exitTo i k1=exitTo i k):yG e k k':=by
 cases e with
 | normal=>exact absurd rfl hn
 | exit i=>obtain⟨k2,a,c⟩:=h;exact⟨k2,a,c.trans (hx i rfl)⟩
 | ret=>exact h
theorem Ran.out {m:Mp} {h:IH} {w:World} {k k1:List Item} {M:Machine} {e:bf} {fr':Fr} {h':IH} (r:Ran E b B w0 z nt cs m h w k1 M e fr' h') (hn:e≠.normal) (hx : ∀i,e=.exit i→exitTo i k1=exitTo i k) :
  Ran E b B w0 z nt cs m h w k M e fr' h':=by
 obtain⟨m',w',bF,ds',k',a1,a2,a3⟩:=r
 exact⟨m',w',bF,ds',k',a1,a2.out hn hx,a3⟩
theorem Fx {run:Fr→IH→Out} {c:Code} (cG : ∀fr h e fr' h',run fr h=some (e,fr',h')→h.n≤h'.n) (ih:rV E run b rd B w0 z nt cs c) : ∀(n:Nat) (fr:Fr) (h:IH) (e:bf) (fr':Fr) (h':IH),mf run n fr h=some (e,fr',h') →
  ∀(m:Mp) (w:World) (tmps:Array Value) (k:List Item) (ds:List Deferred),Rel B w0 m h w→dG m fr tmps→nt≤tmps.size→eo m h.n h'.n→pG b rd m→kJ z m h w ds→z≤w.heap.size →
   Ran E b B w0 z nt cs m h w k (lone (on b tmps (.code c :: .inLoop c :: k) ds) cs w) e fr' h'
 | 0,fr,h,e,fr',h',hr,m,w,tmps,k,ds,_,_,_,_,_,_,_=>by simp[mf] at hr
 | n+1,fr,h,e,fr',h',hr,m,w,tmps,k,ds,R,hf,ht,hfr,hfo,hd,hz=>by
  rw[mf] at hr
  split at hr
  ·rename_i fr1 h1 hx
   have n1:=cG _ _ _ _ _ hx
   have n2:=DJ cG n _ _ _ _ _ hr
   obtain⟨m1,w1,cE,ds1,k1,a1,a2,a3,a4,a5,a6,a7⟩:=ih fr h .normal fr1 h1 hx m w tmps (.inLoop c :: k) ds R hf ht (hfr.sub (Nat.le_refl _) n2) hfo hd hz
   obtain rfl:k1=_:=a2
   refine .first (a1.trans (.one Bx)) (.step a6 ?_)
   exact Fx cG ih n fr1 h1 e fr' h' hr m1 w1 cE k ds1 a5 a3 a4 (a6.fresh hfr) (hfo.mono a6.le) a7 (Nat.le_trans hz a6.size)
  ·rename_i i fr1 h1 hx
   cases hr
   exact(ih fr h _ _ _ hx m w tmps (.inLoop c :: k) ds R hf ht hfr hfo hd hz).out (by simp) (fun i _=>rfl)
  ·rename_i fr1 h1 hx
   cases hr
   exact(ih fr h _ _ _ hx m w tmps (.inLoop c :: k) ds R hf ht hfr hfo hd hz).out (by simp) (fun i _=>rfl)
  ·cases hr
theorem dG.head {m:Mp} {fr:Fr} {tmps:Array Value} (hf:dG m fr tmps) (fn:FuncId) (id:Nat):dG m (gM E fn id fr) tmps:=by
 unfold gM
 split
 ·intro t v hv
  rw[gh] at hv
  split at hv
  ·exact hf t v hv
  ·cases hv
 ·exact hf
theorem gK {h:IH} {l:Nat} {r:gT} (hl:fj h l=some r):h.ext.get l=some (.loop r):=by
 unfold fj at hl
 split at hl
 ·rename_i r' hg;cases hl;exact hg
 ·cases hl
theorem lD.z5 {m:Mp} {l:gT} {l':Loop} (h:lD m l l') {e:bf} (he:tQ l.pending=some e):(e=.normal∧l'.pending=none)∨(∃i,e=.exit i∧l'.pending=some (.exit i))∨(e=.ret∧l'.pending=some .ret):=by
 rw[h.pending]
 unfold tQ at he
 split at he<;>first|(cases he;done)|skip
 ·rename_i hp;cases he;exact .inl ⟨rfl,hp⟩
 ·rename_i i hp;cases he;exact .inr (.inl ⟨i,rfl,hp⟩)
 ·rename_i hp;cases he;exact .inr (.inr ⟨rfl,hp⟩)
theorem Fu (fG:kj E.P call) (cG:dj call) {f:Operand} {ps:Array Tmp} {a c:Code}:rV E (fun fr h=>jX E call b.fn nt rd f ps.toList a c fr h) b rd B w0 z nt cs (.rangeFunc f ps a c):=by
 intro fr h e fr' h' hr m w tmps k ds R hf ht hfr hfo hd hz
 obtain⟨hro,rfl,fv,v,h1,r,hfv,hc,hl,hb,he,rfl⟩:=xp hr
 have hn1:(h.new (.loop { state:=.ready,pending:=none,fn:=b.fn,nt,fr:=fr',params:=ps.toList,assign:=a,body:=c })).n≤h1.n:=cG _ _ _ _ _ hc
 have xZ:(h.new (.loop { state:=.ready,pending:=none,fn:=b.fn,nt,fr:=fr',params:=ps.toList,assign:=a,body:=c })).n=h.n+1:=rfl
 have ZE:eo m h.n h1.n:=hfr
 have laid : ∃wm mark dfs,(Instr.enterLoop b.fn tmps ps a c b.roundOf).run E.P w=.ok (wm.heap.size,mark) (wm.alloc (.loop { state:=.ready,pending:=none,fn:=b.fn,tmps,params:=ps,assign:=a,body:=c,defers:=dfs })) ∧
   Rel B w0 m h wm∧Step m h w m h wm∧kJ z m h wm (mark ++ ds):=by
  rcases hfo with⟨h2,rfl⟩|⟨l,lr,s,rfl,h3,h4⟩
  ·have g:=R.ghost (.deferred (some []))
   refine⟨w.alloc (.deferred (some [])),[ny w.heap.size],w.heap.size,?_,g.1,g.2,hd.push R hz⟩
   rw[h2,run_enterLoop_outer,size_alloc];rfl
  ·simp only[oR,Option.isSome_iff_exists] at hro
   obtain⟨rl,hrl⟩:=hro
   have nY:=R.obj _ _ _ _ (gK hrl) h4
   obtain⟨rfl,l',hl',jJ⟩:=nY
   refine⟨w,[],l'.defers,?_,R,Step.refl _ _ _,hd⟩
   rw[h3]
   simp only[Instr.enterLoop,Sem.run_bind,run_getLoop hl',Result.andThen_ok,Sem.run_pure,run_newObj_alloc]
 obtain⟨wm,mark,dfs,ZK,Rm,Sm,Dm⟩:=laid
 have hm0:m (2*h.n)=none:=ZE h.n (Nat.le_refl _) (by omega)
 obtain⟨R1,S1⟩:=Rm.new (.loop { state:=.ready,pending:=none,fn:=b.fn,nt,fr:=fr',params:=ps.toList,assign:=a,body:=c })
  (.loop { state:=.ready,pending:=none,fn:=b.fn,tmps,params:=ps,assign:=a,body:=c,defers:=dfs }) (0,0) hm0
  ⟨rfl,_,by rw[heap_alloc,if_pos rfl],⟨rfl,rfl,rfl,hf,ht,rfl,rfl,rfl⟩⟩ rfl
 have S01:=Sm.trans S1
 have Dm1:=Dm.step S1
 have hρ:=rJ Rm hf
 have WH:aD (m.upd (2*h.n) (wm.heap.size,0) (0,0)) (.func (.yield (2*h.n)) #[] #[]) (.func (.yield wm.heap.size) #[] #[]) :=
  aD.DX ⟨0,Mp.bh _ _ _ _⟩ (.nil _) (.nil _)
 obtain⟨nx,hinv,halt⟩:=fG fv _ _ h1 v hc B w0 _ _ (hP tmps f) #[.func (.yield wm.heap.size) #[] #[]] R1 ((hρ f fv hfv).mono S1.le) (.cons WH (.nil _)) (S01.fresh ZE)
 obtain⟨fr0,W7,bw⟩:=halt.resolve_left (by rintro⟨_,_,_,_,hint⟩;obtain⟨k,n,e⟩:=hint _ (List.mem_singleton.2 rfl);cases e)
 obtain⟨v',m2,w2,hv,R2,S2,QM⟩:=bw (on b tmps (.inRangeFunc wm.heap.size :: k) (mark ++ ds)) cs
 have hev:(on b tmps (.inRangeFunc wm.heap.size :: k) (mark ++ ds)).eval=hP tmps:=D8 _ _ _ _
 have st1:step E.P (lone (on b tmps (.code (.rangeFunc f ps a c) :: k) ds) cs w)=.next (lone fr0 (on b tmps (.inRangeFunc wm.heap.size :: k) (mark ++ ds) :: cs) (wm.alloc (.loop { state:=.ready,pending:=none,fn:=b.fn,tmps,params:=ps,assign:=a,body:=c,defers:=dfs }))):=by
  have I6:(do let d ←resolve (on b tmps (.inRangeFunc wm.heap.size :: k) (mark ++ ds)).eval { callee:=.value f,args:=#[.const (.func (.yield wm.heap.size) #[] #[])],argTypes:=#[] } 0;invoke d.target d.args:Sem Next).run E.P
    (wm.alloc (.loop { state:=.ready,pending:=none,fn:=b.fn,tmps,params:=ps,assign:=a,body:=c,defers:=dfs }))=.ok nx (wm.alloc (.loop { state:=.ready,pending:=none,fn:=b.fn,tmps,params:=ps,assign:=a,body:=c,defers:=dfs })):=by
   rw[hev,show resolve (hP tmps) { callee:=.value f,args:=#[.const (.func (.yield wm.heap.size) #[] #[])],argTypes:=#[] } 0=Deferred.ofValue (hP tmps f) #[.func (.yield wm.heap.size) #[] #[]] from by simp[resolve,hP]]
   exact hinv
  simp only[on] at I6
  refine step_lone_go ?_
  rcases W7 with⟨f',as,rfl,rfl⟩|⟨l,f',ts,a',c',rfl,rfl⟩
  ·simp[stepG,stepG.exec,on,Sem.runT_eq,ZK,GStep.bare_after,stepG.apply,I6]
  ·simp[stepG,stepG.exec,on,Sem.runT_eq,ZK,GStep.bare_after,stepG.apply,I6]
 have hfin:(on b tmps (.inRangeFunc wm.heap.size :: k) (mark ++ ds)).finish v'=on b tmps (.endRangeFunc wm.heap.size :: k) (mark ++ ds):=rfl
 rw[hfin] at QM
 have hm2:m2 (2*h.n)=some (wm.heap.size,0):=(S2.le _ _ (Mp.bh _ _ _ _)).1
 obtain⟨_,l',hl',jJ⟩:=R2.obj _ _ _ _ (gK hl) hm2
 have vc:(Instr.endLoop wm.heap.size).run E.P w2=.ok l'.pending (w2.putObj wm.heap.size (.loop { l' with state:=.exhausted })):=run_endLoop hl' (by rw[jJ.state];exact hb)
 obtain⟨R3,S3⟩:=R2.setObj (o1:=.dead) (o':=.loop { l' with state:=.exhausted }) (gK hl) rfl rfl hm2 rfl (fun _ _ _=>trivial)
 have st2:step E.P (lone (on b tmps (.endRangeFunc wm.heap.size :: k) (mark ++ ds)) cs w2)=.next (lone (on b tmps ((l'.pending.map Item.code).toList ++ k) (mark ++ ds)) cs (w2.putObj wm.heap.size (.loop { l' with state:=.exhausted }))) :=
  stepR_endRangeFunc (b:=b) (a:={ tmps:=tmps,defers:=mark ++ ds }) vc
 refine⟨m2,_,tmps,mark ++ ds,_,(Steps.one st1).trans (QM.trans (.one st2)),?_,hf.mono (S01.trans S2).le,ht,R3,(S01.trans S2).trans S3,(Dm1.step S2).step S3⟩
 rcases jJ.z5 he with⟨rfl,hp⟩|⟨i,rfl,hp⟩|⟨rfl,hp⟩
 ·rw[hp];rfl
 ·rw[hp];exact⟨k,rfl,rfl⟩
 ·rw[hp];exact⟨k,rfl⟩
theorem Pu {id:Nat} {ops:Array Oper} {it nx more kb k:Nat} {es:List (Value×Value)} {seen:List Nat} {ty1 ty2:TypeId} {ps1 ps2:String} {af1 af2:Array Edge} {fr:Fr} {h:IH} {m:Mp} {w:World} {tmps:Array Value} {kk:List Item} {ds:List Deferred}
  (GR:ops.toList = [⟨some nx,.next (.tmp it) false,ty1,ps1,af1,none⟩,⟨some more,.extract (.tmp nx) 0,ty2,ps2,af2,none⟩])
  (hok:DM fr h it kb k es seen) (R:Rel B w0 m h w) (hf:dG m fr tmps) (ht:nt≤tmps.size) :
  ((∀i,i<es.length→i∈seen) ∧ ∀fr2,oX nt nx more (.tuple #[.bool false]) false fr=some fr2 →
   ∃w' bF,Steps E.P (lone (on b tmps (.code (.region id ops false) :: kk) ds) cs w) (lone (on b bF kk ds) cs w')∧dG m fr2 bF∧nt≤bF.size∧Rel B w0 m h w'∧Step m h w m h w') ∨
  ∃i x,i∉seen∧es[i]?=some x ∧ ∀fr2,oX nt nx more (.tuple #[.bool true,x.1,x.2]) true fr=some fr2 →
   ∃w' bF,Steps E.P (lone (on b tmps (.code (.region id ops false) :: kk) ds) cs w) (lone (on b bF kk ds) cs w')∧dG m fr2 bF∧nt≤bF.size ∧
    Rel B w0 m { h with ext:=h.ext.set kb (.iter k es.length (seen ++ [i]) es.length) } w'∧Step m h w m { h with ext:=h.ext.set kb (.iter k es.length (seen ++ [i]) es.length) } w':=by
 obtain⟨g1,g2,g3⟩:=hok
 obtain⟨v1,t1,hv1⟩:=hf it _ g1
 obtain⟨r,s,hm,rfl⟩:=hv1.jY
 obtain⟨rfl,rm,nY,hmk⟩:=R.obj kb _ r s g2 hm
 obtain⟨_,_,c,Bc,hcm⟩:=R.B0 g3 hmk
 have hρ:hP tmps (.tmp it)=.pointer (some ⟨r,0,none⟩):=by simp[hP,Array.getD_eq_getD_getElem?,t1]
 have o0:ops[0]?=some ⟨some nx,.next (.tmp it) false,ty1,ps1,af1,none⟩:=by rw[←Array.getElem?_toList,GR];rfl
 have o1:ops[1]?=some ⟨some more,.extract (.tmp nx) 0,ty2,ps2,af2,none⟩:=by rw[←Array.getElem?_toList,GR];rfl
 have hsz:ops.size=2:=by rw[←Array.length_toList,GR];rfl
 have two : ∀(v v':Value) (bb:Bool) (w':World) (fr2:Fr),aD m v v'→(∃cs',v=.tuple cs'∧cs'[0]?=some (.bool bb))→(Instr.next (.pointer (some ⟨r,0,none⟩)) false ty1).run E.P w=.ok v' w'→oX nt nx more v bb fr=some fr2 →
   ∃bF,Steps E.P (lone (on b tmps (.code (.region id ops false) :: kk) ds) cs w) (lone (on b bF kk ds) cs w')∧dG m fr2 bF∧nt≤bF.size:=by
  intro v v' bb w' fr2 hv WN bw jn
  unfold oX at jn
  split at jn
  case h_2=>cases jn
  rename_i fra hpa
  obtain⟨hfa,hta⟩:=qU hpa hf ht hv
  obtain⟨hfb,htb⟩:=qU jn hfa hta (aD.bD (m:=m) (v:=.bool bb) rfl)
  obtain⟨cs',rfl,hc0⟩:=WN
  obtain⟨cs2,rfl,hL⟩:=hv.nL
  have cC:ab fra nx=some (.tuple cs'):=by
   unfold mC at hpa
   simp only[cond_eq_ite] at hpa
   split at hpa
   ·cases hpa;simp[ab]
   ·cases hpa
  obtain⟨v2,q1,q2⟩:=hfa nx _ cC
  obtain⟨u,q3,q4⟩:=hL.get (i:=0) (by simpa using hc0)
  have hu:=q4.cj rfl
  subst hu
  have hpt:(ns tmps (some nx) (.tuple cs2))[nx]?=some (.tuple cs2):=by
   have hlt:nx<tmps.size:=by
    unfold mC at hpa
    simp only[cond_eq_ite] at hpa
    split at hpa
    ·rename_i hb;have:nx+1≤nt:=by simpa [Nat.blt] using hb
     omega
    ·cases hpa
   simp[ns,hlt]
  have hρ2:hP (ns tmps (some nx) (.tuple cs2)) (.tmp nx)=.tuple cs2:=by simp[hP,Array.getD_eq_getD_getElem?,hpt]
  have q3':cs2[0]?=some (.bool bb):=by simpa using q3
  have e1:=qk (P:=E.P) (b:=b) (ds:=ds) (k:=kk) (cs:=cs) (tmps:=tmps) (ops:=ops) (i:=0) (rest:=[1]) (v:=.tuple cs2) (w:=w) (w':=w') o0 (by simp[Region.wanted]) (by simp) (by simp only[execOp,hρ,Sem.run_bind,bw,Result.andThen_ok,Sem.run_pure])
  have e2:=qk (P:=E.P) (b:=b) (ds:=ds) (k:=kk) (cs:=cs) (tmps:=ns tmps (some nx) (.tuple cs2)) (ops:=ops) (i:=1) (rest:=[]) (v:=.bool bb) (w:=w') (w':=w') o1 (by simp[Region.wanted]) (by simp) (by simp only[execOp,hρ2,Instr.extract,q3',Sem.run_bind,Result.andThen_ok,Sem.run_pure])
  refine⟨_,.head Bw (.head ?_ (.head e2 (.one nj))),hfb,htb⟩
  rw[hsz]
  exact e1
 rcases PC E.P hcm nY Bc ty1 with⟨ef,d,bw⟩|⟨i,e',d,hi,hci,bw⟩
 ·refine .inl ⟨ef,fun fr2 jn=>?_⟩
  obtain⟨bF,a1,a2,a3⟩:=two _ _ false _ fr2 (aD.fx (.cons (.bD rfl) (.nil m))) ⟨_,rfl,rfl⟩ bw jn
  exact⟨_,bF,a1,a2,a3,R.congr rfl (jQ R.below d),(Step.refl m h { w with drawn:=d }).congr rfl⟩
 ·have hic:i<c.size:=by
   rcases Nat.lt_or_ge i c.size with h|h
   ·exact h
   ·rw[Array.getElem?_eq_none h] at hci;cases hci
  have hie:i<es.length:=by have:=hcm.1;omega
  have hE:=(hcm.2 i es[i] e' (List.getElem?_eq_getElem hie) hci).1
  refine .inr ⟨i,es[i],hi,List.getElem?_eq_getElem hie,fun fr2 jn=>?_⟩
  obtain⟨bF,a1,a2,a3⟩:=two _ _ true _ fr2 (aD.fx (.cons (.bD rfl) (.cons (by rw[hE.1];exact aD.bP hE.2.1) (.cons hE.2.2 (.nil m))))) ⟨_,rfl,rfl⟩ bw jn
  obtain⟨R1,S1⟩:=(R.congr (w':={ w with drawn:=d }) rfl (jQ R.below d)).setObj (o1:=.iter k es.length (seen ++ [i]) es.length) (o':=.mapIter (some rm) es.length (seen.toArray.push i) es.length) g2 rfl rfl hm rfl (fun w' z e=>⟨rfl,rm,by rw[e];simp,hmk⟩)
  exact⟨_,bF,a1,a2,a3,R1,S1.congr rfl⟩
theorem Rel.kill {m:Mp} {h:IH} {w:World} (R:Rel B w0 m h w) {kb k0 a0 c0 r s:Nat} {b0:List Nat} (hk:h.ext.get kb=some (.iter k0 a0 b0 c0)) (hm:m (2*kb)=some (r,s)) :
  Rel B w0 m { h with ext:=h.ext.set kb .dead } w∧Step m h w m { h with ext:=h.ext.set kb .dead } w:=by
 obtain⟨_,rm,nY,_⟩:=R.obj kb _ r s hk hm
 have:=R.setObj (o1:=.dead) (o':=.mapIter (some rm) a0 b0.toArray c0) hk rfl rfl hm rfl (fun _ _ _=>trivial)
 rw[P0 nY] at this
 exact this
theorem Ran.kill {m:Mp} {h:IH} {w:World} {k0:List Item} {M:Machine} {e:bf} {frl fr':Fr} {hl:IH} {kb:Nat} {rs:Nat×Nat} (hm:m (2*kb)=some rs) (r:Ran E b B w0 z nt cs m h w k0 M e frl hl) (hk : ∃k1 a1 b1 c1,hl.ext.get kb=some (.iter k1 a1 b1 c1))
  (hfr : ∀t v,ab fr' t=some v→ab frl t=some v):Ran E b B w0 z nt cs m h w k0 M e fr' { hl with ext:=hl.ext.set kb .dead }:=by
 obtain⟨m',w',bF,ds',k',a1,a2,a3,a4,a5,a6,a7⟩:=r
 obtain⟨k1,x1,b1,c1,hk⟩:=hk
 obtain⟨R1,S1⟩:=a5.kill hk (a6.le _ _ hm).1
 exact⟨m',w',bF,ds',k',a1,a2,fun t v hv=>a3 t v (hfr t v hv),a4,R1,a6.trans S1,a7.step S1⟩
theorem zh {n id:Nat} {ops:Array Oper} {rest:Code} {it nx more kb k:Nat} {es:List (Value×Value)} {ty1 ty2:TypeId} {ps1 ps2:String} {af1 af2:Array Edge} {e:bf} {fr':Fr} {h':IH}
  (GR:ops.toList = [⟨some nx,.next (.tmp it) false,ty1,ps1,af1,none⟩,⟨some more,.extract (.tmp nx) 0,ty2,ps2,af2,none⟩])
  (cG : ∀fr h e fr' h',evC E call b.fn nt rd n rest fr h=some (e,fr',h')→h.n≤h'.n) (ih:rV E (evC E call b.fn nt rd n rest) b rd B w0 z nt cs rest) :
  ∀(q:Nat) (rem seen:List Nat) (fr:Fr) (h:IH),rem.length=q→(∀i,i∈rem↔i<es.length∧i∉seen)→rem.Nodup →
   (∀l:List Nat,l.Perm rem → ∃frl hl,eE (evC E call b.fn nt rd n rest) (gM E b.fn id) nt it nx more kb k es l seen fr h=some (e,frl,hl)∧(∃k0 a0 b0 c0,hl.ext.get kb=some (.iter k0 a0 b0 c0))∧h' = { hl with ext:=hl.ext.set kb .dead } ∧ ∀t v,ab fr' t=some v→ab frl t=some v) →
   ∀(m:Mp) (w:World) (tmps:Array Value) (kk:List Item) (ds:List Deferred) (rs:Nat×Nat),m (2*kb)=some rs→Rel B w0 m h w→dG m fr tmps→nt≤tmps.size→eo m h.n h'.n→pG b rd m→kJ z m h w ds→z≤w.heap.size →
    Ran E b B w0 z nt cs m h w kk (lone (on b tmps (.code (.seq (.region id ops false) rest) :: .inLoop (.seq (.region id ops false) rest) :: kk) ds) cs w) e fr' h'
 | q,rem,seen,fr,h,hq,WO,hnd,ef,m,w,tmps,kk,ds,rs,hkb,R,hf,ht,hfr,hfo,hd,hz=>by
  have hok:DM (gM E b.fn id fr) h it kb k es seen:=by
   obtain⟨frl,hl,h1,_⟩:=ef rem (List.Perm.refl _)
   unfold eE at h1
   split at h1
   all_goals
    split at h1
    ·assumption
    ·cases h1
  have hn' : ∀{l:List Nat} {frl:Fr} {hl:IH},eE (evC E call b.fn nt rd n rest) (gM E b.fn id) nt it nx more kb k es l seen fr h=some (e,frl,hl)→h.n≤hl.n:=fun hx=>mN cG _ _ _ _ _ _ _ hx
  rcases Pu (E:=E) (b:=b) (cs:=cs) (nt:=nt) (id:=id) (kk:=.code rest :: .inLoop (.seq (.region id ops false) rest) :: kk) (ds:=ds) GR hok R (hf.head b.fn id) ht with⟨hov,hst⟩|⟨i,x,hi,hx,hst⟩
  ·have hr0:rem = []:=by
    apply List.eq_nil_iff_forall_not_mem.2
    intro j hj
    obtain⟨h1,h2⟩:=(WO j).1 hj
    exact h2 (hov j h1)
   subst hr0
   obtain⟨frl,hl,h1,hit,hh',TV⟩:=ef [] (List.Perm.refl _)
   subst hh'
   unfold eE at h1
   rw[if_pos hok] at h1
   split at h1
   ·cases h1
   ·rename_i fr2 jn
    obtain⟨w1,cE,s1,f1,t1,R1,S1⟩:=hst fr2 jn
    split at h1
    ·cases h1
    ·rename_i hnn
     refine .first (.head qo s1) (.step S1 ?_)
     have hR:=ih fr2 h e frl hl h1 m w1 cE (.inLoop (.seq (.region id ops false) rest) :: kk) ds R1 f1 t1 hfr hfo (hd.step S1) (Nat.le_trans hz S1.size)
     have hne:e≠.normal:=fun he=>by subst he;exact hnn _ _ h1
     exact(Ran.out (k:=kk) hR hne (fun i _=>rfl)).kill hkb hit TV
  ·have hie:i<es.length:=by
    rcases Nat.lt_or_ge i es.length with h|h
    ·exact h
    ·rw[List.getElem?_eq_none h] at hx;cases hx
   have him:i∈rem:=(WO i).2 ⟨hie,hi⟩
   obtain⟨frl,hl,h1,hit,hh',TV⟩:=ef (i :: rem.erase i) (List.perm_cons_erase him).symm
   have Lx : ∀l:List Nat,l.Perm (rem.erase i) → ∃frl hl,eE (evC E call b.fn nt rd n rest) (gM E b.fn id) nt it nx more kb k es (i :: l) seen fr h=some (e,frl,hl)∧(∃k0 a0 b0 c0,hl.ext.get kb=some (.iter k0 a0 b0 c0))∧h' = { hl with ext:=hl.ext.set kb .dead } ∧ ∀t v,ab fr' t=some v→ab frl t=some v :=
    fun l hl=>ef (i :: l) ((hl.cons i).trans (List.perm_cons_erase him).symm)
   have hhn:hl.n≤h'.n:=by rw[hh'];exact Nat.le_refl _
   simp only[eE,if_pos hok,hx] at h1 Lx
   cases jn:oX nt nx more (.tuple #[.bool true,x.1,x.2]) true (gM E b.fn id fr) with
   | none=>simp[jn] at h1
   | some fr2 =>
    simp only[jn] at h1 Lx
    obtain⟨w1,cE,s1,f1,t1,R1,S1⟩:=hst fr2 jn
    refine .first (.head qo s1) (.step S1 ?_)
    cases xC:evC E call b.fn nt rd n rest fr2 { h with ext:=h.ext.set kb (.iter k es.length (seen ++ [i]) es.length) } with
    | none=>simp[xC] at h1
    | some o =>
     obtain⟨e1,fr3,h3⟩:=o
     have hn3:=cG _ _ _ _ _ xC
     cases e1 with
     | normal =>
      simp only[xC] at h1 Lx
      have hn4:=mN cG _ _ _ _ _ _ _ h1
      obtain⟨m2,w2,Bu,ds2,k2,b1,b2,b3,b4,b5,b6,b7⟩:=ih fr2 _ _ _ _ xC m w1 cE (.inLoop (.seq (.region id ops false) rest) :: kk) ds R1 f1 t1 (hfr.sub (Nat.le_refl _) (Nat.le_trans hn4 hhn)) hfo (hd.step S1) (Nat.le_trans hz S1.size)
      obtain rfl:k2=_:=b2
      refine .first (b1.trans (.one Bx)) (.step b6 ?_)
      have hlen:(rem.erase i).length<q:=by
       rw[List.length_erase_of_mem him,hq]
       have:0<rem.length:=List.length_pos_of_mem him
       omega
      refine zh GR cG ih (rem.erase i).length (rem.erase i) (seen ++ [i]) fr3 h3 rfl (fun j=>?_) (hnd.erase i) Lx m2 w2 Bu kk ds2 rs (b6.le _ _ hkb).1 b5 b3 b4 (b6.fresh hfr) (hfo.mono b6.le) b7 (Nat.le_trans (Nat.le_trans hz S1.size) b6.size)
      rw[hnd.mem_erase_iff,WO j]
      simp only[List.mem_append,List.mem_singleton]
      constructor
      ·rintro⟨h1,h2,h3⟩;exact⟨h2,fun hh=>hh.elim h3 h1⟩
      ·rintro⟨h2,h3⟩;exact⟨fun hh=>h3 (.inr hh),h2,fun hh=>h3 (.inl hh)⟩
     | exit j =>
      simp only[xC] at h1
      cases h1
      subst hh'
      have hR:=ih fr2 _ _ _ _ xC m w1 cE (.inLoop (.seq (.region id ops false) rest) :: kk) ds R1 f1 t1 hfr hfo (hd.step S1) (Nat.le_trans hz S1.size)
      exact(Ran.out (k:=kk) hR (by simp) (fun i _=>rfl)).kill hkb hit TV
     | ret =>
      simp only[xC] at h1
      cases h1
      subst hh'
      have hR:=ih fr2 _ _ _ _ xC m w1 cE (.inLoop (.seq (.region id ops false) rest) :: kk) ds R1 f1 t1 hfr hfo (hd.step S1) (Nat.le_trans hz S1.size)
      exact(Ran.out (k:=kk) hR (by simp) (fun i _=>rfl)).kill hkb hit TV
 termination_by q=>q
 decreasing_by omega
theorem Gs {ops:List Oper} {draw:Bool} {it nx more:Nat} (h:qJ ops draw=some (it,nx,more)):draw=false ∧ ∃ty1 ps1 af1 ty2 ps2 af2,ops = [⟨some nx,.next (.tmp it) false,ty1,ps1,af1,none⟩,⟨some more,.extract (.tmp nx) 0,ty2,ps2,af2,none⟩]:=by
 unfold qJ at h
 split at h
 case h_2=>cases h
 simp only[cond_eq_ite,beq_iff_eq] at h
 split at h
 ·rename_i hx
  cases h
  subst hx
  exact⟨rfl,_,_,_,_,_,_,rfl⟩
 ·cases h
theorem Fw {n:Nat} {c:Code} {p:Nat×Nat×Nat×Nat×Code} (hp:qS c=some p) (cG : ∀fr h e fr' h',evC E call b.fn nt rd n p.2.2.2.2 fr h=some (e,fr',h')→h.n≤h'.n) (ih:rV E (evC E call b.fn nt rd n p.2.2.2.2) b rd B w0 z nt cs p.2.2.2.2)
  {fr:Fr} {h:IH} {e:bf} {fr':Fr} {h':IH} (hx:rK (evC E call b.fn nt rd n p.2.2.2.2) (gM E b.fn p.1) nt p.2.1 p.2.2.1 p.2.2.2.1 fr h=some (e,fr',h')) (m:Mp) (w:World) (tmps:Array Value) (k:List Item) (ds:List Deferred)
  (R:Rel B w0 m h w) (hf:dG m fr tmps) (ht:nt≤tmps.size) (hfr:eo m h.n h'.n) (hfo:pG b rd m) (hd:kJ z m h w ds) (hz:z≤w.heap.size) :
  Ran E b B w0 z nt cs m h w k (lone (on b tmps (.code c :: .inLoop c :: k) ds) cs w) e fr' h':=by
 unfold qS at hp
 split at hp
 case h_2=>cases hp
 rename_i id ops draw rest
 obtain⟨⟨it,nx,more⟩,hno,rfl⟩:=Option.map_eq_some_iff.1 hp
 obtain⟨rfl,ty1,ps1,af1,ty2,ps2,af2,GR⟩:=Gs hno
 simp only at hx cG ih
 obtain⟨kb,k0,since,seen0,last,es,g1,g2,g3,ef⟩:=uU hx
 obtain⟨v1,t1,hv1⟩:=(hf.head b.fn id) it _ g1
 obtain⟨r,s,hm,rfl⟩:=hv1.jY
 exact zh GR cG ih _ (List.range es.length) [] fr h rfl (fun i=>by simp) List.nodup_range ef m w tmps k ds (r,s) hm R hf ht hfr hfo hd hz
theorem uy (fG:kj E.P call) (cG:dj call) (WY:E.P.follows .mixedOrders=true) (n:Nat) : ∀(c:Code),rV E (evC E call b.fn nt rd n c) b rd B w0 z nt cs c:=by
 intro c
 induction c using Kf with
 | h c IH =>
 cases c with
 | skip =>
  intro fr h e fr' h' hr m w tmps k ds R hf ht hfr hfo hd hz
  simp only[evC] at hr;cases hr
  exact⟨m,w,tmps,ds,k,.one SM,rfl,hf,ht,R,Step.refl _ _ _,hd⟩
 | label l =>
  intro fr h e fr' h' hr m w tmps k ds R hf ht hfr hfo hd hz
  simp only[evC] at hr;cases hr
  exact⟨m,w,tmps,ds,k,.one Po,rfl,hf,ht,R,Step.refl _ _ _,hd⟩
 | region id ops draw =>
  intro fr h e fr' h' hr m w tmps k ds R hf ht hfr hfo hd hz
  simp only[evC] at hr
  split at hr
  ·rename_i fr1 h1 hx
   cases hr
   cases draw with
   | true =>
    rw[cond_true] at hx
    obtain⟨_,m',w',bF,a1,a2,a3,a4,a5⟩:=MI fG cG WY hx R (hf.head b.fn id) ht hfr b k ds cs id
    exact⟨m',w',bF,ds,k,a1,rfl,a2,a3,a4,a5,hd.step a5⟩
   | false =>
    rw[cond_false] at hx
    obtain⟨m',w',bF,a1,a2,a3,a4,a5⟩:=Di fG cG b k ds cs ops.toList 0 _ _ _ _ m w tmps rfl hx R (hf.head b.fn id) ht hfr
    rw[←List.range_eq_range',Array.length_toList] at a1
    exact⟨m',w',bF,ds,k,.head Bw a1,rfl,a2,a3,a4,a5,hd.step a5⟩
  ·cases hr
 | seq x y =>
  have ihx:=IH x (by simp<;>omega)
  have ihy:=IH y (by simp<;>omega)
  intro fr h e fr' h' hr m w tmps k ds R hf ht hfr hfo hd hz
  simp only[evC] at hr
  split at hr
  ·rename_i fr1 h1 hx
   have n1:=sN cG _ _ _ _ _ _ hx
   have n2:=sN cG _ _ _ _ _ _ hr
   obtain⟨m1,w1,cE,ds1,k1,a1,a2,a3,a4,a5,a6,a7⟩:=ihx fr h .normal fr1 h1 hx m w tmps (.code y :: k) ds R hf ht (hfr.sub (Nat.le_refl _) n2) hfo hd hz
   obtain rfl:k1=_:=a2
   refine .first (.head qo a1) (.step a6 ?_)
   exact ihy fr1 h1 e fr' h' hr m1 w1 cE k ds1 a5 a3 a4 (a6.fresh hfr) (hfo.mono a6.le) a7 (Nat.le_trans hz a6.size)
  ·rename_i hx
   cases hr
   exact .first (.one qo) ((ihx fr h _ _ _ hx m w tmps (.code y :: k) ds R hf ht hfr hfo hd hz).out (by simp) (fun i _=>rfl))
  ·rename_i hx
   cases hr
   exact .first (.one qo) ((ihx fr h _ _ _ hx m w tmps (.code y :: k) ds R hf ht hfr hfo hd hz).out (by simp) (fun i _=>rfl))
  ·cases hr
 | cond x a c =>
  have iha:=IH a (by simp<;>omega)
  have ihc:=IH c (by simp<;>omega)
  intro fr h e fr' h' hr m w tmps k ds R hf ht hfr hfo hd hz
  simp only[evC] at hr
  have hρ:=rJ R hf
  split at hr
  ·rename_i hx
   have hv:=(hρ x _ hx).cj rfl
   exact .first (.one (Kd hv)) (iha fr h _ _ _ hr m w tmps k ds R hf ht hfr hfo hd hz)
  ·rename_i hx
   have hv:=(hρ x _ hx).cj rfl
   exact .first (.one (Kd hv)) (ihc fr h _ _ _ hr m w tmps k ds R hf ht hfr hfo hd hz)
  ·cases hr
 | block id c =>
  have ih:=IH c (by simp<;>omega)
  intro fr h e fr' h' hr m w tmps k ds R hf ht hfr hfo hd hz
  simp only[evC,cond_eq_ite] at hr
  split at hr
  ·rename_i i fr1 h1 hx
   split at hr
   ·rename_i hi
    have hi':i=id:=by simpa using hi
    subst hi'
    cases hr
    obtain⟨m1,w1,cE,ds1,k1,a1,a2,a3⟩:=ih fr h _ _ _ hx m w tmps (.inBlock i :: k) ds R hf ht hfr hfo hd hz
    obtain⟨k2,rfl,hk2⟩:=a2
    exact⟨m1,w1,cE,ds1,k,.head uo (a1.trans (.one (SN (by rw[hk2];simp[exitTo])))),rfl,a3⟩
   ·rename_i hi
    cases hr
    refine .first (.one uo) ((ih fr h _ _ _ hx m w tmps (.inBlock id :: k) ds R hf ht hfr hfo hd hz).out (by simp) (fun j hj=>?_))
    cases hj
    have:(id == i)=false:=by
     simp only[beq_eq_false_iff_ne,ne_eq];rintro rfl;simp at hi
    simp[exitTo,this]
  ·rename_i fr1 h1 hx
   cases hr
   obtain⟨m1,w1,cE,ds1,k1,a1,a2,a3⟩:=ih fr h _ _ _ hx m w tmps (.inBlock id :: k) ds R hf ht hfr hfo hd hz
   obtain rfl:k1=_:=a2
   exact⟨m1,w1,cE,ds1,k,.head uo (a1.trans (.one HU)),rfl,a3⟩
  ·rename_i fr1 h1 hx
   cases hr
   exact .first (.one uo) ((ih fr h _ _ _ hx m w tmps (.inBlock id :: k) ds R hf ht hfr hfo hd hz).out (by simp) (fun j hj=>by cases hj))
  ·cases hr
 | loop c =>
  have ih:=IH c (by simp<;>omega)
  intro fr h e fr' h' hr m w tmps k ds R hf ht hfr hfo hd hz
  rw[Am] at hr
  split at hr
  ·rename_i p hp
   exact .first (.one Kc) (Fw hp (fun fr h e fr' h' hx=>sN cG _ fr h e fr' h' hx) (IH _ (Nat.lt_trans (xz hp) (by simp<;>omega))) hr m w tmps k ds R hf ht hfr hfo hd hz)
  exact .first (.one Kc) (Fx (fun fr h e fr' h' hx=>sN cG c fr h e fr' h' hx) ih n fr h e fr' h' hr m w tmps k ds R hf ht hfr hfo hd hz)
 | scope c =>
  have ih:=IH c (by simp<;>omega)
  intro fr h e fr' h' hr m w tmps k ds R hf ht hfr hfo hd hz
  simp only[evC] at hr
  obtain⟨m1,w1,cE,ds1,k1,a1,a2,a3⟩:=ih fr h _ _ _ hr m w tmps (.inScope c :: k) ds R hf ht hfr hfo hd hz
  cases e with
  | normal =>
   obtain rfl:k1=_:=a2
   exact⟨m1,w1,cE,ds1,k,.head y9 (a1.trans (.one HT)),rfl,a3⟩
  | exit i=>exact⟨m1,w1,cE,ds1,k1,.head y9 a1,a2.out (by simp) (fun j _=>rfl),a3⟩
  | ret=>exact⟨m1,w1,cE,ds1,k1,.head y9 a1,a2,a3⟩
 | rangeFunc f ps a c =>
  intro fr h e fr' h' hr
  simp only[evC] at hr
  exact Fu fG cG fr h e fr' h' hr
 | exit i =>
  intro fr h e fr' h' hr m w tmps k ds R hf ht hfr hfo hd hz
  simp only[evC] at hr;cases hr
  exact⟨m,w,tmps,ds,_,.refl _ _,⟨k,rfl,rfl⟩,hf,ht,R,Step.refl _ _ _,hd⟩
 | ret =>
  intro fr h e fr' h' hr m w tmps k ds R hf ht hfr hfo hd hz
  simp only[evC] at hr;cases hr
  exact⟨m,w,tmps,ds,_,.refl _ _,⟨k,rfl⟩,hf,ht,R,Step.refl _ _ _,hd⟩
 | goto i=>intro fr h e fr' h' hr;simp only[evC] at hr;cases hr
 | refuse i=>intro fr h e fr' h' hr;simp only[evC] at hr;cases hr
end
theorem oI {P:Program} {B:Nat} {w0:World} {m:Mp} {h:IH} {z:Nat} (hB:B≤z) : ∀(rs:List Nat) (fr:Frame) (cs:List Frame) (w:World),fr.mode=.returning→fr.defers=rs.map ny→rs.Nodup →
  (∀r∈rs,z≤r∧w.heap[r]?=some (.deferred (some [])) ∧ ∀k s,k<h.n→m (2*k)≠some (r,s))→Rel B w0 m h w →
  ∃w',Steps P (lone fr cs w) (lone { fr with defers:=[] } cs w')∧Rel B w0 m h w'∧w'.heap.size=w.heap.size ∧ ∀r,r∉rs→w'.heap[r]?=w.heap[r]?
 | [],fr,cs,w,hm,hd,_,_,R=>by
  have:({ fr with defers:=[] }:Frame)=fr:=by cases fr;simp at hd;subst hd;rfl
  exact⟨w,by rw[this];exact .refl _ _,R,rfl,fun _ _=>rfl⟩
 | r :: rs,fr,cs,w,hm,hd,hn,hr,R=>by
  obtain⟨a1,a2,a3⟩:=hr r (by simp)
  have hst:=step_collected (P:=P) (fr:=fr) (cs:=cs) (d:=ny r) (r:=r) (ds:=rs.map ny) (by rw[hm];simp) (by rw[hd];rfl) rfl (run_takeDeferred a2)
  have DQ : ∀r',r'≠r→(w.putObj r (.deferred none)).heap[r']?=w.heap[r']?:=fun r' h'=>World.putObj_heap_other h'
  have R1:Rel B w0 m h (w.putObj r (.deferred none)):=by
   refine R.aa (rS R.below (by omega) _) (by simp) ?_
   rintro r' (h1|⟨k,s,h1,h2⟩)
   ·exact DQ r' (by omega)
   ·exact DQ r' (by rintro rfl;exact a3 k s h1 h2)
  obtain⟨w',b1,b2,b3,b4⟩:=oI hB rs { fr with defers:=[] ++ rs.map ny } cs (w.putObj r (.deferred none)) hm rfl (List.nodup_cons.1 hn).2 (fun r' h'=>by
   obtain⟨c1,c2,c3⟩:=hr r' (by simp[h'])
   exact⟨c1,by rw[DQ r' (by rintro rfl;exact(List.nodup_cons.1 hn).1 h')];exact c2,c3⟩) R1
  refine⟨w',.head hst b1,b2,by rw[b3];simp,fun r' h'=>?_⟩
  rw[b4 r' (fun h=>h' (by simp[h])),DQ r' (fun h=>h' (by simp[h]))]
def zo (tmps:Array Value):ResultVar→Sem Value
 | .tmp t=>pure (tmps.getD t undef)
 | .cell a t=>do loadVar t (←Go.asAddr (tmps.getD a undef))
theorem Ik (fn:Func) (tmps:Array Value):results fn tmps=(do let vs ←fn.results.mapM (zo tmps);pure (if h:vs.size=1 then vs[0] else .tuple vs)):=by
 unfold results
 congr 1
theorem Dr {P:Program} {B:Nat} {w0:World} {m:Mp} {h:IH} {w:World} (R:Rel B w0 m h w) {fr:Fr} {tmps:Array Value} (hf:dG m fr tmps) {rv:ResultVar} {v:Value} (hr:gI P fr h rv=some v) :
  ∃v',(zo tmps rv).run P w=.ok v' w∧aD m v v':=by
 cases rv with
 | tmp t =>
  obtain⟨v',h1,h2⟩:=hf t v hr
  exact⟨v',by simp[zo,Array.getD_eq_getD_getElem?,h1,Sem.run_pure],h2⟩
 | cell a t =>
  simp only[gI] at hr
  split at hr
  ·rename_i va hva
   obtain⟨va',h1,h2⟩:=hf a va hva
   obtain⟨v',h3,h4⟩:=R.load hr h2
   refine⟨v',?_,h4⟩
   have hp : ∃b o,va=.pointer (some ⟨b,o,none⟩):=by
    unfold Id.load at hr
    cases hA:Id.asAddr va with
    | none=>simp[hA] at hr
    | some bo=>unfold Id.asAddr at hA;split at hA<;>simp_all
   obtain⟨b,o,rfl⟩:=hp
   obtain⟨r,s,_,rfl⟩:=h2.jY
   simp only[zo,Array.getD_eq_getD_getElem?,h1,Option.getD_some]
   simpa [Instr.loadAt,Instr.sureAddr,Go.asAddr,Sem.run_bind,Sem.run_pure] using h3
  ·cases hr
theorem sF {P:Program} {B:Nat} {w0:World} {m:Mp} {h:IH} {w:World} (R:Rel B w0 m h w) {fr:Fr} {tmps:Array Value} (hf:dG m fr tmps) : ∀(l:List ResultVar) (vs:List Value),bd P fr h l=some vs →
  ∃vs',(l.mapM (zo tmps)).run P w=.ok vs' w∧bm m vs vs'
 | [],vs,hr=>by simp only[bd] at hr;cases hr;exact⟨[],by simp[Sem.run_pure],.nil m⟩
 | rv :: l,vs,hr=>by
  rw[bd] at hr
  split at hr
  ·rename_i v vs1 h1 h2
   cases hr
   obtain⟨v',a1,a2⟩:=Dr R hf h1
   obtain⟨vs',b1,b2⟩:=sF R hf l vs1 h2
   refine⟨v' :: vs',?_,.cons a2 b2⟩
   rw[List.mapM_cons]
   simp only[Sem.run_bind,Sem.run_pure]
   rw[a1]
   simp only[Result.andThen_ok]
   rw[b1]
   simp only[Result.andThen_ok]
  ·cases hr
theorem HY {m:Mp} {vs vs':List Value} (h:bm m vs vs'):aD m (single vs) (if h:vs'.toArray.size=1 then vs'.toArray[0] else .tuple vs'.toArray):=by
 have hl:=h.1
 match vs,vs',h,hl with
 | [],[],h,_=>exact aD.fx h
 | [v],[v'],h,_=>exact h.2 0 v v' rfl rfl
 | v :: u :: vs,v' :: u' :: vs',h,_ =>
  have : ¬(v' :: u' :: vs').toArray.size=1:=by simp
  rw[dif_neg this]
  exact aD.fx h
theorem xl {P:Program} {B:Nat} {w0:World} {m:Mp} {h:IH} {w:World} (R:Rel B w0 m h w) {fr:Fr} {tmps:Array Value} (hf:dG m fr tmps) {fn:Func} {vs:List Value} (hr:bd P fr h fn.results.toList=some vs) :
  ∃v',(results fn tmps).run P w=.ok v' w∧aD m (single vs) v':=by
 obtain⟨vs',h1,h2⟩:=sF R hf _ _ hr
 refine⟨_,?_,HY h2⟩
 rw[Ik,Sem.run_bind,Array.mapM_eq_mapM_toList,map_eq_pure_bind,Sem.run_bind,h1]
 simp only[Result.andThen_ok,Sem.run_pure]
def kh (P:Program) (f:FuncId) (args:Array Value) (B:Nat) (w0:World) (m:Mp) (h:IH) (w:World) (v:Value) (h':IH):Prop :=
 Calls P f args w fun e w' => ∃v' m',e=.returned v'∧aD m' v v'∧Rel B w0 m' h' w'∧Step m h w m' h' w'
structure Sound (E:Env):Prop where
 mixed:E.P.follows .mixedOrders=true
 names : ∀(f:FuncId) (fn:Func),E.P.funcs[f]?=some fn→fn.body.isSome=true→(fn.name == "runtime.NumGoroutine")=false
 origin : ∀(f:FuncId) (fn:Func),E.P.funcs[f]?=some fn→fn.body=none → ∀{args:List Value} {v:Value},mw fn.name args=some v→fn.origin=fn.name∨fn.origin = ""
 GM : ∀f g,E.rZ f=some g → ∀args h v h',g args h=some (v,h')→h.n≤h'.n
 rZ : ∀f g,E.rZ f=some g→(∃fn,E.P.funcs[f]?=some fn∧fn.body.isSome=true) ∧ ∀args h v h',g args h=some (v,h') → ∀(B:Nat) (w0:World) (m:Mp) (w:World) (args':Array Value),
  Rel B w0 m h w→bm m args args'.toList→eo m h.n h'.n→kh E.P f args' B w0 m h w v h'
theorem pg : ∀(l:List Value) (i t:Nat),ab (dD i l) t=if i≤t then l[t - i]? else none
 | [],i,t=>by simp[dD,ab]
 | v :: l,i,t=>by
  simp only[dD,ab,cond_eq_ite,beq_iff_eq,pg l (i+1) t]
  by_cases h1:i=t
  ·subst h1;simp
  ·by_cases h2:i≤t
   ·rw[if_neg h1,if_pos h2,if_pos (by omega),show t - i=(t - (i+1))+1 from by omega,List.getElem?_cons_succ]
   ·rw[if_neg h1,if_neg h2,if_neg (by omega)]
theorem RV {E:Env} (S:Sound E) {call:a8} (cG:dj call) {n:Nat} {f:FuncId} {args:List Value} {h h':IH} {v:Value} (hr:nD E call n f args h=some (v,h')):h.n≤h'.n:=by
 unfold nD at hr
 split at hr
 ·rename_i g hg;exact S.GM _ _ hg _ _ _ _ hr
 ·split at hr
  ·cases hr
  ·split at hr
   ·obtain⟨vs,_,e⟩:=Option.map_eq_some_iff.1 hr
    cases e
    exact Nat.le_refl _
   ·simp only[cond_eq_ite] at hr
    split at hr
    ·split at hr
     ·cases hr
     ·rename_i fr1 h1 _ hx
      obtain⟨vs,_,e⟩:=Option.map_eq_some_iff.1 hr
      cases e
      exact sN cG _ _ _ _ _ _ hx
     ·cases hr
    ·cases hr
theorem tU {E:Env} (S:Sound E) {call:a8} (fG:kj E.P call) (cG:dj call) {n:Nat} {f:FuncId} {args:List Value} {h h':IH} {v:Value} (hr:nD E call n f args h=some (v,h'))
  {B:Nat} {w0:World} {m:Mp} {w:World} {args':Array Value} (R:Rel B w0 m h w) (fV:bm m args args'.toList) (hfr:eo m h.n h'.n) :
  ((∃fn,E.P.funcs[f]?=some fn∧fn.body.isSome=true)∧kh E.P f args' B w0 m h w v h')∨(∃fn,E.P.funcs[f]?=some fn∧fn.body=none∧h'=h∧mw fn.name args=some v):=by
 unfold nD at hr
 split at hr
 ·rename_i g hg
  obtain⟨h1,h2⟩:=S.rZ f g hg
  exact .inl ⟨h1,h2 args h v h' hr B w0 m w args' R fV hfr⟩
 ·split at hr
  ·cases hr
  ·rename_i fn hfn
   split at hr
   ·rename_i hbn
    obtain⟨vs,hv,e⟩:=Option.map_eq_some_iff.1 hr
    cases e
    exact .inr ⟨fn,hfn,hbn,rfl,hv⟩
   ·rename_i c hc
    refine .inl ⟨⟨fn,hfn,by rw[hc];rfl⟩,?_⟩
    simp only[cond_eq_ite] at hr
    split at hr
    ·rename_i hlen
     have Lo:args.length≤fn.ntmps:=by simpa using hlen
     have hsz:args'.size=args.length:=by rw[fV.1];simp
     split at hr
     ·cases hr
     ·rename_i e fr1 h1 hne hx
      obtain⟨vs,hvs,he⟩:=Option.map_eq_some_iff.1 hr
      cases he
      intro cs
      let b:Frame:={ fn:=f,tmps:=#[],todo:=[],defers:=[],mode:=.run,kind:=.normal,roundOf:=none }
      let tmps:Array Value:=args' ++ Array.replicate (fn.ntmps - args'.size) undef
      have hen:Frame.enter E.P f args' .normal=on b tmps [.code c] []:=by
       simp[Frame.enter,hfn,hc,on,b,tmps]
      have QL:dG m (dD 0 args) tmps:=by
       intro t u hu
       rw[pg] at hu
       simp only[Nat.zero_le,if_true,Nat.sub_zero] at hu
       obtain⟨u',h2,h3⟩:=fV.get hu
       have h4:args'[t]?=some u':=by simpa using h2
       refine⟨u',?_,h3⟩
       have:=(Array.getElem?_eq_some_iff.1 h4).1
       rw[Array.getElem?_append_left this,h4]
      have WK:fn.ntmps≤tmps.size:=by simp[tmps];omega
      obtain⟨m1,w1,cE,ds1,k1,a1,a2,a3,a4,a5,a6,a7⟩:=uy (b:=b) (rd:=none) (z:=w.heap.size) (cs:=cs) fG cG S.mixed n c _ _ _ _ _ hx m w tmps [] [] R QL WK hfr (.inl ⟨rfl,rfl⟩) (kJ.nil _ _ _ _) (Nat.le_refl _)
      obtain⟨rs,d1,d2,d3⟩:=a7
      have tM : ∃todo,step E.P (lone (on b cE k1 ds1) cs w1)=.next (lone { on b cE todo ds1 with mode:=.returning } cs w1):=by
       cases e with
       | normal=>obtain rfl:k1=_:=a2;exact⟨_,stepR_end (b:=b) (a:=⟨cE,ds1⟩) rfl⟩
       | exit i=>exact absurd rfl (hne i)
       | ret=>obtain⟨k2,rfl⟩:=a2;exact⟨_,stepR_ret (b:=b) (a:=⟨cE,ds1⟩) rfl⟩
      obtain⟨todo,tM⟩:=tM
      obtain⟨w2,b1,b2,b3,b4⟩:=oI (P:=E.P) R.size rs { on b cE todo ds1 with mode:=.returning } cs w1 rfl d1 d2 d3 a5
      obtain⟨v',r1,r2⟩:=xl b2 a3 hvs
      refine⟨.returned v',w2,{ on b cE todo ds1 with mode:=.returning,defers:=[] },⟨v',m1,rfl,r2,b2,?_⟩,?_,?_,?_⟩
      ·refine⟨a6.le,a6.new,a6.n,a6.base,fun r hr hk=>?_,a6.idle,by rw[b3];exact a6.size,a6.img,a6.mT⟩
       rw[b4 r (fun hm=>by have:=(d3 r hm).1;omega)]
       exact a6.frame r hr hk
      ·exact(by rw[hen];exact a1.trans (.head tM b1):Steps E.P (lone (Frame.enter E.P f args' .normal) cs w) _)
      ·rfl
      ·exact⟨rfl,rfl,rfl,fn,hfn,r1⟩
     ·cases hr
    ·cases hr
theorem kh.run {P:Program} {f:FuncId} {args:Array Value} {B:Nat} {w0:World} {m:Mp} {h:IH} {w:World} {v:Value} {h':IH} (H:kh P f args B w0 m h w v h') (c:Frame) (cs:List Frame) :
  ∃v' m' w',aD m' v v'∧Rel B w0 m' h' w'∧Step m h w m' h' w'∧Steps P (lone (Frame.enter P f args .normal) (c :: cs) w) (lone (c.finish v') cs w'):=by
 obtain⟨e,w',fr,⟨v',m',rfl,h1,h2,h3⟩,hc,_,hl⟩:=H (c :: cs)
 exact⟨v',m',w',h1,h2,h3,Steps.trans hc (.one (step_leave_returned hl))⟩
theorem Eh {P:Program} {f:FuncId} {fn:Func} {args:Array Value} {w:World} (hf:P.funcs[f]?=some fn) (hb:fn.body.isSome=true) (hn:(fn.name == "runtime.NumGoroutine")=false):(callFunc f args).run P w=.ok (.enter f args) w:=by
 have hb':fn.body.isNone=false:=by cases h:fn.body<;>simp_all
 have hp:(program:Sem Program).run P w=.ok P w:=rfl
 simp only[callFunc,Sem.run_bind,hp,Result.andThen_ok,hf,hn,hb']
 rfl
def y5:Array Value→Sem Value:=fun args=>do
 let (x,y,b) ←Extern.MathBitsCarry.three "Sub64" args
 pure (Extern.MathBitsCarry.pair ((x+Extern.MathBitsCarry.m64 - y - b) % Extern.MathBitsCarry.m64) (if x<y+b then 1 else 0))
theorem Q9 {fn:Func} (h:fn.name = "math/bits.Add64"):Extern.find fn=some add64Entry:=by
 obtain⟨name,origin,params,resultTypes⟩:=fn
 simp only at h;subst h
 kernel_rfl
theorem Q8 {fn:Func} (h:fn.name = "math/bits.Sub64"):Extern.find fn=some y5:=by
 obtain⟨name,origin,params,resultTypes⟩:=fn
 simp only at h;subst h
 kernel_rfl
theorem Qn {fn:Func} (h:fn.name = "math/bits.Add64") (ho:fn.origin = "math/bits.Add64" ∨ fn.origin = ""):Extern.findNext fn=none:=by
 obtain⟨name,origin,params,resultTypes⟩:=fn
 simp only at h ho;subst h
 rcases ho with ho|ho<;>subst ho<;>kernel_rfl
theorem Qm {fn:Func} (h:fn.name = "math/bits.Sub64") (ho:fn.origin = "math/bits.Sub64" ∨ fn.origin = ""):Extern.findNext fn=none:=by
 obtain⟨name,origin,params,resultTypes⟩:=fn
 simp only at h ho;subst h
 rcases ho with ho|ho<;>subst ho<;>kernel_rfl
theorem MQ {P:Program} (x y:Nat) {c:Nat} (hc:c≤1) (w:World) :
  (y5 #[.int .u64 (x:Int),.int .u64 (y:Int),.int .u64 (c:Int)]).run P w=.ok (.tuple #[.int .u64 (((x+18446744073709551616 - y - c) % 18446744073709551616:Nat):Int),.int .u64 ((if x<y+c then 1 else 0:Nat):Int)]) w:=by
 have:c=0∨c=1:=by omega
 rcases this with rfl|rfl<;>rfl
end Go.Id
