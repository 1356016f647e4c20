/-
  The ideal machine: code, on the model's machine.
-/
import Derived.Test.YtnnmjocmapilaaaGreatOutlierRisesAf
import Derived.Laws.Externs
import Derived.KernelRfl
import Derived.RowKit3
set_option linter.unusedVariables false
set_option linter.unusedSimpArgs false
set_option linter.defProp false
set_option linter.deprecated false
namespace Go.Id
open Go Go.RowKit
def zq:bN→List Item→List Item→Prop
 | .normal,k,k'=>k'=k
 | .exit i,k,k' => ∃k1,k'=.code (.exit i) :: k1∧exitTo i k1=exitTo i k
 | .ret,_,k' => ∃k1,k'=.code .ret :: k1
def qc (b:Frame) (rd:Option Nat) (m:Mp):Prop:=(b.roundOf=none∧rd=none) ∨ ∃l r s,rd=some l∧b.roundOf=some r∧m (2*l)=some (r,s)
variable {m:Mp}{b:Frame}
def qc.mono {rd:Option Nat} {m':Mp} (h:qc b rd m) (hm:m.le m'):qc b rd m':=by
 rcases h with h|⟨l,r,s,h1,h2,h3⟩
 ·exact .inl h
 ·exact .inr ⟨l,r,s,h1,h2,(hm _ _ h3).1⟩
def Ran (E:Env) (b:Frame) (B:Nat) (w0:World) (z:Nat) (nt:Nat) (cs:List Frame) (m:Mp) (h:IH) (w:World) (k0:List Item) (M:Machine) (e:bN) (fr':Fr) (h':IH):Prop :=
 ∃m' w' bQ ds' k',Steps E.P M (lone (on b bQ k' ds') cs w')∧zq e k0 k'∧dP m' fr' bQ∧nt≤bQ.size∧Rel B w0 m' h' w'∧Step m h w m' h' w'∧lg z m' h' w' ds'
def sY (E:Env) (run:Fr→IH→Out) (b:Frame) (rd:Option Nat) (B:Nat) (w0:World) (z nt:Nat) (cs:List Frame) (c:Code):Prop :=
 ∀(fr:Fr) (h:IH) (e:bN) (fr':Fr) (h':IH),run fr h=some (e,fr',h') → ∀(m:Mp) (w:World) (tmps:Array Value) (k:List Item) (ds:List Deferred),
  Rel B w0 m h w→dP m fr tmps→nt≤tmps.size→eH m h.n h'.n→qc b rd m→lg z m h w ds→z≤w.heap.size →
  Ran E b B w0 z nt cs m h w k (lone (on b tmps (.code c :: k) ds) cs w) e fr' h'
variable {h:IH}{cs:List Frame}{w:World}{fr':Fr}{w0:World}{B:Nat}{k0:List Item}{M:Machine}{h':IH}{nt:Nat}{e:bN}{z:Nat}{E:Env}
def Ran.first {M1:Machine} 
  (hs:Steps E.P M M1) (r:Ran E b B w0 z nt cs m h w k0 M1 e fr' h'):Ran E b B w0 z nt cs m h w k0 M e fr' h':=by
 obtain⟨m',w',bQ,ds',k',h1,h2⟩:=r
 exact⟨m',w',bQ,ds',k',hs.trans h1,h2⟩
def Ran.step {m1:Mp} {h1:IH} {w1:World} 
  (s:Step m h w m1 h1 w1) (r:Ran E b B w0 z nt cs m1 h1 w1 k0 M e fr' h'):Ran E b B w0 z nt cs m h w k0 M e fr' h':=by
 obtain⟨m',w',bQ,ds',k',a1,a2,a3,a4,a5,a6,a7⟩:=r
 exact⟨m',w',bQ,ds',k',a1,a2,a3,a4,a5,s.trans a6,a7⟩
section
variable {E:Env} {call:bU} {b:Frame} {rd:Option Nat} {B:Nat} {w0:World} {z nt:Nat} {cs:List Frame}
variable {e:bN}{k1 k:List Item}
def zq.out {k':List Item} (h:zq e k1 k') (hn:e≠.normal) (hx : ∀i,e=.exit i→exitTo i k1=exitTo i k):zq e k k':=by
 cases e with
 | normal=>exact absurd rfl hn
 | exit i=>obtain⟨k2,a,c⟩:=h;exact⟨k2,a,c.trans (hx i rfl)⟩
 | ret=>exact h
variable {h:IH}{m:Mp}{fr':Fr}{h':IH}{M:Machine}{w:World}
def Ran.out (r:Ran E b B w0 z nt cs m h w k1 M e fr' h') (hn:e≠.normal) (hx : ∀i,e=.exit i→exitTo i k1=exitTo i k) :
  Ran E b B w0 z nt cs m h w k M e fr' h':=by
 obtain⟨m',w',bQ,ds',k',a1,a2,a3⟩:=r
 exact⟨m',w',bQ,ds',k',a1,a2.out hn hx,a3⟩
variable {c:Code}
def GX {run:Fr→IH→Out} (cP : ∀fr h e fr' h',run fr h=some (e,fr',h')→h.n≤h'.n) (ih:sY E run b rd B w0 z nt cs c) : ∀(n:Nat) (fr:Fr) (h:IH) (e:bN) (fr':Fr) (h':IH),mJ run n fr h=some (e,fr',h') →
  ∀(m:Mp) (w:World) (tmps:Array Value) (k:List Item) (ds:List Deferred),Rel B w0 m h w→dP m fr tmps→nt≤tmps.size→eH m h.n h'.n→qc b rd m→lg z m h w ds→z≤w.heap.size →
   Ran E b B w0 z nt cs m h w k (lone (on b tmps (.code c :: .inLoop c :: k) ds) cs w) e fr' h'
 | 0,fr,h,e,fr',h',hr,m,w,tmps,k,ds,_,_,_,_,_,_,_=>by simp[mJ] at hr
 | n+1,fr,h,e,fr',h',hr,m,w,tmps,k,ds,R,hf,ht,hfr,hfo,hd,hz=>by
  rw[mJ] at hr
  split at hr
  ·rename_i fr1 h1 hx
   have n1:=cP _ _ _ _ _ hx
   have n2:=EW cP n _ _ _ _ _ hr
   obtain⟨m1,w1,cN,ds1,k1,a1,a2,a3,a4,a5,a6,a7⟩:=ih fr h .normal fr1 h1 hx m w tmps (.inLoop c :: k) ds R hf ht (hfr.sub (Nat.le_refl _) n2) hfo hd hz
   obtain rfl:k1=_:=a2
   refine .first (a1.trans (.one Cs)) (.step a6 ?_)
   exact GX cP ih n fr1 h1 e fr' h' hr m1 w1 cN k ds1 a5 a3 a4 (a6.fresh hfr) (hfo.mono a6.le) a7 (Nat.le_trans hz a6.size)
  ·rename_i i fr1 h1 hx
   cases hr
   exact(ih fr h _ _ _ hx m w tmps (.inLoop c :: k) ds R hf ht hfr hfo hd hz).out (by simp) (fun i _=>rfl)
  ·rename_i fr1 h1 hx
   cases hr
   exact(ih fr h _ _ _ hx m w tmps (.inLoop c :: k) ds R hf ht hfr hfo hd hz).out (by simp) (fun i _=>rfl)
  ·cases hr
variable {tmps:Array Value}{fr:Fr}
def dP.head (hf:dP m fr tmps) (fn:FuncId) (id:Nat):dP m (hP E fn id fr) tmps:=by
 unfold hP
 split
 ·intro t v hv
  rw[gE] at hv
  split at hv
  ·exact hf t v hv
  ·cases hv
 ·exact hf
def gZ {l:Nat} {r:ir} (hl:fx h l=some r):h.ext.get l=some (.loop r):=by
 unfold fx at hl
 split at hl
 ·rename_i r' hg;cases hl;exact hg
 ·cases hl
def mf.AP {l:ir} {l':Loop} (h:mf m l l') (he:uC l.pending=some e):(e=.normal∧l'.pending=none)∨(∃i,e=.exit i∧l'.pending=some (.exit i))∨(e=.ret∧l'.pending=some .ret):=by
 rw[h.pending]
 unfold uC at he
 split at he<;>first|(cases he;done)|skip
 ·rename_i hp;cases he;exact .inl ⟨rfl,hp⟩
 ·rename_i i hp;cases he;exact .inr (.inl ⟨i,rfl,hp⟩)
 ·rename_i hp;cases he;exact .inr (.inr ⟨rfl,hp⟩)
def GU (fP:kP E.P call) (cP:dE call) {f:Operand} {ps:Array Tmp} {a:Code}:sY E (fun fr h=>kG E call b.fn nt rd f ps.toList a c fr h) b rd B w0 z nt cs (.rangeFunc f ps a c):=by
 intro fr h e fr' h' hr m w tmps k ds R hf ht hfr hfo hd hz
 obtain⟨hro,rfl,fv,v,h1,r,hfv,hc,hl,hb,he,rfl⟩:=xY hr
 have hn1:(h.new (.loop { state:=.ready,pending:=none,fn:=b.fn,nt,fr:=fr',params:=ps.toList,assign:=a,body:=c })).n≤h1.n:=cP _ _ _ _ _ hc
 have yM:(h.new (.loop { state:=.ready,pending:=none,fn:=b.fn,nt,fr:=fr',params:=ps.toList,assign:=a,body:=c })).n=h.n+1:=rfl
 have hfr':eH m h.n h1.n:=hfr
 have laid : ∃wm mark dfs,(Instr.enterLoop b.fn tmps ps a c b.roundOf).run E.P w=.ok (wm.heap.size,mark) (wm.alloc (.loop { state:=.ready,pending:=none,fn:=b.fn,tmps,params:=ps,assign:=a,body:=c,defers:=dfs })) ∧
   Rel B w0 m h wm∧Step m h w m h wm∧lg z m h wm (mark ++ ds):=by
  rcases hfo with⟨h2,rfl⟩|⟨l,lr,s,rfl,h3,h4⟩
  ·have g:=R.ghost (.deferred (some []))
   refine⟨w.alloc (.deferred (some [])),[oj w.heap.size],w.heap.size,?_,g.1,g.2,hd.push R hz⟩
   rw[h2,run_enterLoop_outer,size_alloc];rfl
  ·simp only[pF,Option.isSome_iff_exists] at hro
   obtain⟨rl,hrl⟩:=hro
   have oP:=R.obj _ _ _ _ (gZ hrl) h4
   obtain⟨rfl,l',hl',jY⟩:=oP
   refine⟨w,[],l'.defers,?_,R,Step.refl _ _ _,hd⟩
   rw[h3]
   simp only[Instr.enterLoop,Sem.run_bind,run_getLoop hl',Result.andThen_ok,Sem.run_pure,run_newObj_alloc]
 obtain⟨wm,mark,dfs,hent,Rm,Sm,Dm⟩:=laid
 have hm0:m (2*h.n)=none:=hfr' h.n (Nat.le_refl _) (by omega)
 obtain⟨R1,S1⟩:=Rm.new (.loop { state:=.ready,pending:=none,fn:=b.fn,nt,fr:=fr',params:=ps.toList,assign:=a,body:=c })
  (.loop { state:=.ready,pending:=none,fn:=b.fn,tmps,params:=ps,assign:=a,body:=c,defers:=dfs }) (0,0) hm0
  ⟨rfl,_,by rw[heap_alloc,if_pos rfl],⟨rfl,rfl,rfl,hf,ht,rfl,rfl,rfl⟩⟩ rfl
 have S01:=Sm.trans S1
 have Dm1:=Dm.step S1
 have hρ:=sJ Rm hf
 have Yy:aG (m.upd (2*h.n) (wm.heap.size,0) (0,0)) (.func (.yield (2*h.n)) #[] #[]) (.func (.yield wm.heap.size) #[] #[]) :=
  aG.Fo ⟨0,Mp.bj _ _ _ _⟩ (.nil _) (.nil _)
 obtain⟨nx,hinv,halt⟩:=fP fv _ _ h1 v hc B w0 _ _ (iE tmps f) #[.func (.yield wm.heap.size) #[] #[]] R1 ((hρ f fv hfv).mono S1.le) (.cons Yy (.nil _)) (S01.fresh hfr')
 obtain⟨fr0,YT,bD⟩:=halt.resolve_left (by rintro⟨_,_,_,_,hint⟩;obtain⟨k,n,e⟩:=hint _ (List.mem_singleton.2 rfl);cases e)
 obtain⟨v',m2,w2,hv,R2,S2,R8⟩:=bD (on b tmps (.inRangeFunc wm.heap.size :: k) (mark ++ ds)) cs
 have hev:(on b tmps (.inRangeFunc wm.heap.size :: k) (mark ++ ds)).eval=iE tmps:=Fy _ _ _ _
 have st1:step E.P (lone (on b tmps (.code (.rangeFunc f ps a c) :: k) ds) cs w)=.next (lone fr0 (on b tmps (.inRangeFunc wm.heap.size :: k) (mark ++ ds) :: cs) (wm.alloc (.loop { state:=.ready,pending:=none,fn:=b.fn,tmps,params:=ps,assign:=a,body:=c,defers:=dfs }))):=by
  have Kf:(do let d ←resolve (on b tmps (.inRangeFunc wm.heap.size :: k) (mark ++ ds)).eval { callee:=.value f,args:=#[.const (.func (.yield wm.heap.size) #[] #[])],argTypes:=#[] } 0;invoke d.target d.args:Sem Next).run E.P
    (wm.alloc (.loop { state:=.ready,pending:=none,fn:=b.fn,tmps,params:=ps,assign:=a,body:=c,defers:=dfs }))=.ok nx (wm.alloc (.loop { state:=.ready,pending:=none,fn:=b.fn,tmps,params:=ps,assign:=a,body:=c,defers:=dfs })):=by
   rw[hev,show resolve (iE tmps) { callee:=.value f,args:=#[.const (.func (.yield wm.heap.size) #[] #[])],argTypes:=#[] } 0=Deferred.ofValue (iE tmps f) #[.func (.yield wm.heap.size) #[] #[]] from by simp[resolve,iE]]
   exact hinv
  simp only[on] at Kf
  refine step_lone_go ?_
  rcases YT with⟨f',as,rfl,rfl⟩|⟨l,f',ts,a',c',rfl,rfl⟩
  ·simp[stepG,stepG.exec,on,Sem.runT_eq,hent,GStep.bare_after,stepG.apply,Kf]
  ·simp[stepG,stepG.exec,on,Sem.runT_eq,hent,GStep.bare_after,stepG.apply,Kf]
 have hfin:(on b tmps (.inRangeFunc wm.heap.size :: k) (mark ++ ds)).finish v'=on b tmps (.endRangeFunc wm.heap.size :: k) (mark ++ ds):=rfl
 rw[hfin] at R8
 have hm2:m2 (2*h.n)=some (wm.heap.size,0):=(S2.le _ _ (Mp.bj _ _ _ _)).1
 obtain⟨_,l',hl',jY⟩:=R2.obj _ _ _ _ (gZ hl) hm2
 have rJ:(Instr.endLoop wm.heap.size).run E.P w2=.ok l'.pending (w2.putObj wm.heap.size (.loop { l' with state:=.exhausted })):=run_endLoop hl' (by rw[jY.state];exact hb)
 obtain⟨R3,S3⟩:=R2.setObj (o1:=.dead) (o':=.loop { l' with state:=.exhausted }) (gZ hl) rfl rfl hm2 rfl (fun _ _ _=>trivial)
 have st2:step E.P (lone (on b tmps (.endRangeFunc wm.heap.size :: k) (mark ++ ds)) cs w2)=.next (lone (on b tmps ((l'.pending.map Item.code).toList ++ k) (mark ++ ds)) cs (w2.putObj wm.heap.size (.loop { l' with state:=.exhausted }))) :=
  stepR_endRangeFunc (b:=b) (a:={ tmps:=tmps,defers:=mark ++ ds }) rJ
 refine⟨m2,_,tmps,mark ++ ds,_,(Steps.one st1).trans (R8.trans (.one st2)),?_,hf.mono (S01.trans S2).le,ht,R3,(S01.trans S2).trans S3,(Dm1.step S2).step S3⟩
 rcases jY.AP he with⟨rfl,hp⟩|⟨i,rfl,hp⟩|⟨rfl,hp⟩
 ·rw[hp];rfl
 ·rw[hp];exact⟨k,rfl,rfl⟩
 ·rw[hp];exact⟨k,rfl⟩
variable {ty1:TypeId}{af1:Array Edge}{ps2:String}{id:Nat}{af2:Array Edge}{es:List (Value×Value)}{it kb:Nat}{ps1:String}{ops:Array Oper}{nx more:Nat}{ty2:TypeId}
def QI {k:Nat} {seen:List Nat} {kk:List Item} {ds:List Deferred}
  (Ih:ops.toList = [⟨some nx,.next (.tmp it) false,ty1,ps1,af1,none⟩,⟨some more,.extract (.tmp nx) 0,ty2,ps2,af2,none⟩])
  (hok:Fb fr h it kb k es seen) (R:Rel B w0 m h w) (hf:dP m fr tmps) (ht:nt≤tmps.size) :
  ((∀i,i<es.length→i∈seen) ∧ ∀fr2,pM nt nx more (.tuple #[.bool false]) false fr=some fr2 →
   ∃w' bQ,Steps E.P (lone (on b tmps (.code (.region id ops false) :: kk) ds) cs w) (lone (on b bQ kk ds) cs w')∧dP m fr2 bQ∧nt≤bQ.size∧Rel B w0 m h w'∧Step m h w m h w') ∨
  ∃i x,i∉seen∧es[i]?=some x ∧ ∀fr2,pM nt nx more (.tuple #[.bool true,x.1,x.2]) true fr=some fr2 →
   ∃w' bQ,Steps E.P (lone (on b tmps (.code (.region id ops false) :: kk) ds) cs w) (lone (on b bQ kk ds) cs w')∧dP m fr2 bQ∧nt≤bQ.size ∧
    Rel B w0 m { h with ext:=h.ext.set kb (.iter k es.length (seen ++ [i]) es.length) } w'∧Step m h w m { h with ext:=h.ext.set kb (.iter k es.length (seen ++ [i]) es.length) } w':=by
 obtain⟨g1,g2,g3⟩:=hok
 obtain⟨v1,t1,hv1⟩:=hf it _ g1
 obtain⟨r,s,hm,rfl⟩:=hv1.kH
 obtain⟨rfl,rm,oP,hmk⟩:=R.obj kb _ r s g2 hm
 obtain⟨_,_,c,B5,hcm⟩:=R.CX g3 hmk
 have hρ:iE tmps (.tmp it)=.pointer (some ⟨r,0,none⟩):=by simp[iE,Array.getD_eq_getD_getElem?,t1]
 have o0:ops[0]?=some ⟨some nx,.next (.tmp it) false,ty1,ps1,af1,none⟩:=by rw[←Array.getElem?_toList,Ih];rfl
 have o1:ops[1]?=some ⟨some more,.extract (.tmp nx) 0,ty2,ps2,af2,none⟩:=by rw[←Array.getElem?_toList,Ih];rfl
 have hsz:ops.size=2:=by rw[←Array.length_toList,Ih];rfl
 have two : ∀(v v':Value) (bb:Bool) (w':World) (fr2:Fr),aG m v v'→(∃cs',v=.tuple cs'∧cs'[0]?=some (.bool bb))→(Instr.next (.pointer (some ⟨r,0,none⟩)) false ty1).run E.P w=.ok v' w'→pM nt nx more v bb fr=some fr2 →
   ∃bQ,Steps E.P (lone (on b tmps (.code (.region id ops false) :: kk) ds) cs w) (lone (on b bQ kk ds) cs w')∧dP m fr2 bQ∧nt≤bQ.size:=by
  intro v v' bb w' fr2 hv YE bD jE
  unfold pM at jE
  split at jE
  case h_2=>cases jE
  rename_i fra hpa
  obtain⟨hfa,hta⟩:=rM hpa hf ht hv
  obtain⟨hfb,htb⟩:=rM jE hfa hta (aG.bA (m:=m) (v:=.bool bb) rfl)
  obtain⟨cs',rfl,hc0⟩:=YE
  obtain⟨cs2,rfl,hL⟩:=hv.oE
  have cD:ab fra nx=some (.tuple cs'):=by
   unfold nh at hpa
   simp only[cond_eq_ite] at hpa
   split at hpa
   ·cases hpa;simp[ab]
   ·cases hpa
  obtain⟨v2,q1,q2⟩:=hfa nx _ cD
  obtain⟨u,q3,q4⟩:=hL.get (i:=0) (by simpa using hc0)
  have hu:=q4.cu rfl
  subst hu
  have hpt:(oc tmps (some nx) (.tuple cs2))[nx]?=some (.tuple cs2):=by
   have hlt:nx<tmps.size:=by
    unfold nh at hpa
    simp only[cond_eq_ite] at hpa
    split at hpa
    ·rename_i hb;have:nx+1≤nt:=by simpa [Nat.blt] using hb
     omega
    ·cases hpa
   simp[oc,hlt]
  have hρ2:iE (oc tmps (some nx) (.tuple cs2)) (.tmp nx)=.tuple cs2:=by simp[iE,Array.getD_eq_getD_getElem?,hpt]
  have q3':cs2[0]?=some (.bool bb):=by simpa using q3
  have e1:=qO (P:=E.P) (b:=b) (ds:=ds) (k:=kk) (cs:=cs) (tmps:=tmps) (ops:=ops) (i:=0) (rest:=[1]) (v:=.tuple cs2) (w:=w) (w':=w') o0 (by simp[Region.wanted]) (by simp) (by simp only[execOp,hρ,Sem.run_bind,bD,Result.andThen_ok,Sem.run_pure])
  have e2:=qO (P:=E.P) (b:=b) (ds:=ds) (k:=kk) (cs:=cs) (tmps:=oc tmps (some nx) (.tuple cs2)) (ops:=ops) (i:=1) (rest:=[]) (v:=.bool bb) (w:=w') (w':=w') o1 (by simp[Region.wanted]) (by simp) (by simp only[execOp,hρ2,Instr.extract,q3',Sem.run_bind,Result.andThen_ok,Sem.run_pure])
  refine⟨_,.head Cr (.head ?_ (.head e2 (.one nY))),hfb,htb⟩
  rw[hsz]
  exact e1
 rcases QU E.P hcm oP B5 ty1 with⟨eF,d,bD⟩|⟨i,e',d,hi,hci,bD⟩
 ·refine .inl ⟨eF,fun fr2 jE=>?_⟩
  obtain⟨bQ,a1,a2,a3⟩:=two _ _ false _ fr2 (aG.fI (.cons (.bA rfl) (.nil m))) ⟨_,rfl,rfl⟩ bD jE
  exact⟨_,bQ,a1,a2,a3,R.congr rfl (kj R.below d),(Step.refl m h { w with drawn:=d }).congr rfl⟩
 ·have hic:i<c.size:=by
   rcases Nat.lt_or_ge i c.size with h|h
   ·exact h
   ·rw[Array.getElem?_eq_none h] at hci;cases hci
  have hie:i<es.length:=by have:=hcm.1;omega
  have hE:=(hcm.2 i es[i] e' (List.getElem?_eq_getElem hie) hci).1
  refine .inr ⟨i,es[i],hi,List.getElem?_eq_getElem hie,fun fr2 jE=>?_⟩
  obtain⟨bQ,a1,a2,a3⟩:=two _ _ true _ fr2 (aG.fI (.cons (.bA rfl) (.cons (by rw[hE.1];exact aG.bV hE.2.1) (.cons hE.2.2 (.nil m))))) ⟨_,rfl,rfl⟩ bD jE
  obtain⟨R1,S1⟩:=(R.congr (w':={ w with drawn:=d }) rfl (kj R.below d)).setObj (o1:=.iter k es.length (seen ++ [i]) es.length) (o':=.mapIter (some rm) es.length (seen.toArray.push i) es.length) g2 rfl rfl hm rfl (fun w' z e=>⟨rfl,rm,by rw[e];simp,hmk⟩)
  exact⟨_,bQ,a1,a2,a3,R1,S1.congr rfl⟩
def Rel.kill (R:Rel B w0 m h w) {k0 a0 c0 r s:Nat} {b0:List Nat} (hk:h.ext.get kb=some (.iter k0 a0 b0 c0)) (hm:m (2*kb)=some (r,s)) :
  Rel B w0 m { h with ext:=h.ext.set kb .dead } w∧Step m h w m { h with ext:=h.ext.set kb .dead } w:=by
 obtain⟨_,rm,oP,_⟩:=R.obj kb _ r s hk hm
 have:=R.setObj (o1:=.dead) (o':=.mapIter (some rm) a0 b0.toArray c0) hk rfl rfl hm rfl (fun _ _ _=>trivial)
 rw[Rf oP] at this
 exact this
def Ran.kill {k0:List Item} {frl:Fr} {hl:IH} {rs:Nat×Nat} (hm:m (2*kb)=some rs) (r:Ran E b B w0 z nt cs m h w k0 M e frl hl) (hk : ∃k1 a1 b1 c1,hl.ext.get kb=some (.iter k1 a1 b1 c1))
  (hfr : ∀t v,ab fr' t=some v→ab frl t=some v):Ran E b B w0 z nt cs m h w k0 M e fr' { hl with ext:=hl.ext.set kb .dead }:=by
 obtain⟨m',w',bQ,ds',k',a1,a2,a3,a4,a5,a6,a7⟩:=r
 obtain⟨k1,x1,b1,c1,hk⟩:=hk
 obtain⟨R1,S1⟩:=a5.kill hk (a6.le _ _ hm).1
 exact⟨m',w',bQ,ds',k',a1,a2,fun t v hv=>a3 t v (hfr t v hv),a4,R1,a6.trans S1,a7.step S1⟩
variable {n:Nat}
def z8 {rest:Code} {k:Nat} 
  (Ih:ops.toList = [⟨some nx,.next (.tmp it) false,ty1,ps1,af1,none⟩,⟨some more,.extract (.tmp nx) 0,ty2,ps2,af2,none⟩])
  (cP : ∀fr h e fr' h',evC E call b.fn nt rd n rest fr h=some (e,fr',h')→h.n≤h'.n) (ih:sY E (evC E call b.fn nt rd n rest) b rd B w0 z nt cs rest) :
  ∀(q:Nat) (rem seen:List Nat) (fr:Fr) (h:IH),rem.length=q→(∀i,i∈rem↔i<es.length∧i∉seen)→rem.Nodup →
   (∀l:List Nat,l.Perm rem → ∃frl hl,eX (evC E call b.fn nt rd n rest) (hP E b.fn id) nt it nx more kb k es l seen fr h=some (e,frl,hl)∧(∃k0 a0 b0 c0,hl.ext.get kb=some (.iter k0 a0 b0 c0))∧h' = { hl with ext:=hl.ext.set kb .dead } ∧ ∀t v,ab fr' t=some v→ab frl t=some v) →
   ∀(m:Mp) (w:World) (tmps:Array Value) (kk:List Item) (ds:List Deferred) (rs:Nat×Nat),m (2*kb)=some rs→Rel B w0 m h w→dP m fr tmps→nt≤tmps.size→eH m h.n h'.n→qc b rd m→lg z m h w ds→z≤w.heap.size →
    Ran E b B w0 z nt cs m h w kk (lone (on b tmps (.code (.seq (.region id ops false) rest) :: .inLoop (.seq (.region id ops false) rest) :: kk) ds) cs w) e fr' h'
 | q,rem,seen,fr,h,hq,YF,hnd,eF,m,w,tmps,kk,ds,rs,hkb,R,hf,ht,hfr,hfo,hd,hz=>by
  have hok:Fb (hP E b.fn id fr) h it kb k es seen:=by
   obtain⟨frl,hl,h1,_⟩:=eF rem (List.Perm.refl _)
   unfold eX at h1
   split at h1
   all_goals
    split at h1
    ·assumption
    ·cases h1
  have hn' : ∀{l:List Nat} {frl:Fr} {hl:IH},eX (evC E call b.fn nt rd n rest) (hP E b.fn id) nt it nx more kb k es l seen fr h=some (e,frl,hl)→h.n≤hl.n:=fun hx=>nC cP _ _ _ _ _ _ _ hx
  rcases QI (E:=E) (b:=b) (cs:=cs) (nt:=nt) (id:=id) (kk:=.code rest :: .inLoop (.seq (.region id ops false) rest) :: kk) (ds:=ds) Ih hok R (hf.head b.fn id) ht with⟨hov,hst⟩|⟨i,x,hi,hx,hst⟩
  ·have hr0:rem = []:=by
    apply List.eq_nil_iff_forall_not_mem.2
    intro j hj
    obtain⟨h1,h2⟩:=(YF j).1 hj
    exact h2 (hov j h1)
   subst hr0
   obtain⟨frl,hl,h1,hit,hh',Vo⟩:=eF [] (List.Perm.refl _)
   subst hh'
   unfold eX at h1
   rw[if_pos hok] at h1
   split at h1
   ·cases h1
   ·rename_i fr2 jE
    obtain⟨w1,cN,s1,f1,t1,R1,S1⟩:=hst fr2 jE
    split at h1
    ·cases h1
    ·rename_i hnn
     refine .first (.head qP s1) (.step S1 ?_)
     have hR:=ih fr2 h e frl hl h1 m w1 cN (.inLoop (.seq (.region id ops false) rest) :: kk) ds R1 f1 t1 hfr hfo (hd.step S1) (Nat.le_trans hz S1.size)
     have hne:e≠.normal:=fun he=>by subst he;exact hnn _ _ h1
     exact(Ran.out (k:=kk) hR hne (fun i _=>rfl)).kill hkb hit Vo
  ·have hie:i<es.length:=by
    rcases Nat.lt_or_ge i es.length with h|h
    ·exact h
    ·rw[List.getElem?_eq_none h] at hx;cases hx
   have him:i∈rem:=(YF i).2 ⟨hie,hi⟩
   obtain⟨frl,hl,h1,hit,hh',Vo⟩:=eF (i :: rem.erase i) (List.perm_cons_erase him).symm
   have M3 : ∀l:List Nat,l.Perm (rem.erase i) → ∃frl hl,eX (evC E call b.fn nt rd n rest) (hP E b.fn id) nt it nx more kb k es (i :: l) seen fr h=some (e,frl,hl)∧(∃k0 a0 b0 c0,hl.ext.get kb=some (.iter k0 a0 b0 c0))∧h' = { hl with ext:=hl.ext.set kb .dead } ∧ ∀t v,ab fr' t=some v→ab frl t=some v :=
    fun l hl=>eF (i :: l) ((hl.cons i).trans (List.perm_cons_erase him).symm)
   have hhn:hl.n≤h'.n:=by rw[hh'];exact Nat.le_refl _
   simp only[eX,if_pos hok,hx] at h1 M3
   cases jE:pM nt nx more (.tuple #[.bool true,x.1,x.2]) true (hP E b.fn id fr) with
   | none=>simp[jE] at h1
   | some fr2 =>
    simp only[jE] at h1 M3
    obtain⟨w1,cN,s1,f1,t1,R1,S1⟩:=hst fr2 jE
    refine .first (.head qP s1) (.step S1 ?_)
    cases yf:evC E call b.fn nt rd n rest fr2 { h with ext:=h.ext.set kb (.iter k es.length (seen ++ [i]) es.length) } with
    | none=>simp[yf] at h1
    | some o =>
     obtain⟨e1,fr3,h3⟩:=o
     have hn3:=cP _ _ _ _ _ yf
     cases e1 with
     | normal =>
      simp only[yf] at h1 M3
      have hn4:=nC cP _ _ _ _ _ _ _ h1
      obtain⟨m2,w2,Cp,ds2,k2,b1,b2,b3,b4,b5,b6,b7⟩:=ih fr2 _ _ _ _ yf m w1 cN (.inLoop (.seq (.region id ops false) rest) :: kk) ds R1 f1 t1 (hfr.sub (Nat.le_refl _) (Nat.le_trans hn4 hhn)) hfo (hd.step S1) (Nat.le_trans hz S1.size)
      obtain rfl:k2=_:=b2
      refine .first (b1.trans (.one Cs)) (.step b6 ?_)
      have hlen:(rem.erase i).length<q:=by
       rw[List.length_erase_of_mem him,hq]
       have:0<rem.length:=List.length_pos_of_mem him
       omega
      refine z8 Ih cP ih (rem.erase i).length (rem.erase i) (seen ++ [i]) fr3 h3 rfl (fun j=>?_) (hnd.erase i) M3 m2 w2 Cp kk ds2 rs (b6.le _ _ hkb).1 b5 b3 b4 (b6.fresh hfr) (hfo.mono b6.le) b7 (Nat.le_trans (Nat.le_trans hz S1.size) b6.size)
      rw[hnd.mem_erase_iff,YF j]
      simp only[List.mem_append,List.mem_singleton]
      constructor
      ·rintro⟨h1,h2,h3⟩;exact⟨h2,fun hh=>hh.elim h3 h1⟩
      ·rintro⟨h2,h3⟩;exact⟨fun hh=>h3 (.inr hh),h2,fun hh=>h3 (.inl hh)⟩
     | exit j =>
      simp only[yf] at h1
      cases h1
      subst hh'
      have hR:=ih fr2 _ _ _ _ yf m w1 cN (.inLoop (.seq (.region id ops false) rest) :: kk) ds R1 f1 t1 hfr hfo (hd.step S1) (Nat.le_trans hz S1.size)
      exact(Ran.out (k:=kk) hR (by simp) (fun i _=>rfl)).kill hkb hit Vo
     | ret =>
      simp only[yf] at h1
      cases h1
      subst hh'
      have hR:=ih fr2 _ _ _ _ yf m w1 cN (.inLoop (.seq (.region id ops false) rest) :: kk) ds R1 f1 t1 hfr hfo (hd.step S1) (Nat.le_trans hz S1.size)
      exact(Ran.out (k:=kk) hR (by simp) (fun i _=>rfl)).kill hkb hit Vo
 termination_by q=>q
 decreasing_by omega
def HI {ops:List Oper} {draw:Bool} (h:rA ops draw=some (it,nx,more)):draw=false ∧ ∃ty1 ps1 af1 ty2 ps2 af2,ops = [⟨some nx,.next (.tmp it) false,ty1,ps1,af1,none⟩,⟨some more,.extract (.tmp nx) 0,ty2,ps2,af2,none⟩]:=by
 unfold rA at h
 split at h
 case h_2=>cases h
 simp only[cond_eq_ite,beq_iff_eq] at h
 split at h
 ·rename_i hx
  cases h
  subst hx
  exact⟨rfl,_,_,_,_,_,_,rfl⟩
 ·cases h
def GW {p:Nat×Nat×Nat×Nat×Code} (hp:rK c=some p) (cP : ∀fr h e fr' h',evC E call b.fn nt rd n p.2.2.2.2 fr h=some (e,fr',h')→h.n≤h'.n) (ih:sY E (evC E call b.fn nt rd n p.2.2.2.2) b rd B w0 z nt cs p.2.2.2.2)
  (hx:sL (evC E call b.fn nt rd n p.2.2.2.2) (hP E b.fn p.1) nt p.2.1 p.2.2.1 p.2.2.2.1 fr h=some (e,fr',h')) (m:Mp) (w:World) (tmps:Array Value) (k:List Item) (ds:List Deferred)
  (R:Rel B w0 m h w) (hf:dP m fr tmps) (ht:nt≤tmps.size) (hfr:eH m h.n h'.n) (hfo:qc b rd m) (hd:lg z m h w ds) (hz:z≤w.heap.size) :
  Ran E b B w0 z nt cs m h w k (lone (on b tmps (.code c :: .inLoop c :: k) ds) cs w) e fr' h':=by
 unfold rK at hp
 split at hp
 case h_2=>cases hp
 rename_i id ops draw rest
 obtain⟨⟨it,nx,more⟩,hno,rfl⟩:=Option.map_eq_some_iff.1 hp
 obtain⟨rfl,ty1,ps1,af1,ty2,ps2,af2,Ih⟩:=HI hno
 simp only at hx cP ih
 obtain⟨kb,k0,since,seen0,last,es,g1,g2,g3,eF⟩:=vI hx
 obtain⟨v1,t1,hv1⟩:=(hf.head b.fn id) it _ g1
 obtain⟨r,s,hm,rfl⟩:=hv1.kH
 exact z8 Ih cP ih _ (List.range es.length) [] fr h rfl (fun i=>by simp) List.nodup_range eF m w tmps k ds (r,s) hm R hf ht hfr hfo hd hz
def vd (fP:kP E.P call) (cP:dE call) (YM:E.P.follows .mixedOrders=true) (n:Nat) : ∀(c:Code),sY E (evC E call b.fn nt rd n c) b rd B w0 z nt cs c:=by
 intro c
 induction c using LI with
 | h c IH =>
 cases c with
 | skip =>
  intro fr h e fr' h' hr m w tmps k ds R hf ht hfr hfo hd hz
  simp only[evC] at hr;cases hr
  exact⟨m,w,tmps,ds,k,.one Ul,rfl,hf,ht,R,Step.refl _ _ _,hd⟩
 | label l =>
  intro fr h e fr' h' hr m w tmps k ds R hf ht hfr hfo hd hz
  simp only[evC] at hr;cases hr
  exact⟨m,w,tmps,ds,k,.one QC,rfl,hf,ht,R,Step.refl _ _ _,hd⟩
 | region id ops draw =>
  intro fr h e fr' h' hr m w tmps k ds R hf ht hfr hfo hd hz
  simp only[evC] at hr
  split at hr
  ·rename_i fr1 h1 hx
   cases hr
   cases draw with
   | true =>
    rw[cond_true] at hx
    obtain⟨_,m',w',bQ,a1,a2,a3,a4,a5⟩:=N9 fP cP YM hx R (hf.head b.fn id) ht hfr b k ds cs id
    exact⟨m',w',bQ,ds,k,a1,rfl,a2,a3,a4,a5,hd.step a5⟩
   | false =>
    rw[cond_false] at hx
    obtain⟨m',w',bQ,a1,a2,a3,a4,a5⟩:=En fP cP b k ds cs ops.toList 0 _ _ _ _ m w tmps rfl hx R (hf.head b.fn id) ht hfr
    rw[←List.range_eq_range',Array.length_toList] at a1
    exact⟨m',w',bQ,ds,k,.head Cr a1,rfl,a2,a3,a4,a5,hd.step a5⟩
  ·cases hr
 | seq x y =>
  have ihx:=IH x (by simp<;>omega)
  have ihy:=IH y (by simp<;>omega)
  intro fr h e fr' h' hr m w tmps k ds R hf ht hfr hfo hd hz
  simp only[evC] at hr
  split at hr
  ·rename_i fr1 h1 hx
   have n1:=tM cP _ _ _ _ _ _ hx
   have n2:=tM cP _ _ _ _ _ _ hr
   obtain⟨m1,w1,cN,ds1,k1,a1,a2,a3,a4,a5,a6,a7⟩:=ihx fr h .normal fr1 h1 hx m w tmps (.code y :: k) ds R hf ht (hfr.sub (Nat.le_refl _) n2) hfo hd hz
   obtain rfl:k1=_:=a2
   refine .first (.head qP a1) (.step a6 ?_)
   exact ihy fr1 h1 e fr' h' hr m1 w1 cN k ds1 a5 a3 a4 (a6.fresh hfr) (hfo.mono a6.le) a7 (Nat.le_trans hz a6.size)
  ·rename_i hx
   cases hr
   exact .first (.one qP) ((ihx fr h _ _ _ hx m w tmps (.code y :: k) ds R hf ht hfr hfo hd hz).out (by simp) (fun i _=>rfl))
  ·rename_i hx
   cases hr
   exact .first (.one qP) ((ihx fr h _ _ _ hx m w tmps (.code y :: k) ds R hf ht hfr hfo hd hz).out (by simp) (fun i _=>rfl))
  ·cases hr
 | cond x a c =>
  have iha:=IH a (by simp<;>omega)
  have ihc:=IH c (by simp<;>omega)
  intro fr h e fr' h' hr m w tmps k ds R hf ht hfr hfo hd hz
  simp only[evC] at hr
  have hρ:=sJ R hf
  split at hr
  ·rename_i hx
   have hv:=(hρ x _ hx).cu rfl
   exact .first (.one (LG hv)) (iha fr h _ _ _ hr m w tmps k ds R hf ht hfr hfo hd hz)
  ·rename_i hx
   have hv:=(hρ x _ hx).cu rfl
   exact .first (.one (LG hv)) (ihc fr h _ _ _ hr m w tmps k ds R hf ht hfr hfo hd hz)
  ·cases hr
 | block id c =>
  have ih:=IH c (by simp<;>omega)
  intro fr h e fr' h' hr m w tmps k ds R hf ht hfr hfo hd hz
  simp only[evC,cond_eq_ite] at hr
  split at hr
  ·rename_i i fr1 h1 hx
   split at hr
   ·rename_i hi
    have hi':i=id:=by simpa using hi
    subst hi'
    cases hr
    obtain⟨m1,w1,cN,ds1,k1,a1,a2,a3⟩:=ih fr h _ _ _ hx m w tmps (.inBlock i :: k) ds R hf ht hfr hfo hd hz
    obtain⟨k2,rfl,hk2⟩:=a2
    exact⟨m1,w1,cN,ds1,k,.head uX (a1.trans (.one (Um (by rw[hk2];simp[exitTo])))),rfl,a3⟩
   ·rename_i hi
    cases hr
    refine .first (.one uX) ((ih fr h _ _ _ hx m w tmps (.inBlock id :: k) ds R hf ht hfr hfo hd hz).out (by simp) (fun j hj=>?_))
    cases hj
    have:(id == i)=false:=by
     simp only[beq_eq_false_iff_ne,ne_eq];rintro rfl;simp at hi
    simp[exitTo,this]
  ·rename_i fr1 h1 hx
   cases hr
   obtain⟨m1,w1,cN,ds1,k1,a1,a2,a3⟩:=ih fr h _ _ _ hx m w tmps (.inBlock id :: k) ds R hf ht hfr hfo hd hz
   obtain rfl:k1=_:=a2
   exact⟨m1,w1,cN,ds1,k,.head uX (a1.trans (.one Jj)),rfl,a3⟩
  ·rename_i fr1 h1 hx
   cases hr
   exact .first (.one uX) ((ih fr h _ _ _ hx m w tmps (.inBlock id :: k) ds R hf ht hfr hfo hd hz).out (by simp) (fun j hj=>by cases hj))
  ·cases hr
 | loop c =>
  have ih:=IH c (by simp<;>omega)
  intro fr h e fr' h' hr m w tmps k ds R hf ht hfr hfo hd hz
  rw[Bf] at hr
  split at hr
  ·rename_i p hp
   exact .first (.one LF) (GW hp (fun fr h e fr' h' hx=>tM cP _ fr h e fr' h' hx) (IH _ (Nat.lt_trans (ye hp) (by simp<;>omega))) hr m w tmps k ds R hf ht hfr hfo hd hz)
  exact .first (.one LF) (GX (fun fr h e fr' h' hx=>tM cP c fr h e fr' h' hx) ih n fr h e fr' h' hr m w tmps k ds R hf ht hfr hfo hd hz)
 | scope c =>
  have ih:=IH c (by simp<;>omega)
  intro fr h e fr' h' hr m w tmps k ds R hf ht hfr hfo hd hz
  simp only[evC] at hr
  obtain⟨m1,w1,cN,ds1,k1,a1,a2,a3⟩:=ih fr h _ _ _ hr m w tmps (.inScope c :: k) ds R hf ht hfr hfo hd hz
  cases e with
  | normal =>
   obtain rfl:k1=_:=a2
   exact⟨m1,w1,cN,ds1,k,.head zW (a1.trans (.one Ji)),rfl,a3⟩
  | exit i=>exact⟨m1,w1,cN,ds1,k1,.head zW a1,a2.out (by simp) (fun j _=>rfl),a3⟩
  | ret=>exact⟨m1,w1,cN,ds1,k1,.head zW a1,a2,a3⟩
 | rangeFunc f ps a c =>
  intro fr h e fr' h' hr
  simp only[evC] at hr
  exact GU fP cP fr h e fr' h' hr
 | exit i =>
  intro fr h e fr' h' hr m w tmps k ds R hf ht hfr hfo hd hz
  simp only[evC] at hr;cases hr
  exact⟨m,w,tmps,ds,_,.refl _ _,⟨k,rfl,rfl⟩,hf,ht,R,Step.refl _ _ _,hd⟩
 | ret =>
  intro fr h e fr' h' hr m w tmps k ds R hf ht hfr hfo hd hz
  simp only[evC] at hr;cases hr
  exact⟨m,w,tmps,ds,_,.refl _ _,⟨k,rfl⟩,hf,ht,R,Step.refl _ _ _,hd⟩
 | goto i=>intro fr h e fr' h' hr;simp only[evC] at hr;cases hr
 | refuse i=>intro fr h e fr' h' hr;simp only[evC] at hr;cases hr
end
variable {h:IH}{m:Mp}{w0:World}{P:Program}{B:Nat}
def pf {z:Nat} (hB:B≤z) : ∀(rs:List Nat) (fr:Frame) (cs:List Frame) (w:World),fr.mode=.returning→fr.defers=rs.map oj→rs.Nodup →
  (∀r∈rs,z≤r∧w.heap[r]?=some (.deferred (some [])) ∧ ∀k s,k<h.n→m (2*k)≠some (r,s))→Rel B w0 m h w →
  ∃w',Steps P (lone fr cs w) (lone { fr with defers:=[] } cs w')∧Rel B w0 m h w'∧w'.heap.size=w.heap.size ∧ ∀r,r∉rs→w'.heap[r]?=w.heap[r]?
 | [],fr,cs,w,hm,hd,_,_,R=>by
  have:({ fr with defers:=[] }:Frame)=fr:=by cases fr;simp at hd;subst hd;rfl
  exact⟨w,by rw[this];exact .refl _ _,R,rfl,fun _ _=>rfl⟩
 | r :: rs,fr,cs,w,hm,hd,hn,hr,R=>by
  obtain⟨a1,a2,a3⟩:=hr r (by simp)
  have hst:=step_collected (P:=P) (fr:=fr) (cs:=cs) (d:=oj r) (r:=r) (ds:=rs.map oj) (by rw[hm];simp) (by rw[hd];rfl) rfl (run_takeDeferred a2)
  have Fg : ∀r',r'≠r→(w.putObj r (.deferred none)).heap[r']?=w.heap[r']?:=fun r' h'=>World.putObj_heap_other h'
  have R1:Rel B w0 m h (w.putObj r (.deferred none)):=by
   refine R.aa (sW R.below (by omega) _) (by simp) ?_
   rintro r' (h1|⟨k,s,h1,h2⟩)
   ·exact Fg r' (by omega)
   ·exact Fg r' (by rintro rfl;exact a3 k s h1 h2)
  obtain⟨w',b1,b2,b3,b4⟩:=pf hB rs { fr with defers:=[] ++ rs.map oj } cs (w.putObj r (.deferred none)) hm rfl (List.nodup_cons.1 hn).2 (fun r' h'=>by
   obtain⟨c1,c2,c3⟩:=hr r' (by simp[h'])
   exact⟨c1,by rw[Fg r' (by rintro rfl;exact(List.nodup_cons.1 hn).1 h')];exact c2,c3⟩) R1
  refine⟨w',.head hst b1,b2,by rw[b3];simp,fun r' h'=>?_⟩
  rw[b4 r' (fun h=>h' (by simp[h])),Fg r' (fun h=>h' (by simp[h]))]
def Aj (tmps:Array Value):ResultVar→Sem Value
 | .tmp t=>pure (tmps.getD t undef)
 | .cell a t=>do loadVar t (←Go.asAddr (tmps.getD a undef))
theorem Jw (fn:Func) (tmps:Array Value):results fn tmps=(do let vs ←fn.results.mapM (Aj tmps);pure (if h:vs.size=1 then vs[0] else .tuple vs)):=by
 unfold results
 congr 1
variable {v:Value}{tmps:Array Value}{fr:Fr}{w:World}
def Ev (R:Rel B w0 m h w) (hf:dP m fr tmps) {rv:ResultVar} (hr:gW P fr h rv=some v) :
  ∃v',(Aj tmps rv).run P w=.ok v' w∧aG m v v':=by
 cases rv with
 | tmp t =>
  obtain⟨v',h1,h2⟩:=hf t v hr
  exact⟨v',by simp[Aj,Array.getD_eq_getD_getElem?,h1,Sem.run_pure],h2⟩
 | cell a t =>
  simp only[gW] at hr
  split at hr
  ·rename_i va hva
   obtain⟨va',h1,h2⟩:=hf a va hva
   obtain⟨v',h3,h4⟩:=R.load hr h2
   refine⟨v',?_,h4⟩
   have hp : ∃b o,va=.pointer (some ⟨b,o,none⟩):=by
    unfold Id.load at hr
    cases hA:Id.asAddr va with
    | none=>simp[hA] at hr
    | some bo=>unfold Id.asAddr at hA;split at hA<;>simp_all
   obtain⟨b,o,rfl⟩:=hp
   obtain⟨r,s,_,rfl⟩:=h2.kH
   simp only[Aj,Array.getD_eq_getD_getElem?,h1,Option.getD_some]
   simpa [Instr.loadAt,Instr.sureAddr,Go.asAddr,Sem.run_bind,Sem.run_pure] using h3
  ·cases hr
def tE (R:Rel B w0 m h w) (hf:dP m fr tmps) : ∀(l:List ResultVar) (vs:List Value),bf P fr h l=some vs →
  ∃vs',(l.mapM (Aj tmps)).run P w=.ok vs' w∧bw m vs vs'
 | [],vs,hr=>by simp only[bf] at hr;cases hr;exact⟨[],by simp[Sem.run_pure],.nil m⟩
 | rv :: l,vs,hr=>by
  rw[bf] at hr
  split at hr
  ·rename_i v vs1 h1 h2
   cases hr
   obtain⟨v',a1,a2⟩:=Ev R hf h1
   obtain⟨vs',b1,b2⟩:=tE R hf l vs1 h2
   refine⟨v' :: vs',?_,.cons a2 b2⟩
   rw[List.mapM_cons]
   simp only[Sem.run_bind,Sem.run_pure]
   rw[a1]
   simp only[Result.andThen_ok]
   rw[b1]
   simp only[Result.andThen_ok]
  ·cases hr
variable {vs:List Value}
def Jn {vs':List Value} (h:bw m vs vs'):aG m (single vs) (if h:vs'.toArray.size=1 then vs'.toArray[0] else .tuple vs'.toArray):=by
 have hl:=h.1
 match vs,vs',h,hl with
 | [],[],h,_=>exact aG.fI h
 | [v],[v'],h,_=>exact h.2 0 v v' rfl rfl
 | v :: u :: vs,v' :: u' :: vs',h,_ =>
  have : ¬(v' :: u' :: vs').toArray.size=1:=by simp
  rw[dif_neg this]
  exact aG.fI h
variable {fn:Func}
def xV (R:Rel B w0 m h w) (hf:dP m fr tmps) (hr:bf P fr h fn.results.toList=some vs) :
  ∃v',(results fn tmps).run P w=.ok v' w∧aG m (single vs) v':=by
 obtain⟨vs',h1,h2⟩:=tE R hf _ _ hr
 refine⟨_,?_,Jn h2⟩
 rw[Jw,Sem.run_bind,Array.mapM_eq_mapM_toList,map_eq_pure_bind,Sem.run_bind,h1]
 simp only[Result.andThen_ok,Sem.run_pure]
def kO (P:Program) (f:FuncId) (args:Array Value) (B:Nat) (w0:World) (m:Mp) (h:IH) (w:World) (v:Value) (h':IH):Prop :=
 Calls P f args w fun e w' => ∃v' m',e=.returned v'∧aG m' v v'∧Rel B w0 m' h' w'∧Step m h w m' h' w'
structure Sound (E:Env):Prop where
 mixed:E.P.follows .mixedOrders=true
 names : ∀(f:FuncId) (fn:Func),E.P.funcs[f]?=some fn→fn.body.isSome=true→(fn.name == "runtime.NumGoroutine")=false
 origin : ∀(f:FuncId) (fn:Func),E.P.funcs[f]?=some fn→fn.body=none → ∀{args:List Value} {v:Value},mW fn.name args=some v→fn.origin=fn.name∨fn.origin = ""
 Ia : ∀f g,E.tk f=some g → ∀args h v h',g args h=some (v,h')→h.n≤h'.n
 tk : ∀f g,E.tk f=some g→(∃fn,E.P.funcs[f]?=some fn∧fn.body.isSome=true) ∧ ∀args h v h',g args h=some (v,h') → ∀(B:Nat) (w0:World) (m:Mp) (w:World) (args':Array Value),
  Rel B w0 m h w→bw m args args'.toList→eH m h.n h'.n→kO E.P f args' B w0 m h w v h'
theorem pU : ∀(l:List Value) (i t:Nat),ab (dL i l) t=if i≤t then l[t - i]? else none
 | [],i,t=>by simp[dL,ab]
 | v :: l,i,t=>by
  simp only[dL,ab,cond_eq_ite,beq_iff_eq,pU l (i+1) t]
  by_cases h1:i=t
  ·subst h1;simp
  ·by_cases h2:i≤t
   ·rw[if_neg h1,if_pos h2,if_pos (by omega),show t - i=(t - (i+1))+1 from by omega,List.getElem?_cons_succ]
   ·rw[if_neg h1,if_neg h2,if_neg (by omega)]
variable {f:FuncId}{h':IH}{call:bU}{n:Nat}{E:Env}
def To (S:Sound E) (cP:dE call) {args:List Value} (hr:ov E call n f args h=some (v,h')):h.n≤h'.n:=by
 unfold ov at hr
 split at hr
 ·rename_i g hg;exact S.Ia _ _ hg _ _ _ _ hr
 ·split at hr
  ·cases hr
  ·split at hr
   ·obtain⟨vs,_,e⟩:=Option.map_eq_some_iff.1 hr
    cases e
    exact Nat.le_refl _
   ·simp only[cond_eq_ite] at hr
    split at hr
    ·split at hr
     ·cases hr
     ·rename_i fr1 h1 _ hx
      obtain⟨vs,_,e⟩:=Option.map_eq_some_iff.1 hr
      cases e
      exact tM cP _ _ _ _ _ _ hx
     ·cases hr
    ·cases hr
def uF (S:Sound E) (fP:kP E.P call) (cP:dE call) {args:List Value} (hr:ov E call n f args h=some (v,h'))
  {args':Array Value} (R:Rel B w0 m h w) (gj:bw m args args'.toList) (hfr:eH m h.n h'.n) :
  ((∃fn,E.P.funcs[f]?=some fn∧fn.body.isSome=true)∧kO E.P f args' B w0 m h w v h')∨(∃fn,E.P.funcs[f]?=some fn∧fn.body=none∧h'=h∧mW fn.name args=some v):=by
 unfold ov at hr
 split at hr
 ·rename_i g hg
  obtain⟨h1,h2⟩:=S.tk f g hg
  exact .inl ⟨h1,h2 args h v h' hr B w0 m w args' R gj hfr⟩
 ·split at hr
  ·cases hr
  ·rename_i fn hfn
   split at hr
   ·rename_i hbn
    obtain⟨vs,hv,e⟩:=Option.map_eq_some_iff.1 hr
    cases e
    exact .inr ⟨fn,hfn,hbn,rfl,hv⟩
   ·rename_i c hc
    refine .inl ⟨⟨fn,hfn,by rw[hc];rfl⟩,?_⟩
    simp only[cond_eq_ite] at hr
    split at hr
    ·rename_i hlen
     have MW:args.length≤fn.ntmps:=by simpa using hlen
     have hsz:args'.size=args.length:=by rw[gj.1];simp
     split at hr
     ·cases hr
     ·rename_i e fr1 h1 hne hx
      obtain⟨vs,hvs,he⟩:=Option.map_eq_some_iff.1 hr
      cases he
      intro cs
      let b:Frame:={ fn:=f,tmps:=#[],todo:=[],defers:=[],mode:=.run,kind:=.normal,roundOf:=none }
      let tmps:Array Value:=args' ++ Array.replicate (fn.ntmps - args'.size) undef
      have hen:Frame.enter E.P f args' .normal=on b tmps [.code c] []:=by
       simp[Frame.enter,hfn,hc,on,b,tmps]
      have R7:dP m (dL 0 args) tmps:=by
       intro t u hu
       rw[pU] at hu
       simp only[Nat.zero_le,if_true,Nat.sub_zero] at hu
       obtain⟨u',h2,h3⟩:=gj.get hu
       have h4:args'[t]?=some u':=by simpa using h2
       refine⟨u',?_,h3⟩
       have:=(Array.getElem?_eq_some_iff.1 h4).1
       rw[Array.getElem?_append_left this,h4]
      have YB:fn.ntmps≤tmps.size:=by simp[tmps];omega
      obtain⟨m1,w1,cN,ds1,k1,a1,a2,a3,a4,a5,a6,a7⟩:=vd (b:=b) (rd:=none) (z:=w.heap.size) (cs:=cs) fP cP S.mixed n c _ _ _ _ _ hx m w tmps [] [] R R7 YB hfr (.inl ⟨rfl,rfl⟩) (lg.nil _ _ _ _) (Nat.le_refl _)
      obtain⟨rs,d1,d2,d3⟩:=a7
      have uy : ∃todo,step E.P (lone (on b cN k1 ds1) cs w1)=.next (lone { on b cN todo ds1 with mode:=.returning } cs w1):=by
       cases e with
       | normal=>obtain rfl:k1=_:=a2;exact⟨_,stepR_end (b:=b) (a:=⟨cN,ds1⟩) rfl⟩
       | exit i=>exact absurd rfl (hne i)
       | ret=>obtain⟨k2,rfl⟩:=a2;exact⟨_,stepR_ret (b:=b) (a:=⟨cN,ds1⟩) rfl⟩
      obtain⟨todo,uy⟩:=uy
      obtain⟨w2,b1,b2,b3,b4⟩:=pf (P:=E.P) R.size rs { on b cN todo ds1 with mode:=.returning } cs w1 rfl d1 d2 d3 a5
      obtain⟨v',r1,r2⟩:=xV b2 a3 hvs
      refine⟨.returned v',w2,{ on b cN todo ds1 with mode:=.returning,defers:=[] },⟨v',m1,rfl,r2,b2,?_⟩,?_,?_,?_⟩
      ·refine⟨a6.le,a6.new,a6.n,a6.base,fun r hr hk=>?_,a6.idle,by rw[b3];exact a6.size,a6.img,a6.nJ⟩
       rw[b4 r (fun hm=>by have:=(d3 r hm).1;omega)]
       exact a6.frame r hr hk
      ·exact(by rw[hen];exact a1.trans (.head uy b1):Steps E.P (lone (Frame.enter E.P f args' .normal) cs w) _)
      ·rfl
      ·exact⟨rfl,rfl,rfl,fn,hfn,r1⟩
     ·cases hr
    ·cases hr
variable {args:Array Value}
def kO.run (H:kO P f args B w0 m h w v h') (c:Frame) (cs:List Frame) :
  ∃v' m' w',aG m' v v'∧Rel B w0 m' h' w'∧Step m h w m' h' w'∧Steps P (lone (Frame.enter P f args .normal) (c :: cs) w) (lone (c.finish v') cs w'):=by
 obtain⟨e,w',fr,⟨v',m',rfl,h1,h2,h3⟩,hc,_,hl⟩:=H (c :: cs)
 exact⟨v',m',w',h1,h2,h3,Steps.trans hc (.one (step_leave_returned hl))⟩
def FI (hf:P.funcs[f]?=some fn) (hb:fn.body.isSome=true) (hn:(fn.name == "runtime.NumGoroutine")=false):(callFunc f args).run P w=.ok (.enter f args) w:=by
 have hb':fn.body.isNone=false:=by cases h:fn.body<;>simp_all
 have hp:(program:Sem Program).run P w=.ok P w:=rfl
 simp only[callFunc,Sem.run_bind,hp,Result.andThen_ok,hf,hn,hb']
 rfl
def zT:Array Value→Sem Value:=fun args=>do
 let (x,y,b) ←Extern.MathBitsCarry.three "Sub64" args
 pure (Extern.MathBitsCarry.pair ((x+Extern.MathBitsCarry.m64 - y - b) % Extern.MathBitsCarry.m64) (if x<y+b then 1 else 0))
def Su (h:fn.name = "math/bits.Add64"):Extern.find fn=some add64Entry:=by
 obtain⟨name,origin,params,resultTypes⟩:=fn
 simp only at h;subst h
 kernel_rfl
def St (h:fn.name = "math/bits.Sub64"):Extern.find fn=some zT:=by
 obtain⟨name,origin,params,resultTypes⟩:=fn
 simp only at h;subst h
 kernel_rfl
def RF (h:fn.name = "math/bits.Add64") (ho:fn.origin = "math/bits.Add64" ∨ fn.origin = ""):Extern.findNext fn=none:=by
 obtain⟨name,origin,params,resultTypes⟩:=fn
 simp only at h ho;subst h
 rcases ho with ho|ho<;>subst ho<;>kernel_rfl
def RE (h:fn.name = "math/bits.Sub64") (ho:fn.origin = "math/bits.Sub64" ∨ fn.origin = ""):Extern.findNext fn=none:=by
 obtain⟨name,origin,params,resultTypes⟩:=fn
 simp only at h ho;subst h
 rcases ho with ho|ho<;>subst ho<;>kernel_rfl
theorem Oh (x y:Nat) {c:Nat} (hc:c≤1) (w:World) :
  (zT #[.int .u64 (x:Int),.int .u64 (y:Int),.int .u64 (c:Int)]).run P w=.ok (.tuple #[.int .u64 (((x+18446744073709551616 - y - c) % 18446744073709551616:Nat):Int),.int .u64 ((if x<y+c then 1 else 0:Nat):Int)]) w:=by
 have:c=0∨c=1:=by omega
 rcases this with rfl|rfl<;>rfl
variable {m:Mp}
def tI {nt:Nat} : ∀(ps:List Nat) (vs:List Value) (vs':List Value) (fr fr':Fr) (tmps:Array Value),dZ nt ps vs fr=some fr'→bw m vs vs'→dP m fr tmps→nt≤tmps.size →
  ps.length=vs.length∧dP m fr' ((ps.zip vs').foldl (fun tmps (x:Nat×Value)=>tmps.setIfInBounds x.1 x.2) tmps)∧nt≤((ps.zip vs').foldl (fun tmps (x:Nat×Value)=>tmps.setIfInBounds x.1 x.2) tmps).size
 | [],[],vs',fr,fr',tmps,h,hL,hf,ht=>by
  simp only[dZ] at h;cases h
  exact⟨rfl,hf,ht⟩
 | t :: ps,v :: vs,[],fr,fr',tmps,h,hL,hf,ht=>by have:=hL.1;simp at this
 | t :: ps,v :: vs,v' :: vs',fr,fr',tmps,h,hL,hf,ht=>by
  rw[dZ] at h
  split at h
  ·rename_i fr1 hp
   obtain⟨h1,h2⟩:=rM hp hf ht (hL.2 0 v v' rfl rfl)
   have hL':bw m vs vs':=⟨by have:=hL.1;simpa using this,fun i x x' a b=>hL.2 (i+1) x x' (by simpa using a) (by simpa using b)⟩
   obtain⟨a,b,c⟩:=tI ps vs vs' fr1 fr' (tmps.setIfInBounds t v') h hL' h1 h2
   exact⟨by simp[a],b,c⟩
  ·cases h
 | [],_ :: _,_,_,_,_,h,_,_,_=>by simp[dZ] at h
 | _ :: _,[],_,_,_,_,h,_,_,_=>by simp[dZ] at h
variable {l':Loop}
def mf.busy {l:ir} (h:mf m l l') (st:LoopState) (p:Option Code):mf m { l with state:=st,pending:=p } { l' with state:=st,pending:=p } :=
 ⟨rfl,rfl,h.fn,h.tmps,h.nt,h.params,h.assign,h.body⟩
def mf.XL {l:ir} (h:mf m l l') (st:LoopState):mf m { l with state:=st } { l' with state:=st } :=
 ⟨rfl,h.pending,h.fn,h.tmps,h.nt,h.params,h.assign,h.body⟩
structure TL (E:Env) (call:bU) (n l:Nat) (args:List Value) (h h':IH) (v:Value) where
 r:ir
 r1:ir
 r2:ir
 fr1:Fr
 fr2:Fr
 fr3:Fr
 h1:IH
 h2:IH
 e:bN
 loop:fx h l=some r
 put:dZ r.nt r.params args r.fr=some fr1
 assign:evC E call r.fn r.nt (some l) n r.assign fr1 h=some (.normal,fr2,h1)
 WL:fx h1 l=some r1
 ready:r1.state=.ready
 body:evC E call r.fn r.nt (some l) n r.body fr2 { h1 with ext:=h1.ext.set l (.loop { r1 with state:=.busy }) }=some (e,fr3,h2)
 WK:fx h2 l=some r2
 done:(e=.normal∧v=.bool true∧h' = { h2 with ext:=h2.ext.set l (.loop { r2 with state:=.ready,pending:=none }) }) ∨
  (∃i,e=.exit i∧v=.bool false∧h' = { h2 with ext:=h2.ext.set l (.loop { r2 with state:=.done,pending:=some (.exit i) }) }) ∨
  (e=.ret∧v=.bool false∧h' = { h2 with ext:=h2.ext.set l (.loop { r2 with state:=.done,pending:=some .ret }) })
variable {v:Value}{h:IH}{n:Nat}{h':IH}{l:Nat}{call:bU}{E:Env}{args:List Value}
theorem tO (hr:dM E call n l args h=some (v,h')):Nonempty (TL E call n l args h h' v):=by
 unfold dM at hr
 split at hr
 ·cases hr
 ·rename_i r hl
  split at hr
  ·cases hr
  ·rename_i fr1 hp
   split at hr
   ·rename_i fr2 h1 hx
    split at hr
    ·cases hr
    ·rename_i r1 hl1
     simp only[cond_eq_ite,beq_iff_eq] at hr
     split at hr
     ·rename_i hst
      split at hr
      ·cases hr
      ·rename_i e fr3 h2 hy
       split at hr
       ·cases hr
       ·rename_i r2 hl2
        split at hr<;>cases hr
        ·exact⟨⟨r,r1,r2,fr1,fr2,fr3,h1,h2,_,hl,hp,hx,hl1,hst,hy,hl2,.inl ⟨rfl,rfl,rfl⟩⟩⟩
        ·exact⟨⟨r,r1,r2,fr1,fr2,fr3,h1,h2,_,hl,hp,hx,hl1,hst,hy,hl2,.inr (.inl ⟨_,rfl,rfl,rfl⟩)⟩⟩
        ·exact⟨⟨r,r1,r2,fr1,fr2,fr3,h1,h2,_,hl,hp,hx,hl1,hst,hy,hl2,.inr (.inr ⟨rfl,rfl,rfl⟩)⟩⟩
     ·cases hr
   ·cases hr
def IC (cP:dE call) (hr:dM E call n l args h=some (v,h')):h.n≤h'.n:=by
 obtain⟨Y⟩:=tO hr
 have n1:=tM cP _ _ _ _ _ _ Y.assign
 have n2:=tM cP _ _ _ _ _ _ Y.body
 have n3:h'.n=Y.h2.n:=by rcases Y.done with⟨_,_,e⟩|⟨_,_,_,e⟩|⟨_,_,e⟩<;>exact(congrArg IH.n e).trans rfl
 rw[n3]
 exact Nat.le_trans n1 n2
variable {args':Array Value}
def B7 (S:Sound E) (fP:kP E.P call) (cP:dE call) (hr:dM E call n l args h=some (v,h'))
  {B:Nat} {w0:World} {w:World} (R:Rel B w0 m h w) (gj:bw m args args'.toList) (hfr:eH m h.n h'.n) {r0 s0:Nat} (hm:m (2*l)=some (r0,s0)) :
  ∃f ts a c,(Instr.yield r0 args').run E.P w=.ok (.round r0 f ts a c) w ∧
   ∀(c0:Frame) (cs:List Frame),∃v' m' w',aG m' v v'∧Rel B w0 m' h' w'∧Step m h w m' h' w'∧Steps E.P (lone (Frame.round r0 f ts a c .normal) (c0 :: cs) w) (lone (c0.finish v') cs w'):=by
 obtain⟨Y⟩:=tO hr
 have n1:=tM cP _ _ _ _ _ _ Y.assign
 have n2:=tM cP _ _ _ _ _ _ Y.body
 have n3:h'.n=Y.h2.n:=by rcases Y.done with⟨_,_,e⟩|⟨_,_,_,e⟩|⟨_,_,e⟩<;>exact(congrArg IH.n e).trans rfl
 obtain⟨_,L,hL,jY⟩:=R.obj _ _ _ _ (gZ Y.loop) hm
 obtain⟨p1,p2,p3⟩:=tI Y.r.params args args'.toList Y.r.fr Y.fr1 L.tmps Y.put gj jY.tmps jY.nt
 have hsz:args'.size=L.params.size:=by
  have h1:L.params.size=Y.r.params.length:=by rw[←jY.params];simp
  have h2:=gj.1
  simp at h2
  omega
 have htm:(L.params.zip args').foldl (fun tmps (x:Tmp×Value)=>tmps.setIfInBounds x.1 x.2) L.tmps=(Y.r.params.zip args'.toList).foldl (fun tmps (x:Nat×Value)=>tmps.setIfInBounds x.1 x.2) L.tmps:=by
  rw[←Array.foldl_toList,Array.toList_zip,jY.params]
 rw[←htm] at p2 p3
 refine⟨_,_,_,_,run_yield hL hsz,fun c0 cs=>?_⟩
 let b:Frame:={ fn:=L.fn,tmps:=#[],todo:=[],defers:=[],mode:=.run,kind:=.normal,roundOf:=some r0 }
 have hb:b.fn=Y.r.fn:=jY.fn
 have hx:=Y.assign
 rw[←hb] at hx
 obtain⟨m1,w1,cN,ds1,k1,a1,a2,a3,a4,a5,a6,a7⟩:=vd (b:=b) (rd:=some l) (z:=w.heap.size) (cs:=c0 :: cs) fP cP S.mixed n Y.r.assign _ _ _ _ _ hx m w _ [.beginRound,.code Y.r.body] [] R p2 p3 (hfr.sub (Nat.le_refl _) (by rw[n3];exact n2)) (.inr ⟨l,r0,s0,rfl,rfl,hm⟩) (lg.nil _ _ _ _) (Nat.le_refl _)
 obtain rfl:k1=_:=a2
 have hm1:=(a6.le _ _ hm).1
 obtain⟨hs0,L1,hL1,WS⟩:=a5.obj _ _ _ _ (gZ Y.WL) hm1
 obtain⟨Rb,Sb⟩:=a5.setObj (o1:=.loop { Y.r1 with state:=.busy }) (o':=.loop { L1 with state:=.busy }) (gZ Y.WL) rfl rfl hm1 rfl (fun w' z e=>⟨hs0,_,e,WS.XL .busy⟩)
 have hbeg:(Instr.beginRound r0).run E.P w1=.ok () (w1.putObj r0 (.loop { L1 with state:=.busy })):=run_beginRound hL1 (by rw[WS.state];exact Y.ready)
 have st1:step E.P (lone (on b cN (.beginRound :: [.code Y.r.body]) ds1) (c0 :: cs) w1)=.next (lone (on b cN [.code Y.r.body] ds1) (c0 :: cs) (w1.putObj r0 (.loop { L1 with state:=.busy }))) :=
  stepR_beginRound (b:=b) (a:=⟨cN,ds1⟩) rfl hbeg
 have hy:=Y.body
 rw[←hb] at hy
 have S1b:=a6.trans Sb
 obtain⟨m2,w2,Cp,ds2,k2,b1,b2,b3,b4,b5,b6,b7⟩:=vd (b:=b) (rd:=some l) (z:=w.heap.size) (cs:=c0 :: cs) fP cP S.mixed n Y.r.body _ _ _ _ _ hy m1 _ cN [] ds1 Rb a3 a4 ((S1b.fresh hfr).sub (Nat.le_refl _) (by rw[n3];exact Nat.le_refl _)) (.inr ⟨l,r0,s0,rfl,rfl,hm1⟩) (a7.step Sb) (Nat.le_trans a6.size Sb.size)
 have hm2:=(b6.le _ _ hm1).1
 obtain⟨_,L2,hL2,Zbx⟩:=b5.obj _ _ _ _ (gZ Y.WK) hm2
 have start:lone (Frame.round r0 L.fn ((L.params.zip args').foldl (fun tmps (x:Tmp×Value)=>tmps.setIfInBounds x.1 x.2) L.tmps) L.assign L.body .normal) (c0 :: cs) w =
   lone (on b ((L.params.zip args').foldl (fun tmps (x:Tmp×Value)=>tmps.setIfInBounds x.1 x.2) L.tmps) (.code Y.r.assign :: [.beginRound,.code Y.r.body]) []) (c0 :: cs) w:=by
  rw[jY.assign,jY.body];rfl
 have path:=a1.trans (.head st1 b1)
 have fin : ∀(e:bN) (u:Value) (st:LoopState) (AP:Option Code),h' = { Y.h2 with ext:=Y.h2.ext.set l (.loop { Y.r2 with state:=st,pending:=AP }) }→u=.bool AP.isNone→v=u →
   (st=if AP.isNone then .ready else .done) →
   step E.P (lone (on b Cp k2 ds2) (c0 :: cs) w2)=.next (lone (c0.finish u) cs (w2.putObj r0 (.loop { L2 with state:=if AP.isNone then .ready else .done,pending:=AP }))) →
   ∃v' m' w',aG m' v v'∧Rel B w0 m' h' w'∧Step m h w m' h' w'∧Steps E.P (lone (Frame.round r0 L.fn ((L.params.zip args').foldl (fun tmps (x:Tmp×Value)=>tmps.setIfInBounds x.1 x.2) L.tmps) L.assign L.body .normal) (c0 :: cs) w) (lone (c0.finish v') cs w'):=by
  intro e u st AP e1 e2 e3 e4 hst
  obtain⟨R3,S3⟩:=b5.setObj (o1:=.loop { Y.r2 with state:=st,pending:=AP }) (o':=.loop { L2 with state:=st,pending:=AP }) (gZ Y.WK) rfl rfl hm2 rfl (fun w' z e=>⟨hs0,_,e,Zbx.busy st AP⟩)
  refine⟨u,m2,_,by rw[e3,e2];exact .bA rfl,by rw[e1];exact R3,by rw[e1];exact(S1b.trans b6).trans S3,?_⟩
  rw[start]
  rw[←e4] at hst
  exact path.trans (.one hst)
 rcases Y.done with⟨e1,e2,e3⟩|⟨i,e1,e2,e3⟩|⟨e1,e2,e3⟩
 ·rw[e1] at b2
  obtain rfl:k2=_:=b2
  exact fin .normal (.bool true) .ready none e3 rfl e2 rfl (stepR_round_end (b:=b) (a:=⟨Cp,ds2⟩) rfl rfl (run_endRound none hL2))
 ·rw[e1] at b2
  obtain⟨k3,rfl,hk3⟩:=b2
  exact fin (.exit i) (.bool false) .done (some (.exit i)) e3 rfl e2 rfl (stepR_round_exit (b:=b) (a:=⟨Cp,ds2⟩) rfl rfl (by rw[hk3];rfl) (run_endRound (some (.exit i)) hL2))
 ·rw[e1] at b2
  obtain⟨k3,rfl⟩:=b2
  exact fin .ret (.bool false) .done (some .ret) e3 rfl e2 rfl (stepR_round_ret (b:=b) (a:=⟨Cp,ds2⟩) rfl rfl (run_endRound (some .ret) hL2))
def PC {P:Program} {f:FuncId} {fn:Func} (hf:P.funcs[f]?=some fn) (hb:fn.body=none) (ho:fn.origin=fn.name∨fn.origin = "") (hc:mW fn.name args=some v) (gj:bw m args args'.toList) (w:World) :
  ∃v',(callFunc f args').run P w=.ok (.value v') w∧aG m v v' ∧ ∀a∈args'.toList,∃k n,a=Value.int k n:=by
 unfold mW at hc
 split at hc
 case h_2=>cases hc
 rename_i x y c
 simp only[cond_eq_ite] at hc
 split at hc
 case isFalse=>cases hc
 rename_i hle
 have Se:c≤1:=by simpa using hle
 obtain⟨a0,b0,r0⟩:=gj.get (i:=0) rfl
 obtain⟨a1,b1,r1⟩:=gj.get (i:=1) rfl
 obtain⟨a2,b2,r2⟩:=gj.get (i:=2) rfl
 have e0:=r0.cu rfl
 have e1:=r1.cu rfl
 have e2:=r2.cu rfl
 subst e0;subst e1;subst e2
 have hl:args'.toList = [.int .u64 (.ofNat x),.int .u64 (.ofNat y),.int .u64 (.ofNat c)]:=by
  have h1:=gj.1
  apply List.ext_getElem?
  intro i
  match i with
  | 0=>exact b0
  | 1=>exact b1
  | 2=>exact b2
  | i+3=>rw[List.getElem?_eq_none (by simp at h1 ⊢;omega),List.getElem?_eq_none (by simp)]
 have ha:args' = #[.int .u64 (.ofNat x),.int .u64 (.ofNat y),.int .u64 (.ofNat c)]:=by rw[←Array.toArray_toList (xs:=args'),hl]
 have hint : ∀a∈args'.toList,∃k n,a=Value.int k n:=by
  rw[hl]
  intro a h
  simp only[List.mem_cons,List.not_mem_nil,or_false] at h
  rcases h with rfl|rfl|rfl<;>exact⟨_,_,rfl⟩
 split at hc
 ·rename_i hn
  have hn:fn.name = "math/bits.Add64" := by simpa using hn
  cases hc
  refine⟨_,?_,aG.fI (cs:=#[.int .u64 _,.int .u64 _]) (cs':=#[.int .u64 _,.int .u64 _]) (.cons (.bA rfl) (.cons (.bA rfl) (.nil _))),hint⟩
  rw[run_callFunc_extern hf (by rw[hn];decide +kernel) (by rw[hb];rfl) (RF hn (ho.imp (fun e=>by rw[e,hn]) id)) (Su hn),ha,run_add64 _ _ _ (by exact Int.natCast_nonneg _) (by exact Int.natCast_nonneg _) (by exact Int.natCast_nonneg _) (by exact Int.ofNat_le.2 Se)]
  simp only[Result.andThen_ok]
  rfl
 ·split at hc
  ·rename_i hn
   have hn:fn.name = "math/bits.Sub64" := by simpa using hn
   cases hc
   refine⟨_,?_,aG.fI (cs:=#[.int .u64 _,.int .u64 _]) (cs':=#[.int .u64 _,.int .u64 _]) (.cons (.bA rfl) (.cons (.bA rfl) (.nil _))),hint⟩
   rw[run_callFunc_extern hf (by rw[hn];decide +kernel) (by rw[hb];rfl) (RE hn (ho.imp (fun e=>by rw[e,hn]) id)) (St hn),ha]
   show((zT #[.int .u64 (x:Int),.int .u64 (y:Int),.int .u64 (c:Int)]).run P w).andThen _=_
   rw[Oh x y Se]
   simp only[Result.andThen_ok]
   congr 4
   by_cases hlt:x<y+c
   ·simp[hlt]
   ·simp[hlt]
  ·cases hc
def ig (S:Sound E) : ∀n,dE (cc E n)
 | 0=>fun fv vs h h' v hr=>by simp[cc] at hr
 | n+1=>fun fv vs h h' v hr=>by
  unfold cc at hr
  split at hr
  ·exact To S (ig S n) hr
  ·simp only[cond_eq_ite] at hr
   split at hr
   ·exact IC (ig S n) hr
   ·cases hr
  ·cases hr
def oX (S:Sound E) : ∀n,kP E.P (cc E n)
 | 0=>fun fv vs h h' v hr=>by simp[cc] at hr
 | n+1=>fun fv vs h h' v hr B w0 m w fv' vs' R hfv hvs hfr=>by
  unfold cc at hr
  split at hr
  ·rename_i f first cap
   obtain⟨fn',Fu,Zr,rfl,hfn,h1,h2⟩:=hfv.vV
   cases fn'<;>simp only[si] at hfn
   subst hfn
   have gj:bw m (first.toList ++ (vs ++ cap.toList)) (Fu ++ vs' ++ Zr).toList:=by
    rw[Array.toList_append,Array.toList_append,List.append_assoc]
    exact h1.append (hvs.append h2)
   rcases uF S (oX S n) (ig S n) hr R gj hfr with⟨⟨fn,hf,hb⟩,hC⟩|⟨fn,hf,hb,rfl,hcv⟩
   case inr =>
    obtain⟨v',e1,e2,e3⟩:=PC hf hb (S.origin f fn hf hb hcv) hcv gj w
    refine⟨.value v',?_,.inl ⟨v',rfl,rfl,e2,fun a ha=>e3 a (by rw[Array.toList_append,Array.toList_append];simp[ha])⟩⟩
    simp only[Deferred.ofValue,Sem.run_bind,Sem.run_pure,Result.andThen_ok,invoke]
    exact e1
   refine⟨.enter f (Fu ++ vs' ++ Zr),?_,.inr ⟨_,.inl ⟨_,_,rfl,rfl⟩,fun c cs=>hC.run c cs⟩⟩
   simp only[Deferred.ofValue,Sem.run_bind,Sem.run_pure,Result.andThen_ok,invoke]
   exact FI hf hb (S.names f fn hf hb)
  ·rename_i l first cap
   simp only[cond_eq_ite,beq_iff_eq] at hr
   split at hr
   ·rename_i hev
    obtain⟨fn',Fu,Zr,rfl,hfn,h1,h2⟩:=hfv.vV
    cases fn'<;>simp only[si] at hfn
    obtain⟨s,hm⟩:=hfn
    have hl:2*(l / 2)=l:=by omega
    rw[←hl] at hm
    have gj:bw m (first.toList ++ vs) (Fu ++ vs').toList:=by
     rw[Array.toList_append]
     exact h1.append hvs
    obtain⟨f,ts,a,c,hy,bD⟩:=B7 S (oX S n) (ig S n) hr R gj hfr hm
    refine⟨_,?_,.inr ⟨_,.inr ⟨_,f,ts,a,c,rfl,rfl⟩,bD⟩⟩
    simp only[Deferred.ofValue,Sem.run_bind,Sem.run_pure,Result.andThen_ok,invoke]
    exact hy
   ·cases hr
  ·cases hr
def IH.start (base:Nat→Option (List Value)):IH:={ base,n:=0,ext:=.leaf,bP:=.leaf }
def Mp.lT (A:Nat→Nat×Nat):Mp:=⟨fun b=>if b % 2=1 then some (if b / 2<4294967296 then (b / 2,0) else A (b / 2 - 4294967296)) else none,fun _=>(0,0)⟩
def Mp.xO (A:Nat→Nat×Nat) {b:Nat} (h:b<4294967296):Mp.lT A (2*b+1)=some (b,0):=by
 show(if (2*b+1) % 2=1 then some (if (2*b+1) / 2<4294967296 then ((2*b+1) / 2,0) else A ((2*b+1) / 2 - 4294967296)) else none)=some (b,0)
 rw[if_pos (by omega),if_pos (by omega),show(2*b+1) / 2=b from by omega]
def Mp.uV (A:Nat→Nat×Nat) (i:Nat):Mp.lT A (2*(4294967296+i)+1)=some (A i):=by
 show(if (2*(4294967296+i)+1) % 2=1 then some (if (2*(4294967296+i)+1) / 2<4294967296 then ((2*(4294967296+i)+1) / 2,0) else A ((2*(4294967296+i)+1) / 2 - 4294967296)) else none)=some (A i)
 rw[if_pos (by omega),if_neg (by omega),show(2*(4294967296+i)+1) / 2 - 4294967296=i from by omega]
theorem Mp.uW (A:Nat→Nat×Nat) (k:Nat):Mp.lT A (2*k)=none:=by
 show(if (2*k) % 2=1 then _ else none)=none
 rw[if_neg (by omega)]
def Lb (A:Nat→Nat×Nat) (base:Nat→Option (List Value)) (w:World):Prop:=∀b cs,base b=some cs → ∃r s,Mp.lT A (2*b+1)=some (r,s) ∧ ∃c el fz,w.heap[r]?=some (.cells c el fz)∧nV (Mp.lT A) cs c s
variable {w:World}
theorem Rel.start {A:Nat→Nat×Nat} {base:Nat→Option (List Value)} (hb:Lb A base w):Rel w.heap.size w (Mp.lT A) (IH.start base) w:=by
 have leaf : ∀{α:Type} (k:Nat),(Tr.leaf:Tr α).get k=none:=fun k=>rfl
 refine⟨Below.refl _ _,Nat.le_refl _,?_,fun b h=>Mp.xO A h,?_,fun k _=>leaf k,?_,?_,?_,?_,?_,?_⟩
 ·intro b cs h
  obtain⟨r,s,h0,c,el,fz,h1,h2⟩:=hb b cs h
  exact⟨r,s,h0,(Array.getElem?_eq_some_iff.1 h1).1,c,el,fz,h1,h2⟩
 ·intro k r s h
  rw[Mp.uW] at h;cases h
 ·intro k o r s h;cases h
 ·intro k k' o o' r s s' _ h;cases h
 ·intro f st h;cases h
 ·intro k cs t f h;cases h
 ·intro f st h;cases h
 ·intro f st x y h;cases h
def xf {w':World} (h:Below w.heap.size w w') (may:MemPlace→Prop):w.keptBut w' may:=by
 refine⟨h.os,h.output,fun i hi=>?_⟩
 rw[h.block i hi]
 cases hx:w.heap[i]? with
 | none=>rfl
 | some o =>
  cases o with
  | cells c t fr=>exact⟨rfl,rfl,rfl,fun _ _=>rfl⟩
  | map es cl=>exact .inr ⟨rfl,rfl⟩
  | _=>rfl
def BX {H:Type} {enc:TypeId×Value→H} {P:Program} {f:Func} {s:ChangeSpec} {apart fresh handsOn:Bool} {W W':World} {args:Array Value} {v:Value} {ds gs:List (DataW H)} {before pa pv:List MemPlace}
  (hW:DataW.Whole enc P f.params.toList s.vars apart W args.toList ds gs before)
  (Kf : ∀(b:Nat) (sp:Nat→Bool) (hd:Bool),DataW.TrodAll enc P W' b sp hd f.resultTypes.toList (v.resultList f.resultTypes.size) (s.fn H (ds ++ gs)).results [])
  (gj : ∀sp:Nat→Bool,(∀p∈before,sp p.block=true)→DataW.TrodAll enc P W' 0 sp true f.params.toList args.toList (s.fn H (ds ++ gs)).args pa)
  (Zbp : ∀sp:Nat→Bool,(∀p∈before,sp p.block=true)→DataW.TrodVars enc P W' sp s.vars (s.fn H (ds ++ gs)).vars pv)
  (hk:Below W.heap.size W W'):s.post enc P f apart fresh handsOn false W args v W':=by
 have hold : ∀p∈before,(fun b=>decide (b<W.heap.size)) p.block=true:=fun p hp=>by simpa using hW.lt p hp
 exact⟨ds,gs,before,[],pa,pv,hW,Kf _ _ _,gj _ hold,Zbp _ hold,xf hk _,fun h=>by cases h⟩
end Go.Id
