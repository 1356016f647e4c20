/-
  Tables of functions whose values are known
-/
import Derived.Test.YtnnmjocmapilaaaGreatOutlierValidBd
set_option linter.unusedVariables false
set_option linter.unusedSimpArgs false
set_option linter.defProp false
set_option linter.deprecated false
namespace Go.Id
open Go
noncomputable section
def Dc (l:List (FuncId×(List Value→Option Value))) (f:FuncId):Option (List Value→Option Value):=List.rec (motive:=fun _=>Option (List Value→Option Value)) none (fun p _ ih=>iB (Nat.beq f p.1) (some p.2) ih) l
def vI (P:Program) (f:FuncId) (g:List Value→Option Value):Prop :=
 (∃fn,P.funcs[f]?=some fn∧fn.body.isSome=true) ∧ ∀args v,args.all plain=true→g args=some v→mc v=true∧Mm P f args v
theorem yX : ∀{l:List (FuncId×(List Value→Option Value))} {f:FuncId} {g:List Value→Option Value},Dc l f=some g→(f,g)∈l
 | [],_,_,h=>by cases h
 | p :: l,f,g,h=>by
  change iB (Nat.beq f p.1) (some p.2) (Dc l f)=some g at h
  rw[eh] at h
  cases hb:Nat.beq f p.1 with
  | true =>
   rw[hb] at h;cases h
   have:=Nat.beq_eq.mp hb
   subst this
   exact List.mem_cons_self
  | false =>
   rw[hb] at h
   exact List.mem_cons_of_mem _ (yX h)
theorem Fs {P:Program} (S:Sound (E0 P)) {l:List (FuncId×(List Value→Option Value))} (h : ∀p∈l,vI P p.1 p.2):Sound (E1 P (Dc l)) :=
 Wd S (fun f g hg=>(h _ (yX hg)).1) (fun f g hg=>(h _ (yX hg)).2)
theorem qV {P:Program} (S:Sound (E0 P)) {f:FuncId} {fn:Func} (hf:P.funcs[f]?=some fn) (hb:fn.body.isSome=true) {g:List Value→Option Value}
  (h : ∀args v,args.all plain=true→g args=some v→mc v=true∧WV P (.func (.func f) #[] #[]) args (IH.start fun _=>none) fun r _=>r=v):vI P f g :=
 ⟨⟨fn,hf,hb⟩,fun args v hp e=>⟨(h args v hp e).1,Q4 S ⟨fn,hf,hb⟩ hp (h args v hp e).2⟩⟩
def okT (args:List Value):Option Value:=match args with
 | []=>some (.bool true)
 | _=>none
theorem Jr {E:Env} (S:Sound E) {n:Nat} {f:FuncId} {fn:Func} (hf:E.P.funcs[f]?=some fn) (hb:fn.body.isSome=true) (h:L6 E (n+1) f (fun _=>none)=true):vI E.P f okT:=by
 refine⟨⟨fn,hf,hb⟩,fun args v hp e=>?_⟩
 unfold okT at e
 split at e
 ·cases e
  obtain⟨h',hr⟩:=JG h
  exact⟨rfl,Ch S hr ⟨fn,hf,hb⟩ hp⟩
 ·cases e
end
noncomputable section
abbrev UA:=FuncId×(List NK×(List NV→Option NR))
def MB (l:List UA) (f:FuncId):Option (List Value→IH→Option (Value×IH)):=List.rec (motive:=fun _=>Option (List Value→IH→Option (Value×IH))) none (fun p _ ih=>iB (Nat.beq f p.1) (some (IT p.2.1 p.2.2)) ih) l
theorem Fa : ∀{l:List UA} {f:FuncId} {g:List Value→IH→Option (Value×IH)},MB l f=some g → ∃p∈l,p.1=f∧g=IT p.2.1 p.2.2
 | [],_,_,h=>by cases h
 | p :: l,f,g,h=>by
  change iB (Nat.beq f p.1) (some (IT p.2.1 p.2.2)) (MB l f)=some g at h
  rw[eh] at h
  cases hb:Nat.beq f p.1 with
  | true =>
   rw[hb] at h;cases h
   exact⟨p,List.mem_cons_self,(Nat.beq_eq.mp hb).symm,rfl⟩
  | false =>
   rw[hb] at h
   obtain⟨q,h1,h2⟩:=Fa h
   exact⟨q,List.mem_cons_of_mem _ h1,h2⟩
theorem Pr {P:Program} (S:Sound (E0 P)) {tb:List (FuncId×(List Value→Option Value))} (h : ∀p∈tb,vI P p.1 p.2) {tn:List UA} (k : ∀p∈tn,sX P p.1 p.2.2):Sound (E2 P (Dc tb) (MB tn)) :=
 Wc S (Fs S h) fun f g hg=>by
  obtain⟨p,h1,h2,h3⟩:=Fa hg
  exact⟨p.2.1,p.2.2,h3,h2▸k p h1⟩
end
end Go.Id
namespace Go.Proofs.YtnnmjocmapilaaaGreat
open Go.ChangeShapes Go.WideShapes Go.ChangeAt Go.RowKit Go.Id
noncomputable def tn2:List UA:=[(156,[.val],U1),(75,[.val],PO),(131,[.long],O1),(132,[.rat],PE),(247,[.rat],PD),(83,[.rat,.rat],PL),(198,[.rat,.rat],Kt),(87,[.rat,.rat],Ko),(84,[.rat,.rat],PM),(90,[.rat,.rat],U3),(103,[.val],EJ),(101,[.val],O2),(105,[.long],OS),(236,[.long],OR),(92,[.long],OT),(187,[.long,.long],OY),(242,[.long,.long],JX),(104,[.long,.long],JT),(190,[.long,.long],UK),(207,[.long,.long],ES),(206,[.long,.long],JU)]
theorem YG : ∀p∈tn2,sX Tryz.prog p.1 p.2.2:=by
 intro p hp
 simp only[tn2,List.mem_cons,List.not_mem_nil,or_false] at hp
 rcases hp with rfl|rfl|rfl|rfl|rfl|rfl|rfl|rfl|rfl|rfl|rfl|rfl|rfl|rfl|rfl|rfl|rfl|rfl|rfl|rfl|rfl
 ·exact Qf
 ·exact Nq
 ·exact Nk
 ·exact Nn
 ·exact Nm
 ·exact No
 ·exact IM
 ·exact IL
 ·exact Np
 ·exact Qg
 ·exact Gj
 ·exact Nl
 ·exact Nh
 ·exact Ng
 ·exact Ni
 ·exact Nj
 ·exact IK
 ·exact II
 ·exact Qe
 ·exact Gk
 ·exact IJ
noncomputable def tb2:List (FuncId×(List Value→Option Value)):=[(189,Qu),(88,of2),(42,of2),(128,JC),(26,cmp2)]
theorem Yf : ∀p∈tb2,vI Tryz.prog p.1 p.2:=by
 intro p hp
 simp only[tb2,List.mem_cons,List.not_mem_nil,or_false] at hp
 rcases hp with rfl|rfl|rfl|rfl|rfl
 ·exact qV Tryz.sound Tryz.func189 rfl Pb
 ·exact qV Tryz.sound Tryz.func88 rfl VV
 ·exact qV Tryz.sound Tryz.func42 rfl Pa
 ·exact qV Tryz.sound Tryz.func128 rfl Mw
 ·exact qV Tryz.sound Tryz.func26 rfl SC
theorem SR:Sound (E2 Tryz.prog (Dc tb2) (MB tn2)):=Pr Tryz.sound Yf YG
theorem CX:L6 (E2 Tryz.prog (Dc tb2) (MB tn2)) (4999+1) 15 (fun _=>none)=true:=by decide +kernel
noncomputable def tbO:FuncId→Option (List Value→Option Value):=Dc [(15,okT)]
theorem SQ:Sound (E1 Tryz.prog tbO):=Fs Tryz.sound fun p hp=>by
 obtain rfl:=List.mem_singleton.1 hp
 exact Jr (E:=E2 Tryz.prog (Dc tb2) (MB tn2)) SR Tryz.func15 rfl CX
end Go.Proofs.YtnnmjocmapilaaaGreat
namespace Go.Id
open Go


end Go.Id
namespace Go.Id

open Go
theorem sV (P:Program) (t:TypeId) (ox oy:Operand) (a b:Nat) (ha:a<18446744073709551616) (hb:b<18446744073709551616):binop P .xor t ox oy (.int .u64 a) (.int .u64 b)=some (.int .u64 ((a ^^^ b:Nat):Int)):=by
 have e:(BitVec.ofInt 64 (a:Int) ^^^ BitVec.ofInt 64 (b:Int)).toNat=a ^^^ b:=by simp[Nat.mod_eq_of_lt ha,Nat.mod_eq_of_lt hb]
 rw[sW,show(BitVec.ofInt IntKind.u64.bits (a:Int) ^^^ BitVec.ofInt IntKind.u64.bits (b:Int)).toNat=a ^^^ b from e,dH (Nat.xor_lt_two_pow (n:=64) ha hb)]
theorem tk1 (a:Value):List.take 1 (List.drop 0 [a]) = [a]:=rfl


theorem JS {x:Nat} (hx:x<9223372036854775808):x ^^^ 9223372036854775808=x+9223372036854775808:=by
 have h1:x<2 ^ 63:=hx
 have h2:=Nat.two_pow_add_eq_or_of_lt h1 1
 rw[Nat.mul_one] at h2
 rw[show(9223372036854775808:Nat)=2 ^ 63 from rfl,Nat.add_comm,h2]
 apply Nat.eq_of_testBit_eq
 intro i
 rw[Nat.testBit_xor,Nat.testBit_or,Nat.testBit_two_pow]
 by_cases hi:63=i
 ·subst hi
  rw[Nat.testBit_lt_two_pow h1]
  decide
 ·simp[hi]
theorem CS {a:Nat} (ha:a<H8):wrd a 7<9223372036854775808:=(VP (by have:=dZ;omega)).2 ha
theorem JZ {a:Nat} (ha:a<H8):IH.aG (wdC a) 7 [K64 (wrd a 7+9223372036854775808)]=wdC (a+H8):=by
 have ht:=CS ha
 have hw:a<18446744073709551616 ^ (7+1):=by rw[←vE];have:=dZ;omega
 have e:H8=9223372036854775808*18446744073709551616 ^ 7:=by unfold H8;rfl
 apply List.ext_getElem?
 intro j
 have hl:(IH.aG (wdC a) 7 [K64 (wrd a 7+9223372036854775808)]).length=8:=by simp[IH.aG,ar]
 by_cases h8:j<8
 ·rw[du _ _ h8,e]
  by_cases h7:j=7
  ·subst h7
   rw[yJ hw (by omega)]
   simp[IH.aG,ar]
  ·rw[pU (by omega)]
   have hj:j<7:=by omega
   simp only[IH.aG]
   rw[List.getElem?_append_left (by rw[List.length_take,ar];omega),List.getElem?_take,if_pos hj,du _ _ h8]
 ·rw[List.getElem?_eq_none (by omega),List.getElem?_eq_none (by rw[ar];omega)]
def jt (h:IH) (v:Value) (ll:List (List (Nat×Nat))):Prop:=∃vs:List Value,bJ h 1 v ll.length vs∧ll.length<1152921504606846976 ∧ ∀(i:Nat) (x:List (Nat×Nat)),ll[i]?=some x → ∃w,vs[i]?=some w∧iT h w x
theorem jt.aa {h h':IH} {v:Value} {ll:List (List (Nat×Nat))} (s:jt h v ll) (e:aJ h h'):jt h' v ll:=by
 obtain⟨vs,a,b,c⟩:=s
 refine⟨vs,a.aa e,b,fun i x hx=>?_⟩
 obtain⟨w,h1,h2⟩:=c i x hx
 exact⟨w,h1,h2.aa e⟩
theorem jt.at {h h':IH} {v:Value} {ll:List (List (Nat×Nat))} (s:jt h v ll) (e:aJ h h') {i:Nat} {x:List (Nat×Nat)} (hx:ll[i]?=some x) :
  ∃w,load Proofs.Tryz.prog h' 61 (aM v i)=some w∧iT h' w x ∧ ∀k:IntKind,indexAddr Proofs.Tryz.prog 38 v (.int k (i:Int))=some (aM v i):=by
 obtain⟨vs,a,b,c⟩:=s
 obtain⟨w,h1,h2⟩:=c i x hx
 have hi:=(List.getElem?_eq_some_iff.1 hx).1
 refine⟨w,?_,h2.aa e,fun k=>by rw[a.idx Z7 hi,Nat.mul_one]⟩
 rw[a.ld e (by rw[a.2.1];omega) XP]
 exact h1
theorem jt.co {h:IH} {v:Value} {ll:List (List (Nat×Nat))} (s:jt h v ll):v.cells = #[v]∧aA v=true ∧ ∀h',nB Proofs.Tryz.prog h' 38 v=some (.int .i64 ll.length):=by
 obtain⟨vs,a,_⟩:=s
 exact⟨a.cells,a.cok,fun h'=>a.len Ys h'⟩
theorem iT.co {h:IH} {v:Value} {l:List (Nat×Nat)} (s:iT h v l):v.cells = #[v]∧aA v=true:=⟨s.1.cells,s.1.cok⟩
open Go.Proofs.Tryz (prog)
open Nat renaming reduceAdd→zA,reduceEqDiff→zE,reduceLeDiff→zL
set_option maxHeartbeats 16000000
def x9 (p:Nat×Nat):Prop:=¬okS p.1 p.2∨wdI p.1<0
def lZ (l:List (Nat×Nat)):Prop:=(∀p∈l,¬x9 p)∧fU (l.map rOf)=1
def df (ll:List (List (Nat×Nat))):Prop:=1≤ll.length∧ll.length≤60 ∧ ∀l∈ll,l.length=ll.length∧lZ l
theorem DD {p:Nat×Nat} (h : ¬x9 p):okS p.1 p.2∧0≤wdI p.1:=by
 unfold x9 at h
 refine⟨Classical.byContradiction fun hn=>h (.inl hn),?_⟩
 have : ¬wdI p.1<0:=fun hn=>h (.inr hn)
 omega
open Classical in
theorem Rf {h:IH} {p:Nat×Nat} (h1:p.1<W8) (h2:p.2<W8) :
  WV prog (.func (.func 203) #[] #[]) [shV p.1 p.2] h fun r h'=>Ext h h'∧r=.bool (decide (x9 p)):=by
 have E1:Ext h (h.new (.cells (shC p.1 p.2) 0 none)):=(Ext.refl h).new _
 have g1:(h.new (.cells (shC p.1 p.2) 0 none)).ext.get h.n=some (.cells (shC p.1 p.2) 0 none):=by simp (disch:=omega) only[ah]
 refine enter (nt:=13) (rs:=[.tmp 2]) Proofs.Tryz.func203 rfl rfl rfl (by simp) ?_
 simp -dsimp (disch:=omega) only[wpS,zE,zL,bY,aB,au,aO]
 refine call (oO p.1 p.2 h1 h2) ?_
 rintro _ v1 ⟨X1,rfl⟩
 have m1:=X1.n
 simp only[aI] at m1
 by_cases ok:okS p.1 p.2
 case neg =>
  rw[if_neg ok,decide_eq_true (show x9 p from .inl ok)]
  simp -dsimp (disch:=omega) only[wpS,wpT,zE]
  exact E1.trans X1
 rw[if_pos ok]
 simp -dsimp (disch:=omega) only[wpS,wpT,zE,zL,bY,aj (X1.kept (by simp) g1),au,aO]
 refine call (cW p.1 p.2 h1 h2) ?_
 rintro _ v2 ⟨X2,a,s,b,t,rfl,q1,q2⟩
 simp -dsimp (disch:=omega) only[wpS,wpT,zE,Ui]
 refine call (kD q1) ?_
 rintro _ v3 ⟨X3,rfl⟩
 have XX:=((E1.trans X1).trans X2).trans X3
 by_cases c:wdI p.1<0
 ·rw[if_pos c,decide_eq_true (show x9 p from .inr c)]
  simp -dsimp (disch:=omega) only[wpS,wpT,zE]
  exact XX
 ·rw[if_neg c,decide_eq_false (show ¬x9 p from fun h=>h.elim (fun h=>h ok) c)]
  obtain⟨z,hz,hz0⟩ : ∃z:Int,(if wdI p.1=0 then (0:Int) else 1)=z∧0≤z:=⟨_,rfl,by split<;>omega⟩
  rw[hz]
  simp -dsimp (disch:=omega) only[wpS,wpT,zE]
  exact XX
open Classical in
theorem sE {h:IH} {v F:Value} {l:List (Nat×Nat)} (hv:iT h v l) (B:Nat×Nat→Prop) (hF : ∀h1 p,Ext h h1→p∈l→WV prog F [shV p.1 p.2] h1 fun r h2=>Ext h1 h2∧r=.bool (decide (B p))) :
  WV prog (.func (.func 173) #[] #[]) [v,F] h fun r h'=>Ext h h'∧r=.bool (decide (∃p∈l,B p)):=by
 have hlb:=hv.2.1
 have W5:WV prog (.func (.func 228) #[] #[]) [v,F] h fun r h'=>Ext h h' ∧ ∃c:Int,r=KI c∧(0≤c ↔ ∃p∈l,B p):=by
  refine enter (nt:=19) (rs:=[.tmp 4]) Proofs.Tryz.func228 rfl rfl rfl (by simp) ?_
  simp -dsimp (disch:=omega) only[wpS,zE,zA,hv.1.len uu]
  refine loop (fun m fr h1 => ∃i:Nat,i+m=l.length∧Ext h h1∧(∀(j:Nat) p,j<i→l[j]?=some p → ¬B p)∧ab fr 0=some v∧ab fr 1=some F∧ab fr 7=some (KN l.length)∧ab fr 8=some (KN i)) l.length
   ⟨0,by omega,Ext.refl _,fun j p hj=>by omega,by simp⟩ ?_
  rintro m fr h1 ⟨i,him,hE,hno,f0,f1,f7,f8⟩
  simp -dsimp (disch:=omega) only[wpS,f7,f8]
  refine aq ?_ ?_<;>intro hc<;>simp only[decide_eq_true_eq,decide_eq_false_iff_not] at hc
  ·have hi:i<l.length:=by omega
   obtain⟨p,hp⟩:=il (l:=l) (i:=i) hi
   have hpm:=List.mem_of_getElem? hp
   simp -dsimp (disch:=omega) only[wpS,wpT,zE,f0,f1,f8,hv.1.idx x8 hi,hv.ld hE.aa hp]
   refine call (hF h1 p hE hpm) ?_
   rintro _ h2 ⟨hE2,rfl⟩
   have E2:=hE.trans hE2
   by_cases hk:B p
   ·rw[decide_eq_true hk]
    simp -dsimp (disch:=omega) only[wpS,zE]
    exact⟨E2,(i:Int),rfl,fun _=>⟨p,hpm,hk⟩,fun _=>by omega⟩
   ·rw[decide_eq_false hk]
    simp -dsimp (disch:=omega) only[wpS,zE,f8]
    refine⟨m - 1,by omega,i+1,by omega,E2,?_,by simp[f0,f1,f7]⟩
    intro j q hj hq
    by_cases hji:j=i
    ·subst hji;rw[hp] at hq;cases hq;exact hk
    ·exact hno j q (by omega) hq
  ·simp -dsimp (disch:=omega) only[wpS,wpT]
   refine⟨hE,-1,rfl,fun h=>by omega,fun⟨p,hp,hb⟩=>?_⟩
   obtain⟨j,hj⟩:=List.getElem?_of_mem hp
   have:=(List.getElem?_eq_some_iff.1 hj).1
   exact absurd hb (hno j p (by omega) hj)
 refine enter (nt:=9) (rs:=[.tmp 4]) Proofs.Tryz.func173 rfl rfl rfl (by simp) ?_
 simp -dsimp (disch:=omega) only[wpS,zE,zA]
 refine call W5 ?_
 rintro _ h1 ⟨hE,c,rfl,hc⟩
 simp -dsimp (disch:=omega) only[wpS,zE]
 exact⟨hE,by rw[decide_eq_decide.2 hc]⟩
theorem NI {h:IH} {v:Value} {l:List (Nat×Nat)} (hv:iT h v l) (ho : ∀p∈l,okS p.1 p.2) (hl:l.length≤1000) :
  WV prog (.func (.func 204) #[] #[]) [v,(.func (.func 156) #[] #[])] h fun r h'=>Ext h h'∧bg h' r (fU (l.map rOf))∧QB (l.length*(512+1)) (fU (l.map rOf)):=by
 have hq0 : ∀q∈l.map rOf,QB 512 q:=by
  intro q hq
  obtain⟨p,hp,rfl⟩:=List.mem_map.1 hq
  exact jm (hv.2.2 p hp).1 (hv.2.2 p hp).2 (ho p hp)
 have hQ : ∀i,i≤l.length→QB (i*(512+1)) (fU ((l.take i).map rOf)):=by
  intro i hi
  have:=QB.fU (k:=512) hq0 i (by simpa using hi)
  rwa [←List.map_take] at this
 refine enter (nt:=22) (rs:=[.cell 4 137]) Proofs.Tryz.func204 rfl rfl rfl (by simp) ?_
 simp -dsimp (disch:=omega) only[wpS,zA,dr]
 have E1:Ext h (h.new (.cells ZR 0 none)):=(Ext.refl h).new _
 have g1:(h.new (.cells ZR 0 none)).ext.get h.n=some (.cells ZR 0 none):=by simp (disch:=omega) only[ah]
 refine call (eH 0 ⟨by omega,by omega⟩) ?_
 rintro z h1 ⟨X1,p1⟩
 have m1:=X1.n
 simp only[aI] at m1
 obtain⟨a3,s3,b3,t3,rfl,_,_,d1,o1,d2,o2,o3,o4⟩:=p1.parts
 have kg:=X1.kept (by simp) g1
 simp -dsimp (disch:=omega) only[wpS,wpT,zE,zL,zA,dr,cQ,o1,o2,o3,o4,hv.1.len uu]
 have Ex2:Ext h1 ((h1.new (.cells ZR 0 none)).put h1.n (.cells [a3,s3,b3,t3] 0 none)):=((Ext.refl h1).new _).put (Nat.le_refl _) _
 refine loop (fun m fr hh => ∃(i:Nat) (a s b t:Value),i+m=l.length∧Ext h hh∧h1.n<hh.n∧hh.ext.get h.n=some (.cells ZR 0 none)∧hh.ext.get h1.n=some (.cells [a,s,b,t] 0 none)∧bg hh (.agg #[a,s,b,t]) (fU ((l.take i).map rOf)) ∧
   ab fr 1=some (.func (.func 156) #[] #[])∧ab fr 4=some (ptr (2*h.n) 0)∧ab fr 5=some (ptr (2*h1.n) 0)∧ab fr 9=some v∧ab fr 10=some (KN l.length)∧ab fr 11=some (KN i)) l.length
  ⟨0,a3,s3,b3,t3,by omega,(E1.trans X1).trans Ex2,by simp,by simp (disch:=omega) only[ax,ak];exact kg,by simp (disch:=omega) only[ae],p1.aa Ex2.aa,by simp⟩ ?_
 clear p1 kg Ex2
 rintro m fr hh ⟨i,a,s,b,t,him,hE,hn,hg,hg5,hp,f1,f4,f5,f9,f10,f11⟩
 simp -dsimp (disch:=omega) only[wpS,zA,f10,f11]
 refine aq ?_ ?_<;>intro hc<;>simp only[decide_eq_true_eq,decide_eq_false_iff_not] at hc
 ·have hi:i<l.length:=by omega
  obtain⟨q,hq⟩:=il (l:=l) (i:=i) hi
  have hqm:=List.mem_of_getElem? hq
  obtain⟨w1,w2⟩:=hv.2.2 q hqm
  simp -dsimp (disch:=omega) only[wpS,wpT,zE,zL,zA,gC,ed,f9,f11,hv.1.idx x8 hi,hv.ld hE.aa hq,aB,au,aY,bC]
  obtain⟨H0,hH0⟩:=aP ((hh.new (.cells Z16 0 none)).put hh.n (.cells (shC q.1 q.2) 0 none))
  have e0:Ext hh H0:=by rw[hH0];exact((Ext.refl hh).new _).put (Nat.le_refl _) _
  have n0:H0.n=hh.n+1:=by rw[hH0];rfl
  have gx:H0.ext.get hh.n=some (.cells (shC q.1 q.2) 0 none):=by rw[hH0];simp (disch:=omega) only[ae]
  have hnn:=hE.n
  have gs:=e0.kept hn hg5
  have gz:=e0.kept (by omega) hg
  rw[←hH0]
  clear hH0
  have X0:=Ext.refl H0
  obtain⟨_,_,L1⟩:=pl4 gs
  refine drawn [(0,[4])] (by kernel_rfl) (by kernel_rfl) rfl ?_
  simp -dsimp (disch:=omega) only[wpS,wpT,zE,zL,zA,bY,fA,f1,f5,aj gs,aj gx,fg,au,aO]
  refine call (cW q.1 q.2 w1 w2) ?_
  rintro r h2 ⟨X2,p2⟩
  have m2:=X2.n
  have p2:=p2.rat (ho q hqm)
  simp -dsimp (disch:=omega) only[wpS,zE]
  have hkb:i*(512+1)+512+1<16000000:=by omega
  refine call (jj (hp.aa (e0.trans X2).aa) p2 (hQ i (by omega)) (jm w1 w2 (ho q hqm)) hkb) ?_
  rintro r3 h3 ⟨hE3,p3⟩
  have m3:=hE3.n
  have X3:=X2.trans hE3
  have eT:fU ((l.take i).map rOf)+rOf (q.1,q.2)=fU ((l.take (i+1)).map rOf):=by rw[fy hq,List.map_append,List.map_cons,List.map_nil,jF]
  rw[eT] at p3
  obtain⟨a4,s4,b4,t4,rfl,_,_,_,o1,_,o2,o3,o4⟩:=p3.parts
  have k5:=X3.kept (by omega) gs
  have kz:=X3.kept (by omega) gz
  simp -dsimp (disch:=omega) only[wpS,wpT,zE,zL,zA,cQ,f5,k5,o1,o2,o3,o4]
  refine⟨ad rfl rfl rfl rfl (aT (H0:=H0) (b:=2*h1.n) (o:=0) f5 (by omega) (by assumption) (by assumption) L1),?_⟩
  simp -dsimp (disch:=omega) only[wpS,wpT,zE,zA,f11]
  refine⟨m - 1,by omega,i+1,a4,s4,b4,t4,by omega,((hE.trans e0).trans X3).put (by omega) _,by simp only[aH];omega,by simp (disch:=omega) only[ak];exact kz,ae _ _ rfl,p3.aa ((aJ.refl _).put k5 _),by simp[f1,f4,f5,f9,f10]⟩
 ·obtain rfl:i=l.length:=by omega
  have hQl:=hQ l.length (Nat.le_refl _)
  rw[List.take_length] at hp hQl
  obtain⟨_,_,_,_,hhe,_,_,_,o1,_,o2,o3,o4⟩:=hp.parts
  cases hhe
  simp -dsimp (disch:=omega) only[wpS,wpT,zE,zL,zA,cQ,fA,f4,f5,aj hg5,hg,fg,o1,o2,o3,o4]
  exact⟨hE.put (Nat.le_refl _) _,hp.aa ((aJ.refl _).put hg _),hQl⟩
open Classical in
theorem Uk {h:IH} {v:Value} {l:List (Nat×Nat)} (hv:iT h v l) (hl:l.length≤1000) :
  WV prog (.func (.func 120) #[] #[]) [v] h fun r h'=>Ext h h'∧r=.bool (decide (lZ l)):=by
 refine enter (nt:=10) (rs:=[.tmp 2]) Proofs.Tryz.func120 rfl rfl rfl (by simp) ?_
 simp -dsimp (disch:=omega) only[wpS,zE]
 refine call (sE hv x9 (fun h1 p _ hp=>Rf (hv.2.2 p hp).1 (hv.2.2 p hp).2)) ?_
 rintro _ h1 ⟨X1,rfl⟩
 by_cases c : ∃p∈l,x9 p
 ·rw[decide_eq_true c,decide_eq_false (show ¬lZ l from fun⟨h1,_⟩=>by obtain⟨p,hp,hb⟩:=c;exact h1 p hp hb)]
  simp -dsimp (disch:=omega) only[wpS,wpT,zE]
  exact X1
 rw[decide_eq_false c]
 have hno : ∀p∈l,¬x9 p:=fun p hp hb=>c ⟨p,hp,hb⟩
 simp -dsimp (disch:=omega) only[wpS,zE]
 refine call (NI (hv.aa X1.aa) (fun p hp=>(DD (hno p hp)).1) hl) ?_
 rintro r2 h2 ⟨X2,p2,q2⟩
 simp -dsimp (disch:=omega) only[wpS]
 refine call (eH 1 ⟨by omega,by omega⟩) ?_
 rintro r3 h3 ⟨X3,p3⟩
 simp -dsimp (disch:=omega) only[wpS,zE]
 refine call (rH (p2.aa X3.aa) p3 q2 (QB.int (k:=64) (by decide)) (by omega)) ?_
 rintro _ h4 ⟨X4,rfl⟩
 have XX:=((X1.trans X2).trans X3).trans X4
 have e1:((1:Int):Rat)=1:=rfl
 rw[e1]
 by_cases c1:fU (l.map rOf)=1
 ·rw[decide_eq_true (show lZ l from⟨hno,c1⟩),c1,if_neg (by exact Rat.lt_irrefl),if_pos rfl]
  simp -dsimp (disch:=omega) only[wpS,wpT,zE]
  exact XX
 ·rw[decide_eq_false (show ¬lZ l from fun h=>c1 h.2)]
  obtain⟨z,hz,hz0⟩ : ∃z:Int,(if fU (l.map rOf)<1 then (-1:Int) else if fU (l.map rOf)=1 then 0 else 1)=z∧z≠0:=⟨_,rfl,by split<;>simp[]⟩
  rw[hz]
  have d:(z == 0)=false:=by simpa using hz0
  simp -dsimp (disch:=omega) only[wpS,wpT,zE,d]
  exact XX
open Classical in
noncomputable def TR (ll:List (List (Nat×Nat))):Int:=if df ll then 0 else 330
open Classical in
theorem NO {h:IH} {v:Value} {ll:List (List (Nat×Nat))} (hv:jt h v ll) :
  WV prog (.func (.func 45) #[] #[]) [v] h fun r h'=>Ext h h'∧r=KI (TR ll):=by
 obtain⟨_,_,hlen⟩:=hv.co
 have hlb:=hv.choose_spec.2.1
 unfold TR
 refine enter (nt:=30) (rs:=[.tmp 2]) Proofs.Tryz.func45 rfl rfl rfl (by simp) ?_
 by_cases a1:ll.length<1
 ·rw[if_neg (fun hk=>by have:=hk.1;omega)]
  simp -dsimp (disch:=omega) only[wpS,wpT,zE,hlen]
  exact Ext.refl _
 by_cases a2:60<ll.length
 ·rw[if_neg (fun hk=>by have:=hk.2.1;omega)]
  simp -dsimp (disch:=omega) only[wpS,wpT,zE,hlen]
  exact Ext.refl _
 simp -dsimp (disch:=omega) only[wpS,wpT,zE,hlen]
 refine loop (fun m fr h1 => ∃i:Nat,i+m=ll.length∧Ext h h1∧(∀(j:Nat) x,j<i→ll[j]?=some x→x.length=ll.length∧lZ x)∧ab fr 0=some v∧ab fr 13=some v∧ab fr 14=some (KN ll.length)∧ab fr 15=some (KN i)) ll.length
  ⟨0,by omega,Ext.refl _,fun j p hj=>by omega,by simp⟩ ?_
 rintro m fr h1 ⟨i,him,hE,hok,f0,f13,f14,f15⟩
 simp -dsimp (disch:=omega) only[wpS,f14,f15]
 refine aq ?_ ?_<;>intro hc<;>simp only[decide_eq_true_eq,decide_eq_false_iff_not] at hc
 ·have hi:i<ll.length:=by omega
  obtain⟨x,hx⟩:=il (l:=ll) (i:=i) hi
  have hxm:=List.mem_of_getElem? hx
  obtain⟨w,l1,l2,l3⟩:=hv.at hE.aa hx
  have lx:=l2.2.1
  by_cases cl:x.length=ll.length
  case neg =>
   rw[if_neg (fun hk=>cl (hk.2.2 x hxm).1)]
   have d:(((x.length:Nat):Int) != ((ll.length:Nat):Int))=true:=by simpa using fun h=>cl (by omega)
   simp -dsimp (disch:=omega) only[wpS,wpT,zE,f0,f13,f15,l1,l3,l2.1.len uu,hlen,d]
   exact hE
  have d:(((x.length:Nat):Int) != ((ll.length:Nat):Int))=false:=by simp[cl]
  simp -dsimp (disch:=omega) only[wpS,wpT,zE,f0,f13,f15,l1,l3,l2.1.len uu,hlen,d]
  refine call (Uk l2 (by omega)) ?_
  rintro _ h2 ⟨X2,rfl⟩
  have E2:=hE.trans X2
  by_cases cr:lZ x
  ·rw[decide_eq_true cr]
   simp -dsimp (disch:=omega) only[wpS,wpT,zE,f15]
   refine⟨m - 1,by omega,i+1,by omega,E2,?_,by simp[f0,f13,f14]⟩
   intro j q hj hq
   by_cases hji:j=i
   ·subst hji;rw[hx] at hq;cases hq;exact⟨cl,cr⟩
   ·exact hok j q (by omega) hq
  ·rw[decide_eq_false cr,if_neg (fun hk=>cr (hk.2.2 x hxm).2)]
   simp -dsimp (disch:=omega) only[wpS,wpT,zE]
   exact E2
 ·rw[if_pos (show df ll from⟨by omega,by omega,fun x hx=>by
   obtain⟨j,hj⟩:=List.getElem?_of_mem hx
   exact hok j x (by have:=(List.getElem?_eq_some_iff.1 hj).1;omega) hj⟩)]
  simp -dsimp (disch:=omega) only[wpS,wpT]
  exact hE
end Go.Id
namespace Go.Id
open Go
structure ru (z:Nat) (h h':IH):Prop where
 n:h.n≤h'.n
 base:h'.base=h.base
 get : ∀k c f,k<h.n→h.ext.get k=some (.cells c z f) → ∃f',h'.ext.get k=some (.cells c z f')
theorem ru.refl (z:Nat) (h:IH):ru z h h:=⟨Nat.le_refl _,rfl,fun _ _ f _ hg=>⟨f,hg⟩⟩
theorem ru.put {z:Nat} {a b:IH} (g:ru z a b) {k e:Nat} {cs:List Value} {f:Option Nat} (hk:b.ext.get k=some (.cells cs e f)) (he:e≠z) (o:bz):ru z a (b.put k o):=⟨g.n,g.base,fun j c f1 hj hg=>by
 obtain⟨f2,h2⟩:=g.get j c f1 hj hg
 refine⟨f2,?_⟩
 rw[iF,if_neg]
 ·exact h2
 ·rintro rfl;rw[hk] at h2;cases h2;exact he rfl⟩
theorem bJ.qO {h h':IH} {sz:Nat} {v:Value} {n:Nat} {cs:List Value} (s:bJ h sz v n cs) (e:ru sz h h'):bJ h' sz v n cs:=by
 obtain⟨hz,hl,s|⟨b,o,k,rfl,s⟩⟩:=s
 ·exact⟨hz,hl,.inl s⟩
 ·refine⟨hz,hl,.inr ⟨b,o,k,rfl,s.imp id fun⟨a1,a2,row,a3,h1,h2,h3⟩=>?_⟩⟩
  rcases a3 with a3|⟨a4,a5,f,a6⟩
  ·refine⟨a1,a2,row,.inl a3,?_,h2,h3⟩
   rw[←h1];simp[IH.row,a3.1,e.base]
  ·obtain⟨f',h4⟩:=e.get (b / 2) row f (by omega) a6
   refine⟨a1,a2,row,.inr ⟨a4,by have:=e.n;omega,f',h4⟩,?_,h2,h3⟩
   simp only[IH.row,cond_eq_ite,beq_iff_eq]
   rw[if_neg (by omega)]
   simp only[h4]
structure rh (h:IH) (z k:Nat) (v:Value) (n:Nat) (cs:List Value):Prop where
 form:v=.slice (some ⟨2*k,0,none⟩) n (2*n+1)
 len:cs.length=n*z
 size:0<z
 some_:0<n
 old:k<h.n
 got:h.ext.get k=some (.cells cs z none)
theorem rh.sl {h:IH} {z k:Nat} {v:Value} {n:Nat} {cs:List Value} (r:rh h z k v n cs):bJ h z v n cs:=by
 obtain⟨rfl,l,hz,hn,hk,hg⟩:=r
 exact cT hg hk hz l (by omega) (by omega)
theorem rh.ext {h h':IH} {z k:Nat} {v:Value} {n:Nat} {cs:List Value} (r:rh h z k v n cs) (e:Ext h h'):rh h' z k v n cs :=
 ⟨r.form,r.len,r.size,r.some_,Nat.lt_of_lt_of_le r.old e.n,(e.get k r.old).trans r.got⟩
theorem SP {cs xs:List Value} {i:Nat} (h:i+xs.length≤cs.length):(IH.aG cs i xs).length=cs.length:=by
 simp only[IH.aG,List.length_append,List.length_take,List.length_drop];omega
theorem rh.set {h:IH} {z k:Nat} {v:Value} {n:Nat} {cs:List Value} (r:rh h z k v n cs) {P:Program} {t:TypeId} (hT:aK P t=some z) {i:Nat} (hi:i<n) {x:Value} {xs:List Value} (hx:x.cells.toList=xs) (hxl:xs.length=z) (hc:xs.all aA=true) :
  store P h t (aM v (i*z)) x=some (h.put k (.cells (IH.aG cs (i*z) xs) z none))∧rh (h.put k (.cells (IH.aG cs (i*z) xs) z none)) z k v n (IH.aG cs (i*z) xs):=by
 obtain⟨rfl,hl,hz,hn,hk,hg⟩:=r
 have hle:i*z+z≤cs.length:=by
  rw[hl,←Nat.succ_mul];exact Nat.mul_le_mul_right _ hi
 have k2:2*k / 2=k:=by omega
 have k1:(2*k % 2 == 1)=false:=by simp
 have hsx:x.cells.size=z:=by rw[←Array.length_toList,hx,hxl]
 have hst:store P h t (aM (.slice (some ⟨2*k,0,none⟩) n (2*n+1)) (i*z)) x=h.wr (2*k) (i*z) xs:=by
  simp only[aM,Nat.zero_add,store,asAddr,ptr,hT,hx,hsx,hc,beq_self_eq_true,Bool.and_self,cond_true]
 have hle2:Nat.ble (i*z+xs.length) cs.length=true:=by rw[Nat.ble_eq,hxl];exact hle
 refine⟨?_,rfl,by rw[SP (by omega)];exact hl,hz,hn,hk,ae _ _ rfl⟩
 rw[hst]
 simp only[IH.wr,k1,k2,hg,hle2,cond_true,cond_false];rfl
theorem Pq {cs xs:List Value} {i z:Nat} (hx:xs.length=z) (h:i*z+z≤cs.length):((IH.aG cs (i*z) xs).drop (i*z)).take z=xs:=by
 simp only[IH.aG]
 rw[List.drop_append,List.drop_of_length_le (by rw[List.length_take];omega),List.nil_append,List.length_take,Nat.min_eq_left (by omega),Nat.sub_self,List.drop_zero,List.take_append_of_le_length (by omega),List.take_of_length_le (by omega)]
theorem MG {cs xs:List Value} {i j z:Nat} (hx:xs.length=z) (h:i*z+z≤cs.length) (hj:j≠i):((IH.aG cs (i*z) xs).drop (j*z)).take z=(cs.drop (j*z)).take z:=by
 rcases Nat.lt_or_gt_of_ne hj with hlt|hgt
 ·have e:j*z+z≤i*z:=by rw[←Nat.succ_mul];exact Nat.mul_le_mul_right _ hlt
  simp only[IH.aG]
  apply List.ext_getElem?
  intro q
  rw[List.getElem?_take,List.getElem?_take]
  split
  ·rw[List.getElem?_drop,List.getElem?_drop,List.getElem?_append_left (by rw[List.length_take];omega),List.getElem?_take,if_pos (by omega)]
  ·rfl
 ·have e:i*z+z≤j*z:=by rw[←Nat.succ_mul];exact Nat.mul_le_mul_right _ hgt
  simp only[IH.aG]
  apply List.ext_getElem?
  intro q
  rw[List.getElem?_take,List.getElem?_take]
  split
  ·rw[List.getElem?_drop,List.getElem?_drop,List.getElem?_append_right (by rw[List.length_take];omega),List.getElem?_append_right (by rw[List.length_take];omega),List.getElem?_drop,List.length_take,Nat.min_eq_left (by omega)]
   congr 1;omega
  ·rfl
def kU (R:IH→Value→Rat→Prop) (h:IH) (cs:List Value) (j:Nat) (q:Rat):Prop:=∃a s b t,(cs.drop (j*4)).take 4 = [a,s,b,t]∧R h (.agg #[a,s,b,t]) q
theorem kU.mono {R:IH→Value→Rat→Prop} {h h':IH} {cs:List Value} {j:Nat} {q:Rat} (x:kU R h cs j q) (k : ∀v,R h v q→R h' v q):kU R h' cs j q:=let ⟨a,s,b,t,h1,h2⟩:=x;⟨a,s,b,t,h1,k _ h2⟩
theorem kU.set {R:IH→Value→Rat→Prop} {h:IH} {cs:List Value} {i:Nat} {q:Rat} {a s b t:Value} (hi:i*4+4≤cs.length) (r:R h (.agg #[a,s,b,t]) q):kU R h (IH.aG cs (i*4) [a,s,b,t]) i q:=⟨a,s,b,t,Pq rfl hi,r⟩
theorem kU.other {R:IH→Value→Rat→Prop} {h:IH} {cs:List Value} {i j:Nat} {q:Rat} {a s b t:Value} (x:kU R h cs j q) (hi:i*4+4≤cs.length) (hj:j≠i):kU R h (IH.aG cs (i*4) [a,s,b,t]) j q:=by
 obtain⟨a',s',b',t',h1,h2⟩:=x
 exact⟨a',s',b',t',by rw[MG (z:=4) rfl hi hj];exact h1,h2⟩
theorem Ez {R:IH→Value→Rat→Prop} {h:IH} : ∀{l:List Rat} {cs:List Value},cs.length=l.length*4→(∀j q,l[j]?=some q→kU R h cs j q)→jR R h l cs
 | [],cs,hl,_=>List.length_eq_zero_iff.1 (by simpa using hl)
 | q :: l,cs,hl,H=>by
  obtain⟨a,s,b,t,h1,h2⟩:=H 0 q rfl
  rw[Nat.zero_mul,List.drop_zero] at h1
  refine⟨a,s,b,t,cs.drop 4,?_,h2,Ez (by rw[List.length_drop,hl,List.length_cons];omega) fun j p hj=>?_⟩
  ·have:=List.take_append_drop 4 cs
   rw[h1] at this
   exact this.symm
  ·obtain⟨a',s',b',t',h3,h4⟩:=H (j+1) p hj
   refine⟨a',s',b',t',?_,h4⟩
   rw[List.drop_drop,←h3]
   congr 2;omega
theorem UE {R:IH→Value→Rat→Prop} {h:IH} {l:List Rat} {cs:List Value} (H:jR R h l cs) {j:Nat} {q:Rat} (hj:l[j]?=some q):kU R h cs j q:=H.at hj
theorem nF.nc {R:IH→Value→Rat→Prop} (k:Kept R) {h:IH} {v:Value} {l:List Rat} (s:nF R h v l) {i:Nat} {q:Rat} (hi:l[i]?=some q) {P:Program} {t:TypeId} (hT:bj P t=some true) (hS:aK P t=some 4) :
  ∃a s b u,(∀h',aJ h h'→load P h' t (aM v (i*4))=some (.agg #[a,s,b,u]))∧R h (.agg #[a,s,b,u]) q:=by
 obtain⟨cs,hs,hc,hl⟩:=s
 have hil:=(List.getElem?_eq_some_iff.1 hi).1
 have hcl:=hc.len
 obtain⟨a,s,b,u,e1,r⟩:=hc.at hi
 exact⟨a,s,b,u,fun h' e=>by rw[hs.Cb e (by omega) (by omega) hT hS,e1],r⟩
open Go.Proofs.Tryz (prog)
open Nat renaming reduceAdd→zA,reduceEqDiff→zE,reduceLeDiff→zL
set_option maxHeartbeats 16000000
def tf (a:Nat):Nat:=if a<H8 then a+H8 else a - H8
theorem J6 {a:Nat} (ha:a<W8):tf a<W8:=by
 have:=dZ;unfold tf;split<;>omega
theorem EZ {a:Nat} (ha:a<W8):((tf a:Nat):Int)=wdI a+H8:=by
 have:=dZ;unfold tf wdI;split<;>omega
theorem EY {a:Nat} (ha:a<W8) : ∃w:Nat,(∀ox oy,binop prog .xor 28 ox oy (K64 (wrd a 7)) (.int .u64 9223372036854775808)=some (K64 w))∧IH.aG (wdC a) 7 [K64 w]=wdC (tf a):=by
 by_cases c:a<H8
 ·refine⟨wrd a 7+9223372036854775808,fun ox oy=>?_,?_⟩
  ·rw[←JS (CS c)];exact sV _ _ ox oy _ 9223372036854775808 (vK a 7) (by decide)
  ·rw[tf,if_pos c];exact JZ c
 ·have h2:=dZ
  obtain⟨b,hb⟩:=aP (a - H8)
  have hb8:b<H8:=by omega
  have ea:b+H8=a:=by omega
  have key:=JZ hb8
  rw[ea] at key
  have lt:=CS hb8
  have e7:wrd a 7=wrd b 7+9223372036854775808:=by
   have g:=du a 7 (by omega)
   rw[←key,gG (by rw[ar];omega),List.getElem?_set_self (by rw[ar];omega)] at g
   injection g with g
   injection g with _ g
   omega
  refine⟨wrd b 7,fun ox oy=>?_,?_⟩
  ·have ex:(wrd b 7+9223372036854775808) ^^^ 9223372036854775808=wrd b 7:=by
    rw[←JS lt,Nat.xor_assoc,Nat.xor_self,Nat.xor_zero]
   have:=sV prog 28 ox oy (wrd b 7+9223372036854775808) 9223372036854775808 (by omega) (by decide)
   rw[ex] at this
   rw[e7];exact this
  ·rw[←key,gG (n:=7) (cs:=wdC b) (by rw[ar];omega),gG (by rw[List.length_set,ar];omega),List.set_set,tf,if_neg c,←hb]
   apply List.ext_getElem?
   intro j
   by_cases hj:7=j
   ·subst hj
    rw[List.getElem?_set_self (by rw[ar];omega),du b 7 (by omega)]
   ·rw[List.getElem?_set_ne hj]
theorem O7 {h:IH} (a b:Nat) (ha:a<W8) (hb:b<W8):WV prog (.func (.func 129) #[] #[]) [wdV a,wdV b] h fun r h'=>Ext h h'∧r=KI (if wdI a<wdI b then -1 else if wdI a=wdI b then 0 else 1):=by
 have j7:pM 7 8=some 7:=rfl
 have ga:=du a 7 (by omega)
 have gb:=du b 7 (by omega)
 obtain⟨wa,xa,sa⟩:=EY ha
 obtain⟨wb,xb,sb⟩:=EY hb
 obtain⟨H0,hH0,n0,E0,k0,k1⟩:=dY h (wdC a) (wdC b)
 refine enter (nt:=16) (rs:=[.tmp 4]) Proofs.Tryz.func129 rfl rfl rfl (by simp) ?_
 simp -dsimp (disch:=omega) only[wpS,zE,zA,tV,cD]
 rw[←hH0]
 clear hH0
 simp -dsimp (disch:=omega) only[wpS,wpT,zE,zL,zA,tV,rY,vU,eV,aj k0,aj k1,k0,k1,tV,j7,ga,gb,xa,xb,ar,sa,sb,yP]
 refine call (uv (tf a) (tf b) (J6 ha) (J6 hb)) ?_
 rintro _ h1 ⟨X1,rfl⟩
 have ta:=EZ ha
 have tb:=EZ hb
 have e:(if tf a<tf b then (-1:Int) else if tf a=tf b then 0 else 1)=if wdI a<wdI b then -1 else if wdI a=wdI b then 0 else 1:=by
  by_cases c1:wdI a<wdI b
  ·rw[if_pos c1,if_pos (by omega)]
  ·rw[if_neg c1,if_neg (by omega)]
   by_cases c2:wdI a=wdI b
   ·rw[if_pos c2,if_pos (by omega)]
   ·rw[if_neg c2,if_neg (by omega)]
 rw[e]
 have EE:Ext h ((H0.put h.n (.cells (wdC (tf a)) 0 none)).put (h.n+1) (.cells (wdC (tf b)) 0 none)):=(E0.put (Nat.le_refl _) _).put (by omega) _
 simp -dsimp (disch:=omega) only[wpS,wpT,zE]
 exact EE.trans X1
theorem K3 {H:IH} {k n:Nat} (g:H.ext.get k=some (.cells (wdC n) 0 none)):load prog H 30 (ptr (2*k) 0)=some (wdV n):=by
 have r:=aj g
 simp -dsimp (disch:=omega) only[wpS,zL,eV,r,ar,yP]
 rfl
theorem QI {h:IH} {least:Int} {n b:Nat} (hn:n<W8) (hl:fR least) (hb:b<h.n) (g:h.ext.get b=some (.cells [KI least] 0 none)) :
  WV prog (.func (.func 246) #[] #[ptr (2*b) 0]) [wdV n] h fun r h'=>Ext h h'∧r=.bool (decide (wdI n<least)):=by
 obtain⟨H0,hH0⟩:=aP (h.new (.cells (wdC n) 0 none))
 have E0:Ext h H0:=by rw[hH0];exact(Ext.refl h).new _
 have n0:H0.n=h.n+1:=by rw[hH0];rfl
 have k0:H0.ext.get h.n=some (.cells (wdC n) 0 none):=by rw[hH0];simp (disch:=omega) only[ah]
 have k1:=E0.kept hb g
 refine enter (nt:=9) (rs:=[.tmp 3]) Proofs.Tryz.func246 rfl rfl rfl (by simp) ?_
 simp -dsimp (disch:=omega) only[wpS,zE,zA,cD]
 rw[←hH0]
 clear hH0
 have X0:=Ext.refl H0
 have L1:=K3 k0
 have L2:=WC k1
 refine drawn [(0,[3])] (by kernel_rfl) (by kernel_rfl) rfl ?_
 simp -dsimp (disch:=omega) only[wpS,zE,ld3,L1,aj k1]
 refine call (nI least hl) ?_
 rintro _ h1 ⟨X1,rfl⟩
 have m1:=X1.n
 simp -dsimp (disch:=omega) only[wpS,zE]
 refine call (O7 n (aV least) hn (dR (jy hl))) ?_
 rintro _ h2 ⟨X2,rfl⟩
 have X12:=X1.trans X2
 rw[cm (jy hl)]
 by_cases c:wdI n<least
 ·rw[if_pos c,decide_eq_true c]
  simp -dsimp (disch:=omega) only[wpS,wpT,zE]
  refine⟨by repeat' first|refine ay ?_ ?_|refine az ?_ ?_|exact ad rfl rfl rfl rfl (aT (H0:=H0) rfl (by omega) (by assumption) (by assumption) (by with_reducible assumption)),?_⟩
  simp -dsimp (disch:=omega) only[wpS,wpT,zE,zA]
  exact E0.trans X12
 ·rw[if_neg c,decide_eq_false c]
  obtain⟨z,hz,hz0⟩ : ∃z:Int,(if wdI n=least then (0:Int) else 1)=z∧0≤z:=⟨_,rfl,by split<;>omega⟩
  rw[hz]
  simp -dsimp (disch:=omega) only[wpS,wpT,zE]
  refine⟨by repeat' first|refine ay ?_ ?_|refine az ?_ ?_|exact ad rfl rfl rfl rfl (aT (H0:=H0) rfl (by omega) (by assumption) (by assumption) (by with_reducible assumption)),?_⟩
  simp -dsimp (disch:=omega) only[wpS,wpT,zE,zA]
  exact E0.trans X12
open Classical in
theorem qa {h:IH} {v F:Value} {l:List Nat} (hv:pE h v l) (B:Nat→Prop) (hF : ∀h1 p,Ext h h1→p∈l→WV prog F [wdV p] h1 fun r h2=>Ext h1 h2∧r=.bool (decide (B p))) :
  WV prog (.func (.func 95) #[] #[]) [v,F] h fun r h'=>Ext h h'∧r=.bool (decide (∃p∈l,B p)):=by
 have hlb:=hv.2.1
 have W5:WV prog (.func (.func 191) #[] #[]) [v,F] h fun r h'=>Ext h h' ∧ ∃c:Int,r=KI c∧(0≤c ↔ ∃p∈l,B p):=by
  refine enter (nt:=19) (rs:=[.tmp 4]) Proofs.Tryz.func191 rfl rfl rfl (by simp) ?_
  simp -dsimp (disch:=omega) only[wpS,zE,zA,hv.1.len Dh]
  refine loop (fun m fr h1 => ∃i:Nat,i+m=l.length∧Ext h h1∧(∀(j:Nat) p,j<i→l[j]?=some p → ¬B p)∧ab fr 0=some v∧ab fr 1=some F∧ab fr 7=some (KN l.length)∧ab fr 8=some (KN i)) l.length
   ⟨0,by omega,Ext.refl _,fun j p hj=>by omega,by simp⟩ ?_
  rintro m fr h1 ⟨i,him,hE,hno,f0,f1,f7,f8⟩
  simp -dsimp (disch:=omega) only[wpS,f7,f8]
  refine aq ?_ ?_<;>intro hc<;>simp only[decide_eq_true_eq,decide_eq_false_iff_not] at hc
  ·have hi:i<l.length:=by omega
   obtain⟨p,hp⟩:=il (l:=l) (i:=i) hi
   have hpm:=List.mem_of_getElem? hp
   simp -dsimp (disch:=omega) only[wpS,wpT,zE,f0,f1,f8,hv.1.idx N9 hi,hv.ld hE.aa hp]
   refine call (hF h1 p hE hpm) ?_
   rintro _ h2 ⟨hE2,rfl⟩
   have E2:=hE.trans hE2
   by_cases hk:B p
   ·rw[decide_eq_true hk]
    simp -dsimp (disch:=omega) only[wpS,zE]
    exact⟨E2,(i:Int),rfl,fun _=>⟨p,hpm,hk⟩,fun _=>by omega⟩
   ·rw[decide_eq_false hk]
    simp -dsimp (disch:=omega) only[wpS,zE,f8]
    refine⟨m - 1,by omega,i+1,by omega,E2,?_,by simp[f0,f1,f7]⟩
    intro j q hj hq
    by_cases hji:j=i
    ·subst hji;rw[hp] at hq;cases hq;exact hk
    ·exact hno j q (by omega) hq
  ·simp -dsimp (disch:=omega) only[wpS,wpT]
   refine⟨hE,-1,rfl,fun h=>by omega,fun⟨p,hp,hb⟩=>?_⟩
   obtain⟨j,hj⟩:=List.getElem?_of_mem hp
   have:=(List.getElem?_eq_some_iff.1 hj).1
   exact absurd hb (hno j p (by omega) hj)
 refine enter (nt:=9) (rs:=[.tmp 4]) Proofs.Tryz.func95 rfl rfl rfl (by simp) ?_
 simp -dsimp (disch:=omega) only[wpS,zE,zA]
 refine call W5 ?_
 rintro _ h1 ⟨hE,c,rfl,hc⟩
 simp -dsimp (disch:=omega) only[wpS,zE]
 exact⟨hE,by rw[decide_eq_decide.2 hc]⟩
open Classical in
theorem DL {h:IH} {v:Value} {l:List Nat} {least:Int} (hv:pE h v l) (hl:fR least) :
  WV prog (.func (.func 196) #[] #[]) [v,KI least] h fun r h'=>Ext h h'∧r=.bool (decide (∃p∈l,wdI p<least)):=by
 have E1:Ext h (h.new (.cells [KI least] 0 none)):=(Ext.refl h).new _
 refine enter (nt:=8) (rs:=[.tmp 4]) Proofs.Tryz.func196 rfl rfl rfl (by simp) ?_
 simp -dsimp (disch:=omega) only[wpS,zE,zA]
 refine call (qa (hv.aa E1.aa) (fun p=>wdI p<least) (fun h1 p hE hp=>(QI (b:=h.n) (hv.2.2 p hp) hl (by have:=hE.n;simp only[aI] at this;omega) (hE.kept (by simp) (ah _ _ rfl))).mono fun r h2 ⟨a,b⟩=>⟨a,by rw[b];congr⟩)) ?_
 rintro _ h1 ⟨X1,rfl⟩
 simp -dsimp (disch:=omega) only[wpS,zE]
 exact⟨E1.trans X1,by congr⟩
def cA (n:Nat):Rat:=((wdI n:Int):Rat)
theorem QH {h:IH} {v:Value} {l:List Nat} (hv:pE h v l) (hl:l.length≤1000):WV prog (.func (.func 197) #[] #[]) [v] h fun r h'=>Ext h h'∧nF bg h' r (l.map cA):=by
 refine enter (nt:=20) (rs:=[.tmp 2]) Proofs.Tryz.func197 rfl rfl rfl (by simp) ?_
 simp -dsimp (disch:=omega) only[wpS,zE,hv.1.len Dh]
 refine loop (fun m fr h1 => ∃(i:Nat) (out:Value) (cs:List Value),i+m=l.length∧Ext h h1∧Acc h1 h.n 4 out ((l.take i).map cA).length cs∧jR bg h1 ((l.take i).map cA) cs∧ab fr 3=some out∧ab fr 6=some v∧ab fr 7=some (KN l.length)∧ab fr 8=some (KN i)) l.length
  ⟨0,.slice none 0 0,[],by omega,Ext.refl _,Acc.nil h _ (by omega),by simp[jR]⟩ ?_
 rintro m fr h1 ⟨i,out,cs,him,hE,hA,hC,f3,f6,f7,f8⟩
 simp -dsimp (disch:=omega) only[wpS,f7,f8]
 refine aq ?_ ?_<;>intro hc<;>simp only[decide_eq_true_eq,decide_eq_false_iff_not] at hc
 ·have hi:i<l.length:=by omega
  obtain⟨p,hp⟩:=il (l:=l) (i:=i) hi
  have wp:=hv.2.2 p (List.mem_of_getElem? hp)
  simp -dsimp (disch:=omega) only[wpS,wpT,zE,zL,zA,eV,nh,kK,f3,f6,f8,hv.1.idx N9 hi,hv.ld hE.aa hp,cD,ar,cb,ev,yP]
  have E1:Ext h1 ((h1.new (.cells [ZW,ZW,ZW,ZW,ZW,ZW,ZW,ZW] 0 none)).put h1.n (.cells (wdC p) 0 none)):=((Ext.refl h1).new _).put (Nat.le_refl _) _
  refine call (jb p wp) ?_
  rintro r1 h2 ⟨X2,p2⟩
  simp -dsimp (disch:=omega) only[wpS,zE]
  refine call (uc p2) ?_
  rintro r h3 ⟨X3,p3⟩
  obtain⟨a3,s3,b3,t3,rfl,_,_,_,o1,_,o2,o3,o4⟩:=p3.parts
  have X13:=(E1.trans X2).trans X3
  have n1:=hE.n
  have n2:=X13.n
  obtain⟨dU,h5,hap,hA5,hC5,hG5,hE5⟩:=PS VK (by omega) gL (hA.ext X13) (hC.aa gL X13.aa) p3 (by simp[o1,o2,o3,o4]) (by simp;omega) (by omega) (hE.trans X13) (Nat.le_refl _)
  have eT:(l.take i).map cA ++ [((wdI p:Int):Rat)]=(l.take (i+1)).map cA:=by rw[fy hp,List.map_append];rfl
  rw[eT] at hA5 hC5
  simp -dsimp (disch:=omega) only[wpS,wpT,zE,zL,zA,RY,CM,f8,hap]
  exact⟨m - 1,by omega,i+1,dU,_,by omega,hE5,hA5,hC5,by simp[f6,f7]⟩
 ·obtain rfl:i=l.length:=by omega
  rw[List.take_length] at hA hC
  simp -dsimp (disch:=omega) only[wpS,wpT,zE,f3]
  exact⟨hE,cs,hA.sl,hC,by simp;omega⟩
end Go.Id
namespace Go.Id
open Go
theorem bg.qO {h h':IH} {v:Value} {q:Rat} (p:bg h v q) (e:ru 1 h h'):bg h' v q:=by
 obtain⟨a,s,b,t,h1,⟨s1,e1,ds,d1,d2⟩,⟨s2,e2,es,d3,d4⟩⟩:=p
 exact⟨a,s,b,t,h1,⟨s1,e1,ds,⟨d1.1.qO e,d1.2⟩,d2⟩,⟨s2,e2,es,⟨d3.1.qO e,d3.2⟩,d4⟩⟩
theorem FL (z:List Value) : ∀n,(bq n z).length=n*z.length
 | 0=>by rw[BH];simp
 | n+1=>by rw[vX,List.length_append,FL z n,Nat.add_mul];omega
def kAt (ll:List (List (Nat×Nat))) (i j:Nat):Rat:=rOf ((ll.getD i []).getD j (0,0))
def goQ (ll:List (List (Nat×Nat))) (t:List Nat) (i j:Nat):Rat:=if kAt ll j i*cA (t.getD j 0) / cA (t.getD i 0)<kAt ll i j then kAt ll j i*cA (t.getD j 0) / cA (t.getD i 0) else kAt ll i j
def nw (g:Nat→Rat) (i:Nat):Nat→Rat
 | 0=>1
 | j+1=>if j=i then nw g i j else nw g i j - g j
def mW (ll:List (List (Nat×Nat))) (t:List Nat) (i j:Nat):Rat:=if j=i then nw (goQ ll t i) i ll.length else goQ ll t i j
def dK (ll:List (List (Nat×Nat))) (t:List Nat) (i:Nat):List Rat:=(List.range ll.length).map (mW ll t i)
def tO (ll:List (List (Nat×Nat))) (t:List Nat):Prop:=∀i,i<ll.length → ∀q∈dK ll t i,QW q
def ij (ll:List (List (Nat×Nat))) (t:List Nat):List (List (Nat×Nat)):=(List.range ll.length).map fun i=>(dK ll t i).map shq
open Classical in
noncomputable def mX (ll:List (List (Nat×Nat))) (t:List Nat):Int:=if ¬df ll then 330 else if t.length≠ll.length∨(∃p∈t,wdI p<1) then 2 else if tO ll t then 0 else 6
theorem fb (ll:List (List (Nat×Nat))) (t:List Nat) (i:Nat):(dK ll t i).length=ll.length:=by simp[dK]
theorem jL {ll:List (List (Nat×Nat))} {t:List Nat} {i j:Nat} (hj:j<ll.length):(dK ll t i)[j]?=some (mW ll t i j):=by
 rw[dK,List.getElem?_map,List.getElem?_range hj];rfl
theorem Co {ll:List (List (Nat×Nat))} {t:List Nat} {i:Nat} (hi:i<ll.length):(ij ll t)[i]?=some ((dK ll t i).map shq):=by
 rw[ij,List.getElem?_map,List.getElem?_range hi];rfl
theorem iQ (ll:List (List (Nat×Nat))) (t:List Nat):(ij ll t).length=ll.length:=by simp[ij]
theorem kV {p:Nat} (hp:p<W8):QB 512 (cA p):=by
 refine QB.int ?_
 have hw:W8=2 ^ 512:=by decide +kernel
 rw[←hw]
 unfold wdI
 have:=dZ
 split<;>omega
theorem CU {p:Nat} (h:1≤wdI p):cA p≠0:=fun e=>by
 have:wdI p=0:=Rat.intCast_inj.1 e
 omega
theorem Xc {ll:List (List (Nat×Nat))} {t:List Nat} {i j:Nat} (h1:QB 512 (kAt ll i j)) (h2:QB 512 (kAt ll j i)) (h3:t.getD j 0<W8) (h4:t.getD i 0<W8) (h5:1≤wdI (t.getD i 0)):QB 1536 (goQ ll t i j):=by
 have q1:=h2.mul (kV h3)
 have q2:=q1.div (kV h4) (CU h5)
 have q3:=q2.mono (b:=1536) (by omega)
 unfold goQ
 split
 ·exact q3
 ·exact h1.mono (by omega)
theorem eX {ll:List (List (Nat×Nat))} (k:df ll) {i j:Nat} (hi:i<ll.length) (hj:j<ll.length) : ∃row p,ll[i]?=some row∧row.length=ll.length∧row[j]?=some p∧okS p.1 p.2∧0≤wdI p.1∧kAt ll i j=rOf p:=by
 obtain⟨h1,h2⟩:=k.2.2 _ (List.getElem_mem hi)
 have hj':j<(ll[i]).length:=by omega
 refine⟨_,_,List.getElem?_eq_getElem hi,h1,List.getElem?_eq_getElem hj',(DD (h2.1 _ (List.getElem_mem hj'))).1,(DD (h2.1 _ (List.getElem_mem hj'))).2,?_⟩
 unfold kAt
 simp only[List.getD_eq_getElem?_getD,List.getElem?_eq_getElem hi,Option.getD_some,List.getElem?_eq_getElem hj']
end Go.Id
