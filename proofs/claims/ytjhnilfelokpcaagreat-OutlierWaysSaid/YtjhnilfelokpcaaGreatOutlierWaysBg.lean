/-
  Contracts: the program's fractions of integers; shares made. Fractions of shares: what is used by all packages.
-/
import Derived.Test.YtjhnilfelokpcaaGreatOutlierWaysAt
import Derived.Test.YtjhnilfelokpcaaGreatOutlierWaysBf
import Derived.Test.YtjhnilfelokpcaaGreatOutlierWaysBe
import Derived.Test.YtjhnilfelokpcaaGreatOutlierWaysBb
import Derived.Test.YtjhnilfelokpcaaGreatOutlierWaysAw
set_option linter.unusedVariables false
set_option linter.unusedSimpArgs false
set_option linter.defProp false
set_option linter.deprecated false
namespace Go.Id
open Go
open Go.Proofs.Tryz (prog)
open Nat (reduceAdd reduceEqDiff reduceLeDiff)
set_option maxHeartbeats 16000000
theorem whole_ok {h:IH} {v:Value} {n:Int} (hv:PLong h v n):WV prog (.func (.func 153) #[] #[]) [v] h fun r h'=>Ext h h'∧PRat h' r (n:Rat):=by
 obtain⟨s,rfl,c1,o1⟩:=hv.cells2
 refine enter (nt:=6) (rs:=[.cell 2 169]) Proofs.Tryz.func153 rfl rfl rfl (by simp) ?_
 simp -dsimp (maxSteps:=1000000) (disch:=try exact dx) only[wpS,zc169]
 obtain⟨H0,hH0,n0,E0,g0,g1⟩:=boxes2 h [.bool (decide (n<0)),s] ZR
 rw[←hH0]
 clear hH0
 have X0:=Ext.refl H0
 have L1:=pl2 g0
 refine drawn [(0,[3])] (by kernel_rfl) (by kernel_rfl) rfl ?_
 simp -dsimp (maxSteps:=1000000) (disch:=try exact dx) only[wpS,wpT,reduceEqDiff,reduceLeDiff,reduceAdd,ld123,row_of g0,tk2']
 refine call (pfrom_ok 1 ⟨by omega,by omega⟩) ?_
 rintro _ h1 ⟨X1,p1⟩
 have m1:=X1.n
 obtain⟨s1,rfl,c2,o2⟩:=p1.cells2
 have kg:=X1.kept (by omega) g1
 simp -dsimp (maxSteps:=1000000) (disch:=try exact dx) only[wpS,wpT,reduceEqDiff,reduceLeDiff,reduceAdd,bv169,pl169_0,pl169_1,st169,kg,o1,o2]
 refine⟨by repeat' first|refine wpSteady_c2 ?_ ?_|refine wpSteady_t2 ?_ ?_|exact wpSteady_one rfl rfl rfl rfl (steady_ext (H0:=H0) rfl (by omega) (by assumption) (by assumption) (by with_reducible assumption)),?_⟩
 simp -dsimp (maxSteps:=1000000) (disch:=try exact dx) only[wpS,wpT,reduceEqDiff,reduceLeDiff,reduceAdd,ld169,tk4']
 have kp:=(Keep.refl h1).put kg (.cells [.bool (decide (n<0)),s,.bool false,s1] 0 none)
 exact⟨(E0.trans X1).put (by omega) _,_,_,_,_,rfl,hv.keep ((E0.trans X1).keep.trans kp),p1.keep kp⟩
theorem rfrom_ok {h:IH} (n:Int) (hn:In64 n):WV prog (.func (.func 116) #[] #[]) [KI n] h fun r h'=>Ext h h'∧PRat h' r (n:Rat):=by
 refine enter (nt:=6) (rs:=[.cell 2 169]) Proofs.Tryz.func116 rfl rfl rfl (by simp) ?_
 simp -dsimp (maxSteps:=1000000) (disch:=try exact dx) only[wpS,reduceEqDiff,zc169]
 have E1:Ext h (h.new (.cells ZR 0 none)):=(Ext.refl h).new _
 have g1:(h.new (.cells ZR 0 none)).ext.get h.n=some (.cells ZR 0 none):=by simp (disch:=try exact dx) only[get_new_same]
 refine call (pfrom_ok n hn) ?_
 rintro _ h1 ⟨X1,p1⟩
 simp -dsimp (maxSteps:=1000000) (disch:=try exact dx) only[wpS,reduceEqDiff]
 refine call (whole_ok p1) ?_
 rintro _ h2 ⟨X2,p2⟩
 have m1:=X1.n
 have m2:=X2.n
 simp only[new_n] at m1
 obtain⟨a3,s3,b3,t3,rfl,_,_,d1,o1,d2,o2,o3,o4⟩:=p2.parts
 have kg:=X2.kept (by omega) (X1.kept (by simp) g1)
 simp -dsimp (maxSteps:=1000000) (disch:=try exact dx) only[wpS,wpT,reduceEqDiff,reduceLeDiff,reduceAdd,st169,ld169,kg,o1,o2,o3,o4,tk4']
 exact⟨((E1.trans X1).trans X2).put (by omega) _,p2.keep ((Keep.refl _).put kg _)⟩
theorem wdI_zero_iff {d:Nat} (hd:d<W8):wdI d=0↔d=0:=by
 have h2:=H8_two
 have h3:=H8_pos
 unfold wdI
 split<;>omega
theorem shmake_ok {h:IH} (n d:Nat) (hn:n<W8) (hd:d<W8) (d0:d≠0):WV prog (.func (.func 197) #[] #[]) [wdV n,wdV d] h fun r h'=>Ext h h'∧r=(open Classical in if QW (Rat.divInt (wdI n) (wdI d)) then .tuple #[shareV (Rat.divInt (wdI n) (wdI d)),KI 0] else .tuple #[shV 0 0,KI 6]):=by
 refine enter (nt:=18) (rs:=[.cell 4 48,.tmp 5]) Proofs.Tryz.func197 rfl rfl rfl (by simp) ?_
 simp -dsimp (maxSteps:=1000000) (disch:=try exact dx) only[wpS,wpT,reduceEqDiff,reduceLeDiff,reduceAdd,zc48,ld44,bv44,cells8,wdC_len]
 obtain⟨H0,hH0,n0,E0,g0,g1,g2⟩:=boxes3 h (wdC n) (wdC d) Z16
 rw[←hH0]
 clear hH0
 have X0:=Ext.refl H0
 have L2:load prog H0 44 (ptr (2*(h.n+1)) 0)=some (wdV d):=by
  simp -dsimp (maxSteps:=1000000) (disch:=try exact dx) only[wpS,reduceLeDiff,ld44,row_of g1,wdC_len,wd_take]
  rfl
 have hz:binop prog .eql 44 (.tmp 6) (.tmp 7) (.agg (wdC d).toArray) (.agg #[ZW,ZW,ZW,ZW,ZW,ZW,ZW,ZW])=some (.bool false):=by
  rw[wd_zero,wdV,wd_eql hd (by have:=H8_two;have:=H8_pos;omega)]
  rw[decide_eq_false d0]
 have hdI:wdI d≠0:=fun h=>d0 ((wdI_zero_iff hd).1 h)
 simp -dsimp (maxSteps:=1000000) (disch:=try exact dx) only[wpS,reduceEqDiff,wd_take,hz]
 refine drawn [(2,[1])] (by kernel_rfl) (by kernel_rfl) rfl ?_
 simp -dsimp (maxSteps:=1000000) (disch:=try exact dx) only[wpS,reduceEqDiff,reduceLeDiff,ld44,row_of g0,wdC_len,wd_take]
 refine call (longer_ok n hn) ?_
 rintro r1 h1 ⟨X1,p1⟩
 have m1:=X1.n
 simp -dsimp (maxSteps:=1000000) (disch:=try exact dx) only[wpS,reduceEqDiff,reduceLeDiff,ld44,row_of (X1.kept (by omega) g1),wdC_len,wd_take]
 refine call (longer_ok d hd) ?_
 rintro r2 h2 ⟨hE2,p2⟩
 have X2:=X1.trans hE2
 have m2:=hE2.n
 simp -dsimp (maxSteps:=1000000) (disch:=try exact dx) only[wpS,reduceEqDiff]
 refine call (lowest_ok (p1.keep hE2.keep) p2 (wdI_small hn) (wdI_small hd) hdI) ?_
 rintro r3 h3 ⟨hE3,p3⟩
 have X3:=X2.trans hE3
 have m3:=hE3.n
 simp -dsimp (maxSteps:=1000000) (disch:=try exact dx) only[wpS,reduceEqDiff]
 refine call (rtold_ok p3) ?_
 rintro _ h4 ⟨hE4,rfl⟩
 have X4:=X3.trans hE4
 have m4:=hE4.n
 have kg:=X4.kept (by omega) g2
 by_cases hq:QW (Rat.divInt (wdI n) (wdI d))
 ·rw[if_pos hq]
  simp -dsimp (maxSteps:=1000000) (disch:=try exact dx) only[wpS,wpT,reduceEqDiff,reduceLeDiff,reduceAdd,st48,kg,shV_cells,shC_len,shC_all,sh_sp3]
  refine⟨by repeat' first|refine wpSteady_c2 ?_ ?_|refine wpSteady_t2 ?_ ?_|exact wpSteady_one rfl rfl rfl rfl (steady_ext (H0:=H0) rfl (by omega) (by assumption) (by assumption) (by with_reducible assumption)),?_⟩
  simp -dsimp (maxSteps:=1000000) (disch:=try exact dx) only[wpS,wpT,reduceEqDiff,reduceLeDiff,reduceAdd,ld48,shC_len,sh_take]
  exact⟨(E0.trans X4).put (by omega) _,rfl⟩
 ·rw[if_neg hq]
  simp -dsimp (maxSteps:=1000000) (disch:=try exact dx) only[wpS,wpT,reduceEqDiff,reduceLeDiff,reduceAdd,st48,kg,shV_cells,shC_len,shC_all,sh_sp3]
  refine⟨by repeat' first|refine wpSteady_c2 ?_ ?_|refine wpSteady_t2 ?_ ?_|exact wpSteady_one rfl rfl rfl rfl (steady_ext (H0:=H0) rfl (by omega) (by assumption) (by assumption) (by with_reducible assumption)),?_⟩
  simp -dsimp (maxSteps:=1000000) (disch:=try exact dx) only[wpS,wpT,reduceEqDiff,reduceLeDiff,reduceAdd,ld48,shC_len,sh_take]
  exact⟨(E0.trans X4).put (by omega) _,rfl⟩
theorem qw_div {n d:Int} (hn:In64 n) (hd:In64 d) (d0:d≠0):QW (Rat.divInt n d):=by
 have h3:=H8_big
 have q:=QB.divInt (k:=63) d0 (n:=n) (by have:=hn.1;have:=hn.2;omega) (by have:=hd.1;have:=hd.2;omega)
 obtain⟨q1,q2⟩:=q
 have e:2 ^ 63=9223372036854775808:=by decide
 rw[e] at q1 q2
 exact⟨⟨by omega,by omega⟩,⟨by omega,by omega⟩⟩
theorem inW64 {n:Int} (hn:In64 n):InW n:=by
 have h3:=H8_big
 exact⟨by have:=hn.1;omega,by have:=hn.2;omega⟩
theorem wideN0 {n:Int} (hn:In64 n) (h0:n≠0):wideN n≠0:=by
 have hw:=inW64 hn
 have:=wdI_wideN hw
 intro h
 rw[h] at this
 have h2:=H8_pos
 unfold wdI at this
 rw[if_pos h2] at this
 omega
theorem shof_ok {h:IH} (n d:Int) (hn:In64 n) (hd:In64 d) (d0:d≠0):WV prog (.func (.func 108) #[] #[]) [KI n,KI d] h fun r h'=>Ext h h'∧r=.tuple #[shareV (Rat.divInt n d),KI 0]:=by
 refine enter (nt:=13) (rs:=[.cell 4 48,.tmp 5]) Proofs.Tryz.func108 rfl rfl rfl (by simp) ?_
 simp -dsimp (maxSteps:=1000000) (disch:=try exact dx) only[wpS,reduceEqDiff,reduceAdd,zc48]
 have E1:Ext h (h.new (.cells Z16 0 none)):=(Ext.refl h).new _
 have g1:(h.new (.cells Z16 0 none)).ext.get h.n=some (.cells Z16 0 none):=by simp (disch:=try exact dx) only[get_new_same]
 refine call (wideOf_ok n hn) ?_
 rintro _ h1 ⟨X1,rfl⟩
 simp -dsimp (maxSteps:=1000000) (disch:=try exact dx) only[wpS,reduceEqDiff]
 refine call (wideOf_ok d hd) ?_
 rintro _ h2 ⟨X2,rfl⟩
 simp -dsimp (maxSteps:=1000000) (disch:=try exact dx) only[wpS,reduceEqDiff]
 refine call (shmake_ok (wideN n) (wideN d) (wideN_lt (inW64 hn)) (wideN_lt (inW64 hd)) (wideN0 hd d0)) ?_
 rintro _ h3 ⟨X3,rfl⟩
 rw[wdI_wideN (inW64 hn),wdI_wideN (inW64 hd),if_pos (qw_div hn hd d0)]
 have m1:=X1.n
 have m2:=X2.n
 have m3:=X3.n
 simp only[new_n] at m1
 have kg:=X3.kept (by omega) (X2.kept (by omega) (X1.kept (by simp) g1))
 simp -dsimp (maxSteps:=1000000) (disch:=try exact dx) only[wpS,wpT,reduceEqDiff,reduceLeDiff,reduceAdd,st48,ld48,kg,shV_cells,shC_len,shC_all,sh_sp3,sh_take]
 exact⟨(((E1.trans X1).trans X2).trans X3).put (by omega) _,rfl⟩
end Go.Id

namespace Go.Id
open Go
theorem kept_p:Kept PRat:=fun _ _ _ _ r e=>r.keep e
def rOf (p:Nat×Nat):Rat:=Rat.divInt (wdI p.1) (wdI p.2)
theorem rOf_parts {p:Nat×Nat} (h:okS p.1 p.2):(rOf p).num=wdI p.1∧((rOf p).den:Int)=wdI p.2:=by
 obtain⟨h1,h2⟩:=h
 obtain⟨a,b⟩:=low_pos (n:=wdI p.1) h1
 rw[h2] at a b
 simp only[Int.natCast_one,Int.ediv_one] at a b
 exact⟨a.symm,b.symm⟩
noncomputable def toldV (q:Rat):Value:=open Classical in if QW q then .tuple #[shareV q,KI 0] else .tuple #[shV 0 0,KI 6]
theorem toldV_form (q:Rat) : ∃n d e,toldV q=.tuple #[shV n d,KI e]:=by
 unfold toldV
 by_cases h:QW q
 ·exact⟨_,_,0,by rw[if_pos h]⟩
 ·exact⟨0,0,6,by rw[if_neg h]⟩
theorem qb512 {p:Nat×Nat} (h1:p.1<W8) (h2:p.2<W8) (ok:okS p.1 p.2):QB 512 (rOf p):=by
 obtain⟨e1,e2⟩:=rOf_parts ok
 have hw:W8=2 ^ 512:=by decide +kernel
 have a1:=wdI_small h1
 unfold QB
 have k1:(wdI p.1).natAbs≤2 ^ 512:=by
  rw[←hw]
  unfold wdI
  have:=H8_two
  split<;>omega
 have k2:wdI p.2≤((2 ^ 512:Nat):Int):=by
  rw[←hw]
  unfold wdI
  have:=H8_two
  split<;>omega
 generalize (2 ^ 512:Nat)=B at *
 refine⟨by rw[e1];exact k1,by omega⟩
def shq (q:Rat):Nat×Nat:=(wideN q.num,wideN q.den)
theorem shq_lt {q:Rat} (h:QW q):(shq q).1<W8∧(shq q).2<W8:=⟨wideN_lt h.1,wideN_lt h.2⟩
theorem shareV_shq (q:Rat):shareV q=shV (shq q).1 (shq q).2:=rfl
theorem shq_rOf {q:Rat} (h:QW q):rOf (shq q)=q∧okS (shq q).1 (shq q).2:=by
 have e1:wdI (shq q).1=q.num:=wdI_wideN h.1
 have e2:wdI (shq q).2=(q.den:Int):=wdI_wideN h.2
 refine⟨?_,?_,?_⟩
 ·unfold rOf;rw[e1,e2,Rat.num_divInt_den]
 ·rw[e2];have:=q.den_pos;omega
 ·rw[e1,e2];have:=q.reduced;exact this
theorem build2 {h:IH} (a b c d:Nat):buildSlice Proofs.Tryz.prog h 82 2 [(0,shV a b),(1,shV c d)]=some (.slice (some ⟨2*h.n,0,none⟩) 2 5,h.new (.cells (shL [(a,b),(c,d)]) 16 none)):=by
 rw[bs82 h 2 _ (by decide)]
 have e:fillP (fun i=>some (i*16,16)) (repl 2 [.int .u64 0,.int .u64 0,.int .u64 0,.int .u64 0,.int .u64 0,.int .u64 0,.int .u64 0,.int .u64 0,.int .u64 0,.int .u64 0,.int .u64 0,.int .u64 0,.int .u64 0,.int .u64 0,.int .u64 0,.int .u64 0]) [(0,shV a b),(1,shV c d)]=some (shL [(a,b),(c,d)]):=by kernel_rfl
 rw[e];rfl
end Go.Id

namespace Go.Id
open Go
end Go.Id

namespace Go.Id
open Go
end Go.Id

namespace Go.Id
open Go
def RunIs (h:IH) (v:Value) (l:List Rat) (c:Rat):Prop:=∃s a1 s1 b1 t1,v=.agg #[s,a1,s1,b1,t1]∧ElSl PRat h s l∧PRat h (.agg #[a1,s1,b1,t1]) c
theorem RunIs.keep {h h':IH} {v:Value} {l:List Rat} {c:Rat} (r:RunIs h v l c) (e:Keep h h'):RunIs h' v l c:=let ⟨s,a,b,c,d,h1,h2,h3⟩:=r;⟨s,a,b,c,d,h1,h2.keep kept_p e,h3.keep e⟩
theorem ElSl.co {R:IH→Value→Rat→Prop} {h:IH} {v:Value} {l:List Rat} (s:ElSl R h v l):v.cells = #[v]∧cellOK v=true:=let ⟨cs,a,_⟩:=s;⟨a.cells,a.cok⟩
end Go.Id

namespace Go.Id
open Go
def doneL (r:ILoop) (c:Code):ILoop:={ r with state:=.done,pending:=some c }
@[reducible] def bodyE (k:Nat) (r:ILoop) (K:Value→IH→Prop) (e:IExit) (_:Fr) (h:IH):Prop :=
 h.ext.get k=some (.loop (busyL r))∧match e with
  | .normal=>K (.bool true) (h.put k (.loop r))
  | .exit i=>K (.bool false) (h.put k (.loop (doneL r (.exit i))))
  | .ret=>K (.bool false) (h.put k (.loop (doneL r .ret)))
@[reducible] def asgK (P:Program) (k:Nat) (r:ILoop) (K:Value→IH→Prop) (e:IExit) (fr:Fr) (h:IH):Prop :=
 e=.normal∧h.ext.get k=some (.loop r)∧Do (wpC P r.fn r.nt (some k) r.body fr (h.put k (.loop (busyL r)))) (bodyE k r K) nx
theorem wv_yield2 {P:Program} {k:Nat} {r:ILoop} {p:Tmp} (hst:r.state=.ready) (hpe:r.pending=none) (hps:r.params = [p]) (hp:p<r.nt) (v:Value) (h:IH) (K:Value→IH→Prop) (hg:h.ext.get k=some (.loop r))
  (w:wpC P r.fn r.nt (some k) r.assign ((p,v) :: r.fr) h (asgK P k r K)):WV P (.func (.yield (2*k)) #[] #[]) [v] h K:=by
 obtain⟨⟨e0,fr0,h0⟩,⟨N0,hN0⟩,he0,hg0,w⟩:=wpC_sound w
 simp only at he0 hg0 w hN0
 subst he0
 obtain⟨⟨e,fr,h1⟩,⟨N,hN⟩,hb,hk⟩:=wpC_sound w
 simp only at hb hk hN
 have hp':Nat.blt p r.nt=true:=by simp only[Nat.blt,Nat.ble_eq];exact hp
 have e1:(2*k % 2 == 0)=true:=by simp
 have e2:2*k / 2=k:=by omega
 have e3:putParams r.nt r.params [v] r.fr=some ((p,v) :: r.fr):=by
  rw[hps];simp[putParams,fput,hp']
 have e5:(r.state == LoopState.ready)=true:=by rw[hst];rfl
 have e6:({ h0 with ext:=h0.ext.set k (.loop { r with state:=.busy }) }:IH)=h0.put k (.loop (busyL r)):=rfl
 have e7:({ busyL r with state:=.ready,pending:=none }:ILoop)=r:=by
  cases r;simp only at hst hpe;subst hst;subst hpe;rfl
 cases e with
 | normal =>
  refine⟨(.bool true,h1.put k (.loop r)),⟨N0+N+1,fun n hn=>?_⟩,hk⟩
  obtain⟨n,rfl⟩ : ∃m,n=m+1:=⟨n - 1,by omega⟩
  have h2:=hN n (by omega)
  have h3:=hN0 n (by omega)
  show(bif 2*k % 2 == 0 then callYield (E0 P) (callV (E0 P) n) n (2*k / 2) ((#[]:Array Value).toList ++ [v]) h else none)=_
  rw[e1,cond_true,e2]
  simp only[callYield,get_loop hg,e3,h3,get_loop hg0,e5,cond_true,e6,h2,get_loop hb,List.nil_append]
  rw[e7];rfl
 | exit i =>
  refine⟨(.bool false,h1.put k (.loop (doneL r (.exit i)))),⟨N0+N+1,fun n hn=>?_⟩,hk⟩
  obtain⟨n,rfl⟩ : ∃m,n=m+1:=⟨n - 1,by omega⟩
  have h2:=hN n (by omega)
  have h3:=hN0 n (by omega)
  show(bif 2*k % 2 == 0 then callYield (E0 P) (callV (E0 P) n) n (2*k / 2) ((#[]:Array Value).toList ++ [v]) h else none)=_
  rw[e1,cond_true,e2]
  simp only[callYield,get_loop hg,e3,h3,get_loop hg0,e5,cond_true,e6,h2,get_loop hb,List.nil_append]
  rfl
 | ret =>
  refine⟨(.bool false,h1.put k (.loop (doneL r .ret))),⟨N0+N+1,fun n hn=>?_⟩,hk⟩
  obtain⟨n,rfl⟩ : ∃m,n=m+1:=⟨n - 1,by omega⟩
  have h2:=hN n (by omega)
  have h3:=hN0 n (by omega)
  show(bif 2*k % 2 == 0 then callYield (E0 P) (callV (E0 P) n) n (2*k / 2) ((#[]:Array Value).toList ++ [v]) h else none)=_
  rw[e1,cond_true,e2]
  simp only[callYield,get_loop hg,e3,h3,get_loop hg0,e5,cond_true,e6,h2,get_loop hb,List.nil_append]
  rfl
def RangeEnd (k:Nat) (r:ILoop) (fr:Fr) (Q:IExit→Fr→IH→Prop) (h1:IH):Prop :=
 (h1.ext.get k=some (.loop r)∧Q .normal fr (h1.put k .dead))∨(∃i,h1.ext.get k=some (.loop (doneL r (.exit i)))∧Q (.exit i) fr (h1.put k .dead))∨(h1.ext.get k=some (.loop (doneL r .ret))∧Q .ret fr (h1.put k .dead))
theorem range2 {P:Program} {fn:FuncId} {nt:Nat} {rd:Option Nat} {f:Operand} {p:Tmp} {assign body:Code} {fr:Fr} {h:IH} {Q:IExit→Fr→IH→Prop} {fv:Value} (hf:opd fr f=some fv) (hrd:roundOK h rd=true) (hp:p<nt)
  (w : ∀(r:ILoop) (y:Value),r.fn=fn→r.nt=nt→r.body=body→(∀v h1 K,h1.ext.get h.n=some (.loop r)→Do (wpC P fn nt (some h.n) assign ((p,v) :: fr) h1) (asgK P h.n r K) nx→WV P y [v] h1 K) →
   WV P fv [y] (h.new (.loop r)) fun _ h1=>RangeEnd h.n r fr Q h1) :
  Do (WRange P fn nt rd f #[p] assign body fr h) Q nx:=by
 have w1:=w { state:=.ready,pending:=none,fn,nt,fr,params:=[p],assign:=assign,body } (.func (.yield (2*h.n)) #[] #[]) rfl rfl rfl
  fun v h1 K hg w=>wv_yield2 (r:={ state:=.ready,pending:=none,fn,nt,fr,params:=[p],assign:=assign,body }) rfl rfl rfl hp v h1 K hg w
 obtain⟨⟨v,h1⟩,⟨N,hN⟩,hq⟩:=w1
 have st : ∀(r:ILoop) (e:IExit),loopOf h1 h.n=some r→(r.state == LoopState.busy)=false→exitOf r.pending=some e → ∀n,N≤n→rangeFn (E0 P) (callV (E0 P) n) fn nt rd f [p] assign body fr h=some (e,fr,h1.put h.n .dead):=by
  intro r e h3 h4 h5 n hn
  have h2:=hN n hn
  simp only at h2
  simp only[rangeFn,hrd,cond_true,hf]
  show(match callV (E0 P) n fv [_] _ with|none=>none|some (_,h1)=>_)=_
  rw[h2]
  simp only[h3,h4,cond_false,h5]
  rfl
 rcases hq with⟨hg,hq⟩|⟨i,hg,hq⟩|⟨hg,hq⟩
 ·exact⟨(.normal,fr,h1.put h.n .dead),⟨N,fun n hn=>st _ _ (get_loop hg) rfl rfl n hn⟩,hq⟩
 ·exact⟨(.exit i,fr,h1.put h.n .dead),⟨N,fun n hn=>st _ _ (get_loop hg) rfl rfl n hn⟩,hq⟩
 ·exact⟨(.ret,fr,h1.put h.n .dead),⟨N,fun n hn=>st _ _ (get_loop hg) rfl rfl n hn⟩,hq⟩
end Go.Id

namespace Go.Id
open Go
end Go.Id

namespace Go.Id
open Go
end Go.Id

namespace Go.Id
open Go
end Go.Id

namespace Go.Id
open Go
end Go.Id

namespace Go.Id
open Go
end Go.Id

namespace Go.Id
open Go
open Nat (reduceAdd reduceEqDiff reduceLeDiff)
set_option maxHeartbeats 16000000
def RPair (h:IH) (v:Value) (n d:Int):Prop:=∃a s b t,v=.agg #[a,s,b,t]∧LongIs h (.agg #[a,s]) n∧LongIs h (.agg #[b,t]) d
theorem RPair.keep {h h':IH} {v:Value} {n d:Int} (p:RPair h v n d) (e:Keep h h'):RPair h' v n d:=let ⟨a,s,b,t,h1,h2,h3⟩:=p;⟨a,s,b,t,h1,h2.keep e,h3.keep e⟩
def RRat (h:IH) (v:Value) (q:Rat):Prop:=RPair h v q.num q.den
theorem RRat.keep {h h':IH} {v:Value} {q:Rat} (p:RRat h v q) (e:Keep h h'):RRat h' v q:=RPair.keep p e
theorem LongIs.cells2 {h:IH} {v:Value} {z:Int} (d:LongIs h v z) : ∃s,v=.agg #[.bool (decide (z<0)),s]∧s.cells = #[s]∧cellOK s=true:=let ⟨s,n,a,b,c,_⟩:=d.form;⟨s,a,b,c⟩
theorem LongIs.co {h:IH} {a s:Value} {z:Int} (d:LongIs h (.agg #[a,s]) z):a=.bool (decide (z<0))∧s.cells = #[s]∧cellOK s=true:=by
 obtain⟨s',h1,h2,h3⟩:=d.cells2
 cases h1
 exact⟨rfl,h2,h3⟩
theorem low_turn {n d:Int} (hd:d<0):n / (-(Int.gcd n d:Int))=(Rat.divInt n d).num∧d / (-(Int.gcd n d:Int))=(Rat.divInt n d).den:=by
 obtain⟨a,b⟩:=low_neg (n:=n) hd
 rw[Int.ediv_neg,Int.ediv_neg]
 exact⟨a,b⟩
theorem rlowest_ok {h:IH} {v w:Value} {n d:Int} (hv:LongIs h v n) (hw:LongIs h w d) (sn:SmallI n) (sd:SmallI d) (d0:d≠0) :
  WV Proofs.Tryz.prog (.func (.func 154) #[] #[]) [v,w] h fun r h'=>Ext h h'∧RRat h' r (Rat.divInt n d):=by
 obtain⟨s,rfl,c1,o1⟩:=hv.cells2
 obtain⟨t,rfl,c2,o2⟩:=hw.cells2
 have sg:SmallI (Int.gcd n d:Int):=by
  have h1:Int.gcd n d≤d.natAbs:=Nat.le_of_dvd (by omega) (Nat.gcd_dvd_right _ _)
  exact small_nat (sd.le h1)
 refine enter (nt:=32) (rs:=[.cell 4 186]) Proofs.Tryz.func154 rfl rfl rfl (by simp) ?_
 simp -dsimp (maxSteps:=1000000) (disch:=try exact dx) only[wpS,wpT,reduceEqDiff,reduceLeDiff,reduceAdd,zc186,ld131]
 obtain⟨H0,hH0,n0,E0,g0,g1,g2⟩:=boxes3 h [.bool (decide (n<0)),s] [.bool (decide (d<0)),t] ZR
 rw[←hH0]
 clear hH0
 refine call (divisor_ok (hv.keep E0.keep) (hw.keep E0.keep) sn sd) ?_
 rintro _ h1 ⟨hE1,hg⟩
 obtain⟨sg1,rfl,c3,o3⟩:=hg.cells2
 have hng:decide ((Int.gcd n d:Int)<0)=false:=decide_eq_false (by omega)
 rw[hng] at hg ⊢
 have x1:=E0.trans hE1
 have n1:=(hE1).n;try simp only[new_n,put_n] at n1
 simp -dsimp (maxSteps:=1000000) (disch:=try exact dx) only[wpS,wpT,reduceEqDiff,reduceLeDiff,reduceAdd,zc131,st131,fa131_0,ld4,o3,row_of (hE1.kept (by omega) g1),tk2']
 obtain⟨H2,hH2⟩ : ∃H2,H2=(h1.new (.cells ZL 0 none)).put h1.n (.cells [.bool false,sg1] 0 none):=⟨_,rfl⟩
 have e2:Ext h1 H2:=by rw[hH2];exact((Ext.refl _).new _).put (Nat.le_refl _) _
 have n2:H2.n=h1.n+1:=by rw[hH2];rfl
 have gg:H2.ext.get h1.n=some (.cells [.bool false,sg1] 0 none):=by rw[hH2];simp (disch:=try exact dx) only[get_put_same]
 rw[←hH2]
 clear hH2
 have x2:=x1.trans e2
 have kk0:=e2.kept (by omega) (hE1.kept (by omega) g0)
 have kk1:=e2.kept (by omega) (hE1.kept (by omega) g1)
 have kk2:=e2.kept (by omega) (hE1.kept (by omega) g2)
 refine bq_cut (fun fr2 H3 => ∃(g:Int) (ag sg2:Value),Ext h H3∧h1.n+1≤H3.n∧H3.ext.get h.n=some (.cells [.bool (decide (n<0)),s] 0 none)∧H3.ext.get (h.n+1)=some (.cells [.bool (decide (d<0)),t] 0 none)∧H3.ext.get (h.n+1+1)=some (.cells ZR 0 none)∧H3.ext.get h1.n=some (.cells [ag,sg2] 0 none)∧LongIs H3 (.agg #[ag,sg2]) g∧SmallI g∧g≠0∧n / g=(Rat.divInt n d).num∧d / g=(Rat.divInt n d).den ∧
  LongIs H3 (.agg #[.bool (decide (n<0)),s]) n∧LongIs H3 (.agg #[.bool (decide (d<0)),t]) d∧fget fr2 2=some (ptr (2*h.n) 0)∧fget fr2 3=some (ptr (2*(h.n+1)) 0)∧fget fr2 4=some (ptr (2*(h.n+1+1)) 0)∧fget fr2 5=some (ptr (2*h1.n) 0)) (fun hb=>?_) (fun hb=>?_) ?_
 ·have hd:d<0:=by simpa using hb
  obtain⟨b1,b2⟩:=low_turn (n:=n) hd
  simp -dsimp (maxSteps:=1000000) (disch:=try exact dx) only[wpS,wpT,reduceEqDiff,reduceLeDiff,reduceAdd,ld131,row_of gg,tk2']
  refine call (turn_ok (hg.keep e2.keep)) ?_
  rintro _ h3 ⟨hE3,hT⟩
  obtain⟨sT,rfl,c4,o4⟩:=hT.cells2
  have n3:=(hE3).n;try simp only[new_n,put_n] at n3
  have kg:=hE3.kept (by omega) gg
  simp -dsimp (maxSteps:=1000000) (disch:=try exact dx) only[wpS,wpT,reduceEqDiff,reduceLeDiff,reduceAdd,st131,kg,o4]
  have kp:=(Keep.refl h3).put kg (.cells [.bool (decide (-(Int.gcd n d:Int)<0)),sT] 0 none)
  have x3:=x2.trans hE3
  have hng:=gcd_ne (n:=n) (d:=d) (by omega)
  refine⟨-(Int.gcd n d:Int),_,sT,x3.put (by omega) _,by simp only[put_n];omega,by simp (disch:=try exact dx) only[get_put_old];exact hE3.kept (by omega) kk0,by simp (disch:=try exact dx) only[get_put_old];exact hE3.kept (by omega) kk1,by simp (disch:=try exact dx) only[get_put_old];exact hE3.kept (by omega) kk2,get_put_same _ _ rfl,hT.keep kp,by rw[SmallI,Int.natAbs_neg];exact sg,by omega,b1,b2,hv.keep (x3.keep.trans kp),hw.keep (x3.keep.trans kp),by simp,by simp,by simp,by simp⟩
 ·have hd:0<d:=by
   have : ¬d<0:=by simpa using hb
   omega
  obtain⟨b1,b2⟩:=low_pos (n:=n) hd
  simp -dsimp (maxSteps:=1000000) (disch:=try exact dx) only[wpS,wpT]
  exact⟨Int.gcd n d,_,sg1,x2,by omega,kk0,kk1,kk2,gg,hg.keep e2.keep,sg,gcd_ne d0,b1,b2,hv.keep x2.keep,hw.keep x2.keep,by simp,by simp,by simp,by simp⟩
 clear hg kk0 kk1 kk2 gg x2 e2
 rintro fr2 H3 ⟨g,ag,sg2,x3,n3,k0,k1,k2,kg,hg,sgg,g0',b1,b2,hv3,hw3,f2,f3,f4,f5⟩
 rw[d_seq]
 simp -dsimp (maxSteps:=1000000) (disch:=try exact dx) only[wpS,wpT,reduceEqDiff,reduceLeDiff,reduceAdd,ld131,f2,f5,row_of k0,row_of kg,tk2']
 refine call (lparts_ok hv3 hg sn sgg g0') ?_
 rintro _ h4 ⟨hE4,q,u,rfl,hq,hu⟩
 rw[b1] at hq
 obtain⟨sq,rfl,c4,o4⟩:=hq.cells2
 obtain⟨su,rfl,c5,o5⟩:=hu.cells2
 have n4:=(hE4).n;try simp only[new_n,put_n] at n4
 have x4:=x3.trans hE4
 simp -dsimp (maxSteps:=1000000) (disch:=try exact dx) only[wpS,wpT,reduceEqDiff,reduceLeDiff,reduceAdd,ld131,zc131,st131,o4,o5,f3,f5,row_of (hE4.kept (by omega) k1),row_of (hE4.kept (by omega) kg),tk2']
 obtain⟨H5,hH5⟩ : ∃H4,H4=((((h4.new (.cells ZL 0 none)).new (.cells ZL 0 none)).put h4.n (.cells [.bool (decide ((Rat.divInt n d).num<0)),sq] 0 none)).put (h4.n+1) (.cells [.bool (decide (n % g<0)),su] 0 none)):=⟨_,rfl⟩
 have e5:Ext h4 H5:=by rw[hH5];exact((((Ext.refl _).new _).new _).put (Nat.le_refl _) _).put (by omega) _
 have n5:H5.n=h4.n+2:=by rw[hH5];rfl
 have gq:H5.ext.get h4.n=some (.cells [.bool (decide ((Rat.divInt n d).num<0)),sq] 0 none):=by rw[hH5];simp (disch:=try exact dx) only[get_put_same,get_put_old]
 rw[←hH5]
 clear hH5
 refine call (lparts_ok (hw3.keep (hE4.trans e5).keep) (hg.keep (hE4.trans e5).keep) sd sgg g0') ?_
 rintro _ h6 ⟨hE6,q2,u2,rfl,hq2,hu2⟩
 rw[b2] at hq2
 obtain⟨sq2,rfl,c6,o6⟩:=hq2.cells2
 obtain⟨su2,rfl,c7,o7⟩:=hu2.cells2
 have n6:=(hE6).n;try simp only[new_n,put_n] at n6
 have hdf:decide (((Rat.divInt n d).den:Int)<0)=false:=decide_eq_false (by omega)
 rw[hdf] at hq2 ⊢
 have x6:=(x4.trans e5).trans hE6
 have kq:=hE6.kept (by omega) gq
 have kr:=hE6.kept (by omega) (e5.kept (by omega) (hE4.kept (by omega) k2))
 simp -dsimp (maxSteps:=1000000) (disch:=try exact dx) only[wpS,wpT,reduceEqDiff,reduceLeDiff,reduceAdd,ld131,zc131,st131,bv186,pl186_0,pl186_1,st186,ld186,o6,o7,f4,row_of kq,kr,o4,tk2',tk4']
 refine⟨?_,_,_,_,_,rfl,hq.keep ((e5.trans hE6).keep.trans ?_),hq2.keep ?_⟩
 ·exact((((x6.new _).new _).put (by omega) _).put (by omega) _).put (by omega) _
 ·exact(((((Keep.refl h6).new _).new _).put (cs:=ZL) (f:=none) (by simp (disch:=try exact dx) only[get_new_same,get_new_old]) _).put (cs:=ZL) (f:=none) (by simp (disch:=try exact dx) only[get_new_same,get_put_old]) _).put (cs:=ZR) (f:=none) (by simp (disch:=try exact dx) only[get_new_old,get_put_old];exact kr) _
 ·exact(((((Keep.refl h6).new _).new _).put (cs:=ZL) (f:=none) (by simp (disch:=try exact dx) only[get_new_same,get_new_old]) _).put (cs:=ZL) (f:=none) (by simp (disch:=try exact dx) only[get_new_same,get_put_old]) _).put (cs:=ZR) (f:=none) (by simp (disch:=try exact dx) only[get_new_old,get_put_old];exact kr) _
end Go.Id

namespace Go.Id
open Go
theorem RRat.parts {h:IH} {v:Value} {q:Rat} (p:RRat h v q) : ∃a s b t,v=.agg #[a,s,b,t]∧LongIs h (.agg #[a,s]) q.num∧LongIs h (.agg #[b,t]) q.den∧s.cells = #[s]∧cellOK s=true∧t.cells = #[t]∧cellOK t=true∧cellOK a=true∧cellOK b=true:=by
 obtain⟨a,s,b,t,rfl,h1,h2⟩:=p
 obtain⟨rfl,c1,o1⟩:=h1.co
 obtain⟨rfl,c2,o2⟩:=h2.co
 exact⟨_,s,_,t,rfl,h1,h2,c1,o1,c2,o2,rfl,rfl⟩
end Go.Id

namespace Go.Id
open Go
open Nat (reduceAdd reduceEqDiff reduceLeDiff)
set_option maxHeartbeats 16000000
theorem quick_ok {h:IH} (n d:Int) (hn:In64 n) (hd:In64 d) (d0:d≠0):WV Proofs.Tryz.prog (.func (.func 122) #[] #[]) [KI n,KI d] h fun r h'=>Ext h h'∧RRat h' r (Rat.divInt n d):=by
 refine enter (nt:=10) (rs:=[.cell 4 186]) Proofs.Tryz.func122 rfl rfl rfl (by simp) ?_
 simp -dsimp (maxSteps:=1000000) (disch:=try exact dx) only[wpS,reduceEqDiff,reduceAdd,zc186]
 have E1:Ext h (h.new (.cells ZR 0 none)):=(Ext.refl h).new _
 have g1:(h.new (.cells ZR 0 none)).ext.get h.n=some (.cells ZR 0 none):=by simp (disch:=try exact dx) only[get_new_same]
 refine call (long1_ok n hn) ?_
 rintro _ h1 ⟨X1,p1⟩
 simp -dsimp (maxSteps:=1000000) (disch:=try exact dx) only[wpS,reduceEqDiff]
 refine call (long1_ok d hd) ?_
 rintro _ h2 ⟨X2,p2⟩
 simp -dsimp (maxSteps:=1000000) (disch:=try exact dx) only[wpS,reduceEqDiff]
 have sn:SmallI n:=small64 (by have:=hn.1;have:=hn.2;omega)
 have sd:SmallI d:=small64 (by have:=hd.1;have:=hd.2;omega)
 refine call (rlowest_ok (p1.keep X2.keep) p2 sn sd d0) ?_
 rintro _ h3 ⟨X3,p3⟩
 have m1:=X1.n
 have m2:=X2.n
 have m3:=X3.n
 simp only[new_n] at m1
 obtain⟨a3,s3,b3,t3,rfl,_,_,d1,o1,d2,o2,o3,o4⟩:=p3.parts
 have kg:=X3.kept (by omega) (X2.kept (by omega) (X1.kept (by simp) g1))
 simp -dsimp (maxSteps:=1000000) (disch:=try exact dx) only[wpS,wpT,reduceEqDiff,reduceLeDiff,reduceAdd,st186,ld186,kg,o1,o2,o3,o4,tk4']
 exact⟨(((E1.trans X1).trans X2).trans X3).put (by omega) _,p3.keep ((Keep.refl _).put kg _)⟩
theorem refout_ok {h:IH} {v:Value} {q:Rat} (hv:RRat h v q):WV Proofs.Tryz.prog (.func (.func 121) #[] #[]) [v] h fun r h'=>Ext h h'∧r=(open Classical in if QW q then .tuple #[shareV q,KI 0] else .tuple #[shV 0 0,KI 6]):=by
 obtain⟨a1,s1,b1,t1,rfl,hn1,hd1,c1,o1,c2,o2,o3,o4⟩:=hv.parts
 refine enter (nt:=30) (rs:=[.cell 2 48,.tmp 3]) Proofs.Tryz.func121 rfl rfl rfl (by simp) ?_
 simp -dsimp (maxSteps:=1000000) (disch:=try exact dx) only[wpS,wpT,reduceEqDiff,reduceLeDiff,reduceAdd,zc48,fa186_0,ld131]
 obtain⟨H0,hH0,n0,E0,g0,g1⟩:=boxes2 h [a1,s1,b1,t1] Z16
 rw[←hH0]
 clear hH0
 simp -dsimp (maxSteps:=1000000) (disch:=try exact dx) only[tkA]
 refine call (out_ok (hn1.keep E0.keep)) ?_
 rintro _ h1 ⟨X1,rfl⟩
 have m1:=X1.n
 obtain⟨w1,e1,hw⟩ : ∃w1 e1,(if InW q.num then Value.tuple #[wideV q.num,KI 0] else .tuple #[wdV 0,KI 6])=.tuple #[wdV w1,KI e1]∧(InW q.num∧w1=wideN q.num∧e1=0 ∨ ¬InW q.num∧e1=6):=by
  by_cases hi:InW q.num
  ·exact⟨_,0,by rw[if_pos hi],.inl ⟨hi,rfl,rfl⟩⟩
  ·exact⟨0,6,by rw[if_neg hi],.inr ⟨hi,rfl⟩⟩
 rw[hw.1]
 have k0:=X1.kept (by omega) g0
 have k1:=X1.kept (by omega) g1
 simp -dsimp (maxSteps:=1000000) (disch:=try exact dx) only[wpS,wpT,reduceEqDiff,reduceLeDiff,reduceAdd,ld131,zc44,st44,fa186_1,cells8,wdC_len,wdC_all,wd_spl,row_of k0,tkA,tkB]
 obtain⟨H2,hH2⟩ : ∃H2,H2=(h1.new (.cells [ZW,ZW,ZW,ZW,ZW,ZW,ZW,ZW] 0 none)).put h1.n (.cells (wdC w1) 0 none):=⟨_,rfl⟩
 have e2:Ext h1 H2:=by rw[hH2];exact((Ext.refl _).new _).put (Nat.le_refl _) _
 have n2:H2.n=h1.n+1:=by rw[hH2];rfl
 have ga:H2.ext.get h1.n=some (.cells (wdC w1) 0 none):=by rw[hH2];simp (disch:=try exact dx) only[get_put_same]
 have k1':=e2.kept (by omega) k1
 rw[←hH2]
 clear hH2
 refine call (out_ok (hd1.keep ((E0.trans X1).trans e2).keep)) ?_
 rintro _ h3 ⟨X3,rfl⟩
 have m3:=X3.n
 obtain⟨w2,f2,hw2⟩ : ∃w1 e1,(if InW (q.den:Int) then Value.tuple #[wideV q.den,KI 0] else .tuple #[wdV 0,KI 6])=.tuple #[wdV w1,KI e1]∧(InW (q.den:Int)∧w1=wideN q.den∧e1=0 ∨ ¬InW (q.den:Int)∧e1=6):=by
  by_cases hi:InW (q.den:Int)
  ·exact⟨_,0,by rw[if_pos hi],.inl ⟨hi,rfl,rfl⟩⟩
  ·exact⟨0,6,by rw[if_neg hi],.inr ⟨hi,rfl⟩⟩
 rw[hw2.1]
 have ga3:=X3.kept (by omega) ga
 have k3:=X3.kept (by omega) k1'
 have xx:=((E0.trans X1).trans e2).trans X3
 rcases hw.2 with⟨i1,rfl,rfl⟩|⟨i1,rfl⟩
 ·rcases hw2.2 with⟨i2,rfl,rfl⟩|⟨i2,rfl⟩
  ·rw[if_pos (show QW q from⟨i1,i2⟩)]
   simp -dsimp (maxSteps:=1000000) (disch:=try exact dx) only[wpS,wpT,reduceEqDiff,reduceLeDiff,reduceAdd,zc44,st44,bv48,st48,ld44,pl48_0,pl48_1,ld48,cells8,wdC_len,wdC_all,wd_spl,row_of ga3,k3,wd_take,sh_sp1,sh_sp2,sh_sp3,shC_len,shC_all,sh_take]
   exact⟨(((xx.new _).put (by omega) _).put (by omega) _),rfl⟩
  ·rw[if_neg (show ¬QW q from fun h=>i2 h.2)]
   simp -dsimp (maxSteps:=1000000) (disch:=try exact dx) only[wpS,wpT,reduceEqDiff,reduceLeDiff,reduceAdd,zc44,st44,bv48,st48,ld48,cells8,wdC_len,wdC_all,wd_spl,k3,sh_tz]
   exact⟨(((xx.new _).put (by omega) _).put (by omega) _),by rw[sh_zeroV]⟩
 ·rw[if_neg (show ¬QW q from fun h=>i1 h.1)]
  simp -dsimp (maxSteps:=1000000) (disch:=try exact dx) only[wpS,wpT,reduceEqDiff,reduceLeDiff,reduceAdd,zc44,st44,bv48,st48,ld48,cells8,wdC_len,wdC_all,wd_spl,k3,sh_tz]
  exact⟨(((xx.new _).put (by omega) _).put (by omega) _),by rw[sh_zeroV]⟩
theorem ref02Of_ok {h:IH} (n d:Int) (hn:In64 n) (hd:In64 d) (d0:d≠0):WV Proofs.Tryz.prog (.func (.func 43) #[] #[]) [KI n,KI d] h fun r h'=>Ext h h'∧r=.tuple #[shareV (Rat.divInt n d),KI 0]:=by
 have hd':(d == 0)=false:=by simpa using d0
 refine enter (nt:=15) (rs:=[.cell 4 48,.tmp 5]) Proofs.Tryz.func43 rfl rfl rfl (by simp) ?_
 simp -dsimp (maxSteps:=1000000) (disch:=try exact dx) only[wpS,reduceEqDiff,reduceAdd,zc48,hd']
 have E1:Ext h (h.new (.cells Z16 0 none)):=(Ext.refl h).new _
 have g1:(h.new (.cells Z16 0 none)).ext.get h.n=some (.cells Z16 0 none):=by simp (disch:=try exact dx) only[get_new_same]
 refine call (quick_ok n d hn hd d0) ?_
 rintro _ h1 ⟨X1,p1⟩
 simp -dsimp (maxSteps:=1000000) (disch:=try exact dx) only[wpS,reduceEqDiff]
 refine call (refout_ok p1) ?_
 rintro _ h2 ⟨X2,rfl⟩
 rw[if_pos (qw_div hn hd d0)]
 have m1:=X1.n
 have m2:=X2.n
 simp only[new_n] at m1
 have kg:=X2.kept (by omega) (X1.kept (by simp) g1)
 simp -dsimp (maxSteps:=1000000) (disch:=try exact dx) only[wpS,wpT,reduceEqDiff,reduceLeDiff,reduceAdd,st48,ld48,kg,shV_cells,shC_len,shC_all,sh_sp3,sh_take]
 exact⟨((E1.trans X1).trans X2).put (by omega) _,rfl⟩
end Go.Id

namespace Go.Id
open Go
end Go.Id
