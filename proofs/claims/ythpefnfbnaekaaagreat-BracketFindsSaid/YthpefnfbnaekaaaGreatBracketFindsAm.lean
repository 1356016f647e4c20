/-
  Contracts: the reference's shares: in, out, made, valid; fractions of integers. The ideal machine: functions that are not evaluated by their text, since it is known what value they give. What they leave in memory is forgotten: they are carried out on a memory of their own. The ideal machine once more, written for the kernel: by recursors, each alternative a constant of its own, numbers forced. First part: frames, memory, numbers; each function is proved to be the machine's. The ideal machine written for the kernel, second part: operations.
-/
import Derived.Test.YthpefnfbnaekaaaGreatBracketFindsAl
import Derived.Test.YthpefnfbnaekaaaGreatBracketFindsAe
import Derived.Test.YthpefnfbnaekaaaGreatBracketFindsAf
set_option linter.unusedVariables false
set_option linter.unusedSimpArgs false
set_option linter.defProp false
set_option linter.deprecated false
/-! Contracts: the reference's shares: in, out, made, valid; fractions of integers. -/
namespace Go.Id
open Go
theorem quick_ok {h:IH} (n d:Int) (hn:In64 n) (hd:In64 d) (d0:d≠0):WV Proofs.Tryz.prog (.func (.func 91) #[] #[]) [KI n,KI d] h fun r h'=>Ext h h'∧RRat h' r (Rat.divInt n d):=by
 refine enter (nt:=10) (rs:=[.cell 4 135]) Proofs.Tryz.func91 rfl rfl rfl (by simp) ?_
 simp -dsimp (disch:=omega) only[wpS,Nat.reduceEqDiff,Nat.reduceAdd,zc135]
 have E1:Ext h (h.new (.cells ZR 0 none)):=(Ext.refl h).new _
 have g1:(h.new (.cells ZR 0 none)).ext.get h.n=some (.cells ZR 0 none):=by simp (disch:=first|omega|(simp only[new_n,put_n];omega)|(repeat first|rw[new_n]|rw[put_n])) only[get_new_same]
 refine call (long1_ok n hn) ?_
 rintro _ h1 ⟨X1,p1⟩
 simp -dsimp (disch:=omega) only[wpS,Nat.reduceEqDiff]
 refine call (long1_ok d hd) ?_
 rintro _ h2 ⟨X2,p2⟩
 simp -dsimp (disch:=omega) only[wpS,Nat.reduceEqDiff]
 have sn:SmallI n:=small64 (by have:=hn.1;have:=hn.2;omega)
 have sd:SmallI d:=small64 (by have:=hd.1;have:=hd.2;omega)
 refine call (rlowest_ok (p1.keep X2.keep) p2 sn sd d0) ?_
 rintro _ h3 ⟨X3,p3⟩
 have m1:=X1.n
 have m2:=X2.n
 have m3:=X3.n
 simp only[new_n] at m1
 obtain⟨a3,s3,b3,t3,rfl,_,_,d1,o1,d2,o2,o3,o4⟩:=p3.parts
 have kg:=X3.kept (by omega) (X2.kept (by omega) (X1.kept (by simp) g1))
 simp -dsimp (disch:=omega) only[wpS,wpT,Nat.reduceEqDiff,Nat.reduceLeDiff,Nat.reduceAdd,st135,ld135,kg,o1,o2,o3,o4,tk4']
 exact⟨(((E1.trans X1).trans X2).trans X3).put (by omega) _,p3.keep ((Keep.refl _).put kg _)⟩
theorem zero_ok {h:IH} {v:Value} {q:Rat} (hv:RRat h v q):WV Proofs.Tryz.prog (.func (.func 118) #[] #[]) [v] h fun r h'=>Ext h h'∧r=.bool (decide (q=0)):=by
 obtain⟨a1,s1,b1,t1,rfl,hn1,hd1,c1,o1,c2,o2,o3,o4⟩:=hv.parts
 obtain⟨s,n,he,_,_,l1,z1⟩:=hn1.form
 cases he
 refine enter (nt:=8) (rs:=[.tmp 2]) Proofs.Tryz.func118 rfl rfl rfl (by simp) ?_
 simp -dsimp (disch:=omega) only[wpS,Nat.reduceEqDiff,fa135_0,fa133_1,ld29,l1 sl29]
 refine⟨(Ext.refl h).new _,?_⟩
 congr 1
 rw[show(((n:Nat):Int) == 0)=decide (n=0) by by_cases h0:n=0<;>simp[h0]]
 exact decide_eq_decide.2 (z1.trans Rat.num_eq_zero)
theorem refin_ok {h:IH} (n d:Nat) (hn:n<W8) (hd:d<W8):WV Proofs.Tryz.prog (.func (.func 117) #[] #[]) [shV n d] h fun r h'=>Ext h h'∧RPair h' r (wdI n) (wdI d):=by
 refine enter (nt:=10) (rs:=[.cell 2 135]) Proofs.Tryz.func117 rfl rfl rfl (by simp) ?_
 simp -dsimp (disch:=omega) only[wpS,zc135,shV_cells]
 obtain⟨H0,hH0,n0,E0,g0,g1⟩:=boxes2 h (shC n d) ZR
 rw[←hH0]
 clear hH0
 have X0:=Ext.refl H0
 obtain⟨L1,L2,_⟩:=psh g0
 refine drawn [(4,[2])] (by kernel_rfl) (by kernel_rfl) rfl ?_
 simp -dsimp (disch:=omega) only[wpS,Nat.reduceEqDiff,Nat.reduceLeDiff,fa47_0,ld45,row_of g0,shC_len,sh_take1]
 refine call (in_ok n hn) ?_
 rintro r1 h1 ⟨X1,p1⟩
 have m1:=X1.n
 simp -dsimp (disch:=omega) only[wpS,Nat.reduceEqDiff,Nat.reduceLeDiff,Nat.reduceAdd,ld45,fa47_1,row_of (X1.kept (by omega) g0),shC_len,sh_take2]
 refine call (in_ok d hd) ?_
 rintro r2 h2 ⟨hE2,p2⟩
 have m2:=hE2.n
 have X2:=X1.trans hE2
 obtain⟨s1,rfl,c1,o1⟩:=p1.cells2
 obtain⟨s2,rfl,c2,o2⟩:=p2.cells2
 have kg:=X2.kept (by omega) g1
 simp -dsimp (disch:=omega) only[wpS,wpT,Nat.reduceEqDiff,Nat.reduceLeDiff,Nat.reduceAdd,bv135,pl135_0,pl135_1,st135,kg,o1,o2]
 refine⟨by repeat' first|refine wpSteady_c2 ?_ ?_|refine wpSteady_t2 ?_ ?_|exact wpSteady_one rfl rfl rfl rfl (steady_ext (H0:=H0) rfl (by omega) (by assumption) (by assumption) (by with_reducible assumption)),?_⟩
 simp -dsimp (disch:=omega) only[wpS,wpT,Nat.reduceEqDiff,Nat.reduceLeDiff,Nat.reduceAdd,ld135,tk4']
 have kp:=(Keep.refl h2).put kg (.cells [.bool (decide (wdI n<0)),s1,.bool (decide (wdI d<0)),s2] 0 none)
 exact⟨(E0.trans X2).put (by omega) _,_,_,_,_,rfl,p1.keep (hE2.keep.trans kp),p2.keep kp⟩
set_option maxHeartbeats 2000000 in
theorem refout_ok {h:IH} {v:Value} {q:Rat} (hv:RRat h v q):WV Proofs.Tryz.prog (.func (.func 90) #[] #[]) [v] h fun r h'=>Ext h h'∧r=(open Classical in if QW q then .tuple #[shareV q,KI 0] else .tuple #[shV 0 0,KI 6]):=by
 obtain⟨a1,s1,b1,t1,rfl,hn1,hd1,c1,o1,c2,o2,o3,o4⟩:=hv.parts
 refine enter (nt:=30) (rs:=[.cell 2 47,.tmp 3]) Proofs.Tryz.func90 rfl rfl rfl (by simp) ?_
 simp -dsimp (maxSteps:=1000000) (disch:=first|omega|(simp only[new_n,put_n];omega)|decide +kernel|(repeat first|rw[new_n]|rw[put_n])) only[wpS,wpT,Nat.reduceEqDiff,Nat.reduceLeDiff,Nat.reduceAdd,zc47,fa135_0,ld133]
 obtain⟨H0,hH0,n0,E0,g0,g1⟩:=boxes2 h [a1,s1,b1,t1] Z16
 rw[←hH0]
 clear hH0
 simp -dsimp (maxSteps:=1000000) (disch:=first|omega|(simp only[new_n,put_n];omega)|decide +kernel|(repeat first|rw[new_n]|rw[put_n])) only[tkA]
 refine call (out_ok (hn1.keep E0.keep)) ?_
 rintro _ h1 ⟨X1,rfl⟩
 have m1:=X1.n
 obtain⟨w1,e1,hw⟩ : ∃w1 e1,(if InW q.num then Value.tuple #[wideV q.num,KI 0] else .tuple #[wdV 0,KI 6])=.tuple #[wdV w1,KI e1]∧(InW q.num∧w1=wideN q.num∧e1=0 ∨ ¬InW q.num∧e1=6):=by
  by_cases hi:InW q.num
  ·exact⟨_,0,by rw[if_pos hi],.inl ⟨hi,rfl,rfl⟩⟩
  ·exact⟨0,6,by rw[if_neg hi],.inr ⟨hi,rfl⟩⟩
 rw[hw.1]
 have k0:=X1.kept (by omega) g0
 have k1:=X1.kept (by omega) g1
 simp -dsimp (maxSteps:=1000000) (disch:=first|omega|(simp only[new_n,put_n];omega)|decide +kernel|(repeat first|rw[new_n]|rw[put_n])) only[wpS,wpT,Nat.reduceEqDiff,Nat.reduceLeDiff,Nat.reduceAdd,ld133,zc45,st45,fa135_1,cells8,wdC_len,wdC_all,wd_spl,row_of k0,tkA,tkB]
 obtain⟨H2,hH2⟩ : ∃H2,H2=(h1.new (.cells [ZW,ZW,ZW,ZW,ZW,ZW,ZW,ZW] 0 none)).put h1.n (.cells (wdC w1) 0 none):=⟨_,rfl⟩
 have e2:Ext h1 H2:=by rw[hH2];exact((Ext.refl _).new _).put (Nat.le_refl _) _
 have n2:H2.n=h1.n+1:=by rw[hH2];rfl
 have ga:H2.ext.get h1.n=some (.cells (wdC w1) 0 none):=by rw[hH2];simp (disch:=first|omega|(simp only[new_n,put_n];omega)|(repeat first|rw[new_n]|rw[put_n])) only[get_put_same]
 have k1':=e2.kept (by omega) k1
 rw[←hH2]
 clear hH2
 refine call (out_ok (hd1.keep ((E0.trans X1).trans e2).keep)) ?_
 rintro _ h3 ⟨X3,rfl⟩
 have m3:=X3.n
 obtain⟨w2,f2,hw2⟩ : ∃w1 e1,(if InW (q.den:Int) then Value.tuple #[wideV q.den,KI 0] else .tuple #[wdV 0,KI 6])=.tuple #[wdV w1,KI e1]∧(InW (q.den:Int)∧w1=wideN q.den∧e1=0 ∨ ¬InW (q.den:Int)∧e1=6):=by
  by_cases hi:InW (q.den:Int)
  ·exact⟨_,0,by rw[if_pos hi],.inl ⟨hi,rfl,rfl⟩⟩
  ·exact⟨0,6,by rw[if_neg hi],.inr ⟨hi,rfl⟩⟩
 rw[hw2.1]
 have ga3:=X3.kept (by omega) ga
 have k3:=X3.kept (by omega) k1'
 have xx:=((E0.trans X1).trans e2).trans X3
 rcases hw.2 with⟨i1,rfl,rfl⟩|⟨i1,rfl⟩
 ·rcases hw2.2 with⟨i2,rfl,rfl⟩|⟨i2,rfl⟩
  ·rw[if_pos (show QW q from⟨i1,i2⟩)]
   simp -dsimp (maxSteps:=1000000) (disch:=first|omega|(simp only[new_n,put_n];omega)|decide +kernel|(repeat first|rw[new_n]|rw[put_n])) only[wpS,wpT,Nat.reduceEqDiff,Nat.reduceLeDiff,Nat.reduceAdd,zc45,st45,bv47,st47,ld45,pl47_0,pl47_1,ld47,cells8,wdC_len,wdC_all,wd_spl,row_of ga3,k3,wd_take,sh_sp1,sh_sp2,sh_sp3,shC_len,shC_all,sh_take]
   exact⟨(((xx.new _).put (by omega) _).put (by omega) _),rfl⟩
  ·rw[if_neg (show ¬QW q from fun h=>i2 h.2)]
   simp -dsimp (maxSteps:=1000000) (disch:=first|omega|(simp only[new_n,put_n];omega)|decide +kernel|(repeat first|rw[new_n]|rw[put_n])) only[wpS,wpT,Nat.reduceEqDiff,Nat.reduceLeDiff,Nat.reduceAdd,zc45,st45,bv47,st47,ld47,cells8,wdC_len,wdC_all,wd_spl,k3,sh_tz]
   exact⟨(((xx.new _).put (by omega) _).put (by omega) _),by rw[sh_zeroV]⟩
 ·rw[if_neg (show ¬QW q from fun h=>i1 h.1)]
  simp -dsimp (maxSteps:=1000000) (disch:=first|omega|(simp only[new_n,put_n];omega)|decide +kernel|(repeat first|rw[new_n]|rw[put_n])) only[wpS,wpT,Nat.reduceEqDiff,Nat.reduceLeDiff,Nat.reduceAdd,zc45,st45,bv47,st47,ld47,cells8,wdC_len,wdC_all,wd_spl,k3,sh_tz]
  exact⟨(((xx.new _).put (by omega) _).put (by omega) _),by rw[sh_zeroV]⟩
theorem ref02Of_ok {h:IH} (n d:Int) (hn:In64 n) (hd:In64 d) (d0:d≠0):WV Proofs.Tryz.prog (.func (.func 46) #[] #[]) [KI n,KI d] h fun r h'=>Ext h h'∧r=.tuple #[shareV (Rat.divInt n d),KI 0]:=by
 have hd':(d == 0)=false:=by simpa using d0
 refine enter (nt:=15) (rs:=[.cell 4 47,.tmp 5]) Proofs.Tryz.func46 rfl rfl rfl (by simp) ?_
 simp -dsimp (disch:=omega) only[wpS,Nat.reduceEqDiff,Nat.reduceAdd,zc47,hd']
 have E1:Ext h (h.new (.cells Z16 0 none)):=(Ext.refl h).new _
 have g1:(h.new (.cells Z16 0 none)).ext.get h.n=some (.cells Z16 0 none):=by simp (disch:=first|omega|(simp only[new_n,put_n];omega)|(repeat first|rw[new_n]|rw[put_n])) only[get_new_same]
 refine call (quick_ok n d hn hd d0) ?_
 rintro _ h1 ⟨X1,p1⟩
 simp -dsimp (disch:=omega) only[wpS,Nat.reduceEqDiff]
 refine call (refout_ok p1) ?_
 rintro _ h2 ⟨X2,rfl⟩
 rw[if_pos (qw_div hn hd d0)]
 have m1:=X1.n
 have m2:=X2.n
 simp only[new_n] at m1
 have kg:=X2.kept (by omega) (X1.kept (by simp) g1)
 simp -dsimp (disch:=omega) only[wpS,wpT,Nat.reduceEqDiff,Nat.reduceLeDiff,Nat.reduceAdd,st47,ld47,kg,shV_cells,shC_len,shC_all,sh_sp3,sh_take]
 exact⟨((E1.trans X1).trans X2).put (by omega) _,rfl⟩
end Go.Id

/-! The ideal machine: functions that are not evaluated by their text, since it is known what value they give. What they leave in memory is forgotten: they are carried out on a memory of their own. -/
namespace Go.Id
open Go
def E1 (P:Program) (tb:FuncId→Option (List Value→Option Value)):Env:=⟨P,fun _ _=>none,fun f=>(tb f).map fun g args h=>bif args.all plain then (g args).map (·,h) else none⟩
theorem plain_all {m:Mp} {l l':List Value} (h:LRel m l l') (hp:l.all plain=true):l'=l:=by
 apply List.ext_getElem? fun i=>?_
 by_cases hi:i<l.length
 ·obtain⟨v',h1,h2⟩:=h.get (List.getElem?_eq_getElem hi)
  rw[h1,List.getElem?_eq_getElem hi,h2.plain_eq (by have:=List.all_eq_true.1 hp;exact this _ (List.getElem_mem hi))]
 ·rw[List.getElem?_eq_none (show l'.length≤i from h.1▸Nat.le_of_not_lt hi),List.getElem?_eq_none (Nat.le_of_not_lt hi)]
theorem plain_all_mk {m:Mp} {l:List Value} (hp:l.all plain=true):LRel m l l :=
 ⟨rfl,fun i v v' a b=>by
  rw[a] at b;cases b
  exact .plain_mk (List.all_eq_true.1 hp _ (List.mem_of_getElem? a))⟩
theorem Rel.bare {B:Nat} {w0:World} {m:Mp} {h:IH} {w:World} (R:Rel B w0 m h w):Rel B w0 ⟨fun b=>if b % 2=1 then m b else none,m.ez⟩ (IH.start fun _=>none) w:=by
 have leaf : ∀{α:Type} (k:Nat),(Tr.leaf:Tr α).get k=none:=fun k=>rfl
 have odd : ∀k x,(⟨fun b=>if b % 2=1 then m b else none,m.ez⟩:Mp) (2*k)=some x→False:=by
  intro k x h
  have h1:(if 2*k % 2=1 then m (2*k) else none)=some x:=h
  rw[if_neg (by omega)] at h1;cases h1
 refine⟨R.below,R.size,?_,fun b h=>?_,?_,fun k _=>leaf k,?_,?_,?_,?_,?_,?_⟩
 ·intro b cs h;cases h
 ·show(if (2*b+1) % 2=1 then m (2*b+1) else none)=_
  rw[if_pos (by omega)];exact R.odd b h
 ·intro k r s h;exact(odd _ _ h).elim
 ·intro k o r s h;cases h
 ·intro k k' o o' r s s' _ h;cases h
 ·intro f st h;cases h
 ·intro k cs t f h;cases h
 ·intro f st h;cases h
 ·intro f st x y h;cases h
theorem ObjRel.same {m:Mp} {w w':World} {r s:Nat} {z:Nat×Nat} {o:IObj} (h:ObjRel m w r s z o) (e:w'.heap[r]?=w.heap[r]?):ObjRel m w' r s z o:=by
 cases o<;>simp only[ObjRel] at h ⊢ <;> first|(rw[e];exact h)|trivial
theorem Rel.aside {B:Nat} {w0:World} {m m':Mp} {h h':IH} {w w':World} (R:Rel B w0 m h w) (R':Rel B w0 m' h' w') (S:Step ⟨fun b=>if b % 2=1 then m b else none,m.ez⟩ (IH.start fun _=>none) w m' h' w'):Rel B w0 m h w'∧Step m h w m h w':=by
 have same : ∀r,r<w.heap.size→w'.heap[r]?=w.heap[r]?:=fun r hr=>S.frame r hr fun k s hk=>absurd hk (Nat.not_lt_zero k)
 refine⟨⟨R'.below,R'.size,fun b cs hb=>?_,R.odd,fun k r s hk=>?_,R.dom,fun k o r s hk hm=>?_,R.own,R.famdom,R.fam,R.long,R.whole⟩,
  ⟨Mp.le_refl m,fun b hb=>absurd rfl hb,Nat.le_refl _,rfl,fun r hr _=>same r hr,fun _ _ _=>rfl,S.size,fun k r s h1 h2=>by omega,fun _ _ _ hh=>hh⟩⟩
 ·obtain⟨r,s,h1,h2,c,el,fz,h3,h4⟩:=R.base b cs hb
  exact⟨r,s,h1,h2,c,el,fz,by rw[same r (by have:=R.size;omega)];exact h3,h4⟩
 ·have:=R.even k r s hk
  have:=S.size
  exact⟨by omega,by omega⟩
 ·exact(R.obj k o r s hk hm).same (same r (R.even k r s hm).2)
def plainT:Value→Bool
 | .tuple vs=>vs.toList.all plain
 | v=>plain v
theorem VRel.plainT_eq {m:Mp} {v v':Value} (h:VRel m v v') (hv:plainT v=true):v'=v:=by
 unfold plainT at hv
 split at hv
 ·obtain⟨cs',rfl,h2⟩:=h.tuple_inv
  have:=LRel.plain_eq h2 hv
  exact congrArg Value.tuple (Array.ext' this)
 ·exact h.plain_eq hv
theorem VRel.plainT_mk {m:Mp} {v:Value} (hv:plainT v=true):VRel m v v:=by
 unfold plainT at hv
 split at hv
 ·exact VRel.tuple_iff (plain_all_mk hv)
 ·exact .plain_mk hv
def Gives (P:Program) (f:FuncId) (args:List Value) (v:Value):Prop :=
 ∀(B:Nat) (w0:World) (m:Mp) (h:IH) (w:World),Rel B w0 m h w → ∃h2,CallsTo P f args.toArray B w0 ⟨fun b=>if b % 2=1 then m b else none,m.ez⟩ (IH.start fun _=>none) w v h2
theorem gives_run {E:Env} (S:Sound E) {n:Nat} {f:FuncId} {args:List Value} {v:Value} {h2:IH} (hr:callV E (n+1) (.func (.func f) #[] #[]) args (IH.start fun _=>none)=some (v,h2)) (hb : ∃fn,E.P.funcs[f]?=some fn∧fn.body.isSome=true) (hp:args.all plain=true):Gives E.P f args v:=by
 intro B w0 m h w R
 refine⟨h2,?_⟩
 have hc:=hr
 unfold callV at hc
 have fresh:Fresh ⟨fun b=>if b % 2=1 then m b else none,m.ez⟩ (IH.start fun _=>none).n h2.n:=fun k _ _=>by
  show(if 2*k % 2=1 then m (2*k) else none)=none
  rw[if_neg (by omega)]
 obtain⟨fn,hfn,hb⟩:=hb
 rcases callFn_sim S (callV_sim S n) (callV_mono S n) hc R.bare (args':=args.toArray) (by simpa using plain_all_mk hp) fresh with⟨_,k⟩|⟨fn',k1,k2,_⟩
 ·exact k
 ·have k3:E.P.funcs[f]?=some fn':=k1
  rw[hfn] at k3;cases k3
  rw[k2] at hb;cases hb
theorem gives_wv {P:Program} (S:Sound (E0 P)) {f:FuncId} {args:List Value} {v:Value} (hb : ∃fn,P.funcs[f]?=some fn∧fn.body.isSome=true) (hp:args.all plain=true) (h:WV P (.func (.func f) #[] #[]) args (IH.start fun _=>none) fun r _=>r=v):Gives P f args v:=by
 obtain⟨⟨r,h2⟩,⟨N,hN⟩,hr⟩:=h
 simp only at hr
 subst hr
 exact gives_run (E:=E0 P) S (hN (N+1) (by omega)) hb hp
theorem sound1 {P:Program} {tb:FuncId→Option (List Value→Option Value)} (S:Sound (E0 P)) (hf : ∀f g,tb f=some g → ∃fn,P.funcs[f]?=some fn∧fn.body.isSome=true)
  (hv : ∀f g,tb f=some g → ∀args v,args.all plain=true→g args=some v→plainT v=true∧Gives P f args v):Sound (E1 P tb) where
 mixed:=S.mixed
 names:=S.names
 origin:=S.origin
 intrN:=fun f g hg args h v h' e=>by
  obtain⟨g0,h1,rfl⟩:=Option.map_eq_some_iff.1 hg
  simp only[cond_eq_ite] at e
  split at e
  ·obtain⟨v0,_,e2⟩:=Option.map_eq_some_iff.1 e
   cases e2;exact Nat.le_refl _
  ·cases e
 intr:=fun f g hg=>by
  obtain⟨g0,h1,rfl⟩:=Option.map_eq_some_iff.1 hg
  refine⟨hf f g0 h1,fun args h v h' e B w0 m w args' R hargs _=>?_⟩
  simp only[cond_eq_ite] at e
  split at e
  case isFalse=>cases e
  rename_i hp
  obtain⟨v0,e1,e2⟩:=Option.map_eq_some_iff.1 e
  cases e2
  obtain⟨hpl,hg⟩:=hv f g0 h1 args v hp e1
  obtain⟨h2,key⟩:=hg B w0 m h w R
  have ea:args.toArray=args':=by
   rw[←plain_all hargs hp]
  rw[ea] at key
  refine key.mono fun e' w' ⟨v',m',he,hvr,R',S'⟩=>?_
  obtain⟨R2,S2⟩:=R.aside R' S'
  exact⟨v',m,he,by rw[hvr.plainT_eq hpl];exact .plainT_mk hpl,R2,S2⟩
end Go.Id

/-! The ideal machine once more, written for the kernel: by recursors, each alternative a constant of its own, numbers forced. First part: frames, memory, numbers; each function is proved to be the machine's. -/
namespace Go.Id
open Go
noncomputable section
def fN {α:Type} (x:Nat) (k:Nat→α):α:=Nat.rec (motive:=fun _=>α) (k 0) (fun m _=>k (Nat.succ m)) x
theorem fN_eq {α:Type} (x:Nat) (k:Nat→α):fN x k=k x:=by cases x<;>rfl
def bO {α β:Type} (o:Option α) (k:α→Option β):Option β:=Option.rec (motive:=fun _=>Option β) none k o
@[simp] theorem bO_some {α β:Type} (a:α) (k:α→Option β):bO (some a) k=k a:=rfl
@[simp] theorem bO_none {α β:Type} (k:α→Option β):bO none k=none:=rfl
def iB {α:Type} (b:Bool) (x y:α):α:=Bool.rec (motive:=fun _=>α) y x b
theorem iB_eq {α:Type} (b:Bool) (x y:α):iB b x y=cond b x y:=by cases b<;>rfl
@[simp] theorem iB_true {α:Type} (x y:α):iB true x y=x:=rfl
@[simp] theorem iB_false {α:Type} (x y:α):iB false x y=y:=rfl
theorem bleI {a b:Nat}:Nat.ble a b=true↔a≤b:=by rw[Nat.ble_eq]
theorem beqN (a b:Nat):(a == b)=Nat.beq a b:=by
 rw[Bool.eq_iff_iff];simp[Nat.beq_eq]
def fgetF (fr:Fr) (t:Nat):Option Value:=List.rec (motive:=fun _=>Option Value) none (fun p _ ih=>Bool.rec (motive:=fun _=>Option Value) ih (some p.2) (Nat.beq p.1 t)) fr
theorem fgetF_eq : ∀(fr:Fr) (t:Nat),fgetF fr t=fget fr t
 | [],_=>rfl
 | (s,v) :: r,t=>by
  show Bool.rec (motive:=fun _=>Option Value) (fgetF r t) (some v) (Nat.beq s t)=bif s == t then some v else fget r t
  rw[fgetF_eq r t,beqN]
  cases Nat.beq s t<;>rfl
def putF (nt:Nat) (fr:Fr) (d:Option Nat) (v:Value):Option Fr:=Option.rec (motive:=fun _=>Option Fr) (some fr) (fun d=>Bool.rec (motive:=fun _=>Option Fr) none (some ((d,v) :: fr)) (Nat.ble (Nat.succ d) nt)) d
theorem putF_eq (nt:Nat) (fr:Fr) (d:Option Nat) (v:Value):putF nt fr d v=fput nt fr d v:=by
 cases d with
 | none=>rfl
 | some d =>
  show Bool.rec (motive:=fun _=>Option Fr) none (some ((d,v) :: fr)) (Nat.ble (Nat.succ d) nt)=bif Nat.blt d nt then some ((d,v) :: fr) else none
  rw[show Nat.blt d nt=Nat.ble (Nat.succ d) nt from rfl]
  cases Nat.ble (Nat.succ d) nt<;>rfl
def opdTmp (t:Tmp) (fr:Fr):Option Value:=fgetF fr t
def opdConst (v:Value) (_:Fr):Option Value:=Bool.rec (motive:=fun _=>Option Value) none (some v) (plain v)
def opdGlobal (g:Nat) (_:Fr):Option Value:=bif Nat.blt g 4294967296 then some (.pointer (some ⟨2*g+1,0,none⟩)) else none
def opdFunc (f:FuncId) (_:Fr):Option Value:=some (.func (.func f) #[] #[])
def opdF (x:Operand) (fr:Fr):Option Value:=Operand.rec (motive:=fun _=>Fr→Option Value) opdTmp opdConst opdGlobal opdFunc x fr
theorem opdF_eq (x:Operand) (fr:Fr):opdF x fr=opd fr x:=by
 cases x with
 | tmp t=>exact fgetF_eq fr t
 | const v =>
  show Bool.rec (motive:=fun _=>Option Value) none (some v) (plain v)=bif plain v then some v else none
  cases plain v<;>rfl
 | global g=>rfl
 | func f=>rfl
def opdsF (l:List Operand) (fr:Fr):Option (List Value):=List.rec (motive:=fun _=>Option (List Value)) (some []) (fun x _ ih=>bO (opdF x fr) fun v=>bO ih fun vs=>some (v :: vs)) l
theorem opdsF_eq : ∀(l:List Operand) (fr:Fr),opdsF l fr=opds fr l
 | [],_=>rfl
 | x :: l,fr=>by
  show bO (opdF x fr) (fun v=>bO (opdsF l fr) fun vs=>some (v :: vs))=_
  rw[opdF_eq,opdsF_eq l fr,opds]
  cases opd fr x<;>cases opds fr l<;>rfl
def trGet {α:Type} (t:Tr α) (n:Nat):Option α:=Tr.rec (motive:=fun _=>Nat→Option α) (fun _=>none) (fun _ v _ gl gr n=>Bool.rec (motive:=fun _=>Option α) (Bool.rec (motive:=fun _=>Option α) (gr (Nat.div (Nat.sub n 1) 2)) (gl (Nat.div n 2)) (Nat.beq (Nat.mod n 2) 1)) v (Nat.beq n 0)) t n
theorem trGet_eq {α:Type} : ∀(t:Tr α) (n:Nat),trGet t n=t.get n
 | .leaf,_=>rfl
 | .node l v r,n=>by
  show Bool.rec (motive:=fun _=>Option α) (Bool.rec (motive:=fun _=>Option α) (trGet r (Nat.div (Nat.sub n 1) 2)) (trGet l (Nat.div n 2)) (Nat.beq (Nat.mod n 2) 1)) v (Nat.beq n 0)=bif n == 0 then v else bif n % 2 == 1 then l.get (n / 2) else r.get ((n - 1) / 2)
  rw[trGet_eq l,trGet_eq r,beqN,beqN]
  show Bool.rec (motive:=fun _=>Option α) (Bool.rec (motive:=fun _=>Option α) (r.get ((n - 1) / 2)) (l.get (n / 2)) (Nat.beq (n % 2) 1)) v (Nat.beq n 0)=_
  cases Nat.beq n 0<;>cases Nat.beq (n % 2) 1<;>rfl
def trOne {α:Type} (x:α) (f n:Nat):Tr α:=Nat.rec (motive:=fun _=>Nat→Tr α) (fun _=>.node .leaf (some x) .leaf) (fun _ ih n=>Bool.rec (motive:=fun _=>Tr α) (Bool.rec (motive:=fun _=>Tr α) (.node .leaf none (ih (Nat.div (Nat.sub n 1) 2))) (.node (ih (Nat.div n 2)) none .leaf) (Nat.beq (Nat.mod n 2) 1)) (.node .leaf (some x) .leaf) (Nat.beq n 0)) f n
theorem trOne_eq {α:Type} (x:α) : ∀(f n:Nat),trOne x f n=Tr.one f n x
 | 0,_=>rfl
 | f+1,n=>by
  show Bool.rec (motive:=fun _=>Tr α) (Bool.rec (motive:=fun _=>Tr α) (.node .leaf none (trOne x f (Nat.div (Nat.sub n 1) 2))) (.node (trOne x f (Nat.div n 2)) none .leaf) (Nat.beq (Nat.mod n 2) 1)) (.node .leaf (some x) .leaf) (Nat.beq n 0)=_
  rw[trOne_eq x f,trOne_eq x f,Tr.one,beqN,beqN]
  show Bool.rec (motive:=fun _=>Tr α) (Bool.rec (motive:=fun _=>Tr α) (.node .leaf none (Tr.one f ((n - 1) / 2) x)) (.node (Tr.one f (n / 2) x) none .leaf) (Nat.beq (n % 2) 1)) (.node .leaf (some x) .leaf) (Nat.beq n 0)=_
  cases Nat.beq n 0<;>cases Nat.beq (n % 2) 1<;>rfl
def trSet {α:Type} (x:α) (t:Tr α) (n:Nat):Tr α:=Tr.rec (motive:=fun _=>Nat→Tr α) (fun n=>trOne x n n) (fun l v r sl sr n=>Bool.rec (motive:=fun _=>Tr α) (Bool.rec (motive:=fun _=>Tr α) (.node l v (sr (Nat.div (Nat.sub n 1) 2))) (.node (sl (Nat.div n 2)) v r) (Nat.beq (Nat.mod n 2) 1)) (.node l (some x) r) (Nat.beq n 0)) t n
theorem trSet_eq {α:Type} (x:α) : ∀(t:Tr α) (n:Nat),trSet x t n=t.set n x
 | .leaf,n=>trOne_eq x n n
 | .node l v r,n=>by
  show Bool.rec (motive:=fun _=>Tr α) (Bool.rec (motive:=fun _=>Tr α) (.node l v (trSet x r (Nat.div (Nat.sub n 1) 2))) (.node (trSet x l (Nat.div n 2)) v r) (Nat.beq (Nat.mod n 2) 1)) (.node l (some x) r) (Nat.beq n 0)=_
  rw[trSet_eq x l,trSet_eq x r,Tr.set,beqN,beqN]
  show Bool.rec (motive:=fun _=>Tr α) (Bool.rec (motive:=fun _=>Tr α) (.node l v (r.set ((n - 1) / 2) x)) (.node (l.set (n / 2) x) v r) (Nat.beq (n % 2) 1)) (.node l (some x) r) (Nat.beq n 0)=_
  cases Nat.beq n 0<;>cases Nat.beq (n % 2) 1<;>rfl
def trPut {α β:Type} (x:α) (t:Tr α) (n:Nat) (k:Tr α→β):β:=Option.rec (motive:=fun _=>β) (k (trSet x t n)) (fun _=>k (trSet x t n)) (trGet (trSet x t n) n)
theorem trPut_eq {α β:Type} (x:α) (t:Tr α) (n:Nat) (k:Tr α→β):trPut x t n k=k (t.set n x):=by
 unfold trPut
 rw[trSet_eq]
 cases trGet (t.set n x) n<;>rfl
def dropF (n:Nat) (l:List Value):List Value:=Nat.rec (motive:=fun _=>List Value→List Value) (fun l=>l) (fun _ ih l=>List.rec (motive:=fun _=>List Value) [] (fun _ l _=>ih l) l) n l
theorem dropF_eq : ∀(n:Nat) (l:List Value),dropF n l=l.drop n
 | 0,_=>rfl
 | n+1,[]=>rfl
 | n+1,_ :: l=>dropF_eq n l
def takeF (n:Nat) (l:List Value):Option (List Value):=Nat.rec (motive:=fun _=>List Value→Option (List Value)) (fun _=>some []) (fun _ ih l=>List.rec (motive:=fun _=>Option (List Value)) none (fun a l _=>bO (ih l) fun r=>some (a :: r)) l) n l
theorem takeF_eq : ∀(n:Nat) (l:List Value),takeF n l=bif Nat.ble n l.length then some (l.take n) else none
 | 0,_=>rfl
 | n+1,[]=>rfl
 | n+1,a :: l=>by
  show bO (takeF n l) (fun r=>some (a :: r))=_
  rw[takeF_eq n l]
  show _=bif Nat.ble n l.length then some (a :: l.take n) else none
  cases Nat.ble n l.length<;>rfl
def takeL (n:Nat) (l:List Value):List Value:=Nat.rec (motive:=fun _=>List Value→List Value) (fun _ => []) (fun _ ih l=>List.rec (motive:=fun _=>List Value) [] (fun a l _=>a :: ih l) l) n l
theorem takeL_eq : ∀(n:Nat) (l:List Value),takeL n l=l.take n
 | 0,_=>rfl
 | n+1,[]=>rfl
 | n+1,a :: l=>congrArg (a :: ·) (takeL_eq n l)
def nthF (n:Nat) (l:List Value):Option Value:=List.rec (motive:=fun _=>Option Value) none (fun a _ _=>some a) (dropF n l)
theorem nthF_eq (n:Nat) (l:List Value):nthF n l=l[n]?:=by
 unfold nthF
 rw[dropF_eq,←List.head?_drop]
 cases l.drop n<;>rfl
def appF (l m:List Value):List Value:=List.rec (motive:=fun _=>List Value) m (fun a _ ih=>a :: ih) l
theorem appF_eq : ∀(l m:List Value),appF l m=l ++ m
 | [],_=>rfl
 | a :: l,m=>congrArg (a :: ·) (appF_eq l m)
def lenL (l:List Value):Nat:=List.rec (motive:=fun _=>Nat) 0 (fun _ _ ih=>Nat.succ ih) l
theorem lenL_eq : ∀(l:List Value),lenL l=l.length
 | []=>rfl
 | _ :: l=>congrArg Nat.succ (lenL_eq l)
def allF (p:Value→Bool) (l:List Value):Bool:=List.rec (motive:=fun _=>Bool) true (fun a _ ih=>Bool.rec (motive:=fun _=>Bool) false ih (p a)) l
theorem allF_eq (p:Value→Bool) : ∀(l:List Value),allF p l=l.all p
 | []=>rfl
 | a :: l=>by
  show Bool.rec (motive:=fun _=>Bool) false (allF p l) (p a)=_
  rw[allF_eq p l,List.all_cons]
  cases p a<;>rfl
def overF (vs cs:List Value):Option (List Value):=List.rec (motive:=fun _=>List Value→Option (List Value)) (fun cs=>some cs) (fun v _ ih cs=>List.rec (motive:=fun _=>Option (List Value)) none (fun _ l _=>bO (ih l) fun r=>some (v :: r)) cs) vs cs
theorem overF_eq : ∀(vs cs:List Value),overF vs cs=bif Nat.ble vs.length cs.length then some (vs ++ cs.drop vs.length) else none
 | [],_=>rfl
 | _ :: _,[]=>rfl
 | v :: vs,c :: cs=>by
  show bO (overF vs cs) (fun r=>some (v :: r))=bif Nat.ble vs.length cs.length then some (v :: (vs ++ cs.drop vs.length)) else none
  rw[overF_eq vs cs]
  cases Nat.ble vs.length cs.length<;>rfl
def spliceF (o:Nat) (vs cs:List Value):Option (List Value):=Nat.rec (motive:=fun _=>List Value→Option (List Value)) (fun cs=>overF vs cs) (fun _ ih cs=>List.rec (motive:=fun _=>Option (List Value)) none (fun a l _=>bO (ih l) fun r=>some (a :: r)) cs) o cs
theorem spliceF_some (vs:List Value) : ∀(o:Nat) (cs:List Value),spliceF o vs cs=bif Nat.ble (o+vs.length) cs.length then some (IH.splice cs o vs) else none
 | 0,cs=>by
  show overF vs cs=_
  rw[overF_eq,Nat.zero_add]
  show _=bif Nat.ble vs.length cs.length then some (cs.take 0 ++ (vs ++ cs.drop (0+vs.length))) else none
  rw[Nat.zero_add,List.take_zero];rfl
 | o+1,[]=>by
  rw[show o+1+vs.length=(o+vs.length)+1 from by omega];rfl
 | o+1,c :: cs=>by
  show bO (spliceF o vs cs) (fun r=>some (c :: r))=_
  rw[spliceF_some vs o cs,show o+1+vs.length=(o+vs.length)+1 from by omega]
  show _=bif Nat.ble (o+vs.length) cs.length then some (IH.splice (c :: cs) (o+1) vs) else none
  rw[show IH.splice (c :: cs) (o+1) vs=c :: IH.splice cs o vs from by simp[IH.splice,show o+1+vs.length=(o+vs.length)+1 from by omega]]
  cases Nat.ble (o+vs.length) cs.length<;>rfl
def replF (n:Nat) (z:List Value):List Value:=Nat.rec (motive:=fun _=>List Value) [] (fun _ ih=>appF z ih) n
theorem replF_eq (z:List Value) : ∀n,replF n z=repl n z
 | 0=>rfl
 | n+1=>by
  show appF z (replF n z)=_
  rw[appF_eq,replF_eq z n];rfl
def cellsL (v:Value):List Value:=match v with
 | .agg cs=>cs.toList
 | v => [v]
theorem cellsL_eq (v:Value):cellsL v=v.cells.toList:=by cases v<;>rfl
def cellF (v:Value):Bool:=match v with
 | .agg _=>false
 | .tuple _=>false
 | _=>true
theorem cellF_eq:cellF=cellOK:=by funext v;cases v<;>rfl
def cellsOf (o:IObj):Option (List Value):=match o with
 | .cells cs _ _=>some cs
 | _=>none
def rowF (h:IH) (b:Nat):Option (List Value):=Bool.rec (motive:=fun _=>Option (List Value)) (bO (trGet h.ext (Nat.div b 2)) cellsOf) (h.base (Nat.div b 2)) (Nat.beq (Nat.mod b 2) 1)
theorem rowF_eq (h:IH) (b:Nat):rowF h b=h.row b:=by
 unfold rowF IH.row
 rw[beqN,trGet_eq]
 show Bool.rec (motive:=fun _=>Option (List Value)) (bO (h.ext.get (b / 2)) cellsOf) (h.base (b / 2)) (Nat.beq (b % 2) 1)=_
 cases Nat.beq (b % 2) 1
 ·show bO (h.ext.get (b / 2)) cellsOf=match h.ext.get (b / 2) with|some (.cells cs _ _)=>some cs|_=>none
  cases h.ext.get (b / 2) with
  | none=>rfl
  | some o=>cases o<;>rfl
 ·rfl
theorem rdT_of {cs:List Value} {o n:Nat}:(bif Nat.ble (o+n) cs.length then some ((cs.drop o).take n) else none:Option (List Value))=if n=0 then (bif Nat.ble o cs.length then some [] else none) else takeF n (cs.drop o):=by
 rw[takeF_eq,List.length_drop]
 split
 ·subst n;rfl
 ·have e:Nat.ble (o+n) cs.length=Nat.ble n (cs.length - o):=by
   rw[Bool.eq_iff_iff];simp only[Nat.ble_eq];omega
  rw[e]
def rd1 (h:IH) (b o:Nat):Option Value:=bO (rowF h b) fun cs=>nthF o cs
theorem rd1_eq (h:IH) (b o:Nat):rd1 h b o=(h.rd b o 1).bind (·.head?):=by
 unfold rd1 IH.rd
 rw[rowF_eq]
 cases h.row b with
 | none=>rfl
 | some cs =>
  simp only[bO_some,nthF_eq]
  by_cases hl:o<cs.length
  ·rw[show Nat.ble (o+1) cs.length=true from bleI.2 hl]
   simp only[cond_true,Option.bind_some,List.head?_take,List.head?_drop]
   simp
  ·rw[show Nat.ble (o+1) cs.length=false from by rw[Bool.eq_false_iff];simp only[ne_eq,Nat.ble_eq];omega]
   simp[List.getElem?_eq_none (Nat.le_of_not_lt hl)]
def rdN (h:IH) (b o n:Nat):Option (List Value):=bO (rowF h b) fun cs=>takeF n (dropF o cs)
theorem rdN_eq (h:IH) (b o n:Nat) (hn:n≠0):rdN h b o n=h.rd b o n:=by
 unfold rdN IH.rd
 rw[rowF_eq]
 cases h.row b with
 | none=>rfl
 | some cs =>
  simp only[bO_some,dropF_eq]
  exact((rdT_of (cs:=cs) (o:=o) (n:=n)).trans (if_neg hn)).symm
def loadF (P:Program) (h:IH) (t:TypeId) (v:Value):Option Value:=match v with
 | .pointer (some ⟨b,o,none⟩)=>bO (isAggT P t) fun g=>iB g (bO (sizeT P t) fun n=>bO (iB (Nat.beq n 0) (h.rd b o n) (rdN h b o n)) fun l=>some (Value.agg ⟨l⟩)) (rd1 h b o)
 | _=>none
theorem loadF_eq (P:Program) (h:IH) (t:TypeId) (v:Value):loadF P h t v=load P h t v:=by
 unfold loadF load
 split
 ·rename_i b o
  rw[show asAddr (.pointer (some ⟨b,o,none⟩))=some (b,o) from rfl]
  cases isAggT P t with
  | none=>cases sizeT P t<;>rfl
  | some g =>
   cases g with
   | false=>simp only[bO_some,iB_false,rd1_eq]
   | true =>
    simp only[bO_some,iB_true]
    cases sizeT P t with
    | none=>rfl
    | some n =>
     simp only[bO_some]
     have e:iB (Nat.beq n 0) (h.rd b o n) (rdN h b o n)=h.rd b o n:=by
      by_cases hn:n=0
      ·subst hn;rfl
      ·rw[rdN_eq h b o n hn,iB_eq];cases Nat.beq n 0<;>rfl
     rw[e]
     cases h.rd b o n<;>rfl
 ·rename_i hv
  have:asAddr v=none:=by
   unfold asAddr
   split
   ·exact absurd rfl (hv _ _)
   ·rfl
  rw[this]
def newF {β:Type} (h:IH) (o:IObj) (k:Nat→IH→β):β:=fN h.n fun n=>trPut o h.ext n fun e=>k n ⟨h.base,Nat.succ n,e,h.fams⟩
theorem newF_eq {β:Type} (h:IH) (o:IObj) (k:Nat→IH→β):newF h o k=k h.n (h.new o):=by
 unfold newF
 rw[fN_eq,trPut_eq];rfl
def setF {β:Type} (h:IH) (b:Nat) (o:IObj) (k:IH→β):β:=trPut o h.ext b fun e=>k ⟨h.base,h.n,e,h.fams⟩
theorem setF_eq {β:Type} (h:IH) (b:Nat) (o:IObj) (k:IH→β):setF h b o k=k { h with ext:=h.ext.set b o }:=by
 exact trPut_eq _ _ _ _
def wrF (h:IH) (b o:Nat) (vs:List Value):Option IH:=iB (Nat.beq (Nat.mod b 2) 1) none (bO (trGet h.ext (Nat.div b 2)) fun ob=>match ob with
 | .cells cs t none=>bO (spliceF o vs cs) fun cs=>setF h (Nat.div b 2) (.cells cs t none) some
 | .cells _ _ (some _)=>h.wr b o vs
 | _=>none)
theorem wrF_eq (h:IH) (b o:Nat) (vs:List Value):wrF h b o vs=h.wr b o vs:=by
 unfold wrF
 rw[trGet_eq]
 show iB (Nat.beq (b % 2) 1) none (bO (h.ext.get (b / 2)) _)=_
 cases hb:Nat.beq (b % 2) 1
 ·rw[iB_false]
  cases hg:h.ext.get (b / 2) with
  | none =>
   unfold IH.wr
   rw[beqN,hb,hg];rfl
  | some ob =>
   rw[bO_some]
   split
   ·unfold IH.wr
    rw[beqN,hb,hg]
    simp only[cond_false,spliceF_some]
    rename_i cs t
    cases Nat.ble (o+vs.length) cs.length
    ·rfl
    ·simp only[cond_true,bO_some,setF_eq];rfl
   ·rfl
   ·unfold IH.wr
    rw[beqN,hb,hg]
    simp only[cond_false]
    split
    ·rename_i h1 h2 _ _ _ _ h4
     cases h4
     rename_i fam
     cases fam
     ·exact absurd rfl (h1 _ _)
     ·exact absurd rfl (h2 _ _ _)
    ·rfl
 ·rw[iB_true]
  unfold IH.wr
  rw[beqN,hb];rfl
def storeF (P:Program) (h:IH) (t:TypeId) (a v:Value):Option IH:=match a with
 | .pointer (some ⟨b,o,none⟩)=>bO (sizeT P t) fun n=>iB (Nat.beq (lenL (cellsL v)) n) (iB (allF cellF (cellsL v)) (wrF h b o (cellsL v)) none) none
 | _=>none
theorem storeF_eq (P:Program) (h:IH) (t:TypeId) (a v:Value):storeF P h t a v=store P h t a v:=by
 unfold storeF store
 split
 ·rename_i b o
  show _=match some (b,o),sizeT P t with|some (b,o),some n=>(bif v.cells.size == n && v.cells.toList.all cellOK then h.wr b o v.cells.toList else none)|_,_=>none
  cases sizeT P t with
  | none=>rfl
  | some n =>
   simp only[bO_some,cellsL_eq,lenL_eq,allF_eq,cellF_eq,wrF_eq,iB_eq,beqN,Array.length_toList]
   cases Nat.beq v.cells.size n<;>cases v.cells.toList.all cellOK<;>rfl
 ·rename_i hv
  have:asAddr a=none:=by
   unfold asAddr
   split
   ·exact absurd rfl (hv _ _)
   ·rfl
  rw[this]
def limF (k:IntKind):Nat:=IntKind.rec (motive:=fun _=>Nat) 128 32768 2147483648 9223372036854775808 256 65536 4294967296 18446744073709551616 k
theorem wrap_lim {k:IntKind} {n:Nat} (h:n<limF k):k.wrap (n:Int)=n:=by
 cases k
 ·exact IntWalk.i8_in _ (by simp only[limF] at h;omega)
 ·exact IntWalk.i16_in _ (by simp only[limF] at h;omega)
 ·exact IntWalk.i32_in _ (by simp only[limF] at h;omega)
 ·exact IntWalk.i64_in _ (by simp only[limF] at h;omega)
 ·exact IntWalk.u8_in _ (by simp only[limF] at h;omega)
 ·exact IntWalk.u16_in _ (by simp only[limF] at h;omega)
 ·exact IntWalk.u32_in _ (by simp only[limF] at h;omega)
 ·exact IntWalk.u64_in _ (by simp only[limF] at h;omega)
def okI (k:IntKind) (n:Nat):Option Value:=fN n fun s=>iB (Nat.ble (Nat.succ s) (limF k)) (some (.int k (.ofNat s))) none
def addF (k:IntKind) (a b:Nat):Option Value:=okI k (Nat.add a b)
def subF (k:IntKind) (a b:Nat):Option Value:=iB (Nat.ble b a) (okI k (Nat.sub a b)) none
def mulF (k:IntKind) (a b:Nat):Option Value:=okI k (Nat.mul a b)
def quoF (k:IntKind) (a b:Nat):Option Value:=iB (Nat.beq b 0) none (okI k (Nat.div a b))
def remF (k:IntKind) (a b:Nat):Option Value:=iB (Nat.beq b 0) none (okI k (Nat.mod a b))
def noF (_:IntKind) (_ _:Nat):Option Value:=none
def eqlF (_:IntKind) (a b:Nat):Option Value:=some (.bool (Nat.beq a b))
def neqF (_:IntKind) (a b:Nat):Option Value:=some (.bool (not (Nat.beq a b)))
def lssF (_:IntKind) (a b:Nat):Option Value:=some (.bool (Nat.ble (Nat.succ a) b))
def leqF (_:IntKind) (a b:Nat):Option Value:=some (.bool (Nat.ble a b))
def gtrF (_:IntKind) (a b:Nat):Option Value:=some (.bool (Nat.ble (Nat.succ b) a))
def geqF (_:IntKind) (a b:Nat):Option Value:=some (.bool (Nat.ble b a))
def is64 (k:IntKind):Bool:=IntKind.rec (motive:=fun _=>Bool) false false false true false false false true k
def isU64 (k:IntKind):Bool:=IntKind.rec (motive:=fun _=>Bool) false false false false false false false true k
def andF (k:IntKind) (a b:Nat):Option Value:=iB (isU64 k) (iB (Nat.ble (Nat.succ a) 18446744073709551616) (iB (Nat.ble (Nat.succ b) 18446744073709551616) (okI k (Nat.land a b)) none) none) none
def orF (k:IntKind) (a b:Nat):Option Value:=iB (isU64 k) (iB (Nat.ble (Nat.succ a) 18446744073709551616) (iB (Nat.ble (Nat.succ b) 18446744073709551616) (okI k (Nat.lor a b)) none) none) none
def binF (op:BinOp) (k:IntKind) (a b:Nat):Option Value:=BinOp.rec (motive:=fun _=>IntKind→Nat→Nat→Option Value) addF subF mulF quoF remF andF orF noF noF noF noF eqlF neqF lssF leqF gtrF geqF op k a b
theorem okI_some {k:IntKind} {n:Nat} {v:Value} (h:okI k n=some v):n<limF k∧v=.int k (n:Int):=by
 unfold okI at h
 rw[fN_eq,iB_eq] at h
 cases hb:Nat.ble (Nat.succ n) (limF k) with
 | false=>rw[hb] at h;cases h
 | true =>
  rw[hb] at h;cases h
  exact⟨bleI.1 hb,rfl⟩
theorem iB_some {α:Type} {b:Bool} {x:Option α} {v:α} (h:iB b x none=some v):b=true∧x=some v:=by
 cases b
 ·cases h
 ·exact⟨rfl,h⟩
theorem iB_some' {α:Type} {b:Bool} {x:Option α} {v:α} (h:iB b none x=some v):b=false∧x=some v:=by
 cases b
 ·exact⟨rfl,h⟩
 ·cases h
theorem ble_dec (a b:Nat):Nat.ble a b=decide ((a:Int)≤(b:Int)):=by
 rw[Bool.eq_iff_iff];simp only[Nat.ble_eq,decide_eq_true_eq];omega
theorem blt_dec (a b:Nat):Nat.ble (Nat.succ a) b=decide ((a:Int)<(b:Int)):=by
 rw[Bool.eq_iff_iff];simp only[Nat.ble_eq,decide_eq_true_eq];omega
theorem beq_dec (a b:Nat):Nat.beq a b=((a:Int) == (b:Int)):=by
 rw[Bool.eq_iff_iff];simp only[Nat.beq_eq,beq_iff_eq];omega
theorem binF_some {P:Program} {op:BinOp} {t:TypeId} {ox oy:Operand} {k:IntKind} {a b:Nat} {v:Value} (h:binF op k a b=some v):binop P op t ox oy (.int k (a:Int)) (.int k (b:Int))=some v:=by
 cases op
 case add =>
  obtain⟨h1,rfl⟩:=okI_some (n:=a+b) h
  rw[binop_add]
  exact congrArg (fun x=>some (Value.int k x)) (by rw[show(a:Int)+b=((a+b:Nat):Int) from by omega];exact wrap_lim h1)
 case sub =>
  obtain⟨h0,h⟩:=iB_some (b:=Nat.ble b a) h
  obtain⟨h1,rfl⟩:=okI_some (n:=a - b) h
  have h2:=bleI.1 h0
  rw[binop_sub]
  exact congrArg (fun x=>some (Value.int k x)) (by rw[show(a:Int) - b=((a - b:Nat):Int) from by omega];exact wrap_lim h1)
 case mul =>
  obtain⟨h1,rfl⟩:=okI_some (n:=a*b) h
  rw[binop_mul]
  exact congrArg (fun x=>some (Value.int k x)) (by rw[←Int.natCast_mul];exact wrap_lim h1)
 case quo =>
  obtain⟨h0,h⟩:=iB_some' (b:=Nat.beq b 0) h
  obtain⟨h1,rfl⟩:=okI_some (n:=a / b) h
  have hb:b≠0:=fun e=>by subst e;cases h0
  rw[binop_quo P t ox oy (by omega)]
  exact congrArg (fun x=>some (Value.int k x)) (by rw[←Int.ofNat_tdiv];exact wrap_lim h1)
 case rem =>
  obtain⟨h0,h⟩:=iB_some' (b:=Nat.beq b 0) h
  obtain⟨h1,rfl⟩:=okI_some (n:=a % b) h
  have hb:b≠0:=fun e=>by subst e;cases h0
  rw[binop_rem P t ox oy (by omega)]
  exact congrArg (fun x=>some (Value.int k x)) (Int.ofNat_tmod a b).symm
 case and =>
  obtain⟨h0,h⟩:=iB_some (b:=isU64 k) h
  obtain⟨h2,h⟩:=iB_some (b:=Nat.ble (Nat.succ a) 18446744073709551616) h
  obtain⟨h3,h⟩:=iB_some (b:=Nat.ble (Nat.succ b) 18446744073709551616) h
  obtain⟨h1,rfl⟩:=okI_some (n:=a &&& b) h
  cases k<;>first|(cases h0;done)|exact binop_and_u64 P t ox oy a b (bleI.1 h2) (bleI.1 h3)
 case or =>
  obtain⟨h0,h⟩:=iB_some (b:=isU64 k) h
  obtain⟨h2,h⟩:=iB_some (b:=Nat.ble (Nat.succ a) 18446744073709551616) h
  obtain⟨h3,h⟩:=iB_some (b:=Nat.ble (Nat.succ b) 18446744073709551616) h
  obtain⟨h1,rfl⟩:=okI_some (n:=a ||| b) h
  cases k<;>first|(cases h0;done)|exact binop_or_u64 P t ox oy a b (bleI.1 h2) (bleI.1 h3)
 case eql=>rw[binop_eql,←beq_dec];exact h
 case neq=>rw[binop_neq,bne,←beq_dec];exact h
 case lss=>rw[binop_lss,←blt_dec];exact h
 case leq=>rw[binop_leq,←ble_dec];exact h
 case gtr=>rw[binop_gtr,←blt_dec];exact h
 case geq=>rw[binop_geq,←ble_dec];exact h
 all_goals cases h
def kindN (k:IntKind):Nat:=IntKind.rec (motive:=fun _=>Nat) 0 1 2 3 4 5 6 7 k
theorem kindN_inj {j k:IntKind} (h:Nat.beq (kindN j) (kindN k)=true):j=k:=by
 cases j<;>cases k<;>first|rfl|cases h
def shF (op:BinOp) (k:IntKind) (a b:Nat):Option Value:=BinOp.rec (motive:=fun _=>Option Value) none none none none none none none none
 (iB (Nat.ble b 64) (iB (is64 k) (okI k (Nat.mul a (Nat.pow 2 b))) none) none)
 (iB (Nat.ble b 64) (iB (is64 k) (okI k (Nat.div a (Nat.pow 2 b))) none) none) none none none none none none none op
theorem shF_some {P:Program} {op:BinOp} {t:TypeId} {ox oy:Operand} {k j:IntKind} {a b:Nat} {v:Value} (h:shF op k a b=some v):binop P op t ox oy (.int k (a:Int)) (.int j (b:Int))=some v:=by
 cases op
 case shl =>
  obtain⟨h0,h⟩:=iB_some (b:=Nat.ble b 64) h
  obtain⟨h2,h⟩:=iB_some (b:=is64 k) h
  obtain⟨h1,rfl⟩:=okI_some (n:=a*2 ^ b) h
  rw[binop_shl P t ox oy (by omega)]
  have hb:min (b:Int).toNat k.bits=b:=by
   have:=bleI.1 h0
   rw[Int.toNat_natCast]
   cases k<;>first|(cases h2;done)|exact Nat.min_eq_left this
  rw[hb]
  exact congrArg (fun x=>some (Value.int k x)) (by rw[show(a:Int)*2 ^ b=((a*2 ^ b:Nat):Int) from by rw[Int.natCast_mul,Int.natCast_pow];rfl];exact wrap_lim h1)
 case shr =>
  obtain⟨h0,h⟩:=iB_some (b:=Nat.ble b 64) h
  obtain⟨h2,h⟩:=iB_some (b:=is64 k) h
  obtain⟨h1,rfl⟩:=okI_some (n:=a / 2 ^ b) h
  rw[binop_shr P t ox oy (by omega)]
  have hb:min (b:Int).toNat k.bits=b:=by
   have:=bleI.1 h0
   rw[Int.toNat_natCast]
   cases k<;>first|(cases h2;done)|exact Nat.min_eq_left this
  rw[hb]
  refine congrArg (fun x=>some (Value.int k x)) ?_
  rw[Int.fdiv_eq_ediv_of_nonneg _ (by exact Int.le_of_lt (Int.pow_pos (by omega))),Int.natCast_ediv,Int.natCast_pow];rfl
 all_goals cases h
def orElse (a b:Option Value):Option Value:=Option.rec (motive:=fun _=>Option Value) b (fun v=>some v) a
def binopF (P:Program) (op:BinOp) (t:TypeId) (ox oy:Operand) (x y:Value):Option Value:=match x,y with
 | .int k (.ofNat a),.int j (.ofNat b)=>orElse (iB (Nat.beq (kindN k) (kindN j)) (binF op k a b) none) (orElse (shF op k a b) (binop P op t ox oy (.int k (.ofNat a)) (.int j (.ofNat b))))
 | x,y=>binop P op t ox oy x y
theorem orElse_eq {a b c:Option Value} (h : ∀v,a=some v→c=some v) (hb:b=c):orElse a b=c:=by
 cases a with
 | none=>exact hb
 | some v=>exact(h v rfl).symm
theorem binopF_eq (P:Program) (op:BinOp) (t:TypeId) (ox oy:Operand) (x y:Value):binopF P op t ox oy x y=binop P op t ox oy x y:=by
 unfold binopF
 split
 ·refine orElse_eq (fun v h=>?_) (orElse_eq (fun v h=>shF_some h) rfl)
  obtain⟨h0,h1⟩:=iB_some h
  have:=kindN_inj h0
  subst this
  exact binF_some h1
 ·rfl
end
end Go.Id

/-! The ideal machine written for the kernel, second part: operations. -/
namespace Go.Id
open Go
noncomputable section
abbrev OpSem:=Env→CallV→Fr→IH→Option (Value×IH)
def okV (h:IH) (o:Option Value):Option (Value×IH):=bO o fun v=>some (v,h)
theorem okV_eq (h:IH) (o:Option Value):okV h o=o.map (·,h):=by cases o<;>rfl
def okH (o:Option IH):Option (Value×IH):=bO o fun h=>some (undef,h)
theorem okH_eq (o:Option IH):okH o=o.map (undef,·):=by cases o<;>rfl
def forceS (v:Value):Value:=match v with
 | .slice (some ⟨b,o,none⟩) n c=>fN b fun b=>fN o fun o=>fN n fun n=>fN c fun c=>.slice (some ⟨b,o,none⟩) n c
 | v=>v
theorem forceS_eq (v:Value):forceS v=v:=by
 unfold forceS
 split
 ·simp only[fN_eq]
 ·rfl
def partsF (l:List (Nat×Operand)) (fr:Fr):Option (List (Nat×Value)):=List.rec (motive:=fun _=>Option (List (Nat×Value))) (some []) (fun p _ ih=>bO (opdF p.2 fr) fun v=>bO ih fun vs=>some ((p.1,v) :: vs)) l
theorem partsF_eq : ∀(l:List (Nat×Operand)) (fr:Fr),partsF l fr=partsOf fr l
 | [],_=>rfl
 | (i,x) :: l,fr=>by
  show bO (opdF x fr) (fun v=>bO (partsF l fr) fun vs=>some ((i,v) :: vs))=_
  rw[opdF_eq,partsF_eq l fr,partsOf]
  cases opd fr x<;>cases partsOf fr l<;>rfl
def fillF (place:Nat→Option (Nat×Nat)) (l:List (Nat×Value)) (cells:List Value):Option (List Value):=List.rec (motive:=fun _=>List Value→Option (List Value)) (fun c=>some c) (fun p _ ih cells=>bO (place p.1) fun q=>iB (Nat.beq (lenL (cellsL p.2)) q.2) (bO (spliceF q.1 (cellsL p.2) cells) ih) none) l cells
theorem fillF_eq (place:Nat→Option (Nat×Nat)) : ∀(l:List (Nat×Value)) (cells:List Value),fillF place l cells=fillP place cells l
 | [],_=>rfl
 | (i,v) :: l,cells=>by
  show bO (place i) (fun q=>iB (Nat.beq (lenL (cellsL v)) q.2) (bO (spliceF q.1 (cellsL v) cells) (fillF place l)) none)=_
  rw[fillP]
  cases hp:place i with
  | none=>rfl
  | some q =>
   obtain⟨o,n⟩:=q
   simp only[bO_some,cellsL_eq,lenL_eq,spliceF_some,beqN,Array.length_toList]
   cases hn:Nat.beq v.cells.size n with
   | false=>rfl
   | true =>
    have hn:=Nat.beq_eq.mp hn
    subst hn
    simp only[iB_true,Bool.true_and]
    cases Nat.ble (o+v.cells.size) cells.length with
    | false=>rfl
    | true=>exact fillF_eq place l _
def partF (P:Program) (t:TypeId) (l:List Value) (off:Nat):Option Value:=bO (isAggT P t) fun g=>iB g (bO (sizeT P t) fun n=>some (.agg ⟨takeL n (dropF off l)⟩)) (nthF off l)
theorem partF_eq (P:Program) (t:TypeId) (cs:Array Value) (off:Nat):partF P t cs.toList off=partOf P t cs off:=by
 unfold partF partOf
 cases isAggT P t with
 | none=>cases sizeT P t<;>rfl
 | some g =>
  cases g with
  | false =>
   simp only[bO_some,iB_false,nthF_eq]
   exact Array.getElem?_toList
  | true =>
   simp only[bO_some,iB_true]
   cases sizeT P t with
   | none=>rfl
   | some n =>
    simp only[bO_some,takeL_eq,dropF_eq]
    refine congrArg (fun a=>some (Value.agg a)) ?_
    apply Array.ext'
    simp[Array.toList_extract]
def moveF (x:Operand):OpSem:=fun _ _ fr h=>okV h (opdF x fr)
def pickF (c a b:Operand):OpSem:=fun _ _ fr h=>bO (opdF c fr) fun v=>match v with
 | .bool t=>iB t (okV h (opdF a fr)) (okV h (opdF b fr))
 | _=>none
def freshF (h:IH) (o:IObj):Option (Value×IH):=newF h o fun n h=>fN (Nat.mul 2 n) fun b=>some (.pointer (some ⟨b,0,none⟩),h)
theorem freshF_eq (h:IH) (o:IObj):freshF h o=some (ptr (2*h.n) 0,h.new o):=by
 unfold freshF
 rw[newF_eq,fN_eq];rfl
def allocF (t:TypeId):OpSem:=fun E _ _ h=>bO (zeroCellsT E.P t) fun z=>freshF h (.cells z 0 none)
def boxF (_:TypeId) (x:Operand):OpSem:=fun _ _ fr h=>bO (opdF x fr) fun v=>freshF h (.cells (cellsL v) 0 none)
def buildF (t:TypeId) (parts:Array (Nat×Operand)):OpSem:=fun E _ fr h=>bO (zeroCellsT E.P t) fun z=>bO (partsF parts.toList fr) fun ps=>iB (allSized E.P t) (bO (fillF (placeOf E.P t) ps z) fun cs=>some (.agg ⟨cs⟩,h)) none
def elemT (P:Program) (t:TypeId):Option TypeId:=match P.underlying t with
 | some (.slice e)=>some e
 | _=>none
def sliceNew (h:IH) (cells:List Value) (n len c:Nat):Option (Value×IH):=newF h (.cells cells n none) fun k h=>fN (Nat.mul 2 k) fun b=>fN c fun c=>some (.slice (some ⟨b,0,none⟩) len c,h)
theorem sliceNew_eq (h:IH) (cells:List Value) (n len c:Nat):sliceNew h cells n len c=some (.slice (some ⟨2*h.n,0,none⟩) len c,h.new (.cells cells n none)):=by
 unfold sliceNew
 rw[newF_eq,fN_eq,fN_eq];rfl
def buildSliceF (t:TypeId) (len:Nat) (parts:Array (Nat×Operand)):OpSem:=fun E _ fr h=>bO (partsF parts.toList fr) fun ps=>bO (elemT E.P t) fun e=>bO (sizeT E.P e) fun n=>bO (zeroCellsT E.P e) fun z =>
 iB (Nat.ble (Nat.mul len n) cellsMost) (iB (Nat.beq (lenL z) n) (bO (fillF (fun i=>some (Nat.mul i n,n)) ps (replF len z)) fun cells=>sliceNew h cells n len (Nat.succ (Nat.mul 2 len))) none) none
def loadOpF (t:TypeId) (a:Operand):OpSem:=fun E _ fr h=>bO (opdF a fr) fun a=>okV h (loadF E.P h t a)
def storeOpF (t:TypeId) (a x:Operand):OpSem:=fun E _ fr h=>bO (opdF a fr) fun a=>bO (opdF x fr) fun v=>okH (storeF E.P h t a v)
def nilCheckF (x:Operand):OpSem:=fun _ _ fr h=>bO (opdF x fr) fun v=>match v with
 | .pointer (some a)=>some (.pointer (some a),h)
 | .func (.func f) xs ys=>some (.func (.func f) xs ys,h)
 | .func (.yield f) xs ys=>some (.func (.yield f) xs ys,h)
 | .map r=>some (.map r,h)
 | _=>none
def binOpF (op:BinOp) (t:TypeId) (x y:Operand) (_:TypeId):OpSem:=fun E _ fr h=>bO (opdF x fr) fun a=>bO (opdF y fr) fun b=>okV h (binopF E.P op t x y a b)
def unF (P:Program) (op:UnOp) (v:Value):Option Value:=match op,v with
 | .not,.bool b=>some (.bool (not b))
 | op,v=>bif plain v then pureVal P (Op.unary op v) else none
theorem unF_eq (P:Program) (op:UnOp) (v:Value):unF P op v=bif plain v then pureVal P (Op.unary op v) else none:=by
 unfold unF
 split
 ·rename_i b;exact(unary_not P b).symm
 ·rfl
def unOpF (op:UnOp) (_:TypeId) (x:Operand):OpSem:=fun E _ fr h=>bO (opdF x fr) fun v=>okV h (unF E.P op v)
def intT (P:Program) (t:TypeId):Option IntKind:=match P.underlying t with
 | some (.int k)=>some k
 | _=>none
def convF (P:Program) (s d:TypeId) (v:Value):Option Value:=match v with
 | .int k (.ofNat n)=>orElse (iB (P.underlying s).isSome (bO (intT P d) fun k'=>okI k' n) none) (convV P s d (.int k (.ofNat n)))
 | v=>convV P s d v
theorem convF_eq (P:Program) (s d:TypeId) (v:Value):convF P s d v=convV P s d v:=by
 unfold convF
 split
 ·rename_i k n
  refine orElse_eq (fun v h=>?_) rfl
  obtain⟨h0,h⟩:=iB_some h
  unfold intT at h
  split at h
  ·rename_i k' hd
   obtain⟨h1,rfl⟩:=okI_some h
   rw[show(Int.ofNat n)=(n:Int) from rfl,convV_int h0 hd,wrap_lim h1]
  ·cases h
 ·rfl
def convertF (s d:TypeId) (x:Operand):OpSem:=fun E _ fr h=>bO (opdF x fr) fun v=>okV h (convF E.P s d v)
def restF (o:Op):OpSem:=fun E _ fr h=>iop E.P fr o h
def makeFuncF (fn:Fn) (first cap:Array Operand):OpSem:=fun _ _ fr h=>bO (opdsF first.toList fr) fun a=>bO (opdsF cap.toList fr) fun b=>match fn with
 | .func f=>some (.func (.func f) ⟨a⟩ ⟨b⟩,h)
 | _=>none
def makeSliceV (P:Program) (h:IH) (t:TypeId) (l c:Value):Option (Value×IH):=bO (elemT P t) fun e=>bO (natOf l sizeMost) fun l=>bO (natOf c sizeMost) fun c=>bO (sizeT P e) fun n=>bO (bytesT P e) fun by_=>bO (zeroCellsT P e) fun z =>
 iB (Nat.ble l c) (iB (Nat.ble (Nat.mul c (Nat.succ by_)) sizeMost) (iB (Nat.beq (lenL z) n) (sliceNew h (replF c z) n l (Nat.succ (Nat.mul 2 c))) none) none) none
theorem makeSliceV_eq (P:Program) (h:IH) (t:TypeId) (l c:Value):makeSliceV P h t l c=makeSlice P h t l c:=by
 unfold makeSliceV makeSlice elemT
 cases P.underlying t with
 | none=>rfl
 | some d =>
  cases d with
  | slice e =>
   simp only[bO_some]
   cases natOf l sizeMost with
   | none=>rfl
   | some l =>
    cases natOf c sizeMost with
    | none=>rfl
    | some c =>
     cases sizeT P e with
     | none=>rfl
     | some n =>
      cases bytesT P e with
      | none=>rfl
      | some b =>
       cases zeroCellsT P e with
       | none=>rfl
       | some z =>
        simp only[bO_some,sliceNew_eq,replF_eq,lenL_eq,iB_eq,beqN]
        show(bif Nat.ble l c then (bif Nat.ble (c*(b+1)) sizeMost then (bif Nat.beq z.length n then _ else none) else none) else none)=_
        cases Nat.ble l c<;>cases Nat.ble (c*(b+1)) sizeMost<;>cases Nat.beq z.length n<;>rfl
  | _=>rfl
def makeSliceF (t:TypeId) (l c:Operand):OpSem:=fun E _ fr h=>bO (opdF l fr) fun l=>bO (opdF c fr) fun c=>makeSliceV E.P h t l c
def optF (fr:Fr) (o:Option Operand):Option (Option Value):=Option.rec (motive:=fun _=>Option (Option Value)) (some none) (fun x=>bO (opdF x fr) fun v=>some (some v)) o
theorem optF_eq (fr:Fr) (o:Option Operand):optF fr o=optOpd fr o:=by
 cases o with
 | none=>rfl
 | some x =>
  show bO (opdF x fr) (fun v=>some (some v))=(opd fr x).map some
  rw[opdF_eq]
  cases opd fr x<;>rfl
def sliceF (t:TypeId) (x:Operand) (lo hi mx:Option Operand):OpSem:=fun E _ fr h=>bO (opdF x fr) fun x=>bO (optF fr lo) fun lo=>bO (optF fr hi) fun hi=>bO (optF fr mx) fun mx=>bO (sliceOp E.P h t x lo hi mx) fun v=>some (forceS v,h)
def addrOf (v:Value) (k:Nat→Nat→Option (Value×IH)):Option (Value×IH):=match v with
 | .pointer (some ⟨b,o,none⟩)=>k b o
 | _=>none
theorem addrOf_eq (v:Value) (k:Nat→Nat→Option (Value×IH)):addrOf v k=bO (asAddr v) fun a=>k a.1 a.2:=by
 unfold addrOf asAddr
 split
 ·rfl
 ·rename_i hv
  split
  ·exact absurd rfl (hv _ _)
  ·rfl
def fieldAddrF (t:TypeId) (x:Operand) (f:Nat):OpSem:=fun E _ fr h=>bO (opdF x fr) fun x=>bO (fieldOf E.P t f) fun f=>bO (sizeT E.P f.type) fun n=>addrOf x fun b o=>iB (Nat.beq n 0) none (fN (Nat.add o f.offset) fun o=>some (.pointer (some ⟨b,o,none⟩),h))
def fieldF (t:TypeId) (x:Operand) (f:Nat):OpSem:=fun E _ fr h=>bO (opdF x fr) fun x=>bO (fieldOf E.P t f) fun f=>match x with
 | .agg cs=>okV h (partF E.P f.type cs.toList f.offset)
 | _=>none
def eaT (P:Program) (t:TypeId):Option (Option Nat×Nat):=match P.underlying t with
 | some (.array n e)=>(sizeT P e).map fun s=>(some n,s)
 | some (.slice e)=>(sizeT P e).map fun s=>(none,s)
 | _=>none
def indexAddrV (P:Program) (t:TypeId) (x i:Value):Option Value:=match x,i with
 | .slice (some ⟨b,o,none⟩) n c,.int k (.ofNat j)=>bO (eaT P t) fun e=>Option.rec (motive:=fun _=>Option Value) (iB (Nat.ble (Nat.succ j) n) (fN (Nat.add o (Nat.mul j e.2)) fun o=>some (.pointer (some ⟨b,o,none⟩))) none) (fun _=>indexAddr P t (.slice (some ⟨b,o,none⟩) n c) (.int k (.ofNat j))) e.1
 | .pointer (some ⟨b,o,none⟩),.int k (.ofNat j)=>bO (eaT P t) fun e=>Option.rec (motive:=fun _=>Option Value) (indexAddr P t (.pointer (some ⟨b,o,none⟩)) (.int k (.ofNat j))) (fun n=>iB (Nat.ble (Nat.succ j) n) (fN (Nat.add o (Nat.mul j e.2)) fun o=>some (.pointer (some ⟨b,o,none⟩))) none) e.1
 | x,i=>indexAddr P t x i
theorem indexAddrV_eq (P:Program) (t:TypeId) (x i:Value):indexAddrV P t x i=indexAddr P t x i:=by
 unfold indexAddrV
 split
 ·rename_i b o n c k j
  unfold eaT indexAddr
  cases hu:P.underlying t with
  | none=>rfl
  | some d =>
   cases d with
   | array n e =>
    simp only[]
    cases sizeT P e<;>rfl
   | slice e =>
    simp only[idxOf]
    cases sizeT P e with
    | none=>rfl
    | some s =>
     simp only[Option.map_some,bO_some,iB_eq,fN_eq];rfl
   | _=>rfl
 ·rename_i b o k j
  unfold eaT indexAddr
  cases hu:P.underlying t with
  | none=>rfl
  | some d =>
   cases d with
   | array n e =>
    simp only[idxOf]
    cases sizeT P e with
    | none=>rfl
    | some s =>
     simp only[Option.map_some,bO_some,iB_eq,fN_eq];rfl
   | slice e =>
    simp only[]
    cases sizeT P e<;>rfl
   | _=>rfl
 ·rfl
def indexAddrF (t:TypeId) (x i:Operand):OpSem:=fun E _ fr h=>bO (opdF x fr) fun x=>bO (opdF i fr) fun i=>okV h (indexAddrV E.P t x i)
def indexVF (P:Program) (h:IH) (t:TypeId) (x i:Value):Option (Value×IH):=match x with
 | .agg cs=>match P.underlying t,idxOf i with
   | some (.array n e),some (.ofNat j)=>bif Nat.blt j n then match sizeT P e with
     | some size=>okV h (partF P e cs.toList (Nat.mul j size))
     | none=>none
    else none
   | _,_=>none
 | .string s=>bif plain i then (pureVal P (Instr.index t (.string s) i)).map (·,h) else none
 | _=>none
def indexF (t:TypeId) (x i:Operand):OpSem:=fun E _ fr h=>bO (opdF x fr) fun x=>bO (opdF i fr) fun i=>indexVF E.P h t x i
def lookupF (t:TypeId) (m k:Operand) (ok:Bool):OpSem:=fun E _ fr h=>bO (opdF m fr) fun m=>bO (opdF k fr) fun k=>okV h (lookup E.P h t m k ok)
def mapUpdateF (t:TypeId) (m k v:Operand):OpSem:=fun E _ fr h=>bO (opdF m fr) fun m=>bO (opdF k fr) fun k=>bO (opdF v fr) fun v=>okH (mapUpdate E.P h t m k v)
def extractF (x:Operand) (i:Nat):OpSem:=fun _ _ fr h=>bO (opdF x fr) fun v=>match v with
 | .tuple vs=>okV h (nthF i vs.toList)
 | _=>none
def firstF (h:IH) (size n:Nat) (x:Value):Option (List Value):=match x with
 | .slice none _ _=>some []
 | .slice (some ⟨b,o,none⟩) len _=>iB (Nat.ble n len) (fN (Nat.mul n size) fun m=>iB (Nat.beq m 0) (some []) (rdN h b o m)) none
 | _=>none
theorem firstF_eq (h:IH) (size n:Nat) (x:Value):firstF h size n x=firstOf h size n x:=by
 unfold firstF firstOf
 split
 ·rfl
 ·rename_i b o len c
  simp only[fN_eq,iB_eq,beqN]
  show(bif Nat.ble n len then (bif Nat.beq (n*size) 0 then some [] else rdN h b o (n*size)) else none)=bif Nat.ble n len then (bif Nat.beq (n*size) 0 then some [] else h.rd b o (n*size)) else none
  cases hz:Nat.beq (n*size) 0 with
  | true=>rfl
  | false=>rw[rdN_eq h b o (n*size) (fun e=>by rw[e] at hz;cases hz)]
 ·rename_i h1 h2
  split
  ·exact absurd rfl (h1 _ _)
  ·exact absurd rfl (h2 _ _ _ _)
  ·rfl
def twF (b:Nat) (l:List Nat):List Nat:=List.rec (motive:=fun _=>List Nat) [] (fun a _ ih=>iB (Nat.beq a b) [] (a :: ih)) l
theorem twF_eq (b:Nat) : ∀l:List Nat,twF b l=l.takeWhile (· != b)
 | []=>rfl
 | a :: l=>by
  show iB (Nat.beq a b) [] (a :: twF b l)=_
  rw[twF_eq b l,List.takeWhile_cons,bne,beqN]
  cases Nat.beq a b<;>rfl
def dwF (b:Nat) (l:List Nat):List Nat:=List.rec (motive:=fun _=>List Nat) [] (fun a l ih=>iB (Nat.beq a b) l ih) l
theorem dwF_eq (b:Nat) : ∀l:List Nat,dwF b l=(l.dropWhile (· != b)).drop 1
 | []=>rfl
 | a :: l=>by
  show iB (Nat.beq a b) l (dwF b l)=_
  rw[dwF_eq b l,List.dropWhile_cons,bne,beqN]
  cases Nat.beq a b<;>rfl
def killF (l:List Nat) (e:Tr IObj):Tr IObj:=List.rec (motive:=fun _=>Tr IObj→Tr IObj) (fun e=>e) (fun k _ ih e=>trPut .dead e k ih) l e
theorem killF_eq : ∀(l:List Nat) (e:Tr IObj),killF l e=IH.killAll e l
 | [],_=>rfl
 | k :: l,e=>by
  show trPut .dead e k (killF l)=_
  rw[trPut_eq,killF_eq l];rfl
def grownF (h:IH) (k f:Nat) (cs:List Value) (t:Nat) (above below:List Nat) (cs':List Value) (t' len:Nat):Option (Value×IH) :=
 fN h.n fun n=>trPut (.cells cs t (some f)) (killF above h.ext) k fun e=>trPut (.cells cs' t' (some f)) e n fun e=>trPut (n :: k :: below) h.fams f fun fa=>fN (Nat.mul 2 n) fun b=>fN (Nat.mul 2 len) fun c=>some (.slice (some ⟨b,0,none⟩) len c,⟨h.base,Nat.succ n,e,fa⟩)
theorem grownF_eq (h:IH) (k f:Nat) (cs:List Value) (t:Nat) (above below:List Nat) (cs':List Value) (t' len:Nat):grownF h k f cs t above below cs' t' len=some (.slice (some ⟨2*h.n,0,none⟩) len (2*len),grown h k f cs t above below cs' t'):=by
 unfold grownF
 rw[fN_eq,trPut_eq,trPut_eq,trPut_eq,fN_eq,fN_eq,killF_eq];rfl
def appG (h:IH) (size bytes n:Nat) (new:List Value) (s:Value):Option (Value×IH):=match s with
 | .slice none a c=>iB (Nat.beq a 0) (iB (Nat.beq c 0) (iB (Nat.ble (Nat.mul n (Nat.succ bytes)) sizeMost) (sliceNew h new size n (Nat.mul 2 n)) none) none) none
 | .slice (some ⟨b,o,none⟩) len k =>
  iB (Nat.ble (Nat.mul (Nat.add len n) (Nat.succ bytes)) sizeMost)
   (fN (Nat.add len n) fun m=>iB (Nat.ble m (Nat.div k 2)) (bO (wrF h b (Nat.add o (Nat.mul len size)) new) fun h=>some (.slice (some ⟨b,o,none⟩) m k,h))
    (iB (Nat.beq (Nat.mod k 2) 1) (bO (firstF h size len (.slice (some ⟨b,o,none⟩) len k)) fun old=>sliceNew h (appF old new) size m (Nat.mul 2 m))
     (iB (Nat.beq len (Nat.div k 2)) (iB (Nat.ble 1 len) (iB (Nat.beq (Nat.mod b 2) 0) (fN (Nat.div b 2) fun b2=>bO (trGet h.ext b2) fun ob=>match ob with
      | .cells cs t fam=>iB (Nat.beq (Nat.add o (Nat.mul len size)) (lenL cs)) (iB (Nat.beq t size) (match fam with
        | none=>grownF h b2 h.n cs t [] [] (appF (dropF o cs) new) size m
        | some f=>bO (trGet h.fams f) fun stk=>grownF h b2 f cs t (twF b2 stk) (dwF b2 stk) (appF (dropF o cs) new) size m) none) none
      | _=>none) none) none) none)))
   none
 | _=>none
def appendV (P:Program) (h:IH) (st:TypeId) (s x:Value):Option (Value×IH) :=
 bO (elemT P st) fun e=>bO (sizeT P e) fun size=>bO (bytesT P e) fun bytes=>bO (zeroCellsT P e) fun zs=>bO (lenOf x) fun n=>fN n fun n =>
  iB (Nat.beq n 0) (match s with|.slice none a c=>bif a == 0 && c == 0 then some (s,h) else none|.slice (some ⟨_,_,none⟩) _ _=>some (s,h)|_=>none)
   (iB (Nat.beq size 0) none (iB (Nat.ble bytes 65536) (iB (Nat.beq (lenL zs) size) (bO (firstF h size n x) fun new=>iB (allF cellF new) (appG h size bytes n new s) none) none) none))
theorem appG_eq (h:IH) (size bytes n:Nat) (new:List Value) (s:Value):appG h size bytes n new s=match s with
    | .slice none a c=>bif a == 0 && c == 0 && Nat.ble (n*(bytes+1)) sizeMost then some (.slice (some ⟨2*h.n,0,none⟩) n (2*n),h.new (.cells new size none)) else none
    | .slice (some ⟨b,o,none⟩) len k =>
     bif !(Nat.ble ((len+n)*(bytes+1)) sizeMost) then none else
     bif Nat.ble (len+n) (k / 2) then (h.wr b (o+len*size) new).map fun h=>(.slice (some ⟨b,o,none⟩) (len+n) k,h)
     else bif k % 2 == 1 then
      match firstOf h size len s with
      | none=>none
      | some old=>some (.slice (some ⟨2*h.n,0,none⟩) (len+n) (2*(len+n)),h.new (.cells (old ++ new) size none))
     else bif len == k / 2 && Nat.blt 0 len && b % 2 == 0 then
      match h.ext.get (b / 2) with
      | some (.cells cs t fam) =>
       bif o+len*size == cs.length && t == size then
        match fam with
        | none=>some (.slice (some ⟨2*h.n,0,none⟩) (len+n) (2*(len+n)),grown h (b / 2) h.n cs t [] [] (cs.drop o ++ new) size)
        | some f=>match h.fams.get f with
         | none=>none
         | some stk=>some (.slice (some ⟨2*h.n,0,none⟩) (len+n) (2*(len+n)),
           grown h (b / 2) f cs t (stk.takeWhile (· != b / 2)) ((stk.dropWhile (· != b / 2)).drop 1) (cs.drop o ++ new) size)
       else none
      | _=>none
     else none
    | _=>none:=by
 unfold appG
 split
 ·rename_i a c
  simp only[iB_eq,sliceNew_eq,beqN]
  show(bif Nat.beq a 0 then (bif Nat.beq c 0 then (bif Nat.ble (n*(bytes+1)) sizeMost then _ else none) else none) else none)=_
  cases Nat.beq a 0<;>cases Nat.beq c 0<;>cases Nat.ble (n*(bytes+1)) sizeMost<;>rfl
 ·rename_i b o len k
  simp only[iB_eq,fN_eq,sliceNew_eq,beqN,wrF_eq,firstF_eq,appF_eq,trGet_eq,lenL_eq,grownF_eq,dropF_eq,twF_eq,dwF_eq]
  show(bif Nat.ble ((len+n)*(bytes+1)) sizeMost then (bif Nat.ble (len+n) (k / 2) then (bO (h.wr b (o+len*size) new) fun h=>some (Value.slice (some ⟨b,o,none⟩) (len+n) k,h)) else (bif Nat.beq (k % 2) 1 then (bO (firstOf h size len (.slice (some ⟨b,o,none⟩) len k)) fun old=>some (Value.slice (some ⟨2*h.n,0,none⟩) (len+n) (2*(len+n)),h.new (.cells (old ++ new) size none))) else
   (bif Nat.beq len (k / 2) then (bif Nat.blt 0 len then (bif Nat.beq (b % 2) 0 then (bO (h.ext.get (b / 2)) fun ob=>match ob with
      | .cells cs t fam=>bif Nat.beq (o+len*size) cs.length then (bif Nat.beq t size then (match fam with
        | none=>some (Value.slice (some ⟨2*h.n,0,none⟩) (len+n) (2*(len+n)),grown h (b / 2) h.n cs t [] [] (cs.drop o ++ new) size)
        | some f=>bO (h.fams.get f) fun stk=>some (Value.slice (some ⟨2*h.n,0,none⟩) (len+n) (2*(len+n)),grown h (b / 2) f cs t (stk.takeWhile (· != b / 2)) ((stk.dropWhile (· != b / 2)).drop 1) (cs.drop o ++ new) size)) else none) else none
      | _=>none) else none) else none) else none))) else none)=_
  cases Nat.ble ((len+n)*(bytes+1)) sizeMost with
  | false=>rfl
  | true =>
   simp only[cond_true,Bool.not_true,cond_false]
   cases Nat.ble (len+n) (k / 2) with
   | true =>
    simp only[cond_true]
    cases h.wr b (o+len*size) new<;>rfl
   | false =>
    simp only[cond_false]
    cases Nat.beq (k % 2) 1 with
    | true =>
     simp only[cond_true]
     cases firstOf h size len (.slice (some ⟨b,o,none⟩) len k)<;>rfl
    | false =>
     simp only[cond_false]
     cases Nat.beq len (k / 2) with
     | false=>rfl
     | true =>
      cases Nat.blt 0 len with
      | false=>rfl
      | true =>
       cases Nat.beq (b % 2) 0 with
       | false=>rfl
       | true =>
        simp only[cond_true,Bool.and_true]
        cases h.ext.get (b / 2) with
        | none=>rfl
        | some ob =>
         cases ob with
         | cells cs t fam =>
          simp only[bO_some]
          cases Nat.beq (o+len*size) cs.length with
          | false=>rfl
          | true =>
           cases Nat.beq t size with
           | false=>rfl
           | true =>
            cases fam with
            | none=>rfl
            | some f =>
             simp only[cond_true,Bool.and_true]
             cases h.fams.get f<;>rfl
         | _=>rfl
 ·rfl
theorem appendV_eq (P:Program) (h:IH) (st:TypeId) (s x:Value):appendV P h st s x=append P h st s x:=by
 unfold appendV append elemT
 cases hu:P.underlying st with
 | none=>rfl
 | some d =>
  cases d with
  | slice e =>
   simp only[bO_some]
   cases sizeT P e with
   | none=>rfl
   | some size =>
    cases bytesT P e with
    | none=>rfl
    | some bytes =>
     cases zeroCellsT P e with
     | none=>rfl
     | some zs =>
      cases lenOf x with
      | none=>rfl
      | some n =>
       simp only[bO_some,fN_eq,iB_eq,beqN,lenL_eq,firstF_eq,allF_eq,cellF_eq,appG_eq]
       cases Nat.beq n 0 with
       | true=>rfl
       | false =>
        cases Nat.beq size 0 with
        | true=>rfl
        | false =>
         cases Nat.ble bytes 65536 with
         | false=>rfl
         | true =>
          cases Nat.beq zs.length size with
          | false=>rfl
          | true =>
           simp only[cond_true,cond_false,Bool.not_true,Bool.or_false]
           cases firstOf h size n x with
           | none=>rfl
           | some new =>
            simp only[bO_some]
            cases new.all cellOK<;>rfl
  | _=>rfl
def builtinF (P:Program) (h:IH) (b:Builtin) (ts:Array TypeId) (args:List Value):Option (Value×IH):=match b,args with
 | .append,[s,x]=>iB (isSliceT P ts[1]?) (bO ts[0]? fun st=>appendV P h st s x) none
 | b,args=>builtin P h b ts args
theorem builtinF_eq (P:Program) (h:IH) (b:Builtin) (ts:Array TypeId) (args:List Value):builtinF P h b ts args=builtin P h b ts args:=by
 unfold builtinF
 split
 ·rename_i s x
  rw[iB_eq]
  show _=bif isSliceT P ts[1]? then (match ts[0]? with|some st=>append P h st s x|none=>none) else none
  cases isSliceT P ts[1]? with
  | false=>rfl
  | true =>
   cases ts[0]? with
   | none=>rfl
   | some st=>exact appendV_eq P h st s x
 ·rfl
def callOpF (c:Call):OpSem:=fun E call fr h=>match c.callee with
 | .value f=>bO (opdF f fr) fun fv=>bO (opdsF c.args.toList fr) fun vs=>call fv vs h
 | .builtin b=>bO (opdsF c.args.toList fr) fun vs=>builtinF E.P h b c.argTypes vs
 | .invoke _ _=>none
def runF (o:Op):OpSem:=Op.rec (motive:=fun _=>OpSem) moveF moveF pickF allocF boxF buildF buildSliceF (fun a b c d=>restF (.insert a b c d)) loadOpF storeOpF (fun a=>restF (.ready a)) (fun a=>restF (.waits a)) nilCheckF binOpF unOpF convertF
 (fun a b=>restF (.sliceToArrayPointer a b)) (fun a b=>restF (.makeInterface a b)) makeFuncF (fun a b=>restF (.makeMap a b)) (fun a b=>restF (.makeChan a b)) makeSliceF sliceF fieldAddrF fieldF indexAddrF indexF lookupF mapUpdateF
 (fun a b c=>restF (.mapEntry a b c)) (fun a b c d=>restF (.entryStore a b c d)) (fun a b=>restF (.range a b)) (fun a b=>restF (.next a b)) (fun a=>restF (.entry a)) (fun a b c d=>restF (.typeAssert a b c d)) extractF callOpF
 (fun a=>restF (.go a)) (fun a=>restF (.defer a)) (fun a=>restF (.panic a)) (fun a b=>restF (.send a b)) (fun a b c=>restF (.recv a b c)) (fun a b=>restF (.select a b)) o
theorem runF_eq (o:Op) (E:Env) (call:CallV) (fr:Fr) (h:IH):runF o E call fr h=runOp E call fr o h:=by
 cases o
 case move x=>show okV h (opdF x fr)=_;rw[okV_eq,opdF_eq];rfl
 case assign x=>show okV h (opdF x fr)=_;rw[okV_eq,opdF_eq];rfl
 case pick c a b =>
  show bO (opdF c fr) _=match opd fr c with|some (.bool true)=>(opd fr a).map (·,h)|some (.bool false)=>(opd fr b).map (·,h)|_=>none
  simp only[opdF_eq,okV_eq]
  cases opd fr c with
  | none=>rfl
  | some v =>
   cases v with
   | bool t=>cases t<;>rfl
   | _=>rfl
 case alloc t =>
  show bO (zeroCellsT E.P t) _=(zeroCellsT E.P t).map _
  simp only[freshF_eq]
  cases zeroCellsT E.P t<;>rfl
 case box t x =>
  show bO (opdF x fr) _=(opd fr x).map _
  simp only[freshF_eq,cellsL_eq,opdF_eq]
  cases opd fr x<;>rfl
 case build t ps =>
  show bO (zeroCellsT E.P t) _=match zeroCellsT E.P t,partsOf fr ps.toList with|some z,some ps=>(bif allSized E.P t then (fillP (placeOf E.P t) z ps).map fun cs=>(Value.agg cs.toArray,h) else none)|_,_=>none
  simp only[partsF_eq,fillF_eq,iB_eq]
  cases zeroCellsT E.P t with
  | none=>rfl
  | some z =>
   cases partsOf fr ps.toList with
   | none=>rfl
   | some l =>
    simp only[bO_some]
    cases allSized E.P t with
    | false=>rfl
    | true =>
     simp only[cond_true]
     cases fillP (placeOf E.P t) z l<;>rfl
 case buildSlice t len ps =>
  show bO (partsF ps.toList fr) _=match partsOf fr ps.toList with|some ps=>buildSlice E.P h t len ps|none=>none
  simp only[partsF_eq,fillF_eq,sliceNew_eq,lenL_eq,iB_eq,replF_eq]
  cases partsOf fr ps.toList with
  | none=>rfl
  | some l =>
   simp only[bO_some]
   unfold buildSlice elemT
   cases E.P.underlying t with
   | none=>rfl
   | some d =>
    cases d with
    | slice e =>
     simp only[bO_some]
     cases sizeT E.P e with
     | none=>rfl
     | some n =>
      cases zeroCellsT E.P e with
      | none=>rfl
      | some z =>
       simp only[bO_some,beqN]
       show(bif Nat.ble (len*n) cellsMost then (bif Nat.beq z.length n then (bO (fillP (fun i=>some (i*n,n)) (repl len z) l) fun cells=>some (Value.slice (some ⟨2*h.n,0,none⟩) len (2*len+1),h.new (.cells cells n none))) else none) else none)=_
       cases Nat.ble (len*n) cellsMost<;>cases Nat.beq z.length n<;>first|rfl|skip
       simp only[cond_true,Bool.and_true]
       cases fillP (fun i=>some (i*n,n)) (repl len z) l<;>rfl
    | _=>rfl
 case load t a =>
  show bO (opdF a fr) _=match opd fr a with|some a=>(load E.P h t a).map (·,h)|none=>none
  simp only[opdF_eq,okV_eq,loadF_eq]
  cases opd fr a<;>rfl
 case store t a x =>
  show bO (opdF a fr) _=match opd fr a,opd fr x with|some a,some v=>(store E.P h t a v).map (undef,·)|_,_=>none
  simp only[opdF_eq,okH_eq,storeF_eq]
  cases opd fr a<;>cases opd fr x<;>rfl
 case nilCheck x =>
  show bO (opdF x fr) _=_
  rw[opdF_eq]
  simp only[runOp,iop]
  cases opd fr x with
  | none=>rfl
  | some v =>
   cases v with
   | pointer a=>cases a<;>rfl
   | func f a b=>cases f<;>rfl
   | _=>rfl
 case binOp op t x y s =>
  show bO (opdF x fr) _=match opd fr x,opd fr y with|some a,some b=>(binop E.P op t x y a b).map (·,h)|_,_=>none
  simp only[opdF_eq,okV_eq,binopF_eq]
  cases opd fr x<;>cases opd fr y<;>rfl
 case unOp op t x =>
  show bO (opdF x fr) _=match opd fr x with|some v=>(bif plain v then (pureVal E.P (Op.unary op v)).map (·,h) else none)|none=>none
  simp only[opdF_eq,okV_eq,unF_eq]
  cases opd fr x with
  | none=>rfl
  | some v =>
   simp only[bO_some]
   cases plain v<;>rfl
 case convert s d x =>
  show bO (opdF x fr) _=match opd fr x with|some v=>(bif plain v then (pureVal E.P (Go.convert s d v)).map (·,h) else none)|none=>none
  simp only[opdF_eq,okV_eq,convF_eq,convV]
  cases opd fr x with
  | none=>rfl
  | some v =>
   simp only[bO_some]
   cases plain v<;>rfl
 case makeFunc fn a b =>
  show bO (opdsF a.toList fr) _=match opds fr a.toList,opds fr b.toList with|some a,some b=>(match fn with|.func f=>some (Value.func (.func f) a.toArray b.toArray,h)|_=>none)|_,_=>none
  simp only[opdsF_eq]
  cases opds fr a.toList<;>cases opds fr b.toList<;>first|rfl|(cases fn<;>rfl)
 case makeSlice t l c =>
  show bO (opdF l fr) _=match opd fr l,opd fr c with|some l,some c=>makeSlice E.P h t l c|_,_=>none
  simp only[opdF_eq,makeSliceV_eq]
  cases opd fr l<;>cases opd fr c<;>rfl
 case slice t x lo hi mx =>
  show bO (opdF x fr) _=match opd fr x,optOpd fr lo,optOpd fr hi,optOpd fr mx with|some x,some lo,some hi,some mx=>(sliceOp E.P h t x lo hi mx).map (·,h)|_,_,_,_=>none
  simp only[opdF_eq,optF_eq,forceS_eq]
  cases opd fr x<;>cases optOpd fr lo<;>cases optOpd fr hi<;>cases optOpd fr mx<;>first|rfl|skip
  simp only[bO_some]
  rename_i x lo hi mx
  cases sliceOp E.P h t x lo hi mx<;>rfl
 case fieldAddr t x f =>
  show bO (opdF x fr) _=match opd fr x,fieldOf E.P t f with|some x,some f=>(match asAddr x,sizeT E.P f.type with|some (b,o),some n=>(bif n == 0 then none else some (ptr b (o+f.offset),h))|_,_=>none)|_,_=>none
  simp only[opdF_eq,addrOf_eq,iB_eq,fN_eq,beqN]
  cases opd fr x with
  | none=>rfl
  | some v =>
   cases fieldOf E.P t f with
   | none=>rfl
   | some fd =>
    simp only[bO_some]
    cases sizeT E.P fd.type with
    | none=>cases asAddr v<;>rfl
    | some n =>
     cases asAddr v with
     | none=>rfl
     | some a=>rfl
 case field t x f =>
  show bO (opdF x fr) _=_
  simp only[opdF_eq,okV_eq,partF_eq,runOp,iop]
  cases opd fr x with
  | none=>rfl
  | some v =>
   cases fieldOf E.P t f with
   | none=>cases v<;>rfl
   | some fd=>cases v<;>rfl
 case indexAddr t x i =>
  show bO (opdF x fr) _=match opd fr x,opd fr i with|some x,some i=>(indexAddr E.P t x i).map (·,h)|_,_=>none
  simp only[opdF_eq,okV_eq,indexAddrV_eq]
  cases opd fr x<;>cases opd fr i<;>rfl
 case index t x i =>
  show bO (opdF x fr) _=_
  simp only[opdF_eq,runOp,iop,indexVF,okV_eq]
  cases opd fr x with
  | none=>rfl
  | some v =>
   cases opd fr i with
   | none=>cases v<;>rfl
   | some j =>
    cases v with
    | agg cs =>
     simp only[bO_some]
     split
     ·rename_i hu hj
      rw[hu,hj]
      simp only
      split
      ·rename_i hs;rw[hs,partF_eq];rfl
      ·rename_i hs;rw[hs]
     ·rename_i hn
      split
      ·rename_i hu hj;exact absurd hj (hn _ _ _ hu)
      ·rfl
    | _=>rfl
 case lookup t m k ok =>
  show bO (opdF m fr) _=match opd fr m,opd fr k with|some m,some k=>(lookup E.P h t m k ok).map (·,h)|_,_=>none
  simp only[opdF_eq,okV_eq]
  cases opd fr m<;>cases opd fr k<;>rfl
 case mapUpdate t m k v =>
  show bO (opdF m fr) _=match opd fr m,opd fr k,opd fr v with|some m,some k,some v=>(mapUpdate E.P h t m k v).map (undef,·)|_,_,_=>none
  simp only[opdF_eq,okH_eq]
  cases opd fr m<;>cases opd fr k<;>cases opd fr v<;>rfl
 case extract x i =>
  show bO (opdF x fr) _=_
  simp only[opdF_eq,okV_eq,nthF_eq,runOp,iop]
  cases opd fr x with
  | none=>rfl
  | some v =>
   cases v with
   | tuple vs=>simp only[bO_some,Array.getElem?_toList]
   | _=>rfl
 case call c =>
  show callOpF c E call fr h=_
  unfold callOpF
  simp only[opdF_eq,opdsF_eq,builtinF_eq,runOp,iop]
  cases c.callee with
  | value f=>simp only;cases opd fr f<;>cases opds fr c.args.toList<;>rfl
  | builtin b=>simp only;cases opds fr c.args.toList<;>rfl
  | invoke _ _=>rfl
 all_goals rfl
end
end Go.Id
