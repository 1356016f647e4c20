/-
  Contracts: share's operations on two shares. Contracts: share's operations on two shares: Div, Max, Min, Sub, Neg.
-/
import Derived.Test.YthpefnfbnaekaaaGreatBracketDividesAg
import Derived.Test.YthpefnfbnaekaaaGreatBracketDividesAk
import Derived.Test.YthpefnfbnaekaaaGreatBracketDividesAj
import Derived.Test.YthpefnfbnaekaaaGreatBracketDividesAh
import Derived.Test.YthpefnfbnaekaaaGreatBracketDividesAe
import Derived.Test.YthpefnfbnaekaaaGreatBracketDividesAf
set_option linter.unusedVariables false
set_option linter.unusedSimpArgs false
set_option linter.defProp false
set_option linter.deprecated false
namespace Go.Id
open Go
open Go.Proofs.Tryz (prog)
open Nat (reduceAdd reduceEqDiff reduceLeDiff)
set_option maxHeartbeats 16000000
theorem PPair.rat {h:IH} {v:Value} {n d:Nat} (p:PPair h v (wdI n) (wdI d)) (ok:okS n d):PRat h v (rOf (n,d)):=by
 obtain⟨e1,e2⟩:=rOf_parts (p:=(n,d)) ok
 unfold PRat
 rw[e1,e2]
 exact p
theorem two_sl {h:IH} {n1 d1 n2 d2:Nat} (h1:n1<W8) (h2:d1<W8) (h3:n2<W8) (h4:d2<W8):ShSl (h.new (.cells (shL [(n1,d1),(n2,d2)]) 16 none)) (.slice (some ⟨2*h.n,0,none⟩) 2 5) [(n1,d1),(n2,d2)]:=by
 refine⟨sl_block (k:=h.n) (f:=none) (get_new_same _ _ rfl) (by simp) (by decide) (by rw[shL_len];rfl) (by omega) (by omega),by simp,?_⟩
 intro p hp
 simp at hp
 rcases hp with rfl|rfl
 ·exact⟨h1,h2⟩
 ·exact⟨h3,h4⟩
theorem rtwo_ok {h:IH} {n1 d1 n2 d2:Nat} {fv:Value} {q:Rat} (h1:n1<W8) (h2:d1<W8) (h3:n2<W8) (h4:d2<W8) (ok1:okS n1 d1) (ok2:okS n2 d2)
  (op : ∀(h':IH) (v w:Value),PRat h' v (rOf (n1,d1))→PRat h' w (rOf (n2,d2))→WV prog fv [v,w] h' fun r h''=>Ext h' h''∧PRat h'' r q) :
  WV prog (.func (.func 60) #[] #[]) [shV n1 d1,shV n2 d2,fv] h fun r h'=>Ext h h' ∧ ∃x,r=.tuple #[x,KI 0]∧PRat h' x q:=by
 refine enter (nt:=21) (rs:=[.cell 6 96,.tmp 7]) Proofs.Tryz.func60 rfl rfl rfl (by simp) ?_
 simp -dsimp (maxSteps:=1000000) (disch:=try exact dx) only[wpS,reduceEqDiff,reduceAdd,zc96,ld47,shV_cells]
 obtain⟨H0,hH0,n0,E0,g0,g1,g2⟩:=boxes3 h (shC n1 d1) (shC n2 d2) ZR
 rw[←hH0]
 clear hH0
 have X0:=Ext.refl H0
 have bb : ∀hx:IH,buildSlice prog hx 175 2 [(0,.agg (shC n1 d1).toArray),(1,.agg (shC n2 d2).toArray)]=some (.slice (some ⟨2*hx.n,0,none⟩) 2 5,hx.new (.cells (shL [(n1,d1),(n2,d2)]) 16 none)):=fun hx=>build2 n1 d1 n2 d2
 simp -dsimp (maxSteps:=1000000) (disch:=try exact dx) only[wpS,reduceEqDiff,reduceLeDiff,ld47,row_of g1,shC_len,sh_take,bb]
 refine call (shvalid_ok (two_sl h1 h2 h3 h4)) ?_
 rintro _ k1 ⟨Y1,rfl⟩
 have X1:Ext H0 k1:=(X0.new _).trans Y1
 have dt:decide (∀p ∈ [(n1,d1),(n2,d2)],okS p.1 p.2)=true:=decide_eq_true (by
  intro p hp
  simp at hp
  rcases hp with rfl|rfl
  ·exact ok1
  ·exact ok2)
 rw[dt]
 have L2:=(psh g1).2.2
 simp -dsimp (maxSteps:=1000000) (disch:=try exact dx) only[wpS,wpT,reduceEqDiff]
 refine drawn [(3,[2])] (by kernel_rfl) (by kernel_rfl) rfl ?_
 simp -dsimp (maxSteps:=1000000) (disch:=try exact dx) only[wpS,reduceEqDiff,reduceLeDiff,ld47,row_of (X1.kept (by omega) g0),shC_len,sh_take]
 refine call (shread_ok n1 d1 h1 h2) ?_
 rintro v k2 ⟨Y2,p2⟩
 have X2:=X1.trans Y2
 simp -dsimp (maxSteps:=1000000) (disch:=try exact dx) only[wpS,reduceEqDiff,reduceLeDiff,ld47,row_of (X2.kept (by omega) g1),shC_len,sh_take]
 refine call (shread_ok n2 d2 h3 h4) ?_
 rintro w k3 ⟨Y3,p3⟩
 have X3:=X2.trans Y3
 simp -dsimp (maxSteps:=1000000) (disch:=try exact dx) only[wpS,reduceEqDiff]
 refine call (op k3 v w (PRat.keep (p2.rat ok1) Y3.keep) (p3.rat ok2)) ?_
 rintro x k4 ⟨Y4,p4⟩
 have X4:=X3.trans Y4
 have m1:=X4.n
 obtain⟨a1,s1,b1,t1,rfl,hn1,hd1,c1,o1,c2,o2,o3,o4⟩:=p4.parts
 have kg:=X4.kept (by omega) g2
 simp -dsimp (maxSteps:=1000000) (disch:=try exact dx) only[wpS,wpT,reduceEqDiff,reduceLeDiff,reduceAdd,st96,kg,o1,o2,o3,o4]
 refine⟨by repeat' first|refine wpSteady_c2 ?_ ?_|refine wpSteady_t2 ?_ ?_|exact wpSteady_one rfl rfl rfl rfl (steady_ext (H0:=H0) rfl (by omega) (by assumption) (by assumption) (by with_reducible assumption)),?_⟩
 simp -dsimp (maxSteps:=1000000) (disch:=try exact dx) only[wpS,wpT,reduceEqDiff,reduceLeDiff,reduceAdd,ld96,tk4']
 have kp:=(Keep.refl k4).put kg (.cells [a1,s1,b1,t1] 0 none)
 exact⟨(E0.trans X4).put (by omega) _,_,rfl,p4.keep kp⟩
theorem itwo_ok {h:IH} {n1 d1 n2 d2:Nat} {fv:Value} {z:Int} (h1:n1<W8) (h2:d1<W8) (h3:n2<W8) (h4:d2<W8) (ok1:okS n1 d1) (ok2:okS n2 d2)
  (op : ∀(h':IH) (v w:Value),PRat h' v (rOf (n1,d1))→PRat h' w (rOf (n2,d2))→WV prog fv [v,w] h' fun r h''=>Ext h' h''∧r=KI z) :
  WV prog (.func (.func 47) #[] #[]) [shV n1 d1,shV n2 d2,fv] h fun r h'=>Ext h h'∧r=.tuple #[KI z,KI 0]:=by
 refine enter (nt:=21) (rs:=[.tmp 6,.tmp 7]) Proofs.Tryz.func47 rfl rfl rfl (by simp) ?_
 simp -dsimp (maxSteps:=1000000) (disch:=try exact dx) only[wpS,reduceEqDiff,reduceAdd,ld47,shV_cells]
 obtain⟨H0,hH0,n0,E0,g0,g1⟩:=boxes2 h (shC n1 d1) (shC n2 d2)
 rw[←hH0]
 clear hH0
 have X0:=Ext.refl H0
 have bb : ∀hx:IH,buildSlice prog hx 175 2 [(0,.agg (shC n1 d1).toArray),(1,.agg (shC n2 d2).toArray)]=some (.slice (some ⟨2*hx.n,0,none⟩) 2 5,hx.new (.cells (shL [(n1,d1),(n2,d2)]) 16 none)):=fun hx=>build2 n1 d1 n2 d2
 simp -dsimp (maxSteps:=1000000) (disch:=try exact dx) only[wpS,reduceEqDiff,reduceLeDiff,ld47,row_of g1,shC_len,sh_take,bb]
 refine call (shvalid_ok (two_sl h1 h2 h3 h4)) ?_
 rintro _ k1 ⟨Y1,rfl⟩
 have X1:Ext H0 k1:=(X0.new _).trans Y1
 have dt:decide (∀p ∈ [(n1,d1),(n2,d2)],okS p.1 p.2)=true:=decide_eq_true (by
  intro p hp
  simp at hp
  rcases hp with rfl|rfl
  ·exact ok1
  ·exact ok2)
 rw[dt]
 have L2:=(psh g1).2.2
 simp -dsimp (maxSteps:=1000000) (disch:=try exact dx) only[wpS,wpT,reduceEqDiff]
 refine drawn [(3,[2])] (by kernel_rfl) (by kernel_rfl) rfl ?_
 simp -dsimp (maxSteps:=1000000) (disch:=try exact dx) only[wpS,reduceEqDiff,reduceLeDiff,ld47,row_of (X1.kept (by omega) g0),shC_len,sh_take]
 refine call (shread_ok n1 d1 h1 h2) ?_
 rintro v k2 ⟨Y2,p2⟩
 have X2:=X1.trans Y2
 simp -dsimp (maxSteps:=1000000) (disch:=try exact dx) only[wpS,reduceEqDiff,reduceLeDiff,ld47,row_of (X2.kept (by omega) g1),shC_len,sh_take]
 refine call (shread_ok n2 d2 h3 h4) ?_
 rintro w k3 ⟨Y3,p3⟩
 have X3:=X2.trans Y3
 simp -dsimp (maxSteps:=1000000) (disch:=try exact dx) only[wpS,reduceEqDiff]
 refine call (op k3 v w (PRat.keep (p2.rat ok1) Y3.keep) (p3.rat ok2)) ?_
 rintro _ k4 ⟨Y4,rfl⟩
 have X4:=X3.trans Y4
 simp -dsimp (maxSteps:=1000000) (disch:=try exact dx) only[wpS,reduceEqDiff]
 refine⟨by repeat' first|refine wpSteady_c2 ?_ ?_|refine wpSteady_t2 ?_ ?_|exact wpSteady_one rfl rfl rfl rfl (steady_ext (H0:=H0) rfl (by omega) (by assumption) (by assumption) (by with_reducible assumption)),?_⟩
 simp -dsimp (maxSteps:=1000000) (disch:=try exact dx) only[wpS,wpT,reduceEqDiff,reduceAdd]
 exact E0.trans X4
theorem shtold_ok {h:IH} {v:Value} {q:Rat} (hv:PRat h v q):WV prog (.func (.func 59) #[] #[]) [v,KI 0] h fun r h'=>Ext h h'∧r=toldV q:=by
 obtain⟨a1,s1,b1,t1,rfl,hn1,hd1,c1,o1,c2,o2,o3,o4⟩:=hv.parts
 obtain⟨n,d,e,ht⟩:=toldV_form q
 refine enter (nt:=14) (rs:=[.cell 4 47,.tmp 5]) Proofs.Tryz.func59 rfl rfl rfl (by simp) ?_
 simp -dsimp (maxSteps:=1000000) (disch:=try exact dx) only[wpS,wpT,reduceEqDiff,reduceLeDiff,reduceAdd,zc47,ld96]
 obtain⟨H0,hH0,n0,E0,g0,g1⟩:=boxes2 h [a1,s1,b1,t1] Z16
 rw[←hH0]
 clear hH0
 simp -dsimp (maxSteps:=1000000) (disch:=try exact dx) only[tk4']
 refine call (rtold_ok (hv.keep E0.keep)) ?_
 rintro _ h1 ⟨X1,rfl⟩
 have hT:(open Classical in if QW q then Value.tuple #[shareV q,KI 0] else .tuple #[shV 0 0,KI 6])=.tuple #[shV n d,KI e]:=ht
 rw[hT,ht]
 have m1:=X1.n
 have kg:=X1.kept (by omega) g1
 simp -dsimp (maxSteps:=1000000) (disch:=try exact dx) only[wpS,wpT,reduceEqDiff,reduceLeDiff,reduceAdd,st47,ld47,kg,shV_cells,shC_len,shC_all,sh_sp3,sh_take]
 exact⟨(E0.trans X1).put (by omega) _,rfl⟩
theorem shadd_ok {h:IH} {p1 p2:Nat×Nat} (h1:p1.1<W8∧p1.2<W8) (h2:p2.1<W8∧p2.2<W8) (ok1:okS p1.1 p1.2) (ok2:okS p2.1 p2.2):WV prog (.func (.func 24) #[] #[]) [shV p1.1 p1.2,shV p2.1 p2.2] h fun r h'=>Ext h h'∧r=toldV (rOf p1+rOf p2):=by
 have q1:=qb512 (p:=p1) h1.1 h1.2 ok1
 have q2:=qb512 (p:=p2) h2.1 h2.2 ok2
 obtain⟨n,d,e,ht⟩:=toldV_form (rOf p1+rOf p2)
 refine enter (nt:=14) (rs:=[.cell 4 47,.tmp 5]) Proofs.Tryz.func24 rfl rfl rfl (by simp) ?_
 simp -dsimp (maxSteps:=1000000) (disch:=try exact dx) only[wpS,reduceEqDiff,reduceAdd,zc47,ld47,shV_cells]
 obtain⟨H0,hH0,n0,E0,g0,g1,g2⟩:=boxes3 h (shC p1.1 p1.2) (shC p2.1 p2.2) Z16
 rw[←hH0]
 clear hH0
 simp -dsimp (maxSteps:=1000000) (disch:=try exact dx) only[wpS,reduceEqDiff,reduceLeDiff,ld47,row_of g1,shC_len,sh_take]
 refine call (rtwo_ok (q:=rOf p1+rOf p2) h1.1 h1.2 h2.1 h2.2 ok1 ok2 (fun h' v w a b=>rplus_ok a b q1 q2 (by omega))) ?_
 rintro _ k1 ⟨X1,x,rfl,px⟩
 simp -dsimp (maxSteps:=1000000) (disch:=try exact dx) only[wpS,reduceEqDiff]
 refine call (shtold_ok px) ?_
 rintro _ k2 ⟨X2,rfl⟩
 rw[ht]
 have X12:=X1.trans X2
 have m1:=X12.n
 have kg:=X12.kept (by omega) g2
 simp -dsimp (maxSteps:=1000000) (disch:=try exact dx) only[wpS,wpT,reduceEqDiff,reduceLeDiff,reduceAdd,ld47,st47,kg,shV_cells,shC_len,shC_all,sh_sp3,sh_take]
 exact⟨(E0.trans X12).put (by omega) _,rfl⟩
theorem shmul_ok {h:IH} {p1 p2:Nat×Nat} (h1:p1.1<W8∧p1.2<W8) (h2:p2.1<W8∧p2.2<W8) (ok1:okS p1.1 p1.2) (ok2:okS p2.1 p2.2):WV prog (.func (.func 26) #[] #[]) [shV p1.1 p1.2,shV p2.1 p2.2] h fun r h'=>Ext h h'∧r=toldV (rOf p1*rOf p2):=by
 have q1:=qb512 (p:=p1) h1.1 h1.2 ok1
 have q2:=qb512 (p:=p2) h2.1 h2.2 ok2
 obtain⟨n,d,e,ht⟩:=toldV_form (rOf p1*rOf p2)
 refine enter (nt:=14) (rs:=[.cell 4 47,.tmp 5]) Proofs.Tryz.func26 rfl rfl rfl (by simp) ?_
 simp -dsimp (maxSteps:=1000000) (disch:=try exact dx) only[wpS,reduceEqDiff,reduceAdd,zc47,ld47,shV_cells]
 obtain⟨H0,hH0,n0,E0,g0,g1,g2⟩:=boxes3 h (shC p1.1 p1.2) (shC p2.1 p2.2) Z16
 rw[←hH0]
 clear hH0
 simp -dsimp (maxSteps:=1000000) (disch:=try exact dx) only[wpS,reduceEqDiff,reduceLeDiff,ld47,row_of g1,shC_len,sh_take]
 refine call (rtwo_ok (q:=rOf p1*rOf p2) h1.1 h1.2 h2.1 h2.2 ok1 ok2 (fun h' v w a b=>rtimes_ok a b q1 q2 (by omega))) ?_
 rintro _ k1 ⟨X1,x,rfl,px⟩
 simp -dsimp (maxSteps:=1000000) (disch:=try exact dx) only[wpS,reduceEqDiff]
 refine call (shtold_ok px) ?_
 rintro _ k2 ⟨X2,rfl⟩
 rw[ht]
 have X12:=X1.trans X2
 have m1:=X12.n
 have kg:=X12.kept (by omega) g2
 simp -dsimp (maxSteps:=1000000) (disch:=try exact dx) only[wpS,wpT,reduceEqDiff,reduceLeDiff,reduceAdd,ld47,st47,kg,shV_cells,shC_len,shC_all,sh_sp3,sh_take]
 exact⟨(E0.trans X12).put (by omega) _,rfl⟩
theorem shcmp_ok {h:IH} {p1 p2:Nat×Nat} (h1:p1.1<W8∧p1.2<W8) (h2:p2.1<W8∧p2.2<W8) (ok1:okS p1.1 p1.2) (ok2:okS p2.1 p2.2):WV prog (.func (.func 21) #[] #[]) [shV p1.1 p1.2,shV p2.1 p2.2] h fun r h'=>Ext h h'∧r=.tuple #[KI (if rOf p1<rOf p2 then -1 else if rOf p1=rOf p2 then 0 else 1),KI 0]:=by
 have q1:=qb512 (p:=p1) h1.1 h1.2 ok1
 have q2:=qb512 (p:=p2) h2.1 h2.2 ok2
 refine enter (nt:=11) (rs:=[.tmp 4,.tmp 5]) Proofs.Tryz.func21 rfl rfl rfl (by simp) ?_
 simp -dsimp (maxSteps:=1000000) (disch:=try exact dx) only[wpS,reduceEqDiff,reduceAdd,ld47,shV_cells]
 obtain⟨H0,hH0,n0,E0,g0,g1⟩:=boxes2 h (shC p1.1 p1.2) (shC p2.1 p2.2)
 rw[←hH0]
 clear hH0
 simp -dsimp (maxSteps:=1000000) (disch:=try exact dx) only[wpS,reduceEqDiff,reduceLeDiff,ld47,row_of g1,shC_len,sh_take]
 refine call (itwo_ok h1.1 h1.2 h2.1 h2.2 ok1 ok2 (fun h' v w a b=>rcmp_ok a b q1 q2 (by omega))) ?_
 rintro _ k1 ⟨X1,rfl⟩
 simp -dsimp (maxSteps:=1000000) (disch:=try exact dx) only[wpS,wpT,reduceEqDiff]
 exact E0.trans X1
theorem shsign1_ok {h:IH} {v w:Value} {x y:Rat} (hv:PRat h v x) (hw:PRat h w y):WV prog (.func (.func 64) #[] #[]) [v,w] h fun r h'=>Ext h h'∧r=KI (if x<0 then -1 else if x=0 then 0 else 1):=by
 obtain⟨a1,s1,b1,t1,rfl,hn1,hd1,c1,o1,c2,o2,o3,o4⟩:=hv.parts
 obtain⟨a2,s2,b2,t2,rfl,hn2,hd2,c5,o5,c6,o6,o7,o8⟩:=hw.parts
 refine enter (nt:=8) (rs:=[.tmp 4]) Proofs.Tryz.func64 rfl rfl rfl (by simp) ?_
 simp -dsimp (maxSteps:=1000000) (disch:=try exact dx) only[wpS,wpT,reduceEqDiff,reduceLeDiff,reduceAdd,fa96_0,ld94]
 obtain⟨H0,hH0,n0,E0,g0,g1⟩:=boxes2 h [a1,s1,b1,t1] [a2,s2,b2,t2]
 rw[←hH0]
 clear hH0
 simp -dsimp (maxSteps:=1000000) (disch:=try exact dx) only[tkA]
 refine call (pside_ok (hn1.keep E0.keep)) ?_
 rintro _ h1 ⟨X1,rfl⟩
 have e:(if x.num<0 then (-1:Int) else if x.num=0 then 0 else 1)=if x<0 then -1 else if x=0 then 0 else 1:=by
  have hlt:x<0↔x.num<0:=by rw[Rat.lt_iff];simp
  by_cases c:x<0
  ·rw[if_pos c,if_pos (hlt.1 c)]
  ·rw[if_neg c,if_neg (fun h=>c (hlt.2 h))]
   by_cases c2:x=0
   ·rw[if_pos c2,if_pos (Rat.num_eq_zero.2 c2)]
   ·rw[if_neg c2,if_neg (fun h=>c2 (Rat.num_eq_zero.1 h))]
 rw[e]
 simp -dsimp (maxSteps:=1000000) (disch:=try exact dx) only[wpS,wpT,reduceEqDiff]
 exact E0.trans X1
theorem shsign_ok {h:IH} {p1:Nat×Nat} (h1:p1.1<W8∧p1.2<W8) (ok1:okS p1.1 p1.2):WV prog (.func (.func 27) #[] #[]) [shV p1.1 p1.2] h fun r h'=>Ext h h'∧r=.tuple #[KI (if rOf p1<0 then -1 else if rOf p1=0 then 0 else 1),KI 0]:=by
 refine enter (nt:=9) (rs:=[.tmp 2,.tmp 3]) Proofs.Tryz.func27 rfl rfl rfl (by simp) ?_
 simp -dsimp (maxSteps:=1000000) (disch:=try exact dx) only[wpS,reduceEqDiff,ld47,shV_cells]
 obtain⟨H0,hH0⟩ : ∃H0,H0=h.new (.cells (shC p1.1 p1.2) 0 none):=⟨_,rfl⟩
 have E0:Ext h H0:=by rw[hH0];exact(Ext.refl h).new _
 have g0:H0.ext.get h.n=some (.cells (shC p1.1 p1.2) 0 none):=by rw[hH0];simp (disch:=try exact dx) only[get_new_same]
 rw[←hH0]
 clear hH0
 simp -dsimp (maxSteps:=1000000) (disch:=try exact dx) only[wpS,reduceEqDiff,reduceLeDiff,ld47,row_of g0,shC_len,sh_take]
 refine call (itwo_ok h1.1 h1.2 h1.1 h1.2 ok1 ok1 (fun h' v w a b=>shsign1_ok a b)) ?_
 rintro _ k1 ⟨X1,rfl⟩
 simp -dsimp (maxSteps:=1000000) (disch:=try exact dx) only[wpS,wpT,reduceEqDiff]
 exact E0.trans X1
theorem rlesser_ok {h:IH} {v w:Value} {x y:Rat} {a b:Nat} (hv:PRat h v x) (hw:PRat h w y) (qx:QB a x) (qy:QB b y) (hk:a+b<16000000):WV prog (.func (.func 146) #[] #[]) [v,w] h fun r h'=>Ext h h'∧PRat h' r (if x≤y then x else y):=by
 obtain⟨a1,s1,b1,t1,rfl,hn1,hd1,c1,o1,c2,o2,o3,o4⟩:=hv.parts
 obtain⟨a2,s2,b2,t2,rfl,hn2,hd2,c5,o5,c6,o6,o7,o8⟩:=hw.parts
 refine enter (nt:=11) (rs:=[.cell 4 96]) Proofs.Tryz.func146 rfl rfl rfl (by simp) ?_
 simp -dsimp (maxSteps:=1000000) (disch:=try exact dx) only[wpS,wpT,reduceEqDiff,reduceLeDiff,reduceAdd,zc96,ld96]
 obtain⟨H0,hH0,n0,E0,g0,g1,g2⟩:=boxes3 h [a1,s1,b1,t1] [a2,s2,b2,t2] ZR
 rw[←hH0]
 clear hH0
 simp -dsimp (maxSteps:=1000000) (disch:=try exact dx) only[tk4']
 refine call (rcmp_ok (hv.keep E0.keep) (hw.keep E0.keep) qx qy hk) ?_
 rintro _ h1 ⟨X1,rfl⟩
 have m1:=X1.n
 have kg:=X1.kept (by omega) g2
 have XE:=(E0.trans X1).keep
 by_cases hxy:x≤y
 ·have d1:decide ((if x<y then (-1:Int) else if x=y then 0 else 1)≤0)=true:=decide_eq_true (by
   split
   ·omega
   ·split
    ·omega
    ·rename_i h1 h2
     exact absurd (Rat.le_antisymm hxy (Rat.not_lt.1 h1)) h2)
  rw[if_pos hxy]
  simp -dsimp (maxSteps:=1000000) (disch:=try exact dx) only[wpS,wpT,reduceEqDiff,reduceLeDiff,reduceAdd,ld96,st96,d1,row_of (X1.kept (by omega) g0),kg,tk4',o1,o2,o3,o4]
  have kp:=(Keep.refl h1).put kg (.cells [a1,s1,b1,t1] 0 none)
  exact⟨(E0.trans X1).put (by omega) _,PRat.keep (hv.keep XE) kp⟩
 ·have d1:decide ((if x<y then (-1:Int) else if x=y then 0 else 1)≤0)=false:=decide_eq_false (by
   rw[if_neg (fun h=>hxy (Rat.le_of_lt h)),if_neg (fun h=>hxy (by rw[h];exact Rat.le_refl))]
   omega)
  rw[if_neg hxy]
  simp -dsimp (maxSteps:=1000000) (disch:=try exact dx) only[wpS,wpT,reduceEqDiff,reduceLeDiff,reduceAdd,ld96,st96,d1,row_of (X1.kept (by omega) g1),kg,tk4',o5,o6,o7,o8]
  have kp:=(Keep.refl h1).put kg (.cells [a2,s2,b2,t2] 0 none)
  exact⟨(E0.trans X1).put (by omega) _,PRat.keep (hw.keep XE) kp⟩
theorem QB.min {a b:Nat} {x y:Rat} (hx:QB a x) (hy:QB b y):QB (a+b) (if x≤y then x else y):=by
 split
 ·exact hx.mono (by omega)
 ·exact hy.mono (by omega)
theorem rgreater_ok {h:IH} {v w:Value} {x y:Rat} {a b:Nat} (hv:PRat h v x) (hw:PRat h w y) (qx:QB a x) (qy:QB b y) (hk:a+b<16000000):WV prog (.func (.func 115) #[] #[]) [v,w] h fun r h'=>Ext h h'∧PRat h' r (-(if -x ≤ -y then -x else -y)):=by
 obtain⟨a1,s1,b1,t1,rfl,hn1,hd1,c1,o1,c2,o2,o3,o4⟩:=hv.parts
 obtain⟨a2,s2,b2,t2,rfl,hn2,hd2,c5,o5,c6,o6,o7,o8⟩:=hw.parts
 refine enter (nt:=11) (rs:=[.cell 4 96]) Proofs.Tryz.func115 rfl rfl rfl (by simp) ?_
 simp -dsimp (maxSteps:=1000000) (disch:=try exact dx) only[wpS,reduceEqDiff,reduceAdd,zc96]
 obtain⟨H0,hH0,n0,E0,g0,g1,g2⟩:=boxes3 h [a1,s1,b1,t1] [a2,s2,b2,t2] ZR
 rw[←hH0]
 clear hH0
 have X0:=Ext.refl H0
 have L2:=(pl4 g1).2.2
 refine drawn [(2,[1])] (by kernel_rfl) (by kernel_rfl) rfl ?_
 simp -dsimp (maxSteps:=1000000) (disch:=try exact dx) only[wpS,wpT,reduceEqDiff,reduceLeDiff,reduceAdd,ld96,row_of g0,tk4']
 refine call (rturned_ok (hv.keep E0.keep)) ?_
 rintro r1 k1 ⟨X1,p1⟩
 simp -dsimp (maxSteps:=1000000) (disch:=try exact dx) only[wpS,wpT,reduceEqDiff,reduceLeDiff,reduceAdd,ld96,row_of (X1.kept (by omega) g1),tk4']
 refine call (rturned_ok (hw.keep (E0.trans X1).keep)) ?_
 rintro r2 k2 ⟨Y2,p2⟩
 have X2:=X1.trans Y2
 simp -dsimp (maxSteps:=1000000) (disch:=try exact dx) only[wpS,reduceEqDiff]
 refine call (rlesser_ok (p1.keep Y2.keep) p2 qx.neg qy.neg hk) ?_
 rintro r3 k3 ⟨Y3,p3⟩
 have X3:=X2.trans Y3
 simp -dsimp (maxSteps:=1000000) (disch:=try exact dx) only[wpS,reduceEqDiff]
 refine call (rturned_ok p3) ?_
 rintro r4 k4 ⟨Y4,p4⟩
 have X4:=X3.trans Y4
 have m4:=X4.n
 obtain⟨a9,s9,b9,t9,rfl,hn9,hd9,c9,o9,c10,o10,o11,o12⟩:=p4.parts
 have kg:=X4.kept (by omega) g2
 simp -dsimp (maxSteps:=1000000) (disch:=try exact dx) only[wpS,wpT,reduceEqDiff,reduceLeDiff,reduceAdd,st96,kg,o9,o10,o11,o12]
 refine⟨by repeat' first|refine wpSteady_c2 ?_ ?_|refine wpSteady_t2 ?_ ?_|exact wpSteady_one rfl rfl rfl rfl (steady_ext (H0:=H0) rfl (by omega) (by assumption) (by assumption) (by with_reducible assumption)),?_⟩
 simp -dsimp (maxSteps:=1000000) (disch:=try exact dx) only[wpS,wpT,reduceEqDiff,reduceLeDiff,reduceAdd,ld96,tk4']
 have kp:=(Keep.refl k4).put kg (.cells [a9,s9,b9,t9] 0 none)
 exact⟨(E0.trans X4).put (by omega) _,p4.keep kp⟩
end Go.Id

namespace Go.Id
open Go
open Go.Proofs.Tryz (prog)
open Nat (reduceAdd reduceEqDiff reduceLeDiff)
set_option maxHeartbeats 16000000
theorem rOf_ne {p:Nat×Nat} (h:p.1<W8) (ok:okS p.1 p.2) (h0:p.1≠0):rOf p≠0:=by
 intro e
 have:=(rOf_parts ok).1
 rw[e] at this
 exact h0 ((wdI_zero_iff h).1 this.symm)
theorem shdiv_ok {h:IH} {p1 p2:Nat×Nat} (h1:p1.1<W8∧p1.2<W8) (h2:p2.1<W8∧p2.2<W8) (ok1:okS p1.1 p1.2) (ok2:okS p2.1 p2.2) (n0:p2.1≠0):WV prog (.func (.func 53) #[] #[]) [shV p1.1 p1.2,shV p2.1 p2.2] h fun r h'=>Ext h h'∧r=toldV (rOf p1 / rOf p2):=by
 have q1:=qb512 (p:=p1) h1.1 h1.2 ok1
 have q2:=qb512 (p:=p2) h2.1 h2.2 ok2
 have y0:=rOf_ne h2.1 ok2 n0
 obtain⟨n,d,e,ht⟩:=toldV_form (rOf p1 / rOf p2)
 have hz:binop prog .eql 45 (.tmp 12) (.tmp 13) (.agg (wdC p2.1).toArray) (.agg #[ZW,ZW,ZW,ZW,ZW,ZW,ZW,ZW])=some (.bool false):=by
  rw[wd_zero,wdV,wd_eql h2.1 (by have:=H8_two;have:=H8_pos;omega)]
  rw[decide_eq_false n0]
 refine enter (nt:=25) (rs:=[.cell 4 47,.tmp 5]) Proofs.Tryz.func53 rfl rfl rfl (by simp) ?_
 simp -dsimp (maxSteps:=1000000) (disch:=try exact dx) only[wpS,reduceEqDiff,reduceAdd,zc47,ld47,shV_cells]
 obtain⟨H0,hH0,n0,E0,g0,g1,g2⟩:=boxes3 h (shC p1.1 p1.2) (shC p2.1 p2.2) Z16
 rw[←hH0]
 clear hH0
 have X0:=Ext.refl H0
 have bb : ∀hx:IH,buildSlice prog hx 175 2 [(0,.agg (shC p1.1 p1.2).toArray),(1,.agg (shC p2.1 p2.2).toArray)]=some (.slice (some ⟨2*hx.n,0,none⟩) 2 5,hx.new (.cells (shL [(p1.1,p1.2),(p2.1,p2.2)]) 16 none)):=fun hx=>build2 p1.1 p1.2 p2.1 p2.2
 simp -dsimp (maxSteps:=1000000) (disch:=try exact dx) only[wpS,reduceEqDiff,reduceLeDiff,ld47,row_of g1,shC_len,sh_take,bb]
 refine call (shvalid_ok (two_sl h1.1 h1.2 h2.1 h2.2)) ?_
 rintro _ k1 ⟨Y1,rfl⟩
 have X1:Ext H0 k1:=(X0.new _).trans Y1
 have dt:decide (∀p ∈ [(p1.1,p1.2),(p2.1,p2.2)],okS p.1 p.2)=true:=decide_eq_true (by
  intro p hp
  simp at hp
  rcases hp with rfl|rfl
  ·exact ok1
  ·exact ok2)
 rw[dt]
 have m1:=X1.n
 simp -dsimp (maxSteps:=1000000) (disch:=try exact dx) only[wpS,wpT,reduceEqDiff,reduceLeDiff,ld47,fa47_0,ld45,bv45,row_of (X1.kept (by omega) g1),row_of (X1.kept (by omega) g0),shC_len,sh_take1,hz,sh_take]
 refine call (rtwo_ok (q:=rOf p1 / rOf p2) h1.1 h1.2 h2.1 h2.2 ok1 ok2 (fun h' v w a b=>rover_ok a b q1 q2 (by omega) y0)) ?_
 rintro _ k2 ⟨Y2,x,rfl,px⟩
 simp -dsimp (maxSteps:=1000000) (disch:=try exact dx) only[wpS,reduceEqDiff]
 refine call (shtold_ok px) ?_
 rintro _ k3 ⟨Y3,rfl⟩
 rw[ht]
 have X3:=X1.trans (Y2.trans Y3)
 have m3:=X3.n
 have kg:=X3.kept (by omega) g2
 simp -dsimp (maxSteps:=1000000) (disch:=try exact dx) only[wpS,wpT,reduceEqDiff,reduceLeDiff,reduceAdd,ld47,st47,kg,shV_cells,shC_len,shC_all,sh_sp3,sh_take]
 exact⟨(E0.trans X3).put (by omega) _,rfl⟩
def qmax (x y:Rat):Rat:=if x≤y then y else x
theorem qmax_neg (x y:Rat) : -(if -x ≤ -y then -x else -y)=qmax x y:=by
 unfold qmax
 by_cases c : -x ≤ -y
 ·rw[if_pos c]
  by_cases c2:x≤y
  ·rw[if_pos c2];have:x=y:=Rat.le_antisymm c2 (by grind);grind
  ·rw[if_neg c2];grind
 ·rw[if_neg c,if_pos (by grind)];grind
theorem shmax_ok {h:IH} {p1 p2:Nat×Nat} (h1:p1.1<W8∧p1.2<W8) (h2:p2.1<W8∧p2.2<W8) (ok1:okS p1.1 p1.2) (ok2:okS p2.1 p2.2):WV prog (.func (.func 85) #[] #[]) [shV p1.1 p1.2,shV p2.1 p2.2] h fun r h'=>Ext h h'∧r=toldV (qmax (rOf p1) (rOf p2)):=by
 have q1:=qb512 (p:=p1) h1.1 h1.2 ok1
 have q2:=qb512 (p:=p2) h2.1 h2.2 ok2
 obtain⟨n,d,e,ht⟩:=toldV_form (qmax (rOf p1) (rOf p2))
 refine enter (nt:=14) (rs:=[.cell 4 47,.tmp 5]) Proofs.Tryz.func85 rfl rfl rfl (by simp) ?_
 simp -dsimp (maxSteps:=1000000) (disch:=try exact dx) only[wpS,reduceEqDiff,reduceAdd,zc47,ld47,shV_cells]
 obtain⟨H0,hH0,n0,E0,g0,g1,g2⟩:=boxes3 h (shC p1.1 p1.2) (shC p2.1 p2.2) Z16
 rw[←hH0]
 clear hH0
 simp -dsimp (maxSteps:=1000000) (disch:=try exact dx) only[wpS,reduceEqDiff,reduceLeDiff,ld47,row_of g1,shC_len,sh_take]
 refine call (rtwo_ok (q:=qmax (rOf p1) (rOf p2)) h1.1 h1.2 h2.1 h2.2 ok1 ok2 (fun h' v w a b=>by rw[←qmax_neg];exact rgreater_ok a b q1 q2 (by omega))) ?_
 rintro _ k1 ⟨X1,x,rfl,px⟩
 simp -dsimp (maxSteps:=1000000) (disch:=try exact dx) only[wpS,reduceEqDiff]
 refine call (shtold_ok px) ?_
 rintro _ k2 ⟨X2,rfl⟩
 rw[ht]
 have X12:=X1.trans X2
 have m1:=X12.n
 have kg:=X12.kept (by omega) g2
 simp -dsimp (maxSteps:=1000000) (disch:=try exact dx) only[wpS,wpT,reduceEqDiff,reduceLeDiff,reduceAdd,ld47,st47,kg,shV_cells,shC_len,shC_all,sh_sp3,sh_take]
 exact⟨(E0.trans X12).put (by omega) _,rfl⟩
theorem shsub_ok {h:IH} {p1 p2:Nat×Nat} (h1:p1.1<W8∧p1.2<W8) (h2:p2.1<W8∧p2.2<W8) (ok1:okS p1.1 p1.2) (ok2:okS p2.1 p2.2):WV prog (.func (.func 25) #[] #[]) [shV p1.1 p1.2,shV p2.1 p2.2] h fun r h'=>Ext h h'∧r=toldV (rOf p1 - rOf p2):=by
 have q1:=qb512 (p:=p1) h1.1 h1.2 ok1
 have q2:=qb512 (p:=p2) h2.1 h2.2 ok2
 obtain⟨n,d,e,ht⟩:=toldV_form (rOf p1 - rOf p2)
 refine enter (nt:=14) (rs:=[.cell 4 47,.tmp 5]) Proofs.Tryz.func25 rfl rfl rfl (by simp) ?_
 simp -dsimp (maxSteps:=1000000) (disch:=try exact dx) only[wpS,reduceEqDiff,reduceAdd,zc47,ld47,shV_cells]
 obtain⟨H0,hH0,n0,E0,g0,g1,g2⟩:=boxes3 h (shC p1.1 p1.2) (shC p2.1 p2.2) Z16
 rw[←hH0]
 clear hH0
 simp -dsimp (maxSteps:=1000000) (disch:=try exact dx) only[wpS,reduceEqDiff,reduceLeDiff,ld47,row_of g1,shC_len,sh_take]
 refine call (rtwo_ok (q:=rOf p1 - rOf p2) h1.1 h1.2 h2.1 h2.2 ok1 ok2 (fun h' v w a b=>rminus_ok a b q1 q2 (by omega))) ?_
 rintro _ k1 ⟨X1,x,rfl,px⟩
 simp -dsimp (maxSteps:=1000000) (disch:=try exact dx) only[wpS,reduceEqDiff]
 refine call (shtold_ok px) ?_
 rintro _ k2 ⟨X2,rfl⟩
 rw[ht]
 have X12:=X1.trans X2
 have m1:=X12.n
 have kg:=X12.kept (by omega) g2
 simp -dsimp (maxSteps:=1000000) (disch:=try exact dx) only[wpS,wpT,reduceEqDiff,reduceLeDiff,reduceAdd,ld47,st47,kg,shV_cells,shC_len,shC_all,sh_sp3,sh_take]
 exact⟨(E0.trans X12).put (by omega) _,rfl⟩
end Go.Id

namespace Go.Id
open Go
open Nat (reduceAdd reduceEqDiff reduceLeDiff)
set_option maxHeartbeats 16000000
def RPair (h:IH) (v:Value) (n d:Int):Prop:=∃a s b t,v=.agg #[a,s,b,t]∧LongIs h (.agg #[a,s]) n∧LongIs h (.agg #[b,t]) d
theorem RPair.keep {h h':IH} {v:Value} {n d:Int} (p:RPair h v n d) (e:Keep h h'):RPair h' v n d:=let ⟨a,s,b,t,h1,h2,h3⟩:=p;⟨a,s,b,t,h1,h2.keep e,h3.keep e⟩
def RRat (h:IH) (v:Value) (q:Rat):Prop:=RPair h v q.num q.den
theorem RRat.keep {h h':IH} {v:Value} {q:Rat} (p:RRat h v q) (e:Keep h h'):RRat h' v q:=RPair.keep p e
theorem LongIs.cells2 {h:IH} {v:Value} {z:Int} (d:LongIs h v z) : ∃s,v=.agg #[.bool (decide (z<0)),s]∧s.cells = #[s]∧cellOK s=true:=let ⟨s,n,a,b,c,_⟩:=d.form;⟨s,a,b,c⟩
theorem LongIs.co {h:IH} {a s:Value} {z:Int} (d:LongIs h (.agg #[a,s]) z):a=.bool (decide (z<0))∧s.cells = #[s]∧cellOK s=true:=by
 obtain⟨s',h1,h2,h3⟩:=d.cells2
 cases h1
 exact⟨rfl,h2,h3⟩
theorem low_turn {n d:Int} (hd:d<0):n / (-(Int.gcd n d:Int))=(Rat.divInt n d).num∧d / (-(Int.gcd n d:Int))=(Rat.divInt n d).den:=by
 obtain⟨a,b⟩:=low_neg (n:=n) hd
 rw[Int.ediv_neg,Int.ediv_neg]
 exact⟨a,b⟩
theorem rlowest_ok {h:IH} {v w:Value} {n d:Int} (hv:LongIs h v n) (hw:LongIs h w d) (sn:SmallI n) (sd:SmallI d) (d0:d≠0) :
  WV Proofs.Tryz.prog (.func (.func 122) #[] #[]) [v,w] h fun r h'=>Ext h h'∧RRat h' r (Rat.divInt n d):=by
 obtain⟨s,rfl,c1,o1⟩:=hv.cells2
 obtain⟨t,rfl,c2,o2⟩:=hw.cells2
 have sg:SmallI (Int.gcd n d:Int):=by
  have h1:Int.gcd n d≤d.natAbs:=Nat.le_of_dvd (by omega) (Nat.gcd_dvd_right _ _)
  exact small_nat (sd.le h1)
 refine enter (nt:=32) (rs:=[.cell 4 135]) Proofs.Tryz.func122 rfl rfl rfl (by simp) ?_
 simp -dsimp (maxSteps:=1000000) (disch:=try exact dx) only[wpS,wpT,reduceEqDiff,reduceLeDiff,reduceAdd,zc135,ld133]
 obtain⟨H0,hH0,n0,E0,g0,g1,g2⟩:=boxes3 h [.bool (decide (n<0)),s] [.bool (decide (d<0)),t] ZR
 rw[←hH0]
 clear hH0
 refine call (divisor_ok (hv.keep E0.keep) (hw.keep E0.keep) sn sd) ?_
 rintro _ h1 ⟨hE1,hg⟩
 obtain⟨sg1,rfl,c3,o3⟩:=hg.cells2
 have hng:decide ((Int.gcd n d:Int)<0)=false:=decide_eq_false (by omega)
 rw[hng] at hg ⊢
 have x1:=E0.trans hE1
 have n1:=(hE1).n;try simp only[new_n,put_n] at n1
 simp -dsimp (maxSteps:=1000000) (disch:=try exact dx) only[wpS,wpT,reduceEqDiff,reduceLeDiff,reduceAdd,zc133,st133,fa133_0,ld4,o3,row_of (hE1.kept (by omega) g1),tk2']
 obtain⟨H2,hH2⟩ : ∃H2,H2=(h1.new (.cells ZL 0 none)).put h1.n (.cells [.bool false,sg1] 0 none):=⟨_,rfl⟩
 have e2:Ext h1 H2:=by rw[hH2];exact((Ext.refl _).new _).put (Nat.le_refl _) _
 have n2:H2.n=h1.n+1:=by rw[hH2];rfl
 have gg:H2.ext.get h1.n=some (.cells [.bool false,sg1] 0 none):=by rw[hH2];simp (disch:=try exact dx) only[get_put_same]
 rw[←hH2]
 clear hH2
 have x2:=x1.trans e2
 have kk0:=e2.kept (by omega) (hE1.kept (by omega) g0)
 have kk1:=e2.kept (by omega) (hE1.kept (by omega) g1)
 have kk2:=e2.kept (by omega) (hE1.kept (by omega) g2)
 refine bq_cut (fun fr2 H3 => ∃(g:Int) (ag sg2:Value),Ext h H3∧h1.n+1≤H3.n∧H3.ext.get h.n=some (.cells [.bool (decide (n<0)),s] 0 none)∧H3.ext.get (h.n+1)=some (.cells [.bool (decide (d<0)),t] 0 none)∧H3.ext.get (h.n+1+1)=some (.cells ZR 0 none)∧H3.ext.get h1.n=some (.cells [ag,sg2] 0 none)∧LongIs H3 (.agg #[ag,sg2]) g∧SmallI g∧g≠0∧n / g=(Rat.divInt n d).num∧d / g=(Rat.divInt n d).den ∧
  LongIs H3 (.agg #[.bool (decide (n<0)),s]) n∧LongIs H3 (.agg #[.bool (decide (d<0)),t]) d∧fget fr2 2=some (ptr (2*h.n) 0)∧fget fr2 3=some (ptr (2*(h.n+1)) 0)∧fget fr2 4=some (ptr (2*(h.n+1+1)) 0)∧fget fr2 5=some (ptr (2*h1.n) 0)) (fun hb=>?_) (fun hb=>?_) ?_
 ·have hd:d<0:=by simpa using hb
  obtain⟨b1,b2⟩:=low_turn (n:=n) hd
  simp -dsimp (maxSteps:=1000000) (disch:=try exact dx) only[wpS,wpT,reduceEqDiff,reduceLeDiff,reduceAdd,ld133,row_of gg,tk2']
  refine call (turn_ok (hg.keep e2.keep)) ?_
  rintro _ h3 ⟨hE3,hT⟩
  obtain⟨sT,rfl,c4,o4⟩:=hT.cells2
  have n3:=(hE3).n;try simp only[new_n,put_n] at n3
  have kg:=hE3.kept (by omega) gg
  simp -dsimp (maxSteps:=1000000) (disch:=try exact dx) only[wpS,wpT,reduceEqDiff,reduceLeDiff,reduceAdd,st133,kg,o4]
  have kp:=(Keep.refl h3).put kg (.cells [.bool (decide (-(Int.gcd n d:Int)<0)),sT] 0 none)
  have x3:=x2.trans hE3
  have hng:=gcd_ne (n:=n) (d:=d) (by omega)
  refine⟨-(Int.gcd n d:Int),_,sT,x3.put (by omega) _,by simp only[put_n];omega,by simp (disch:=try exact dx) only[get_put_old];exact hE3.kept (by omega) kk0,by simp (disch:=try exact dx) only[get_put_old];exact hE3.kept (by omega) kk1,by simp (disch:=try exact dx) only[get_put_old];exact hE3.kept (by omega) kk2,get_put_same _ _ rfl,hT.keep kp,by rw[SmallI,Int.natAbs_neg];exact sg,by omega,b1,b2,hv.keep (x3.keep.trans kp),hw.keep (x3.keep.trans kp),by simp,by simp,by simp,by simp⟩
 ·have hd:0<d:=by
   have : ¬d<0:=by simpa using hb
   omega
  obtain⟨b1,b2⟩:=low_pos (n:=n) hd
  simp -dsimp (maxSteps:=1000000) (disch:=try exact dx) only[wpS,wpT]
  exact⟨Int.gcd n d,_,sg1,x2,by omega,kk0,kk1,kk2,gg,hg.keep e2.keep,sg,gcd_ne d0,b1,b2,hv.keep x2.keep,hw.keep x2.keep,by simp,by simp,by simp,by simp⟩
 clear hg kk0 kk1 kk2 gg x2 e2
 rintro fr2 H3 ⟨g,ag,sg2,x3,n3,k0,k1,k2,kg,hg,sgg,g0',b1,b2,hv3,hw3,f2,f3,f4,f5⟩
 rw[d_seq]
 simp -dsimp (maxSteps:=1000000) (disch:=try exact dx) only[wpS,wpT,reduceEqDiff,reduceLeDiff,reduceAdd,ld133,f2,f5,row_of k0,row_of kg,tk2']
 refine call (lparts_ok hv3 hg sn sgg g0') ?_
 rintro _ h4 ⟨hE4,q,u,rfl,hq,hu⟩
 rw[b1] at hq
 obtain⟨sq,rfl,c4,o4⟩:=hq.cells2
 obtain⟨su,rfl,c5,o5⟩:=hu.cells2
 have n4:=(hE4).n;try simp only[new_n,put_n] at n4
 have x4:=x3.trans hE4
 simp -dsimp (maxSteps:=1000000) (disch:=try exact dx) only[wpS,wpT,reduceEqDiff,reduceLeDiff,reduceAdd,ld133,zc133,st133,o4,o5,f3,f5,row_of (hE4.kept (by omega) k1),row_of (hE4.kept (by omega) kg),tk2']
 obtain⟨H5,hH5⟩ : ∃H4,H4=((((h4.new (.cells ZL 0 none)).new (.cells ZL 0 none)).put h4.n (.cells [.bool (decide ((Rat.divInt n d).num<0)),sq] 0 none)).put (h4.n+1) (.cells [.bool (decide (n % g<0)),su] 0 none)):=⟨_,rfl⟩
 have e5:Ext h4 H5:=by rw[hH5];exact((((Ext.refl _).new _).new _).put (Nat.le_refl _) _).put (by omega) _
 have n5:H5.n=h4.n+2:=by rw[hH5];rfl
 have gq:H5.ext.get h4.n=some (.cells [.bool (decide ((Rat.divInt n d).num<0)),sq] 0 none):=by rw[hH5];simp (disch:=try exact dx) only[get_put_same,get_put_old]
 rw[←hH5]
 clear hH5
 refine call (lparts_ok (hw3.keep (hE4.trans e5).keep) (hg.keep (hE4.trans e5).keep) sd sgg g0') ?_
 rintro _ h6 ⟨hE6,q2,u2,rfl,hq2,hu2⟩
 rw[b2] at hq2
 obtain⟨sq2,rfl,c6,o6⟩:=hq2.cells2
 obtain⟨su2,rfl,c7,o7⟩:=hu2.cells2
 have n6:=(hE6).n;try simp only[new_n,put_n] at n6
 have hdf:decide (((Rat.divInt n d).den:Int)<0)=false:=decide_eq_false (by omega)
 rw[hdf] at hq2 ⊢
 have x6:=(x4.trans e5).trans hE6
 have kq:=hE6.kept (by omega) gq
 have kr:=hE6.kept (by omega) (e5.kept (by omega) (hE4.kept (by omega) k2))
 simp -dsimp (maxSteps:=1000000) (disch:=try exact dx) only[wpS,wpT,reduceEqDiff,reduceLeDiff,reduceAdd,ld133,zc133,st133,bv135,pl135_0,pl135_1,st135,ld135,o6,o7,f4,row_of kq,kr,o4,tk2',tk4']
 refine⟨?_,_,_,_,_,rfl,hq.keep ((e5.trans hE6).keep.trans ?_),hq2.keep ?_⟩
 ·exact((((x6.new _).new _).put (by omega) _).put (by omega) _).put (by omega) _
 ·exact(((((Keep.refl h6).new _).new _).put (cs:=ZL) (f:=none) (by simp (disch:=try exact dx) only[get_new_same,get_new_old]) _).put (cs:=ZL) (f:=none) (by simp (disch:=try exact dx) only[get_new_same,get_put_old]) _).put (cs:=ZR) (f:=none) (by simp (disch:=try exact dx) only[get_new_old,get_put_old];exact kr) _
 ·exact(((((Keep.refl h6).new _).new _).put (cs:=ZL) (f:=none) (by simp (disch:=try exact dx) only[get_new_same,get_new_old]) _).put (cs:=ZL) (f:=none) (by simp (disch:=try exact dx) only[get_new_same,get_put_old]) _).put (cs:=ZR) (f:=none) (by simp (disch:=try exact dx) only[get_new_old,get_put_old];exact kr) _
end Go.Id

namespace Go.Id
open Go
theorem RRat.parts {h:IH} {v:Value} {q:Rat} (p:RRat h v q) : ∃a s b t,v=.agg #[a,s,b,t]∧LongIs h (.agg #[a,s]) q.num∧LongIs h (.agg #[b,t]) q.den∧s.cells = #[s]∧cellOK s=true∧t.cells = #[t]∧cellOK t=true∧cellOK a=true∧cellOK b=true:=by
 obtain⟨a,s,b,t,rfl,h1,h2⟩:=p
 obtain⟨rfl,c1,o1⟩:=h1.co
 obtain⟨rfl,c2,o2⟩:=h2.co
 exact⟨_,s,_,t,rfl,h1,h2,c1,o1,c2,o2,rfl,rfl⟩
end Go.Id

namespace Go.Id
open Go
open Nat (reduceAdd reduceEqDiff reduceLeDiff)
set_option maxHeartbeats 16000000
theorem quick_ok {h:IH} (n d:Int) (hn:In64 n) (hd:In64 d) (d0:d≠0):WV Proofs.Tryz.prog (.func (.func 91) #[] #[]) [KI n,KI d] h fun r h'=>Ext h h'∧RRat h' r (Rat.divInt n d):=by
 refine enter (nt:=10) (rs:=[.cell 4 135]) Proofs.Tryz.func91 rfl rfl rfl (by simp) ?_
 simp -dsimp (maxSteps:=1000000) (disch:=try exact dx) only[wpS,reduceEqDiff,reduceAdd,zc135]
 have E1:Ext h (h.new (.cells ZR 0 none)):=(Ext.refl h).new _
 have g1:(h.new (.cells ZR 0 none)).ext.get h.n=some (.cells ZR 0 none):=by simp (disch:=try exact dx) only[get_new_same]
 refine call (long1_ok n hn) ?_
 rintro _ h1 ⟨X1,p1⟩
 simp -dsimp (maxSteps:=1000000) (disch:=try exact dx) only[wpS,reduceEqDiff]
 refine call (long1_ok d hd) ?_
 rintro _ h2 ⟨X2,p2⟩
 simp -dsimp (maxSteps:=1000000) (disch:=try exact dx) only[wpS,reduceEqDiff]
 have sn:SmallI n:=small64 (by have:=hn.1;have:=hn.2;omega)
 have sd:SmallI d:=small64 (by have:=hd.1;have:=hd.2;omega)
 refine call (rlowest_ok (p1.keep X2.keep) p2 sn sd d0) ?_
 rintro _ h3 ⟨X3,p3⟩
 have m1:=X1.n
 have m2:=X2.n
 have m3:=X3.n
 simp only[new_n] at m1
 obtain⟨a3,s3,b3,t3,rfl,_,_,d1,o1,d2,o2,o3,o4⟩:=p3.parts
 have kg:=X3.kept (by omega) (X2.kept (by omega) (X1.kept (by simp) g1))
 simp -dsimp (maxSteps:=1000000) (disch:=try exact dx) only[wpS,wpT,reduceEqDiff,reduceLeDiff,reduceAdd,st135,ld135,kg,o1,o2,o3,o4,tk4']
 exact⟨(((E1.trans X1).trans X2).trans X3).put (by omega) _,p3.keep ((Keep.refl _).put kg _)⟩
theorem refout_ok {h:IH} {v:Value} {q:Rat} (hv:RRat h v q):WV Proofs.Tryz.prog (.func (.func 90) #[] #[]) [v] h fun r h'=>Ext h h'∧r=(open Classical in if QW q then .tuple #[shareV q,KI 0] else .tuple #[shV 0 0,KI 6]):=by
 obtain⟨a1,s1,b1,t1,rfl,hn1,hd1,c1,o1,c2,o2,o3,o4⟩:=hv.parts
 refine enter (nt:=30) (rs:=[.cell 2 47,.tmp 3]) Proofs.Tryz.func90 rfl rfl rfl (by simp) ?_
 simp -dsimp (maxSteps:=1000000) (disch:=try exact dx) only[wpS,wpT,reduceEqDiff,reduceLeDiff,reduceAdd,zc47,fa135_0,ld133]
 obtain⟨H0,hH0,n0,E0,g0,g1⟩:=boxes2 h [a1,s1,b1,t1] Z16
 rw[←hH0]
 clear hH0
 simp -dsimp (maxSteps:=1000000) (disch:=try exact dx) only[tkA]
 refine call (out_ok (hn1.keep E0.keep)) ?_
 rintro _ h1 ⟨X1,rfl⟩
 have m1:=X1.n
 obtain⟨w1,e1,hw⟩ : ∃w1 e1,(if InW q.num then Value.tuple #[wideV q.num,KI 0] else .tuple #[wdV 0,KI 6])=.tuple #[wdV w1,KI e1]∧(InW q.num∧w1=wideN q.num∧e1=0 ∨ ¬InW q.num∧e1=6):=by
  by_cases hi:InW q.num
  ·exact⟨_,0,by rw[if_pos hi],.inl ⟨hi,rfl,rfl⟩⟩
  ·exact⟨0,6,by rw[if_neg hi],.inr ⟨hi,rfl⟩⟩
 rw[hw.1]
 have k0:=X1.kept (by omega) g0
 have k1:=X1.kept (by omega) g1
 simp -dsimp (maxSteps:=1000000) (disch:=try exact dx) only[wpS,wpT,reduceEqDiff,reduceLeDiff,reduceAdd,ld133,zc45,st45,fa135_1,cells8,wdC_len,wdC_all,wd_spl,row_of k0,tkA,tkB]
 obtain⟨H2,hH2⟩ : ∃H2,H2=(h1.new (.cells [ZW,ZW,ZW,ZW,ZW,ZW,ZW,ZW] 0 none)).put h1.n (.cells (wdC w1) 0 none):=⟨_,rfl⟩
 have e2:Ext h1 H2:=by rw[hH2];exact((Ext.refl _).new _).put (Nat.le_refl _) _
 have n2:H2.n=h1.n+1:=by rw[hH2];rfl
 have ga:H2.ext.get h1.n=some (.cells (wdC w1) 0 none):=by rw[hH2];simp (disch:=try exact dx) only[get_put_same]
 have k1':=e2.kept (by omega) k1
 rw[←hH2]
 clear hH2
 refine call (out_ok (hd1.keep ((E0.trans X1).trans e2).keep)) ?_
 rintro _ h3 ⟨X3,rfl⟩
 have m3:=X3.n
 obtain⟨w2,f2,hw2⟩ : ∃w1 e1,(if InW (q.den:Int) then Value.tuple #[wideV q.den,KI 0] else .tuple #[wdV 0,KI 6])=.tuple #[wdV w1,KI e1]∧(InW (q.den:Int)∧w1=wideN q.den∧e1=0 ∨ ¬InW (q.den:Int)∧e1=6):=by
  by_cases hi:InW (q.den:Int)
  ·exact⟨_,0,by rw[if_pos hi],.inl ⟨hi,rfl,rfl⟩⟩
  ·exact⟨0,6,by rw[if_neg hi],.inr ⟨hi,rfl⟩⟩
 rw[hw2.1]
 have ga3:=X3.kept (by omega) ga
 have k3:=X3.kept (by omega) k1'
 have xx:=((E0.trans X1).trans e2).trans X3
 rcases hw.2 with⟨i1,rfl,rfl⟩|⟨i1,rfl⟩
 ·rcases hw2.2 with⟨i2,rfl,rfl⟩|⟨i2,rfl⟩
  ·rw[if_pos (show QW q from⟨i1,i2⟩)]
   simp -dsimp (maxSteps:=1000000) (disch:=try exact dx) only[wpS,wpT,reduceEqDiff,reduceLeDiff,reduceAdd,zc45,st45,bv47,st47,ld45,pl47_0,pl47_1,ld47,cells8,wdC_len,wdC_all,wd_spl,row_of ga3,k3,wd_take,sh_sp1,sh_sp2,sh_sp3,shC_len,shC_all,sh_take]
   exact⟨(((xx.new _).put (by omega) _).put (by omega) _),rfl⟩
  ·rw[if_neg (show ¬QW q from fun h=>i2 h.2)]
   simp -dsimp (maxSteps:=1000000) (disch:=try exact dx) only[wpS,wpT,reduceEqDiff,reduceLeDiff,reduceAdd,zc45,st45,bv47,st47,ld47,cells8,wdC_len,wdC_all,wd_spl,k3,sh_tz]
   exact⟨(((xx.new _).put (by omega) _).put (by omega) _),by rw[sh_zeroV]⟩
 ·rw[if_neg (show ¬QW q from fun h=>i1 h.1)]
  simp -dsimp (maxSteps:=1000000) (disch:=try exact dx) only[wpS,wpT,reduceEqDiff,reduceLeDiff,reduceAdd,zc45,st45,bv47,st47,ld47,cells8,wdC_len,wdC_all,wd_spl,k3,sh_tz]
  exact⟨(((xx.new _).put (by omega) _).put (by omega) _),by rw[sh_zeroV]⟩
theorem ref02Of_ok {h:IH} (n d:Int) (hn:In64 n) (hd:In64 d) (d0:d≠0):WV Proofs.Tryz.prog (.func (.func 46) #[] #[]) [KI n,KI d] h fun r h'=>Ext h h'∧r=.tuple #[shareV (Rat.divInt n d),KI 0]:=by
 have hd':(d == 0)=false:=by simpa using d0
 refine enter (nt:=15) (rs:=[.cell 4 47,.tmp 5]) Proofs.Tryz.func46 rfl rfl rfl (by simp) ?_
 simp -dsimp (maxSteps:=1000000) (disch:=try exact dx) only[wpS,reduceEqDiff,reduceAdd,zc47,hd']
 have E1:Ext h (h.new (.cells Z16 0 none)):=(Ext.refl h).new _
 have g1:(h.new (.cells Z16 0 none)).ext.get h.n=some (.cells Z16 0 none):=by simp (disch:=try exact dx) only[get_new_same]
 refine call (quick_ok n d hn hd d0) ?_
 rintro _ h1 ⟨X1,p1⟩
 simp -dsimp (maxSteps:=1000000) (disch:=try exact dx) only[wpS,reduceEqDiff]
 refine call (refout_ok p1) ?_
 rintro _ h2 ⟨X2,rfl⟩
 rw[if_pos (qw_div hn hd d0)]
 have m1:=X1.n
 have m2:=X2.n
 simp only[new_n] at m1
 have kg:=X2.kept (by omega) (X1.kept (by simp) g1)
 simp -dsimp (maxSteps:=1000000) (disch:=try exact dx) only[wpS,wpT,reduceEqDiff,reduceLeDiff,reduceAdd,st47,ld47,kg,shV_cells,shC_len,shC_all,sh_sp3,sh_take]
 exact⟨((E1.trans X1).trans X2).put (by omega) _,rfl⟩
end Go.Id

namespace Go.Id
open Go
def E1 (P:Program) (tb:FuncId→Option (List Value→Option Value)):Env:=⟨P,fun _ _=>none,fun f=>(tb f).map fun g args h=>bif args.all plain then (g args).map (·,h) else none⟩
theorem plain_all {m:Mp} {l l':List Value} (h:LRel m l l') (hp:l.all plain=true):l'=l:=by
 apply List.ext_getElem? fun i=>?_
 by_cases hi:i<l.length
 ·obtain⟨v',h1,h2⟩:=h.get (List.getElem?_eq_getElem hi)
  rw[h1,List.getElem?_eq_getElem hi,h2.plain_eq (by have:=List.all_eq_true.1 hp;exact this _ (List.getElem_mem hi))]
 ·rw[List.getElem?_eq_none (show l'.length≤i from h.1▸Nat.le_of_not_lt hi),List.getElem?_eq_none (Nat.le_of_not_lt hi)]
theorem plain_all_mk {m:Mp} {l:List Value} (hp:l.all plain=true):LRel m l l :=
 ⟨rfl,fun i v v' a b=>by
  rw[a] at b;cases b
  exact .plain_mk (List.all_eq_true.1 hp _ (List.mem_of_getElem? a))⟩
theorem Rel.bare {B:Nat} {w0:World} {m:Mp} {h:IH} {w:World} (R:Rel B w0 m h w):Rel B w0 ⟨fun b=>if b % 2=1 then m b else none,m.ez⟩ (IH.start fun _=>none) w:=by
 have leaf : ∀{α:Type} (k:Nat),(Tr.leaf:Tr α).get k=none:=fun k=>rfl
 have odd : ∀k x,(⟨fun b=>if b % 2=1 then m b else none,m.ez⟩:Mp) (2*k)=some x→False:=by
  intro k x h
  have h1:(if 2*k % 2=1 then m (2*k) else none)=some x:=h
  rw[if_neg (by omega)] at h1;cases h1
 refine⟨R.below,R.size,?_,fun b h=>?_,?_,fun k _=>leaf k,?_,?_,?_,?_,?_,?_⟩
 ·intro b cs h;cases h
 ·show(if (2*b+1) % 2=1 then m (2*b+1) else none)=_
  rw[if_pos (by omega)];exact R.odd b h
 ·intro k r s h;exact(odd _ _ h).elim
 ·intro k o r s h;cases h
 ·intro k k' o o' r s s' _ h;cases h
 ·intro f st h;cases h
 ·intro k cs t f h;cases h
 ·intro f st h;cases h
 ·intro f st x y h;cases h
theorem ObjRel.same {m:Mp} {w w':World} {r s:Nat} {z:Nat×Nat} {o:IObj} (h:ObjRel m w r s z o) (e:w'.heap[r]?=w.heap[r]?):ObjRel m w' r s z o:=by
 cases o<;>simp only[ObjRel] at h ⊢ <;> first|(rw[e];exact h)|trivial
theorem Rel.aside {B:Nat} {w0:World} {m m':Mp} {h h':IH} {w w':World} (R:Rel B w0 m h w) (R':Rel B w0 m' h' w') (S:Step ⟨fun b=>if b % 2=1 then m b else none,m.ez⟩ (IH.start fun _=>none) w m' h' w'):Rel B w0 m h w'∧Step m h w m h w':=by
 have same : ∀r,r<w.heap.size→w'.heap[r]?=w.heap[r]?:=fun r hr=>S.frame r hr fun k s hk=>absurd hk (Nat.not_lt_zero k)
 refine⟨⟨R'.below,R'.size,fun b cs hb=>?_,R.odd,fun k r s hk=>?_,R.dom,fun k o r s hk hm=>?_,R.own,R.famdom,R.fam,R.long,R.whole⟩,
  ⟨Mp.le_refl m,fun b hb=>absurd rfl hb,Nat.le_refl _,rfl,fun r hr _=>same r hr,fun _ _ _=>rfl,S.size,fun k r s h1 h2=>by omega,fun _ _ _ hh=>hh⟩⟩
 ·obtain⟨r,s,h1,h2,c,el,fz,h3,h4⟩:=R.base b cs hb
  exact⟨r,s,h1,h2,c,el,fz,by rw[same r (by have:=R.size;omega)];exact h3,h4⟩
 ·have:=R.even k r s hk
  have:=S.size
  exact⟨by omega,by omega⟩
 ·exact(R.obj k o r s hk hm).same (same r (R.even k r s hm).2)
def plainT:Value→Bool
 | .tuple vs=>vs.toList.all plain
 | v=>plain v
theorem VRel.plainT_eq {m:Mp} {v v':Value} (h:VRel m v v') (hv:plainT v=true):v'=v:=by
 unfold plainT at hv
 split at hv
 ·obtain⟨cs',rfl,h2⟩:=h.tuple_inv
  have:=LRel.plain_eq h2 hv
  exact congrArg Value.tuple (Array.ext' this)
 ·exact h.plain_eq hv
theorem VRel.plainT_mk {m:Mp} {v:Value} (hv:plainT v=true):VRel m v v:=by
 unfold plainT at hv
 split at hv
 ·exact VRel.tuple_iff (plain_all_mk hv)
 ·exact .plain_mk hv
def Gives (P:Program) (f:FuncId) (args:List Value) (v:Value):Prop :=
 ∀(B:Nat) (w0:World) (m:Mp) (h:IH) (w:World),Rel B w0 m h w → ∃h2,CallsTo P f args.toArray B w0 ⟨fun b=>if b % 2=1 then m b else none,m.ez⟩ (IH.start fun _=>none) w v h2
theorem gives_run {E:Env} (S:Sound E) {n:Nat} {f:FuncId} {args:List Value} {v:Value} {h2:IH} (hr:callV E (n+1) (.func (.func f) #[] #[]) args (IH.start fun _=>none)=some (v,h2)) (hb : ∃fn,E.P.funcs[f]?=some fn∧fn.body.isSome=true) (hp:args.all plain=true):Gives E.P f args v:=by
 intro B w0 m h w R
 refine⟨h2,?_⟩
 have hc:=hr
 unfold callV at hc
 have fresh:Fresh ⟨fun b=>if b % 2=1 then m b else none,m.ez⟩ (IH.start fun _=>none).n h2.n:=fun k _ _=>by
  show(if 2*k % 2=1 then m (2*k) else none)=none
  rw[if_neg (by omega)]
 obtain⟨fn,hfn,hb⟩:=hb
 rcases callFn_sim S (callV_sim S n) (callV_mono S n) hc R.bare (args':=args.toArray) (by simpa using plain_all_mk hp) fresh with⟨_,k⟩|⟨fn',k1,k2,_⟩
 ·exact k
 ·have k3:E.P.funcs[f]?=some fn':=k1
  rw[hfn] at k3;cases k3
  rw[k2] at hb;cases hb
theorem gives_wv {P:Program} (S:Sound (E0 P)) {f:FuncId} {args:List Value} {v:Value} (hb : ∃fn,P.funcs[f]?=some fn∧fn.body.isSome=true) (hp:args.all plain=true) (h:WV P (.func (.func f) #[] #[]) args (IH.start fun _=>none) fun r _=>r=v):Gives P f args v:=by
 obtain⟨⟨r,h2⟩,⟨N,hN⟩,hr⟩:=h
 simp only at hr
 subst hr
 exact gives_run (E:=E0 P) S (hN (N+1) (by omega)) hb hp
theorem sound1 {P:Program} {tb:FuncId→Option (List Value→Option Value)} (S:Sound (E0 P)) (hf : ∀f g,tb f=some g → ∃fn,P.funcs[f]?=some fn∧fn.body.isSome=true)
  (hv : ∀f g,tb f=some g → ∀args v,args.all plain=true→g args=some v→plainT v=true∧Gives P f args v):Sound (E1 P tb) where
 mixed:=S.mixed
 names:=S.names
 origin:=S.origin
 intrN:=fun f g hg args h v h' e=>by
  obtain⟨g0,h1,rfl⟩:=Option.map_eq_some_iff.1 hg
  simp only[cond_eq_ite] at e
  split at e
  ·obtain⟨v0,_,e2⟩:=Option.map_eq_some_iff.1 e
   cases e2;exact Nat.le_refl _
  ·cases e
 intr:=fun f g hg=>by
  obtain⟨g0,h1,rfl⟩:=Option.map_eq_some_iff.1 hg
  refine⟨hf f g0 h1,fun args h v h' e B w0 m w args' R hargs _=>?_⟩
  simp only[cond_eq_ite] at e
  split at e
  case isFalse=>cases e
  rename_i hp
  obtain⟨v0,e1,e2⟩:=Option.map_eq_some_iff.1 e
  cases e2
  obtain⟨hpl,hg⟩:=hv f g0 h1 args v hp e1
  obtain⟨h2,key⟩:=hg B w0 m h w R
  have ea:args.toArray=args':=by
   rw[←plain_all hargs hp]
  rw[ea] at key
  refine key.mono fun e' w' ⟨v',m',he,hvr,R',S'⟩=>?_
  obtain⟨R2,S2⟩:=R.aside R' S'
  exact⟨v',m,he,by rw[hvr.plainT_eq hpl];exact .plainT_mk hpl,R2,S2⟩
end Go.Id

namespace Go.Id
open Go
noncomputable section
def fN {α:Type} (x:Nat) (k:Nat→α):α:=Nat.rec (motive:=fun _=>α) (k 0) (fun m _=>k (Nat.succ m)) x
theorem fN_eq {α:Type} (x:Nat) (k:Nat→α):fN x k=k x:=by cases x<;>rfl
def bO {α β:Type} (o:Option α) (k:α→Option β):Option β:=Option.rec (motive:=fun _=>Option β) none k o
@[simp] theorem bO_some {α β:Type} (a:α) (k:α→Option β):bO (some a) k=k a:=rfl
@[simp] theorem bO_none {α β:Type} (k:α→Option β):bO none k=none:=rfl
def iB {α:Type} (b:Bool) (x y:α):α:=Bool.rec (motive:=fun _=>α) y x b
theorem iB_eq {α:Type} (b:Bool) (x y:α):iB b x y=cond b x y:=by cases b<;>rfl
@[simp] theorem iB_true {α:Type} (x y:α):iB true x y=x:=rfl
@[simp] theorem iB_false {α:Type} (x y:α):iB false x y=y:=rfl
theorem bleI {a b:Nat}:Nat.ble a b=true↔a≤b:=by rw[Nat.ble_eq]
theorem beqN (a b:Nat):(a == b)=Nat.beq a b:=by
 rw[Bool.eq_iff_iff];simp[Nat.beq_eq]
def fgetF (fr:Fr) (t:Nat):Option Value:=List.rec (motive:=fun _=>Option Value) none (fun p _ ih=>Bool.rec (motive:=fun _=>Option Value) ih (some p.2) (Nat.beq p.1 t)) fr
theorem fgetF_eq : ∀(fr:Fr) (t:Nat),fgetF fr t=fget fr t
 | [],_=>rfl
 | (s,v) :: r,t=>by
  show Bool.rec (motive:=fun _=>Option Value) (fgetF r t) (some v) (Nat.beq s t)=bif s == t then some v else fget r t
  rw[fgetF_eq r t,beqN]
  cases Nat.beq s t<;>rfl
def putF (nt:Nat) (fr:Fr) (d:Option Nat) (v:Value):Option Fr:=Option.rec (motive:=fun _=>Option Fr) (some fr) (fun d=>Bool.rec (motive:=fun _=>Option Fr) none (some ((d,v) :: fr)) (Nat.ble (Nat.succ d) nt)) d
theorem putF_eq (nt:Nat) (fr:Fr) (d:Option Nat) (v:Value):putF nt fr d v=fput nt fr d v:=by
 cases d with
 | none=>rfl
 | some d =>
  show Bool.rec (motive:=fun _=>Option Fr) none (some ((d,v) :: fr)) (Nat.ble (Nat.succ d) nt)=bif Nat.blt d nt then some ((d,v) :: fr) else none
  rw[show Nat.blt d nt=Nat.ble (Nat.succ d) nt from rfl]
  cases Nat.ble (Nat.succ d) nt<;>rfl
def opdTmp (t:Tmp) (fr:Fr):Option Value:=fgetF fr t
def opdConst (v:Value) (_:Fr):Option Value:=Bool.rec (motive:=fun _=>Option Value) none (some v) (plain v)
def opdGlobal (g:Nat) (_:Fr):Option Value:=bif Nat.blt g 4294967296 then some (.pointer (some ⟨2*g+1,0,none⟩)) else none
def opdFunc (f:FuncId) (_:Fr):Option Value:=some (.func (.func f) #[] #[])
def opdF (x:Operand) (fr:Fr):Option Value:=Operand.rec (motive:=fun _=>Fr→Option Value) opdTmp opdConst opdGlobal opdFunc x fr
theorem opdF_eq (x:Operand) (fr:Fr):opdF x fr=opd fr x:=by
 cases x with
 | tmp t=>exact fgetF_eq fr t
 | const v =>
  show Bool.rec (motive:=fun _=>Option Value) none (some v) (plain v)=bif plain v then some v else none
  cases plain v<;>rfl
 | global g=>rfl
 | func f=>rfl
def opdsF (l:List Operand) (fr:Fr):Option (List Value):=List.rec (motive:=fun _=>Option (List Value)) (some []) (fun x _ ih=>bO (opdF x fr) fun v=>bO ih fun vs=>some (v :: vs)) l
theorem opdsF_eq : ∀(l:List Operand) (fr:Fr),opdsF l fr=opds fr l
 | [],_=>rfl
 | x :: l,fr=>by
  show bO (opdF x fr) (fun v=>bO (opdsF l fr) fun vs=>some (v :: vs))=_
  rw[opdF_eq,opdsF_eq l fr,opds]
  cases opd fr x<;>cases opds fr l<;>rfl
def trGet {α:Type} (t:Tr α) (n:Nat):Option α:=Tr.rec (motive:=fun _=>Nat→Option α) (fun _=>none) (fun _ v _ gl gr n=>Bool.rec (motive:=fun _=>Option α) (Bool.rec (motive:=fun _=>Option α) (gr (Nat.div (Nat.sub n 1) 2)) (gl (Nat.div n 2)) (Nat.beq (Nat.mod n 2) 1)) v (Nat.beq n 0)) t n
theorem trGet_eq {α:Type} : ∀(t:Tr α) (n:Nat),trGet t n=t.get n
 | .leaf,_=>rfl
 | .node l v r,n=>by
  show Bool.rec (motive:=fun _=>Option α) (Bool.rec (motive:=fun _=>Option α) (trGet r (Nat.div (Nat.sub n 1) 2)) (trGet l (Nat.div n 2)) (Nat.beq (Nat.mod n 2) 1)) v (Nat.beq n 0)=bif n == 0 then v else bif n % 2 == 1 then l.get (n / 2) else r.get ((n - 1) / 2)
  rw[trGet_eq l,trGet_eq r,beqN,beqN]
  show Bool.rec (motive:=fun _=>Option α) (Bool.rec (motive:=fun _=>Option α) (r.get ((n - 1) / 2)) (l.get (n / 2)) (Nat.beq (n % 2) 1)) v (Nat.beq n 0)=_
  cases Nat.beq n 0<;>cases Nat.beq (n % 2) 1<;>rfl
def trOne {α:Type} (x:α) (f n:Nat):Tr α:=Nat.rec (motive:=fun _=>Nat→Tr α) (fun _=>.node .leaf (some x) .leaf) (fun _ ih n=>Bool.rec (motive:=fun _=>Tr α) (Bool.rec (motive:=fun _=>Tr α) (.node .leaf none (ih (Nat.div (Nat.sub n 1) 2))) (.node (ih (Nat.div n 2)) none .leaf) (Nat.beq (Nat.mod n 2) 1)) (.node .leaf (some x) .leaf) (Nat.beq n 0)) f n
theorem trOne_eq {α:Type} (x:α) : ∀(f n:Nat),trOne x f n=Tr.one f n x
 | 0,_=>rfl
 | f+1,n=>by
  show Bool.rec (motive:=fun _=>Tr α) (Bool.rec (motive:=fun _=>Tr α) (.node .leaf none (trOne x f (Nat.div (Nat.sub n 1) 2))) (.node (trOne x f (Nat.div n 2)) none .leaf) (Nat.beq (Nat.mod n 2) 1)) (.node .leaf (some x) .leaf) (Nat.beq n 0)=_
  rw[trOne_eq x f,trOne_eq x f,Tr.one,beqN,beqN]
  show Bool.rec (motive:=fun _=>Tr α) (Bool.rec (motive:=fun _=>Tr α) (.node .leaf none (Tr.one f ((n - 1) / 2) x)) (.node (Tr.one f (n / 2) x) none .leaf) (Nat.beq (n % 2) 1)) (.node .leaf (some x) .leaf) (Nat.beq n 0)=_
  cases Nat.beq n 0<;>cases Nat.beq (n % 2) 1<;>rfl
def trSet {α:Type} (x:α) (t:Tr α) (n:Nat):Tr α:=Tr.rec (motive:=fun _=>Nat→Tr α) (fun n=>trOne x n n) (fun l v r sl sr n=>Bool.rec (motive:=fun _=>Tr α) (Bool.rec (motive:=fun _=>Tr α) (.node l v (sr (Nat.div (Nat.sub n 1) 2))) (.node (sl (Nat.div n 2)) v r) (Nat.beq (Nat.mod n 2) 1)) (.node l (some x) r) (Nat.beq n 0)) t n
theorem trSet_eq {α:Type} (x:α) : ∀(t:Tr α) (n:Nat),trSet x t n=t.set n x
 | .leaf,n=>trOne_eq x n n
 | .node l v r,n=>by
  show Bool.rec (motive:=fun _=>Tr α) (Bool.rec (motive:=fun _=>Tr α) (.node l v (trSet x r (Nat.div (Nat.sub n 1) 2))) (.node (trSet x l (Nat.div n 2)) v r) (Nat.beq (Nat.mod n 2) 1)) (.node l (some x) r) (Nat.beq n 0)=_
  rw[trSet_eq x l,trSet_eq x r,Tr.set,beqN,beqN]
  show Bool.rec (motive:=fun _=>Tr α) (Bool.rec (motive:=fun _=>Tr α) (.node l v (r.set ((n - 1) / 2) x)) (.node (l.set (n / 2) x) v r) (Nat.beq (n % 2) 1)) (.node l (some x) r) (Nat.beq n 0)=_
  cases Nat.beq n 0<;>cases Nat.beq (n % 2) 1<;>rfl
def trPut {α β:Type} (x:α) (t:Tr α) (n:Nat) (k:Tr α→β):β:=Option.rec (motive:=fun _=>β) (k (trSet x t n)) (fun _=>k (trSet x t n)) (trGet (trSet x t n) n)
theorem trPut_eq {α β:Type} (x:α) (t:Tr α) (n:Nat) (k:Tr α→β):trPut x t n k=k (t.set n x):=by
 unfold trPut
 rw[trSet_eq]
 cases trGet (t.set n x) n<;>rfl
def dropF (n:Nat) (l:List Value):List Value:=Nat.rec (motive:=fun _=>List Value→List Value) (fun l=>l) (fun _ ih l=>List.rec (motive:=fun _=>List Value) [] (fun _ l _=>ih l) l) n l
theorem dropF_eq : ∀(n:Nat) (l:List Value),dropF n l=l.drop n
 | 0,_=>rfl
 | n+1,[]=>rfl
 | n+1,_ :: l=>dropF_eq n l
def takeF (n:Nat) (l:List Value):Option (List Value):=Nat.rec (motive:=fun _=>List Value→Option (List Value)) (fun _=>some []) (fun _ ih l=>List.rec (motive:=fun _=>Option (List Value)) none (fun a l _=>bO (ih l) fun r=>some (a :: r)) l) n l
theorem takeF_eq : ∀(n:Nat) (l:List Value),takeF n l=bif Nat.ble n l.length then some (l.take n) else none
 | 0,_=>rfl
 | n+1,[]=>rfl
 | n+1,a :: l=>by
  show bO (takeF n l) (fun r=>some (a :: r))=_
  rw[takeF_eq n l]
  show _=bif Nat.ble n l.length then some (a :: l.take n) else none
  cases Nat.ble n l.length<;>rfl
def takeL (n:Nat) (l:List Value):List Value:=Nat.rec (motive:=fun _=>List Value→List Value) (fun _ => []) (fun _ ih l=>List.rec (motive:=fun _=>List Value) [] (fun a l _=>a :: ih l) l) n l
theorem takeL_eq : ∀(n:Nat) (l:List Value),takeL n l=l.take n
 | 0,_=>rfl
 | n+1,[]=>rfl
 | n+1,a :: l=>congrArg (a :: ·) (takeL_eq n l)
def nthF (n:Nat) (l:List Value):Option Value:=List.rec (motive:=fun _=>Option Value) none (fun a _ _=>some a) (dropF n l)
theorem nthF_eq (n:Nat) (l:List Value):nthF n l=l[n]?:=by
 unfold nthF
 rw[dropF_eq,←List.head?_drop]
 cases l.drop n<;>rfl
def appF (l m:List Value):List Value:=List.rec (motive:=fun _=>List Value) m (fun a _ ih=>a :: ih) l
theorem appF_eq : ∀(l m:List Value),appF l m=l ++ m
 | [],_=>rfl
 | a :: l,m=>congrArg (a :: ·) (appF_eq l m)
def lenL (l:List Value):Nat:=List.rec (motive:=fun _=>Nat) 0 (fun _ _ ih=>Nat.succ ih) l
theorem lenL_eq : ∀(l:List Value),lenL l=l.length
 | []=>rfl
 | _ :: l=>congrArg Nat.succ (lenL_eq l)
def allF (p:Value→Bool) (l:List Value):Bool:=List.rec (motive:=fun _=>Bool) true (fun a _ ih=>Bool.rec (motive:=fun _=>Bool) false ih (p a)) l
theorem allF_eq (p:Value→Bool) : ∀(l:List Value),allF p l=l.all p
 | []=>rfl
 | a :: l=>by
  show Bool.rec (motive:=fun _=>Bool) false (allF p l) (p a)=_
  rw[allF_eq p l,List.all_cons]
  cases p a<;>rfl
def overF (vs cs:List Value):Option (List Value):=List.rec (motive:=fun _=>List Value→Option (List Value)) (fun cs=>some cs) (fun v _ ih cs=>List.rec (motive:=fun _=>Option (List Value)) none (fun _ l _=>bO (ih l) fun r=>some (v :: r)) cs) vs cs
theorem overF_eq : ∀(vs cs:List Value),overF vs cs=bif Nat.ble vs.length cs.length then some (vs ++ cs.drop vs.length) else none
 | [],_=>rfl
 | _ :: _,[]=>rfl
 | v :: vs,c :: cs=>by
  show bO (overF vs cs) (fun r=>some (v :: r))=bif Nat.ble vs.length cs.length then some (v :: (vs ++ cs.drop vs.length)) else none
  rw[overF_eq vs cs]
  cases Nat.ble vs.length cs.length<;>rfl
def spliceF (o:Nat) (vs cs:List Value):Option (List Value):=Nat.rec (motive:=fun _=>List Value→Option (List Value)) (fun cs=>overF vs cs) (fun _ ih cs=>List.rec (motive:=fun _=>Option (List Value)) none (fun a l _=>bO (ih l) fun r=>some (a :: r)) cs) o cs
theorem spliceF_some (vs:List Value) : ∀(o:Nat) (cs:List Value),spliceF o vs cs=bif Nat.ble (o+vs.length) cs.length then some (IH.splice cs o vs) else none
 | 0,cs=>by
  show overF vs cs=_
  rw[overF_eq,Nat.zero_add]
  show _=bif Nat.ble vs.length cs.length then some (cs.take 0 ++ (vs ++ cs.drop (0+vs.length))) else none
  rw[Nat.zero_add,List.take_zero];rfl
 | o+1,[]=>by
  rw[show o+1+vs.length=(o+vs.length)+1 from by omega];rfl
 | o+1,c :: cs=>by
  show bO (spliceF o vs cs) (fun r=>some (c :: r))=_
  rw[spliceF_some vs o cs,show o+1+vs.length=(o+vs.length)+1 from by omega]
  show _=bif Nat.ble (o+vs.length) cs.length then some (IH.splice (c :: cs) (o+1) vs) else none
  rw[show IH.splice (c :: cs) (o+1) vs=c :: IH.splice cs o vs from by simp[IH.splice,show o+1+vs.length=(o+vs.length)+1 from by omega]]
  cases Nat.ble (o+vs.length) cs.length<;>rfl
def replF (n:Nat) (z:List Value):List Value:=Nat.rec (motive:=fun _=>List Value) [] (fun _ ih=>appF z ih) n
theorem replF_eq (z:List Value) : ∀n,replF n z=repl n z
 | 0=>rfl
 | n+1=>by
  show appF z (replF n z)=_
  rw[appF_eq,replF_eq z n];rfl
def cellsL (v:Value):List Value:=match v with
 | .agg cs=>cs.toList
 | v => [v]
theorem cellsL_eq (v:Value):cellsL v=v.cells.toList:=by cases v<;>rfl
def cellF (v:Value):Bool:=match v with
 | .agg _=>false
 | .tuple _=>false
 | _=>true
theorem cellF_eq:cellF=cellOK:=by funext v;cases v<;>rfl
def cellsOf (o:IObj):Option (List Value):=match o with
 | .cells cs _ _=>some cs
 | _=>none
def rowF (h:IH) (b:Nat):Option (List Value):=Bool.rec (motive:=fun _=>Option (List Value)) (bO (trGet h.ext (Nat.div b 2)) cellsOf) (h.base (Nat.div b 2)) (Nat.beq (Nat.mod b 2) 1)
theorem rowF_eq (h:IH) (b:Nat):rowF h b=h.row b:=by
 unfold rowF IH.row
 rw[beqN,trGet_eq]
 show Bool.rec (motive:=fun _=>Option (List Value)) (bO (h.ext.get (b / 2)) cellsOf) (h.base (b / 2)) (Nat.beq (b % 2) 1)=_
 cases Nat.beq (b % 2) 1
 ·show bO (h.ext.get (b / 2)) cellsOf=match h.ext.get (b / 2) with|some (.cells cs _ _)=>some cs|_=>none
  cases h.ext.get (b / 2) with
  | none=>rfl
  | some o=>cases o<;>rfl
 ·rfl
theorem rdT_of {cs:List Value} {o n:Nat}:(bif Nat.ble (o+n) cs.length then some ((cs.drop o).take n) else none:Option (List Value))=if n=0 then (bif Nat.ble o cs.length then some [] else none) else takeF n (cs.drop o):=by
 rw[takeF_eq,List.length_drop]
 split
 ·subst n;rfl
 ·have e:Nat.ble (o+n) cs.length=Nat.ble n (cs.length - o):=by
   rw[Bool.eq_iff_iff];simp only[Nat.ble_eq];omega
  rw[e]
def rd1 (h:IH) (b o:Nat):Option Value:=bO (rowF h b) fun cs=>nthF o cs
theorem rd1_eq (h:IH) (b o:Nat):rd1 h b o=(h.rd b o 1).bind (·.head?):=by
 unfold rd1 IH.rd
 rw[rowF_eq]
 cases h.row b with
 | none=>rfl
 | some cs =>
  simp only[bO_some,nthF_eq]
  by_cases hl:o<cs.length
  ·rw[show Nat.ble (o+1) cs.length=true from bleI.2 hl]
   simp only[cond_true,Option.bind_some,List.head?_take,List.head?_drop]
   simp
  ·rw[show Nat.ble (o+1) cs.length=false from by rw[Bool.eq_false_iff];simp only[ne_eq,Nat.ble_eq];omega]
   simp[List.getElem?_eq_none (Nat.le_of_not_lt hl)]
def rdN (h:IH) (b o n:Nat):Option (List Value):=bO (rowF h b) fun cs=>takeF n (dropF o cs)
theorem rdN_eq (h:IH) (b o n:Nat) (hn:n≠0):rdN h b o n=h.rd b o n:=by
 unfold rdN IH.rd
 rw[rowF_eq]
 cases h.row b with
 | none=>rfl
 | some cs =>
  simp only[bO_some,dropF_eq]
  exact((rdT_of (cs:=cs) (o:=o) (n:=n)).trans (if_neg hn)).symm
def loadF (P:Program) (h:IH) (t:TypeId) (v:Value):Option Value:=match v with
 | .pointer (some ⟨b,o,none⟩)=>bO (isAggT P t) fun g=>iB g (bO (sizeT P t) fun n=>bO (iB (Nat.beq n 0) (h.rd b o n) (rdN h b o n)) fun l=>some (Value.agg ⟨l⟩)) (rd1 h b o)
 | _=>none
theorem loadF_eq (P:Program) (h:IH) (t:TypeId) (v:Value):loadF P h t v=load P h t v:=by
 unfold loadF load
 split
 ·rename_i b o
  rw[show asAddr (.pointer (some ⟨b,o,none⟩))=some (b,o) from rfl]
  cases isAggT P t with
  | none=>cases sizeT P t<;>rfl
  | some g =>
   cases g with
   | false=>simp only[bO_some,iB_false,rd1_eq]
   | true =>
    simp only[bO_some,iB_true]
    cases sizeT P t with
    | none=>rfl
    | some n =>
     simp only[bO_some]
     have e:iB (Nat.beq n 0) (h.rd b o n) (rdN h b o n)=h.rd b o n:=by
      by_cases hn:n=0
      ·subst hn;rfl
      ·rw[rdN_eq h b o n hn,iB_eq];cases Nat.beq n 0<;>rfl
     rw[e]
     cases h.rd b o n<;>rfl
 ·rename_i hv
  have:asAddr v=none:=by
   unfold asAddr
   split
   ·exact absurd rfl (hv _ _)
   ·rfl
  rw[this]
def newF {β:Type} (h:IH) (o:IObj) (k:Nat→IH→β):β:=fN h.n fun n=>trPut o h.ext n fun e=>k n ⟨h.base,Nat.succ n,e,h.fams⟩
theorem newF_eq {β:Type} (h:IH) (o:IObj) (k:Nat→IH→β):newF h o k=k h.n (h.new o):=by
 unfold newF
 rw[fN_eq,trPut_eq];rfl
def setF {β:Type} (h:IH) (b:Nat) (o:IObj) (k:IH→β):β:=trPut o h.ext b fun e=>k ⟨h.base,h.n,e,h.fams⟩
theorem setF_eq {β:Type} (h:IH) (b:Nat) (o:IObj) (k:IH→β):setF h b o k=k { h with ext:=h.ext.set b o }:=by
 exact trPut_eq _ _ _ _
def wrF (h:IH) (b o:Nat) (vs:List Value):Option IH:=iB (Nat.beq (Nat.mod b 2) 1) none (bO (trGet h.ext (Nat.div b 2)) fun ob=>match ob with
 | .cells cs t none=>bO (spliceF o vs cs) fun cs=>setF h (Nat.div b 2) (.cells cs t none) some
 | .cells _ _ (some _)=>h.wr b o vs
 | _=>none)
theorem wrF_eq (h:IH) (b o:Nat) (vs:List Value):wrF h b o vs=h.wr b o vs:=by
 unfold wrF
 rw[trGet_eq]
 show iB (Nat.beq (b % 2) 1) none (bO (h.ext.get (b / 2)) _)=_
 cases hb:Nat.beq (b % 2) 1
 ·rw[iB_false]
  cases hg:h.ext.get (b / 2) with
  | none =>
   unfold IH.wr
   rw[beqN,hb,hg];rfl
  | some ob =>
   rw[bO_some]
   split
   ·unfold IH.wr
    rw[beqN,hb,hg]
    simp only[cond_false,spliceF_some]
    rename_i cs t
    cases Nat.ble (o+vs.length) cs.length
    ·rfl
    ·simp only[cond_true,bO_some,setF_eq];rfl
   ·rfl
   ·unfold IH.wr
    rw[beqN,hb,hg]
    simp only[cond_false]
    split
    ·rename_i h1 h2 _ _ _ _ h4
     cases h4
     rename_i fam
     cases fam
     ·exact absurd rfl (h1 _ _)
     ·exact absurd rfl (h2 _ _ _)
    ·rfl
 ·rw[iB_true]
  unfold IH.wr
  rw[beqN,hb];rfl
def storeF (P:Program) (h:IH) (t:TypeId) (a v:Value):Option IH:=match a with
 | .pointer (some ⟨b,o,none⟩)=>bO (sizeT P t) fun n=>iB (Nat.beq (lenL (cellsL v)) n) (iB (allF cellF (cellsL v)) (wrF h b o (cellsL v)) none) none
 | _=>none
theorem storeF_eq (P:Program) (h:IH) (t:TypeId) (a v:Value):storeF P h t a v=store P h t a v:=by
 unfold storeF store
 split
 ·rename_i b o
  show _=match some (b,o),sizeT P t with|some (b,o),some n=>(bif v.cells.size == n && v.cells.toList.all cellOK then h.wr b o v.cells.toList else none)|_,_=>none
  cases sizeT P t with
  | none=>rfl
  | some n =>
   simp only[bO_some,cellsL_eq,lenL_eq,allF_eq,cellF_eq,wrF_eq,iB_eq,beqN,Array.length_toList]
   cases Nat.beq v.cells.size n<;>cases v.cells.toList.all cellOK<;>rfl
 ·rename_i hv
  have:asAddr a=none:=by
   unfold asAddr
   split
   ·exact absurd rfl (hv _ _)
   ·rfl
  rw[this]
def limF (k:IntKind):Nat:=IntKind.rec (motive:=fun _=>Nat) 128 32768 2147483648 9223372036854775808 256 65536 4294967296 18446744073709551616 k
theorem wrap_lim {k:IntKind} {n:Nat} (h:n<limF k):k.wrap (n:Int)=n:=by
 cases k
 ·exact IntWalk.i8_in _ (by simp only[limF] at h;omega)
 ·exact IntWalk.i16_in _ (by simp only[limF] at h;omega)
 ·exact IntWalk.i32_in _ (by simp only[limF] at h;omega)
 ·exact IntWalk.i64_in _ (by simp only[limF] at h;omega)
 ·exact IntWalk.u8_in _ (by simp only[limF] at h;omega)
 ·exact IntWalk.u16_in _ (by simp only[limF] at h;omega)
 ·exact IntWalk.u32_in _ (by simp only[limF] at h;omega)
 ·exact IntWalk.u64_in _ (by simp only[limF] at h;omega)
def okI (k:IntKind) (n:Nat):Option Value:=fN n fun s=>iB (Nat.ble (Nat.succ s) (limF k)) (some (.int k (.ofNat s))) none
def addF (k:IntKind) (a b:Nat):Option Value:=okI k (Nat.add a b)
def subF (k:IntKind) (a b:Nat):Option Value:=iB (Nat.ble b a) (okI k (Nat.sub a b)) none
def mulF (k:IntKind) (a b:Nat):Option Value:=okI k (Nat.mul a b)
def quoF (k:IntKind) (a b:Nat):Option Value:=iB (Nat.beq b 0) none (okI k (Nat.div a b))
def remF (k:IntKind) (a b:Nat):Option Value:=iB (Nat.beq b 0) none (okI k (Nat.mod a b))
def noF (_:IntKind) (_ _:Nat):Option Value:=none
def eqlF (_:IntKind) (a b:Nat):Option Value:=some (.bool (Nat.beq a b))
def neqF (_:IntKind) (a b:Nat):Option Value:=some (.bool (not (Nat.beq a b)))
def lssF (_:IntKind) (a b:Nat):Option Value:=some (.bool (Nat.ble (Nat.succ a) b))
def leqF (_:IntKind) (a b:Nat):Option Value:=some (.bool (Nat.ble a b))
def gtrF (_:IntKind) (a b:Nat):Option Value:=some (.bool (Nat.ble (Nat.succ b) a))
def geqF (_:IntKind) (a b:Nat):Option Value:=some (.bool (Nat.ble b a))
def is64 (k:IntKind):Bool:=IntKind.rec (motive:=fun _=>Bool) false false false true false false false true k
def isU64 (k:IntKind):Bool:=IntKind.rec (motive:=fun _=>Bool) false false false false false false false true k
def andF (k:IntKind) (a b:Nat):Option Value:=iB (isU64 k) (iB (Nat.ble (Nat.succ a) 18446744073709551616) (iB (Nat.ble (Nat.succ b) 18446744073709551616) (okI k (Nat.land a b)) none) none) none
def orF (k:IntKind) (a b:Nat):Option Value:=iB (isU64 k) (iB (Nat.ble (Nat.succ a) 18446744073709551616) (iB (Nat.ble (Nat.succ b) 18446744073709551616) (okI k (Nat.lor a b)) none) none) none
def binF (op:BinOp) (k:IntKind) (a b:Nat):Option Value:=BinOp.rec (motive:=fun _=>IntKind→Nat→Nat→Option Value) addF subF mulF quoF remF andF orF noF noF noF noF eqlF neqF lssF leqF gtrF geqF op k a b
theorem okI_some {k:IntKind} {n:Nat} {v:Value} (h:okI k n=some v):n<limF k∧v=.int k (n:Int):=by
 unfold okI at h
 rw[fN_eq,iB_eq] at h
 cases hb:Nat.ble (Nat.succ n) (limF k) with
 | false=>rw[hb] at h;cases h
 | true =>
  rw[hb] at h;cases h
  exact⟨bleI.1 hb,rfl⟩
theorem iB_some {α:Type} {b:Bool} {x:Option α} {v:α} (h:iB b x none=some v):b=true∧x=some v:=by
 cases b
 ·cases h
 ·exact⟨rfl,h⟩
theorem iB_some' {α:Type} {b:Bool} {x:Option α} {v:α} (h:iB b none x=some v):b=false∧x=some v:=by
 cases b
 ·exact⟨rfl,h⟩
 ·cases h
theorem ble_dec (a b:Nat):Nat.ble a b=decide ((a:Int)≤(b:Int)):=by
 rw[Bool.eq_iff_iff];simp only[Nat.ble_eq,decide_eq_true_eq];omega
theorem blt_dec (a b:Nat):Nat.ble (Nat.succ a) b=decide ((a:Int)<(b:Int)):=by
 rw[Bool.eq_iff_iff];simp only[Nat.ble_eq,decide_eq_true_eq];omega
theorem beq_dec (a b:Nat):Nat.beq a b=((a:Int) == (b:Int)):=by
 rw[Bool.eq_iff_iff];simp only[Nat.beq_eq,beq_iff_eq];omega
theorem binF_some {P:Program} {op:BinOp} {t:TypeId} {ox oy:Operand} {k:IntKind} {a b:Nat} {v:Value} (h:binF op k a b=some v):binop P op t ox oy (.int k (a:Int)) (.int k (b:Int))=some v:=by
 cases op
 case add =>
  obtain⟨h1,rfl⟩:=okI_some (n:=a+b) h
  rw[binop_add]
  exact congrArg (fun x=>some (Value.int k x)) (by rw[show(a:Int)+b=((a+b:Nat):Int) from by omega];exact wrap_lim h1)
 case sub =>
  obtain⟨h0,h⟩:=iB_some (b:=Nat.ble b a) h
  obtain⟨h1,rfl⟩:=okI_some (n:=a - b) h
  have h2:=bleI.1 h0
  rw[binop_sub]
  exact congrArg (fun x=>some (Value.int k x)) (by rw[show(a:Int) - b=((a - b:Nat):Int) from by omega];exact wrap_lim h1)
 case mul =>
  obtain⟨h1,rfl⟩:=okI_some (n:=a*b) h
  rw[binop_mul]
  exact congrArg (fun x=>some (Value.int k x)) (by rw[←Int.natCast_mul];exact wrap_lim h1)
 case quo =>
  obtain⟨h0,h⟩:=iB_some' (b:=Nat.beq b 0) h
  obtain⟨h1,rfl⟩:=okI_some (n:=a / b) h
  have hb:b≠0:=fun e=>by subst e;cases h0
  rw[binop_quo P t ox oy (by omega)]
  exact congrArg (fun x=>some (Value.int k x)) (by rw[←Int.ofNat_tdiv];exact wrap_lim h1)
 case rem =>
  obtain⟨h0,h⟩:=iB_some' (b:=Nat.beq b 0) h
  obtain⟨h1,rfl⟩:=okI_some (n:=a % b) h
  have hb:b≠0:=fun e=>by subst e;cases h0
  rw[binop_rem P t ox oy (by omega)]
  exact congrArg (fun x=>some (Value.int k x)) (Int.ofNat_tmod a b).symm
 case and =>
  obtain⟨h0,h⟩:=iB_some (b:=isU64 k) h
  obtain⟨h2,h⟩:=iB_some (b:=Nat.ble (Nat.succ a) 18446744073709551616) h
  obtain⟨h3,h⟩:=iB_some (b:=Nat.ble (Nat.succ b) 18446744073709551616) h
  obtain⟨h1,rfl⟩:=okI_some (n:=a &&& b) h
  cases k<;>first|(cases h0;done)|exact binop_and_u64 P t ox oy a b (bleI.1 h2) (bleI.1 h3)
 case or =>
  obtain⟨h0,h⟩:=iB_some (b:=isU64 k) h
  obtain⟨h2,h⟩:=iB_some (b:=Nat.ble (Nat.succ a) 18446744073709551616) h
  obtain⟨h3,h⟩:=iB_some (b:=Nat.ble (Nat.succ b) 18446744073709551616) h
  obtain⟨h1,rfl⟩:=okI_some (n:=a ||| b) h
  cases k<;>first|(cases h0;done)|exact binop_or_u64 P t ox oy a b (bleI.1 h2) (bleI.1 h3)
 case eql=>rw[binop_eql,←beq_dec];exact h
 case neq=>rw[binop_neq,bne,←beq_dec];exact h
 case lss=>rw[binop_lss,←blt_dec];exact h
 case leq=>rw[binop_leq,←ble_dec];exact h
 case gtr=>rw[binop_gtr,←blt_dec];exact h
 case geq=>rw[binop_geq,←ble_dec];exact h
 all_goals cases h
def kindN (k:IntKind):Nat:=IntKind.rec (motive:=fun _=>Nat) 0 1 2 3 4 5 6 7 k
theorem kindN_inj {j k:IntKind} (h:Nat.beq (kindN j) (kindN k)=true):j=k:=by
 cases j<;>cases k<;>first|rfl|cases h
def shF (op:BinOp) (k:IntKind) (a b:Nat):Option Value:=BinOp.rec (motive:=fun _=>Option Value) none none none none none none none none
 (iB (Nat.ble b 64) (iB (is64 k) (okI k (Nat.mul a (Nat.pow 2 b))) none) none)
 (iB (Nat.ble b 64) (iB (is64 k) (okI k (Nat.div a (Nat.pow 2 b))) none) none) none none none none none none none op
theorem shF_some {P:Program} {op:BinOp} {t:TypeId} {ox oy:Operand} {k j:IntKind} {a b:Nat} {v:Value} (h:shF op k a b=some v):binop P op t ox oy (.int k (a:Int)) (.int j (b:Int))=some v:=by
 cases op
 case shl =>
  obtain⟨h0,h⟩:=iB_some (b:=Nat.ble b 64) h
  obtain⟨h2,h⟩:=iB_some (b:=is64 k) h
  obtain⟨h1,rfl⟩:=okI_some (n:=a*2 ^ b) h
  rw[binop_shl P t ox oy (by omega)]
  have hb:min (b:Int).toNat k.bits=b:=by
   have:=bleI.1 h0
   rw[Int.toNat_natCast]
   cases k<;>first|(cases h2;done)|exact Nat.min_eq_left this
  rw[hb]
  exact congrArg (fun x=>some (Value.int k x)) (by rw[show(a:Int)*2 ^ b=((a*2 ^ b:Nat):Int) from by rw[Int.natCast_mul,Int.natCast_pow];rfl];exact wrap_lim h1)
 case shr =>
  obtain⟨h0,h⟩:=iB_some (b:=Nat.ble b 64) h
  obtain⟨h2,h⟩:=iB_some (b:=is64 k) h
  obtain⟨h1,rfl⟩:=okI_some (n:=a / 2 ^ b) h
  rw[binop_shr P t ox oy (by omega)]
  have hb:min (b:Int).toNat k.bits=b:=by
   have:=bleI.1 h0
   rw[Int.toNat_natCast]
   cases k<;>first|(cases h2;done)|exact Nat.min_eq_left this
  rw[hb]
  refine congrArg (fun x=>some (Value.int k x)) ?_
  rw[Int.fdiv_eq_ediv_of_nonneg _ (by exact Int.le_of_lt (Int.pow_pos (by omega))),Int.natCast_ediv,Int.natCast_pow];rfl
 all_goals cases h
def orElse (a b:Option Value):Option Value:=Option.rec (motive:=fun _=>Option Value) b (fun v=>some v) a
def binopF (P:Program) (op:BinOp) (t:TypeId) (ox oy:Operand) (x y:Value):Option Value:=match x,y with
 | .int k (.ofNat a),.int j (.ofNat b)=>orElse (iB (Nat.beq (kindN k) (kindN j)) (binF op k a b) none) (orElse (shF op k a b) (binop P op t ox oy (.int k (.ofNat a)) (.int j (.ofNat b))))
 | x,y=>binop P op t ox oy x y
theorem orElse_eq {a b c:Option Value} (h : ∀v,a=some v→c=some v) (hb:b=c):orElse a b=c:=by
 cases a with
 | none=>exact hb
 | some v=>exact(h v rfl).symm
theorem binopF_eq (P:Program) (op:BinOp) (t:TypeId) (ox oy:Operand) (x y:Value):binopF P op t ox oy x y=binop P op t ox oy x y:=by
 unfold binopF
 split
 ·refine orElse_eq (fun v h=>?_) (orElse_eq (fun v h=>shF_some h) rfl)
  obtain⟨h0,h1⟩:=iB_some h
  have:=kindN_inj h0
  subst this
  exact binF_some h1
 ·rfl
end
end Go.Id
