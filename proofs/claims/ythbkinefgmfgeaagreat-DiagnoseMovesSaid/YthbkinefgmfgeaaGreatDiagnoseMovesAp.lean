/-
  Contracts: share's operations on two shares. The statement DiagnoseChains, on the ideal machine. Contracts: share.Sum. DiagnoseSums: what the law needs of numbers (no program in sight). The statement DiagnoseParts, on the ideal machine. DiagnoseRatios: what the law needs of numbers (no program in sight). DiagnoseMoves: what the law needs of numbers (no program in sight). The statement DiagnoseSums, on the ideal machine. The statement DiagnoseRatios, on the ideal machine.
-/
import Derived.Test.YthbkinefgmfgeaaGreatDiagnoseMovesAo
set_option linter.unusedVariables false
set_option linter.unusedSimpArgs false
set_option linter.defProp false
set_option linter.deprecated false
/-! Contracts: share's operations on two shares. -/
namespace Go.Id
open Go
theorem PPair.rat {h:IH} {v:Value} {n d:Nat} (p:PPair h v (wdI n) (wdI d)) (ok:okS n d):PRat h v (rOf (n,d)):=by
 obtain⟨e1,e2⟩:=rOf_parts (p:=(n,d)) ok
 unfold PRat
 rw[e1,e2]
 exact p
theorem two_sl {h:IH} {n1 d1 n2 d2:Nat} (h1:n1<W8) (h2:d1<W8) (h3:n2<W8) (h4:d2<W8):ShSl (h.new (.cells (shL [(n1,d1),(n2,d2)]) 16 none)) (.slice (some ⟨2*h.n,0,none⟩) 2 5) [(n1,d1),(n2,d2)]:=by
 refine⟨sl_block (k:=h.n) (f:=none) (get_new_same _ _ rfl) (by simp) (by decide) (by rw[shL_len];rfl) (by omega) (by omega),by simp,?_⟩
 intro p hp
 simp at hp
 rcases hp with rfl|rfl
 ·exact⟨h1,h2⟩
 ·exact⟨h3,h4⟩
set_option maxHeartbeats 2000000 in
theorem rtwo_ok {h:IH} {n1 d1 n2 d2:Nat} {fv:Value} {q:Rat} (h1:n1<W8) (h2:d1<W8) (h3:n2<W8) (h4:d2<W8) (ok1:okS n1 d1) (ok2:okS n2 d2)
  (op : ∀(h':IH) (v w:Value),PRat h' v (rOf (n1,d1))→PRat h' w (rOf (n2,d2))→WV Proofs.Tryz.prog fv [v,w] h' fun r h''=>Ext h' h''∧PRat h'' r q) :
  WV Proofs.Tryz.prog (.func (.func 90) #[] #[]) [shV n1 d1,shV n2 d2,fv] h fun r h'=>Ext h h' ∧ ∃x,r=.tuple #[x,KI 0]∧PRat h' x q:=by
 refine enter (nt:=21) (rs:=[.cell 6 83,.tmp 7]) Proofs.Tryz.func90 rfl rfl rfl (by simp) ?_
 simp -dsimp (maxSteps:=1000000) (disch:=first|omega|(simp only[new_n,put_n];omega)|decide +kernel|(repeat first|rw[new_n]|rw[put_n])) only[wpS,Nat.reduceEqDiff,Nat.reduceAdd,zc83,ld30,shV_cells]
 obtain⟨H0,hH0,n0,E0,g0,g1,g2⟩:=boxes3 h (shC n1 d1) (shC n2 d2) ZR
 rw[←hH0]
 clear hH0
 have X0:=Ext.refl H0
 have bb : ∀hx:IH,buildSlice Proofs.Tryz.prog hx 25 2 [(0,.agg (shC n1 d1).toArray),(1,.agg (shC n2 d2).toArray)]=some (.slice (some ⟨2*hx.n,0,none⟩) 2 5,hx.new (.cells (shL [(n1,d1),(n2,d2)]) 16 none)):=fun hx=>build2 n1 d1 n2 d2
 simp -dsimp (maxSteps:=1000000) (disch:=first|omega|(simp only[new_n,put_n];omega)|decide +kernel|(repeat first|rw[new_n]|rw[put_n])) only[wpS,Nat.reduceEqDiff,Nat.reduceLeDiff,ld30,row_of g1,shC_len,sh_take,bb]
 refine call (shvalid_ok (two_sl h1 h2 h3 h4)) ?_
 rintro _ k1 ⟨Y1,rfl⟩
 have X1:Ext H0 k1:=(X0.new _).trans Y1
 have dt:decide (∀p ∈ [(n1,d1),(n2,d2)],okS p.1 p.2)=true:=decide_eq_true (by
  intro p hp
  simp at hp
  rcases hp with rfl|rfl
  ·exact ok1
  ·exact ok2)
 rw[dt]
 have L2:=(psh g1).2.2
 simp -dsimp (maxSteps:=1000000) (disch:=first|omega|(simp only[new_n,put_n];omega)|decide +kernel|(repeat first|rw[new_n]|rw[put_n])) only[wpS,wpT,Nat.reduceEqDiff]
 refine drawn [(3,[2])] (by kernel_rfl) (by kernel_rfl) rfl ?_
 simp -dsimp (maxSteps:=1000000) (disch:=first|omega|(simp only[new_n,put_n];omega)|decide +kernel|(repeat first|rw[new_n]|rw[put_n])) only[wpS,Nat.reduceEqDiff,Nat.reduceLeDiff,ld30,row_of (X1.kept (by omega) g0),shC_len,sh_take]
 refine call (shread_ok n1 d1 h1 h2) ?_
 rintro v k2 ⟨Y2,p2⟩
 have X2:=X1.trans Y2
 simp -dsimp (maxSteps:=1000000) (disch:=first|omega|(simp only[new_n,put_n];omega)|decide +kernel|(repeat first|rw[new_n]|rw[put_n])) only[wpS,Nat.reduceEqDiff,Nat.reduceLeDiff,ld30,row_of (X2.kept (by omega) g1),shC_len,sh_take]
 refine call (shread_ok n2 d2 h3 h4) ?_
 rintro w k3 ⟨Y3,p3⟩
 have X3:=X2.trans Y3
 simp -dsimp (maxSteps:=1000000) (disch:=first|omega|(simp only[new_n,put_n];omega)|decide +kernel|(repeat first|rw[new_n]|rw[put_n])) only[wpS,Nat.reduceEqDiff]
 refine call (op k3 v w (PRat.keep (p2.rat ok1) Y3.keep) (p3.rat ok2)) ?_
 rintro x k4 ⟨Y4,p4⟩
 have X4:=X3.trans Y4
 have m1:=X4.n
 obtain⟨a1,s1,b1,t1,rfl,hn1,hd1,c1,o1,c2,o2,o3,o4⟩:=p4.parts
 have kg:=X4.kept (by omega) g2
 simp -dsimp (maxSteps:=1000000) (disch:=first|omega|(simp only[new_n,put_n];omega)|decide +kernel|(repeat first|rw[new_n]|rw[put_n])) only[wpS,wpT,Nat.reduceEqDiff,Nat.reduceLeDiff,Nat.reduceAdd,st83,kg,o1,o2,o3,o4]
 refine⟨by repeat' first|refine wpSteady_c2 ?_ ?_|refine wpSteady_t2 ?_ ?_|exact wpSteady_one rfl rfl rfl rfl (steady_ext (H0:=H0) rfl (by omega) (by assumption) (by assumption) (by with_reducible assumption)),?_⟩
 simp -dsimp (maxSteps:=1000000) (disch:=first|omega|(simp only[new_n,put_n];omega)|decide +kernel|(repeat first|rw[new_n]|rw[put_n])) only[wpS,wpT,Nat.reduceEqDiff,Nat.reduceLeDiff,Nat.reduceAdd,ld83,tk4']
 have kp:=(Keep.refl k4).put kg (.cells [a1,s1,b1,t1] 0 none)
 exact⟨(E0.trans X4).put (by omega) _,_,rfl,p4.keep kp⟩
set_option maxHeartbeats 2000000 in
theorem itwo_ok {h:IH} {n1 d1 n2 d2:Nat} {fv:Value} {z:Int} (h1:n1<W8) (h2:d1<W8) (h3:n2<W8) (h4:d2<W8) (ok1:okS n1 d1) (ok2:okS n2 d2)
  (op : ∀(h':IH) (v w:Value),PRat h' v (rOf (n1,d1))→PRat h' w (rOf (n2,d2))→WV Proofs.Tryz.prog fv [v,w] h' fun r h''=>Ext h' h''∧r=KI z) :
  WV Proofs.Tryz.prog (.func (.func 86) #[] #[]) [shV n1 d1,shV n2 d2,fv] h fun r h'=>Ext h h'∧r=.tuple #[KI z,KI 0]:=by
 refine enter (nt:=21) (rs:=[.tmp 6,.tmp 7]) Proofs.Tryz.func86 rfl rfl rfl (by simp) ?_
 simp -dsimp (maxSteps:=1000000) (disch:=first|omega|(simp only[new_n,put_n];omega)|decide +kernel|(repeat first|rw[new_n]|rw[put_n])) only[wpS,Nat.reduceEqDiff,Nat.reduceAdd,ld30,shV_cells]
 obtain⟨H0,hH0,n0,E0,g0,g1⟩:=boxes2 h (shC n1 d1) (shC n2 d2)
 rw[←hH0]
 clear hH0
 have X0:=Ext.refl H0
 have bb : ∀hx:IH,buildSlice Proofs.Tryz.prog hx 25 2 [(0,.agg (shC n1 d1).toArray),(1,.agg (shC n2 d2).toArray)]=some (.slice (some ⟨2*hx.n,0,none⟩) 2 5,hx.new (.cells (shL [(n1,d1),(n2,d2)]) 16 none)):=fun hx=>build2 n1 d1 n2 d2
 simp -dsimp (maxSteps:=1000000) (disch:=first|omega|(simp only[new_n,put_n];omega)|decide +kernel|(repeat first|rw[new_n]|rw[put_n])) only[wpS,Nat.reduceEqDiff,Nat.reduceLeDiff,ld30,row_of g1,shC_len,sh_take,bb]
 refine call (shvalid_ok (two_sl h1 h2 h3 h4)) ?_
 rintro _ k1 ⟨Y1,rfl⟩
 have X1:Ext H0 k1:=(X0.new _).trans Y1
 have dt:decide (∀p ∈ [(n1,d1),(n2,d2)],okS p.1 p.2)=true:=decide_eq_true (by
  intro p hp
  simp at hp
  rcases hp with rfl|rfl
  ·exact ok1
  ·exact ok2)
 rw[dt]
 have L2:=(psh g1).2.2
 simp -dsimp (maxSteps:=1000000) (disch:=first|omega|(simp only[new_n,put_n];omega)|decide +kernel|(repeat first|rw[new_n]|rw[put_n])) only[wpS,wpT,Nat.reduceEqDiff]
 refine drawn [(3,[2])] (by kernel_rfl) (by kernel_rfl) rfl ?_
 simp -dsimp (maxSteps:=1000000) (disch:=first|omega|(simp only[new_n,put_n];omega)|decide +kernel|(repeat first|rw[new_n]|rw[put_n])) only[wpS,Nat.reduceEqDiff,Nat.reduceLeDiff,ld30,row_of (X1.kept (by omega) g0),shC_len,sh_take]
 refine call (shread_ok n1 d1 h1 h2) ?_
 rintro v k2 ⟨Y2,p2⟩
 have X2:=X1.trans Y2
 simp -dsimp (maxSteps:=1000000) (disch:=first|omega|(simp only[new_n,put_n];omega)|decide +kernel|(repeat first|rw[new_n]|rw[put_n])) only[wpS,Nat.reduceEqDiff,Nat.reduceLeDiff,ld30,row_of (X2.kept (by omega) g1),shC_len,sh_take]
 refine call (shread_ok n2 d2 h3 h4) ?_
 rintro w k3 ⟨Y3,p3⟩
 have X3:=X2.trans Y3
 simp -dsimp (maxSteps:=1000000) (disch:=first|omega|(simp only[new_n,put_n];omega)|decide +kernel|(repeat first|rw[new_n]|rw[put_n])) only[wpS,Nat.reduceEqDiff]
 refine call (op k3 v w (PRat.keep (p2.rat ok1) Y3.keep) (p3.rat ok2)) ?_
 rintro _ k4 ⟨Y4,rfl⟩
 have X4:=X3.trans Y4
 simp -dsimp (maxSteps:=1000000) (disch:=first|omega|(simp only[new_n,put_n];omega)|decide +kernel|(repeat first|rw[new_n]|rw[put_n])) only[wpS,Nat.reduceEqDiff]
 refine⟨by repeat' first|refine wpSteady_c2 ?_ ?_|refine wpSteady_t2 ?_ ?_|exact wpSteady_one rfl rfl rfl rfl (steady_ext (H0:=H0) rfl (by omega) (by assumption) (by assumption) (by with_reducible assumption)),?_⟩
 simp -dsimp (maxSteps:=1000000) (disch:=first|omega|(simp only[new_n,put_n];omega)|decide +kernel|(repeat first|rw[new_n]|rw[put_n])) only[wpS,wpT,Nat.reduceEqDiff,Nat.reduceAdd]
 exact E0.trans X4
set_option maxHeartbeats 2000000 in
theorem shtold_ok {h:IH} {v:Value} {q:Rat} (hv:PRat h v q):WV Proofs.Tryz.prog (.func (.func 89) #[] #[]) [v,KI 0] h fun r h'=>Ext h h'∧r=toldV q:=by
 obtain⟨a1,s1,b1,t1,rfl,hn1,hd1,c1,o1,c2,o2,o3,o4⟩:=hv.parts
 obtain⟨n,d,e,ht⟩:=toldV_form q
 refine enter (nt:=14) (rs:=[.cell 4 30,.tmp 5]) Proofs.Tryz.func89 rfl rfl rfl (by simp) ?_
 simp -dsimp (maxSteps:=1000000) (disch:=first|omega|(simp only[new_n,put_n];omega)|decide +kernel|(repeat first|rw[new_n]|rw[put_n])) only[wpS,wpT,Nat.reduceEqDiff,Nat.reduceLeDiff,Nat.reduceAdd,zc30,ld83]
 obtain⟨H0,hH0,n0,E0,g0,g1⟩:=boxes2 h [a1,s1,b1,t1] Z16
 rw[←hH0]
 clear hH0
 simp -dsimp (maxSteps:=1000000) (disch:=first|omega|(simp only[new_n,put_n];omega)|decide +kernel|(repeat first|rw[new_n]|rw[put_n])) only[tk4']
 refine call (rtold_ok (hv.keep E0.keep)) ?_
 rintro _ h1 ⟨X1,rfl⟩
 have hT:(open Classical in if QW q then Value.tuple #[shareV q,KI 0] else .tuple #[shV 0 0,KI 6])=.tuple #[shV n d,KI e]:=ht
 rw[hT,ht]
 have m1:=X1.n
 have kg:=X1.kept (by omega) g1
 simp -dsimp (maxSteps:=1000000) (disch:=first|omega|(simp only[new_n,put_n];omega)|decide +kernel|(repeat first|rw[new_n]|rw[put_n])) only[wpS,wpT,Nat.reduceEqDiff,Nat.reduceLeDiff,Nat.reduceAdd,st30,ld30,kg,shV_cells,shC_len,shC_all,sh_sp3,sh_take]
 exact⟨(E0.trans X1).put (by omega) _,rfl⟩
set_option maxHeartbeats 2000000 in
theorem shadd_ok {h:IH} {p1 p2:Nat×Nat} (h1:p1.1<W8∧p1.2<W8) (h2:p2.1<W8∧p2.2<W8) (ok1:okS p1.1 p1.2) (ok2:okS p2.1 p2.2):WV Proofs.Tryz.prog (.func (.func 37) #[] #[]) [shV p1.1 p1.2,shV p2.1 p2.2] h fun r h'=>Ext h h'∧r=toldV (rOf p1+rOf p2):=by
 have q1:=qb512 (p:=p1) h1.1 h1.2 ok1
 have q2:=qb512 (p:=p2) h2.1 h2.2 ok2
 obtain⟨n,d,e,ht⟩:=toldV_form (rOf p1+rOf p2)
 refine enter (nt:=14) (rs:=[.cell 4 30,.tmp 5]) Proofs.Tryz.func37 rfl rfl rfl (by simp) ?_
 simp -dsimp (maxSteps:=1000000) (disch:=first|omega|(simp only[new_n,put_n];omega)|decide +kernel|(repeat first|rw[new_n]|rw[put_n])) only[wpS,Nat.reduceEqDiff,Nat.reduceAdd,zc30,ld30,shV_cells]
 obtain⟨H0,hH0,n0,E0,g0,g1,g2⟩:=boxes3 h (shC p1.1 p1.2) (shC p2.1 p2.2) Z16
 rw[←hH0]
 clear hH0
 simp -dsimp (maxSteps:=1000000) (disch:=first|omega|(simp only[new_n,put_n];omega)|decide +kernel|(repeat first|rw[new_n]|rw[put_n])) only[wpS,Nat.reduceEqDiff,Nat.reduceLeDiff,ld30,row_of g1,shC_len,sh_take]
 refine call (rtwo_ok (q:=rOf p1+rOf p2) h1.1 h1.2 h2.1 h2.2 ok1 ok2 (fun h' v w a b=>rplus_ok a b q1 q2 (by omega))) ?_
 rintro _ k1 ⟨X1,x,rfl,px⟩
 simp -dsimp (maxSteps:=1000000) (disch:=first|omega|(simp only[new_n,put_n];omega)|decide +kernel|(repeat first|rw[new_n]|rw[put_n])) only[wpS,Nat.reduceEqDiff]
 refine call (shtold_ok px) ?_
 rintro _ k2 ⟨X2,rfl⟩
 rw[ht]
 have X12:=X1.trans X2
 have m1:=X12.n
 have kg:=X12.kept (by omega) g2
 simp -dsimp (maxSteps:=1000000) (disch:=first|omega|(simp only[new_n,put_n];omega)|decide +kernel|(repeat first|rw[new_n]|rw[put_n])) only[wpS,wpT,Nat.reduceEqDiff,Nat.reduceLeDiff,Nat.reduceAdd,ld30,st30,kg,shV_cells,shC_len,shC_all,sh_sp3,sh_take]
 exact⟨(E0.trans X12).put (by omega) _,rfl⟩
set_option maxHeartbeats 2000000 in
theorem shmul_ok {h:IH} {p1 p2:Nat×Nat} (h1:p1.1<W8∧p1.2<W8) (h2:p2.1<W8∧p2.2<W8) (ok1:okS p1.1 p1.2) (ok2:okS p2.1 p2.2):WV Proofs.Tryz.prog (.func (.func 38) #[] #[]) [shV p1.1 p1.2,shV p2.1 p2.2] h fun r h'=>Ext h h'∧r=toldV (rOf p1*rOf p2):=by
 have q1:=qb512 (p:=p1) h1.1 h1.2 ok1
 have q2:=qb512 (p:=p2) h2.1 h2.2 ok2
 obtain⟨n,d,e,ht⟩:=toldV_form (rOf p1*rOf p2)
 refine enter (nt:=14) (rs:=[.cell 4 30,.tmp 5]) Proofs.Tryz.func38 rfl rfl rfl (by simp) ?_
 simp -dsimp (maxSteps:=1000000) (disch:=first|omega|(simp only[new_n,put_n];omega)|decide +kernel|(repeat first|rw[new_n]|rw[put_n])) only[wpS,Nat.reduceEqDiff,Nat.reduceAdd,zc30,ld30,shV_cells]
 obtain⟨H0,hH0,n0,E0,g0,g1,g2⟩:=boxes3 h (shC p1.1 p1.2) (shC p2.1 p2.2) Z16
 rw[←hH0]
 clear hH0
 simp -dsimp (maxSteps:=1000000) (disch:=first|omega|(simp only[new_n,put_n];omega)|decide +kernel|(repeat first|rw[new_n]|rw[put_n])) only[wpS,Nat.reduceEqDiff,Nat.reduceLeDiff,ld30,row_of g1,shC_len,sh_take]
 refine call (rtwo_ok (q:=rOf p1*rOf p2) h1.1 h1.2 h2.1 h2.2 ok1 ok2 (fun h' v w a b=>rtimes_ok a b q1 q2 (by omega))) ?_
 rintro _ k1 ⟨X1,x,rfl,px⟩
 simp -dsimp (maxSteps:=1000000) (disch:=first|omega|(simp only[new_n,put_n];omega)|decide +kernel|(repeat first|rw[new_n]|rw[put_n])) only[wpS,Nat.reduceEqDiff]
 refine call (shtold_ok px) ?_
 rintro _ k2 ⟨X2,rfl⟩
 rw[ht]
 have X12:=X1.trans X2
 have m1:=X12.n
 have kg:=X12.kept (by omega) g2
 simp -dsimp (maxSteps:=1000000) (disch:=first|omega|(simp only[new_n,put_n];omega)|decide +kernel|(repeat first|rw[new_n]|rw[put_n])) only[wpS,wpT,Nat.reduceEqDiff,Nat.reduceLeDiff,Nat.reduceAdd,ld30,st30,kg,shV_cells,shC_len,shC_all,sh_sp3,sh_take]
 exact⟨(E0.trans X12).put (by omega) _,rfl⟩
set_option maxHeartbeats 2000000 in
theorem shcmp_ok {h:IH} {p1 p2:Nat×Nat} (h1:p1.1<W8∧p1.2<W8) (h2:p2.1<W8∧p2.2<W8) (ok1:okS p1.1 p1.2) (ok2:okS p2.1 p2.2):WV Proofs.Tryz.prog (.func (.func 34) #[] #[]) [shV p1.1 p1.2,shV p2.1 p2.2] h fun r h'=>Ext h h'∧r=.tuple #[KI (if rOf p1<rOf p2 then -1 else if rOf p1=rOf p2 then 0 else 1),KI 0]:=by
 have q1:=qb512 (p:=p1) h1.1 h1.2 ok1
 have q2:=qb512 (p:=p2) h2.1 h2.2 ok2
 refine enter (nt:=11) (rs:=[.tmp 4,.tmp 5]) Proofs.Tryz.func34 rfl rfl rfl (by simp) ?_
 simp -dsimp (maxSteps:=1000000) (disch:=first|omega|(simp only[new_n,put_n];omega)|decide +kernel|(repeat first|rw[new_n]|rw[put_n])) only[wpS,Nat.reduceEqDiff,Nat.reduceAdd,ld30,shV_cells]
 obtain⟨H0,hH0,n0,E0,g0,g1⟩:=boxes2 h (shC p1.1 p1.2) (shC p2.1 p2.2)
 rw[←hH0]
 clear hH0
 simp -dsimp (maxSteps:=1000000) (disch:=first|omega|(simp only[new_n,put_n];omega)|decide +kernel|(repeat first|rw[new_n]|rw[put_n])) only[wpS,Nat.reduceEqDiff,Nat.reduceLeDiff,ld30,row_of g1,shC_len,sh_take]
 refine call (itwo_ok h1.1 h1.2 h2.1 h2.2 ok1 ok2 (fun h' v w a b=>rcmp_ok a b q1 q2 (by omega))) ?_
 rintro _ k1 ⟨X1,rfl⟩
 simp -dsimp (maxSteps:=1000000) (disch:=first|omega|(simp only[new_n,put_n];omega)|decide +kernel|(repeat first|rw[new_n]|rw[put_n])) only[wpS,wpT,Nat.reduceEqDiff]
 exact E0.trans X1
theorem rlesser_ok {h:IH} {v w:Value} {x y:Rat} {a b:Nat} (hv:PRat h v x) (hw:PRat h w y) (qx:QB a x) (qy:QB b y) (hk:a+b<16000000):WV Proofs.Tryz.prog (.func (.func 133) #[] #[]) [v,w] h fun r h'=>Ext h h'∧PRat h' r (if x≤y then x else y):=by
 obtain⟨a1,s1,b1,t1,rfl,hn1,hd1,c1,o1,c2,o2,o3,o4⟩:=hv.parts
 obtain⟨a2,s2,b2,t2,rfl,hn2,hd2,c5,o5,c6,o6,o7,o8⟩:=hw.parts
 refine enter (nt:=11) (rs:=[.cell 4 83]) Proofs.Tryz.func133 rfl rfl rfl (by simp) ?_
 simp -dsimp (maxSteps:=1000000) (disch:=first|omega|(simp only[new_n,put_n];omega)|decide +kernel|(repeat first|rw[new_n]|rw[put_n])) only[wpS,wpT,Nat.reduceEqDiff,Nat.reduceLeDiff,Nat.reduceAdd,zc83,ld83]
 obtain⟨H0,hH0,n0,E0,g0,g1,g2⟩:=boxes3 h [a1,s1,b1,t1] [a2,s2,b2,t2] ZR
 rw[←hH0]
 clear hH0
 simp -dsimp (maxSteps:=1000000) (disch:=first|omega|(simp only[new_n,put_n];omega)|decide +kernel|(repeat first|rw[new_n]|rw[put_n])) only[tk4']
 refine call (rcmp_ok (hv.keep E0.keep) (hw.keep E0.keep) qx qy hk) ?_
 rintro _ h1 ⟨X1,rfl⟩
 have m1:=X1.n
 have kg:=X1.kept (by omega) g2
 have XE:=(E0.trans X1).keep
 by_cases hxy:x≤y
 ·have d1:decide ((if x<y then (-1:Int) else if x=y then 0 else 1)≤0)=true:=decide_eq_true (by
   split
   ·omega
   ·split
    ·omega
    ·rename_i h1 h2
     exact absurd (Rat.le_antisymm hxy (Rat.not_lt.1 h1)) h2)
  rw[if_pos hxy]
  simp -dsimp (maxSteps:=1000000) (disch:=first|omega|(simp only[new_n,put_n];omega)|decide +kernel|(repeat first|rw[new_n]|rw[put_n])) only[wpS,wpT,Nat.reduceEqDiff,Nat.reduceLeDiff,Nat.reduceAdd,ld83,st83,d1,row_of (X1.kept (by omega) g0),kg,tk4',o1,o2,o3,o4]
  have kp:=(Keep.refl h1).put kg (.cells [a1,s1,b1,t1] 0 none)
  exact⟨(E0.trans X1).put (by omega) _,PRat.keep (hv.keep XE) kp⟩
 ·have d1:decide ((if x<y then (-1:Int) else if x=y then 0 else 1)≤0)=false:=decide_eq_false (by
   rw[if_neg (fun h=>hxy (Rat.le_of_lt h)),if_neg (fun h=>hxy (by rw[h];exact Rat.le_refl))]
   omega)
  rw[if_neg hxy]
  simp -dsimp (maxSteps:=1000000) (disch:=first|omega|(simp only[new_n,put_n];omega)|decide +kernel|(repeat first|rw[new_n]|rw[put_n])) only[wpS,wpT,Nat.reduceEqDiff,Nat.reduceLeDiff,Nat.reduceAdd,ld83,st83,d1,row_of (X1.kept (by omega) g1),kg,tk4',o5,o6,o7,o8]
  have kp:=(Keep.refl h1).put kg (.cells [a2,s2,b2,t2] 0 none)
  exact⟨(E0.trans X1).put (by omega) _,PRat.keep (hw.keep XE) kp⟩
set_option maxHeartbeats 2000000 in
theorem rgreater_ok {h:IH} {v w:Value} {x y:Rat} {a b:Nat} (hv:PRat h v x) (hw:PRat h w y) (qx:QB a x) (qy:QB b y) (hk:a+b<16000000):WV Proofs.Tryz.prog (.func (.func 94) #[] #[]) [v,w] h fun r h'=>Ext h h'∧PRat h' r (-(if -x ≤ -y then -x else -y)):=by
 obtain⟨a1,s1,b1,t1,rfl,hn1,hd1,c1,o1,c2,o2,o3,o4⟩:=hv.parts
 obtain⟨a2,s2,b2,t2,rfl,hn2,hd2,c5,o5,c6,o6,o7,o8⟩:=hw.parts
 refine enter (nt:=11) (rs:=[.cell 4 83]) Proofs.Tryz.func94 rfl rfl rfl (by simp) ?_
 simp -dsimp (disch:=omega) only[wpS,Nat.reduceEqDiff,Nat.reduceAdd,zc83]
 obtain⟨H0,hH0,n0,E0,g0,g1,g2⟩:=boxes3 h [a1,s1,b1,t1] [a2,s2,b2,t2] ZR
 rw[←hH0]
 clear hH0
 have X0:=Ext.refl H0
 have L2:=(pl4 g1).2.2
 refine drawn [(2,[1])] (by kernel_rfl) (by kernel_rfl) rfl ?_
 simp -dsimp (disch:=omega) only[wpS,wpT,Nat.reduceEqDiff,Nat.reduceLeDiff,Nat.reduceAdd,ld83,row_of g0,tk4']
 refine call (rturned_ok (hv.keep E0.keep)) ?_
 rintro r1 k1 ⟨X1,p1⟩
 simp -dsimp (disch:=omega) only[wpS,wpT,Nat.reduceEqDiff,Nat.reduceLeDiff,Nat.reduceAdd,ld83,row_of (X1.kept (by omega) g1),tk4']
 refine call (rturned_ok (hw.keep (E0.trans X1).keep)) ?_
 rintro r2 k2 ⟨Y2,p2⟩
 have X2:=X1.trans Y2
 simp -dsimp (disch:=omega) only[wpS,Nat.reduceEqDiff]
 refine call (rlesser_ok (p1.keep Y2.keep) p2 qx.neg qy.neg hk) ?_
 rintro r3 k3 ⟨Y3,p3⟩
 have X3:=X2.trans Y3
 simp -dsimp (disch:=omega) only[wpS,Nat.reduceEqDiff]
 refine call (rturned_ok p3) ?_
 rintro r4 k4 ⟨Y4,p4⟩
 have X4:=X3.trans Y4
 have m4:=X4.n
 obtain⟨a9,s9,b9,t9,rfl,hn9,hd9,c9,o9,c10,o10,o11,o12⟩:=p4.parts
 have kg:=X4.kept (by omega) g2
 simp -dsimp (disch:=omega) only[wpS,wpT,Nat.reduceEqDiff,Nat.reduceLeDiff,Nat.reduceAdd,st83,kg,o9,o10,o11,o12]
 refine⟨by repeat' first|refine wpSteady_c2 ?_ ?_|refine wpSteady_t2 ?_ ?_|exact wpSteady_one rfl rfl rfl rfl (steady_ext (H0:=H0) rfl (by omega) (by assumption) (by assumption) (by with_reducible assumption)),?_⟩
 simp -dsimp (disch:=omega) only[wpS,wpT,Nat.reduceEqDiff,Nat.reduceLeDiff,Nat.reduceAdd,ld83,tk4']
 have kp:=(Keep.refl k4).put kg (.cells [a9,s9,b9,t9] 0 none)
 exact⟨(E0.trans X4).put (by omega) _,p4.keep kp⟩
def qabs (x:Rat):Rat:=if x ≤ -x then -x else x
set_option maxHeartbeats 2000000 in
theorem shabs1_ok {h:IH} {v w:Value} {x y:Rat} {a:Nat} (hv:PRat h v x) (hw:PRat h w y) (qx:QB a x) (hk:a+a<16000000):WV Proofs.Tryz.prog (.func (.func 93) #[] #[]) [v,w] h fun r h'=>Ext h h'∧PRat h' r (qabs x):=by
 obtain⟨a1,s1,b1,t1,rfl,hn1,hd1,c1,o1,c2,o2,o3,o4⟩:=hv.parts
 obtain⟨a2,s2,b2,t2,rfl,hn2,hd2,c5,o5,c6,o6,o7,o8⟩:=hw.parts
 refine enter (nt:=9) (rs:=[.cell 4 83]) Proofs.Tryz.func93 rfl rfl rfl (by simp) ?_
 simp -dsimp (disch:=omega) only[wpS,Nat.reduceEqDiff,Nat.reduceAdd,zc83]
 obtain⟨H0,hH0,n0,E0,g0,g1,g2⟩:=boxes3 h [a1,s1,b1,t1] [a2,s2,b2,t2] ZR
 rw[←hH0]
 clear hH0
 have X0:=Ext.refl H0
 have L2:=(pl4 g0).2.2
 refine drawn [(0,[3])] (by kernel_rfl) (by kernel_rfl) rfl ?_
 simp -dsimp (disch:=omega) only[wpS,wpT,Nat.reduceEqDiff,Nat.reduceLeDiff,Nat.reduceAdd,ld83,row_of g0,tk4']
 refine call (rturned_ok (hv.keep E0.keep)) ?_
 rintro r1 k1 ⟨X1,p1⟩
 simp -dsimp (disch:=omega) only[wpS,Nat.reduceEqDiff]
 refine call (rgreater_ok (hv.keep (E0.trans X1).keep) p1 qx qx.neg hk) ?_
 rintro r4 k4 ⟨Y4,p4⟩
 have X4:=X1.trans Y4
 have m4:=X4.n
 have e : -(if -x ≤ - -x then -x else - -x)=qabs x:=by
  unfold qabs
  rw[Rat.neg_neg]
  by_cases c:x ≤ -x
  ·by_cases c2 : -x≤x
   ·have:x = -x:=Rat.le_antisymm c c2
    rw[if_pos c2,if_pos c];grind
   ·rw[if_neg c2,if_pos c]
  ·have c2 : -x≤x:=Rat.le_of_lt (Rat.not_le.1 c)
   rw[if_pos c2,if_neg c];grind
 rw[e] at p4
 obtain⟨a9,s9,b9,t9,rfl,hn9,hd9,c9,o9,c10,o10,o11,o12⟩:=p4.parts
 have kg:=X4.kept (by omega) g2
 simp -dsimp (disch:=omega) only[wpS,wpT,Nat.reduceEqDiff,Nat.reduceLeDiff,Nat.reduceAdd,st83,kg,o9,o10,o11,o12]
 refine⟨by repeat' first|refine wpSteady_c2 ?_ ?_|refine wpSteady_t2 ?_ ?_|exact wpSteady_one rfl rfl rfl rfl (steady_ext (H0:=H0) rfl (by omega) (by assumption) (by assumption) (by with_reducible assumption)),?_⟩
 simp -dsimp (disch:=omega) only[wpS,wpT,Nat.reduceEqDiff,Nat.reduceLeDiff,Nat.reduceAdd,ld83,tk4']
 have kp:=(Keep.refl k4).put kg (.cells [a9,s9,b9,t9] 0 none)
 exact⟨(E0.trans X4).put (by omega) _,p4.keep kp⟩
set_option maxHeartbeats 2000000 in
theorem shabs_ok {h:IH} {p1:Nat×Nat} (h1:p1.1<W8∧p1.2<W8) (ok1:okS p1.1 p1.2):WV Proofs.Tryz.prog (.func (.func 43) #[] #[]) [shV p1.1 p1.2] h fun r h'=>Ext h h'∧r=toldV (qabs (rOf p1)):=by
 have q1:=qb512 (p:=p1) h1.1 h1.2 ok1
 obtain⟨n,d,e,ht⟩:=toldV_form (qabs (rOf p1))
 refine enter (nt:=12) (rs:=[.cell 2 30,.tmp 3]) Proofs.Tryz.func43 rfl rfl rfl (by simp) ?_
 simp -dsimp (disch:=omega) only[wpS,Nat.reduceEqDiff,zc30,ld30,shV_cells]
 obtain⟨H0,hH0,n0,E0,g0,g2⟩:=boxes2 h (shC p1.1 p1.2) Z16
 rw[←hH0]
 clear hH0
 simp -dsimp (disch:=omega) only[wpS,Nat.reduceEqDiff,Nat.reduceLeDiff,ld30,row_of g0,shC_len,sh_take]
 refine call (rtwo_ok (q:=qabs (rOf p1)) h1.1 h1.2 h1.1 h1.2 ok1 ok1 (fun h' v w a b=>shabs1_ok a b q1 (by omega))) ?_
 rintro _ k1 ⟨X1,x,rfl,px⟩
 simp -dsimp (disch:=omega) only[wpS,Nat.reduceEqDiff]
 refine call (shtold_ok px) ?_
 rintro _ k2 ⟨X2,rfl⟩
 rw[ht]
 have X12:=X1.trans X2
 have m1:=X12.n
 have kg:=X12.kept (by omega) g2
 simp -dsimp (disch:=omega) only[wpS,wpT,Nat.reduceEqDiff,Nat.reduceLeDiff,Nat.reduceAdd,ld30,st30,kg,shV_cells,shC_len,shC_all,sh_sp3,sh_take]
 exact⟨(E0.trans X12).put (by omega) _,rfl⟩
end Go.Id

/-! The statement DiagnoseChains, on the ideal machine. -/
namespace Go.Id
open Go
noncomputable def partC (i:Nat):Code:=nthC (Proofs.Tryz.f5.body.getD .skip) i
theorem toldP_form (q:Rat) : ∃(p:Nat×Nat) (e:Int),(p.1<W8∧p.2<W8)∧toldV q=.tuple #[shV p.1 p.2,KI e]:=by
 unfold toldV
 split
 ·rename_i h;exact⟨shq q,0,shq_lt h,rfl⟩
 ·exact⟨(0,0),6,⟨by decide +kernel,by decide +kernel⟩,rfl⟩
theorem errP_form (e:Int) : ∃(p:Nat×Nat) (e':Int),(p.1<W8∧p.2<W8)∧errV e=.tuple #[shV p.1 p.2,KI e']:=⟨(0,0),e,⟨by decide +kernel,by decide +kernel⟩,rfl⟩
theorem meanP_form (l:List (Nat×Nat)) : ∃(p:Nat×Nat) (e:Int),(p.1<W8∧p.2<W8)∧meanRes l=.tuple #[shV p.1 p.2,KI e]:=by
 unfold meanRes;split
 ·exact toldP_form _
 ·exact errP_form _
theorem autoP_form (l:List (Nat×Nat)) (k:Int) : ∃(p:Nat×Nat) (e:Int),(p.1<W8∧p.2<W8)∧autoRes l k=.tuple #[shV p.1 p.2,KI e]:=by
 unfold autoRes;split
 ·split
  ·exact toldP_form _
  ·exact errP_form _
 ·exact errP_form _
theorem effP_form (l:List (Nat×Nat)) : ∃(p:Nat×Nat) (e:Int),(p.1<W8∧p.2<W8)∧effRes l=.tuple #[shV p.1 p.2,KI e]:=by
 unfold effRes;split
 ·split
  ·exact errP_form _
  ·exact toldP_form _
 ·exact errP_form _
theorem box_put (h:IH) (p:Nat×Nat) : ∃H0,H0=(h.new (.cells Z16 0 none)).put h.n (.cells (shC p.1 p.2) 0 none)∧H0.n=h.n+1∧Ext h H0∧H0.ext.get h.n=some (.cells (shC p.1 p.2) 0 none):=by
 refine⟨_,rfl,rfl,((Ext.refl h).new _).put (by omega) _,?_⟩
 simp (disch:=first|omega|(simp only[new_n,put_n];omega)|(repeat first|rw[new_n]|rw[put_n])) only[get_put_same]
theorem neq_same {p:Nat×Nat} (h:p.1<W8∧p.2<W8) (ox oy:Operand):binop Proofs.Tryz.prog .neq 30 ox oy (.agg (shC p.1 p.2).toArray) (.agg (shC p.1 p.2).toArray)=some (.bool false):=by
 rw[sh_neq h.1 h.2 h.1 h.2];simp
theorem rem13 (size:Int) : ∃z:Int,(0≤z∧z<13) ∧ ∀ox oy,binop Proofs.Tryz.prog .rem 56 ox oy (.int .u64 (IntKind.u64.wrap size)) (.int .u64 13)=some (.int .u64 z):=by
 obtain⟨y,hy⟩:=u64wrap size
 rw[hy]
 refine⟨(y:Int).tmod 13,?_,fun ox oy=>binop_rem _ _ _ _ (by decide)⟩
 rw[Int.tmod_eq_emod_of_nonneg (by omega)]
 omega
structure CX (h hh:IH) (fr:Fr) (v w:Value) (lag:Int) (most:Bool):Prop where
 e:Ext h hh
 f0:fget fr 0=some v
 f1:fget fr 1=some w
 f2:fget fr 2=some (KI lag)
 f3:fget fr 3=some (.bool most)
section
variable {h hh:IH} {fr:Fr} {Q:IExit→Fr→IH→Prop} {v w:Value} {n:Nat} {lag:Int} {most:Bool} {l0:List (Nat×Nat)}
set_option maxHeartbeats 2000000 in
theorem c0 (s:CX h hh fr v w lag most):Do (wpC Proofs.Tryz.prog 5 115 none (partC 0) fr hh) (seqK (fun fr h'=>Pst (CX h h' fr v w lag most) nx) Q) nx:=by
 show Do (wpC _ _ _ _ (.region _ _ _) fr hh) _ _
 simp -dsimp (disch:=omega) only[wpS]
 exact⟨s.e,by simp[s.f0],by simp[s.f1],by simp[s.f2],by simp[s.f3]⟩
set_option maxHeartbeats 2000000 in
theorem c1 (s:CX h hh fr v w lag most):Do (wpC Proofs.Tryz.prog 5 115 none (partC 1) fr hh) (seqK (fun fr h'=>Pst (CX h h' fr v w lag most) nx) Q) nx:=by
 show Do (wpC _ _ _ _ (.seq _ _) fr hh) _ _
 simp -dsimp (disch:=omega) only[wpS]
 refine call dgworks_ok ?_
 rintro _ h1 ⟨X1,rfl⟩
 simp -dsimp (disch:=omega) only[wpS,wpT,Nat.reduceEqDiff]
 exact⟨s.e.trans X1,by simp[s.f0],by simp[s.f1],by simp[s.f2],by simp[s.f3]⟩
set_option maxHeartbeats 2000000 in
theorem c2 (hv:ShArg h v l0) (hw:DrSl h w n) (s:CX h hh fr v w lag most):Do (wpC Proofs.Tryz.prog 5 115 none (partC 2) fr hh) (seqK (fun fr h'=>Pst (CX h h' fr v w lag most ∧ ∃hb w1 w2 x1 x2,ShSl hb w1 x1∧ShSl hb w2 x2∧x1.length≤3∧x2.length≤12∧h'=hb.new (.cells [w1,w2] 1 none)∧fget fr 9=some (.slice (some ⟨2*hb.n,0,none⟩) 2 5)) nx) Q) nx:=by
 show Do (wpC _ _ _ _ (.region _ _ _) fr hh) _ _
 simp -dsimp (disch:=omega) only[wpS,s.f0]
 refine call (light_ok (hv.keep s.e.keep)) ?_
 rintro w1 h1 ⟨X1,l1,s1,hl1,hn1⟩
 simp -dsimp (disch:=omega) only[wpS,Nat.reduceEqDiff,s.f1]
 refine call (shorts_ok (hw.keep (s.e.trans X1).keep)) ?_
 rintro w2 h2 ⟨X2,l2,s2,hl2,hsh2,hn2⟩
 simp -dsimp (disch:=omega) only[wpS,wpT,Nat.reduceEqDiff,Nat.reduceLeDiff,Nat.reduceAdd,Nat.reduceMul,bs22,s1.1.cells,s2.1.cells]
 exact⟨⟨((s.e.trans X1).trans X2).new _,by simp[s.f0],by simp[s.f1],by simp[s.f2],by simp[s.f3]⟩,h2,w1,w2,l1,l2,s1.keep X2.keep,s2,hl1,by omega,rfl,rfl⟩
set_option maxHeartbeats 16000000 in
theorem c4 (s:CX h hh fr v w lag most) (hs:In64 lag) {v9:Value} {ll:List (List (Nat×Nat))} (sl:ShLs hh v9 ll) (hf : ∀x∈ll,Fit x.length) (f9:fget fr 9=some v9):Do (wpC Proofs.Tryz.prog 5 115 none (partC 4) fr hh) (seqK (fun fr h'=>Pst (Ext h h') nx) Q) nx:=by
 show Do (wpC _ _ _ _ (.seq _ _) fr hh) _ _
 simp -dsimp (maxSteps:=1000000) (disch:=first|omega|(simp only[new_n,put_n];omega)|decide +kernel|(repeat first|rw[new_n]|rw[put_n])) only[wpS,f9,sl.co.2.2]
 refine loop (fun m fr g => ∃i:Nat,i+m=ll.length∧Ext hh g∧fget fr 2=some (KI lag)∧fget fr 40=some v9∧fget fr 41=some (KN ll.length)∧fget fr 42=some (KN i)) ll.length
  ⟨0,by omega,Ext.refl _,by simp[s.f2],by simp,by simp,by simp⟩ ?_
 rintro m fr g ⟨i,him,E,f2,f40,f41,f42⟩
 simp -dsimp (maxSteps:=1000000) (disch:=first|omega|(simp only[new_n,put_n];omega)|decide +kernel|(repeat first|rw[new_n]|rw[put_n])) only[wpS,f41,f42]
 refine bq_intro ?_ ?_<;>intro hc<;>simp only[decide_eq_true_eq,decide_eq_false_iff_not] at hc
 ·have hi:i<ll.length:=by omega
  obtain⟨x,hx⟩ : ∃x,ll[i]?=some x:=⟨_,List.getElem?_eq_getElem hi⟩
  have fx:=hf x (List.mem_of_getElem? hx)
  obtain⟨wv,ld,sx,ix⟩:=sl.at E.keep hx
  have hlen:ll.length<1152921504606846976:=by obtain⟨_,_,q,_⟩:=sl;exact q
  obtain⟨p,a,pw,hr⟩:=meanP_form x
  obtain⟨p',a',pw',hr'⟩:=effP_form x
  have na:(a != a)=false:=by simp
  have na':(a' != a')=false:=by simp
  simp -dsimp (maxSteps:=1000000) (disch:=first|omega|(simp only[new_n,put_n];omega)|decide +kernel|(repeat first|rw[new_n]|rw[put_n])) only[wpS,wpT,Nat.reduceEqDiff,f40,f42,ix,ld]
  refine call (gMean sx) ?_
  rintro _ g1 ⟨Y1,rfl⟩
  rw[hr]
  obtain⟨G1,hG1,n1,Z1,k1⟩:=box_put g1 p
  simp -dsimp (maxSteps:=1000000) (disch:=first|omega|(simp only[new_n,put_n];omega)|decide +kernel|(repeat first|rw[new_n]|rw[put_n])) only[wpS,wpT,Nat.reduceEqDiff,Nat.reduceLeDiff,Nat.reduceAdd,zc30,st30,shV_cells,shC_len,shC_all,sh_sp3]
  rw[←hG1]
  clear hG1
  have V1:=Y1.trans Z1
  refine call (rMean (sx.keep V1.keep)) ?_
  rintro _ g2 ⟨Y2,rfl⟩
  rw[hr]
  obtain⟨G2,hG2,n2,Z2,k2⟩:=box_put g2 p
  simp -dsimp (maxSteps:=1000000) (disch:=first|omega|(simp only[new_n,put_n];omega)|decide +kernel|(repeat first|rw[new_n]|rw[put_n])) only[wpS,wpT,Nat.reduceEqDiff,Nat.reduceLeDiff,Nat.reduceAdd,zc30,st30,shV_cells,shC_len,shC_all,sh_sp3]
  rw[←hG2]
  clear hG2
  have V2:=V1.trans (Y2.trans Z2)
  refine call (gEff (sx.keep V2.keep) fx) ?_
  rintro _ g3 ⟨Y3,rfl⟩
  rw[hr']
  obtain⟨G3,hG3,n3,Z3,k3⟩:=box_put g3 p'
  simp -dsimp (maxSteps:=1000000) (disch:=first|omega|(simp only[new_n,put_n];omega)|decide +kernel|(repeat first|rw[new_n]|rw[put_n])) only[wpS,wpT,Nat.reduceEqDiff,Nat.reduceLeDiff,Nat.reduceAdd,zc30,st30,shV_cells,shC_len,shC_all,sh_sp3]
  rw[←hG3]
  clear hG3
  have V3:=V2.trans (Y3.trans Z3)
  refine call (rEff (sx.keep V3.keep) fx) ?_
  rintro _ g4 ⟨Y4,rfl⟩
  rw[hr']
  obtain⟨G4,hG4,n4,Z4,k4⟩:=box_put g4 p'
  simp -dsimp (maxSteps:=1000000) (disch:=first|omega|(simp only[new_n,put_n];omega)|decide +kernel|(repeat first|rw[new_n]|rw[put_n])) only[wpS,wpT,Nat.reduceEqDiff,Nat.reduceLeDiff,Nat.reduceAdd,zc30,st30,ld30,shV_cells,shC_len,shC_all,sh_sp3]
  rw[←hG4]
  clear hG4
  have V4:=V3.trans (Y4.trans Z4)
  have y2:=Y2.trans Z2
  have y3:=Y3.trans Z3
  have y4:=Y4.trans Z4
  have m1:=Z1.n
  have q1:=((y2.trans y3).trans y4).kept (by omega) k1
  have q2:=(y3.trans y4).kept (by omega) k2
  have q3:=y4.kept (by omega) k3
  have q4:=k4
  obtain⟨z,hz,hrem⟩:=rem13 lag
  simp -dsimp (maxSteps:=1000000) (disch:=first|omega|(simp only[new_n,put_n];omega)|decide +kernel|(repeat first|rw[new_n]|rw[put_n])) only[wpS,wpT,Nat.reduceEqDiff,Nat.reduceLeDiff,Nat.reduceAdd,ld30,cv3_56,cv56_3,bv57,pl57_0,pl57_1,row_of q1,row_of q2,row_of q3,row_of q4,shC_len,sh_take,neq_same pw,neq_same pw',na,na',f2,hrem]
  refine loop (fun m2 fr gg => ∃j:Nat,j+m2=2∧Ext G4 gg∧fget fr 11=some wv∧fget fr 89=some (.agg #[KI lag,KI z])∧fget fr 90=some (KN j)∧fget fr 2=some (KI lag)∧fget fr 40=some v9∧fget fr 41=some (KN ll.length)∧fget fr 42=some (KN i)) 2
   ⟨0,by omega,Ext.refl _,by simp,by simp,by simp,by simp[f2],by simp[f40],by simp[f41],by simp[f42]⟩ ?_
  rintro m2 fr2 gg ⟨j,hj2,EE,f11,f89,f90,f2,f40,f41,f42⟩
  simp -dsimp (maxSteps:=1000000) (disch:=first|omega|(simp only[new_n,put_n];omega)|decide +kernel|(repeat first|rw[new_n]|rw[put_n])) only[wpS,f90]
  refine bq_intro ?_ ?_<;>intro hcc<;>simp only[decide_eq_true_eq,decide_eq_false_iff_not] at hcc
  ·have sw:=sx.keep (V4.trans EE).keep
   have cases2:j=0∨j=1:=by omega
   rcases cases2 with rfl|rfl
   ·have hi0:indexV Proofs.Tryz.prog 57 (.agg #[KI lag,KI z]) (KN 0)=some (KI lag):=by kernel_rfl
    obtain⟨pa,b,paw,hra⟩:=autoP_form x lag
    have nb:(b != b)=false:=by simp
    simp -dsimp (maxSteps:=1000000) (disch:=first|omega|(simp only[new_n,put_n];omega)|decide +kernel|(repeat first|rw[new_n]|rw[put_n])) only[wpS,wpT,Nat.reduceEqDiff,f11,f89,f90,hi0]
    refine call (gAuto sw fx lag) ?_
    rintro _ g5 ⟨Y5,rfl⟩
    rw[hra]
    obtain⟨G5,hG5,n5,Z5,k5⟩:=box_put g5 pa
    simp -dsimp (maxSteps:=1000000) (disch:=first|omega|(simp only[new_n,put_n];omega)|decide +kernel|(repeat first|rw[new_n]|rw[put_n])) only[wpS,wpT,Nat.reduceEqDiff,Nat.reduceLeDiff,Nat.reduceAdd,zc30,st30,shV_cells,shC_len,shC_all,sh_sp3,f11]
    rw[←hG5]
    clear hG5
    have V5:=Y5.trans Z5
    refine call (rAuto (sw.keep V5.keep) fx lag) ?_
    rintro _ g6 ⟨Y6,rfl⟩
    rw[hra]
    obtain⟨G6,hG6,n6,Z6,k6⟩:=box_put g6 pa
    simp -dsimp (maxSteps:=1000000) (disch:=first|omega|(simp only[new_n,put_n];omega)|decide +kernel|(repeat first|rw[new_n]|rw[put_n])) only[wpS,wpT,Nat.reduceEqDiff,Nat.reduceLeDiff,Nat.reduceAdd,zc30,st30,ld30,shV_cells,shC_len,shC_all,sh_sp3]
    rw[←hG6]
    clear hG6
    have y6:=Y6.trans Z6
    have q5:=y6.kept (by omega) k5
    simp -dsimp (maxSteps:=1000000) (disch:=first|omega|(simp only[new_n,put_n];omega)|decide +kernel|(repeat first|rw[new_n]|rw[put_n])) only[wpS,wpT,Nat.reduceEqDiff,Nat.reduceLeDiff,ld30,row_of q5,row_of k6,shC_len,sh_take,neq_same paw,nb,f90]
    exact⟨1,by omega,1,by omega,EE.trans (V5.trans y6),by simp[f11],by simp[f89],by simp,by simp[f2],by simp[f40],by simp[f41],by simp[f42]⟩
   ·have hi0:indexV Proofs.Tryz.prog 57 (.agg #[KI lag,KI z]) (KN 1)=some (KI z):=by kernel_rfl
    obtain⟨pa,b,paw,hra⟩:=autoP_form x z
    have nb:(b != b)=false:=by simp
    simp -dsimp (maxSteps:=1000000) (disch:=first|omega|(simp only[new_n,put_n];omega)|decide +kernel|(repeat first|rw[new_n]|rw[put_n])) only[wpS,wpT,Nat.reduceEqDiff,f11,f89,f90,hi0]
    refine call (gAuto sw fx z) ?_
    rintro _ g5 ⟨Y5,rfl⟩
    rw[hra]
    obtain⟨G5,hG5,n5,Z5,k5⟩:=box_put g5 pa
    simp -dsimp (maxSteps:=1000000) (disch:=first|omega|(simp only[new_n,put_n];omega)|decide +kernel|(repeat first|rw[new_n]|rw[put_n])) only[wpS,wpT,Nat.reduceEqDiff,Nat.reduceLeDiff,Nat.reduceAdd,zc30,st30,shV_cells,shC_len,shC_all,sh_sp3,f11]
    rw[←hG5]
    clear hG5
    have V5:=Y5.trans Z5
    refine call (rAuto (sw.keep V5.keep) fx z) ?_
    rintro _ g6 ⟨Y6,rfl⟩
    rw[hra]
    obtain⟨G6,hG6,n6,Z6,k6⟩:=box_put g6 pa
    simp -dsimp (maxSteps:=1000000) (disch:=first|omega|(simp only[new_n,put_n];omega)|decide +kernel|(repeat first|rw[new_n]|rw[put_n])) only[wpS,wpT,Nat.reduceEqDiff,Nat.reduceLeDiff,Nat.reduceAdd,zc30,st30,ld30,shV_cells,shC_len,shC_all,sh_sp3]
    rw[←hG6]
    clear hG6
    have y6:=Y6.trans Z6
    have q5:=y6.kept (by omega) k5
    simp -dsimp (maxSteps:=1000000) (disch:=first|omega|(simp only[new_n,put_n];omega)|decide +kernel|(repeat first|rw[new_n]|rw[put_n])) only[wpS,wpT,Nat.reduceEqDiff,Nat.reduceLeDiff,ld30,row_of q5,row_of k6,shC_len,sh_take,neq_same paw,nb,f90]
    exact⟨0,by omega,2,by omega,EE.trans (V5.trans y6),by simp[f11],by simp[f89],by simp,by simp[f2],by simp[f40],by simp[f41],by simp[f42]⟩
  ·simp -dsimp (maxSteps:=1000000) (disch:=first|omega|(simp only[new_n,put_n];omega)|decide +kernel|(repeat first|rw[new_n]|rw[put_n])) only[wpS,wpT,Nat.reduceEqDiff,f42]
   exact⟨m - 1,by omega,i+1,by omega,(E.trans V4).trans EE,by simp[f2],by simp[f40],by simp[f41],by simp⟩
 ·simp -dsimp (maxSteps:=1000000) (disch:=first|omega|(simp only[new_n,put_n];omega)|decide +kernel|(repeat first|rw[new_n]|rw[put_n])) only[wpS,wpT]
  exact s.e.trans E
end
end Go.Id

/-! Contracts: share.Sum. -/
namespace Go.Id
open Go
set_option maxHeartbeats 4000000 in
theorem shsum_ok {h:IH} {v:Value} {l:List (Nat×Nat)} (hv:ShSl h v l) (hl:l.length≤400) (hok:allOk l):WV Proofs.Tryz.prog (.func (.func 44) #[] #[]) [v] h fun r h'=>Ext h h'∧r=toldV (qsum (l.map rOf)):=by
 obtain⟨n,d,e,ht⟩:=toldV_form (qsum (l.map rOf))
 have dt:decide (∀p∈l,okS p.1 p.2)=true:=decide_eq_true hok
 have dl:decide ((400:Int)<(l.length:Int))=false:=decide_eq_false (by omega)
 have hq:=hv.qb hok
 have hlm:(l.map rOf).length=l.length:=List.length_map _
 refine enter (nt:=31) (rs:=[.cell 2 30,.tmp 3]) Proofs.Tryz.func44 rfl rfl rfl (by simp) ?_
 simp -dsimp (disch:=omega) only[wpS,Nat.reduceEqDiff,zc30,hv.1.len sl25,dl]
 obtain⟨G0,hG0⟩ : ∃G,G=h.new (.cells Z16 0 none):=⟨_,rfl⟩
 have E0:Ext h G0:=by rw[hG0];exact(Ext.refl h).new _
 have g0:G0.ext.get h.n=some (.cells Z16 0 none):=by rw[hG0];simp (disch:=first|omega|(simp only[new_n,put_n];omega)|(repeat first|rw[new_n]|rw[put_n])) only[get_new_same]
 have n0:G0.n=h.n+1:=by rw[hG0];rfl
 rw[←hG0]
 clear hG0
 refine call (shvalid_ok (hv.keep E0.keep)) ?_
 rintro _ k1 ⟨Y1,rfl⟩
 rw[dt]
 simp -dsimp (disch:=omega) only[wpS,wpT,Nat.reduceEqDiff]
 refine call (rfrom_ok 0 ⟨by omega,by omega⟩) ?_
 rintro x0 k2 ⟨Y2,px⟩
 have Y12:=Y1.trans Y2
 have m2:=Y12.n
 obtain⟨a0,s0,b0,t0,rfl,hn0,hd0,c1,o1,c2,o2,o3,o4⟩:=px.parts
 obtain⟨H0,hH0⟩ : ∃H0,H0=(k2.new (.cells ZR 0 none)).put k2.n (.cells [a0,s0,b0,t0] 0 none):=⟨_,rfl⟩
 have nH:H0.n=k2.n+1:=by rw[hH0];rfl
 have kH:H0.ext.get k2.n=some (.cells [a0,s0,b0,t0] 0 none):=by rw[hH0];simp (disch:=first|omega|(simp only[new_n,put_n];omega)|(repeat first|rw[new_n]|rw[put_n])) only[get_put_same]
 have EH:Ext k2 H0:=by rw[hH0];exact((Ext.refl k2).new _).put (by omega) _
 simp -dsimp (disch:=omega) only[wpS,wpT,Nat.reduceEqDiff,Nat.reduceLeDiff,Nat.reduceAdd,zc83,st83,o1,o2,o3,o4]
 rw[←hH0]
 clear hH0
 have XX:=E0.trans (Y12.trans EH)
 simp -dsimp (disch:=omega) only[wpS,hv.1.len sl25]
 refine loop (fun m fr hh => ∃(i:Nat) (a s b t:Value),i+m=l.length∧Ext h hh∧h.n<hh.n∧k2.n<hh.n∧hh.ext.get h.n=some (.cells Z16 0 none)∧hh.ext.get k2.n=some (.cells [a,s,b,t] 0 none)∧PRat hh (.agg #[a,s,b,t]) (qsum ((l.map rOf).take i))∧fget fr 2=some (ptr (2*h.n) 0)∧fget fr 4=some (ptr (2*k2.n) 0)∧fget fr 16=some v∧fget fr 17=some (KN l.length)∧fget fr 18=some (KN i)) l.length
  ⟨0,a0,s0,b0,t0,by omega,XX,by omega,by omega,(Y12.trans EH).kept (by omega) g0,kH,by rw[List.take_zero,qsum_nil];exact PRat.keep px EH.keep,by simp,by simp,by simp,by simp,by simp⟩ ?_
 rintro m fr hh ⟨i,a,s,b,t,him,hE,hn,hk,hg,hkk,hp,f2,f4,f16,f17,f18⟩
 simp -dsimp (disch:=omega) only[wpS,f17,f18]
 refine bq_intro ?_ ?_<;>intro hc<;>simp only[decide_eq_true_eq,decide_eq_false_iff_not] at hc
 ·have hi:i<l.length:=by omega
  obtain⟨p,hpi⟩ : ∃p,l[i]?=some p:=⟨_,List.getElem?_eq_getElem hi⟩
  have hpm:=List.mem_of_getElem? hpi
  obtain⟨p1,p2⟩:=hv.2.2 p hpm
  have okp:=hok p hpm
  obtain⟨B0,hB0,nB,ZB,kB⟩:=box_put hh p
  simp -dsimp (disch:=omega) only[wpS,wpT,Nat.reduceEqDiff,Nat.reduceLeDiff,Nat.reduceAdd,zc30,st30,f16,f18,hv.1.idx es25 hi,hv.ld hE.keep hpi,shV_cells,shC_len,shC_all,sh_sp3]
  rw[←hB0]
  clear hB0
  have kk:=ZB.kept hk hkk
  have X0:=Ext.refl B0
  have L4:=(pl4 kk).2.2
  refine drawn [(0,[3])] (by kernel_rfl) (by kernel_rfl) rfl ?_
  simp -dsimp (disch:=omega) only[wpS,wpT,Nat.reduceEqDiff,Nat.reduceLeDiff,Nat.reduceAdd,ld30,ld83,f4,row_of kk,row_of kB,shC_len,sh_take,tk4']
  refine call (shread_ok p.1 p.2 p1 p2) ?_
  rintro w q1 ⟨W1,pw⟩
  obtain⟨wa,ws,wb,wt,e1,e2,e3,wc,wo,wc2,wo2,wo3,wo4⟩:=hp.parts
  have qb1:QB (i*513) (qsum ((l.map rOf).take i)):=QB.qsum hq i (by omega)
  have qb2:QB 512 (rOf p):=hq _ (List.mem_map.2 ⟨p,hpm,rfl⟩)
  simp -dsimp (disch:=omega) only[wpS,Nat.reduceEqDiff]
  refine call (rplus_ok (hp.keep (ZB.trans W1).keep) (pw.rat okp) qb1 qb2 (by omega)) ?_
  rintro y q2 ⟨W2,py⟩
  have W12:=W1.trans W2
  have mW:=W12.n
  obtain⟨a9,s9,b9,t9,rfl,hn9,hd9,c9,o9,c10,o10,o11,o12⟩:=py.parts
  have kg:=W12.kept (by omega) kk
  simp -dsimp (disch:=omega) only[wpS,wpT,Nat.reduceEqDiff,Nat.reduceLeDiff,Nat.reduceAdd,st83,f4,kg,o9,o10,o11,o12]
  refine⟨wpSteady_one rfl rfl rfl rfl (steady_ext (H0:=B0) (b:=2*k2.n) (o:=0) f4 (by omega) (by assumption) (by assumption) L4),?_⟩
  simp -dsimp (disch:=omega) only[wpS,wpT,Nat.reduceEqDiff,Nat.reduceAdd,f18]
  have kp:=(Keep.refl q2).put kg (.cells [a9,s9,b9,t9] 0 none)
  have EE:=hE.trans (ZB.trans W12)
  have es:qsum ((l.map rOf).take (i+1))=qsum ((l.map rOf).take i)+rOf p:=by
   rw[take_snoc (q:=rOf p) (by rw[List.getElem?_map,hpi];rfl),qsum_app,qsum_cons,qsum_nil]
   grind
  refine⟨m - 1,by omega,i+1,a9,s9,b9,t9,by omega,EE.put (by omega) _,by simp only[put_n];omega,by simp only[put_n];omega,?_,by simp (disch:=first|omega|(simp only[new_n,put_n];omega)|(repeat first|rw[new_n]|rw[put_n])) only[get_put_same],by rw[es];exact py.keep kp,by simp[f2],by simp[f4],by simp[f16],by simp[f17],by simp⟩
  rw[get_put,if_neg (by omega)]
  exact(ZB.trans W12).kept hn hg
 ·obtain rfl:i=l.length:=by omega
  rw[List.take_of_length_le (by omega)] at hp
  simp -dsimp (disch:=omega) only[wpS,wpT,Nat.reduceEqDiff,Nat.reduceLeDiff,Nat.reduceAdd,ld83,f4,row_of hkk,tk4']
  refine call (rtold_ok hp) ?_
  rintro _ q1 ⟨W1,rfl⟩
  have hT:(open Classical in if QW (qsum (l.map rOf)) then Value.tuple #[shareV (qsum (l.map rOf)),KI 0] else .tuple #[shV 0 0,KI 6])=.tuple #[shV n d,KI e]:=ht
  rw[hT,ht]
  have kg:=W1.kept hn hg
  have mW:=W1.n
  simp -dsimp (disch:=omega) only[wpS,wpT,Nat.reduceEqDiff,Nat.reduceLeDiff,Nat.reduceAdd,st30,ld30,f2,kg,shV_cells,shC_len,shC_all,sh_sp3,sh_take]
  exact⟨Ext.put (hE.trans W1) (Nat.le_refl _) _,rfl⟩
end Go.Id

/-! DiagnoseSums: what the law needs of numbers (no program in sight). -/
namespace Go.Id
open Go
def Sm (m:Nat) (f:Nat→Rat):Rat:=qsum ((List.range m).map f)
theorem Sm_zero (f:Nat→Rat):Sm 0 f=0:=rfl
theorem Sm_succ (m:Nat) (f:Nat→Rat):Sm (m+1) f=Sm m f+f m:=by
 unfold Sm
 rw[List.range_succ,List.map_append,qsum_app,List.map_cons,List.map_nil,qsum_cons,qsum_nil]
 grind
theorem Sm_congr {f g:Nat→Rat} : ∀{m:Nat},(∀t,t<m→f t=g t)→Sm m f=Sm m g
 | 0,_=>rfl
 | m+1,h=>by rw[Sm_succ,Sm_succ,Sm_congr fun t ht=>h t (by omega),h m (by omega)]
theorem Sm_add (f g:Nat→Rat) : ∀m,Sm m (fun t=>f t+g t)=Sm m f+Sm m g
 | 0=>by rw[Sm_zero,Sm_zero,Sm_zero];grind
 | m+1=>by rw[Sm_succ,Sm_succ,Sm_succ,Sm_add f g m];grind
theorem Sm_mul (c:Rat) (f:Nat→Rat) : ∀m,Sm m (fun t=>c*f t)=c*Sm m f
 | 0=>by rw[Sm_zero,Sm_zero];grind
 | m+1=>by rw[Sm_succ,Sm_succ,Sm_mul c f m];grind
theorem Sm_le {f g:Nat→Rat} : ∀{m:Nat},(∀t,t<m→f t≤g t)→Sm m f≤Sm m g
 | 0,_=>Rat.le_refl
 | m+1,h=>by
  rw[Sm_succ,Sm_succ]
  have h1:=Sm_le (m:=m) (f:=f) (g:=g) fun t ht=>h t (by omega)
  have h2:=h m (by omega)
  grind
theorem Sm_ge {f:Nat→Rat} : ∀{m:Nat},(∀t,t<m→0≤f t)→0≤Sm m f
 | 0,_=>Rat.le_refl
 | m+1,h=>by
  rw[Sm_succ]
  exact Rat.add_nonneg (Sm_ge fun t ht=>h t (by omega)) (h m (by omega))
theorem Sm_split (f:Nat→Rat) (a:Nat) : ∀b,Sm (a+b) f=Sm a f+Sm b (fun t=>f (t+a))
 | 0=>by rw[Sm_zero];grind
 | b+1=>by
  rw[←Nat.add_assoc,Sm_succ,Sm_split f a b,Sm_succ,Nat.add_comm b a]
  grind
theorem Sm_rev (f:Nat→Rat) : ∀n,Sm n (fun k=>f (n - 1 - k))=Sm n f
 | 0=>rfl
 | n+1=>by
  have h:=Sm_split (fun k=>f (n+1 - 1 - k)) 1 n
  rw[Nat.add_comm 1 n] at h
  rw[h,Sm_succ n f]
  have e:Sm n (fun t=>f (n+1 - 1 - (t+1)))=Sm n (fun k=>f (n - 1 - k)):=Sm_congr fun t ht=>by congr 1;omega
  rw[e,Sm_rev f n]
  have e1:Sm 1 (fun k=>f (n+1 - 1 - k))=f n:=by
   rw[Sm_succ,Sm_zero]
   simp only[Nat.add_sub_cancel,Nat.sub_zero]
   grind
  rw[e1]
  grind
def Gm (d:Nat→Rat) (n:Nat):Rat:=Sm n fun k=>Sm (n - k - 1) fun t=>d t*d (t+(k+1))
theorem Gm_sq (d:Nat→Rat) : ∀n,Sm n (fun t=>d t*d t)+2*Gm d n=Sm n d*Sm n d
 | 0=>by unfold Gm;rw[Sm_zero,Sm_zero,Sm_zero];grind
 | n+1=>by
  have ih:=Gm_sq d n
  have e:Gm d (n+1)=Gm d n+d n*Sm n d:=by
   unfold Gm
   rw[Sm_succ]
   have z:Sm (n+1 - n - 1) (fun t=>d t*d (t+(n+1)))=0:=by
    rw[show n+1 - n - 1=0 from by omega];rfl
   rw[z,←Sm_mul,←Sm_rev (fun k=>d n*d k) n]
   have h:Sm n (fun k=>Sm (n+1 - k - 1) (fun t=>d t*d (t+(k+1))))=Sm n (fun k=>Sm (n - k - 1) (fun t=>d t*d (t+(k+1)))+d n*d (n - 1 - k)):=Sm_congr fun k hk=>by
    obtain⟨j,hj⟩ : ∃j,n - k - 1=j:=⟨_,rfl⟩
    have hj1:n+1 - k - 1=j+1:=by omega
    have hj2:n - 1 - k=j:=by omega
    have hj3:j+(k+1)=n:=by omega
    rw[hj,hj1,hj2,Sm_succ,hj3]
    grind
   rw[h,Sm_add]
   grind
  rw[Sm_succ,Sm_succ,e]
  grind
theorem Sm_list (l:List Rat):Sm l.length (fun t=>l.getD t 0)=qsum l:=by
 unfold Sm
 congr 1
 apply List.ext_getElem?
 intro i
 rw[List.getElem?_map]
 by_cases hi:i<l.length
 ·rw[List.getElem?_range hi]
  simp[List.getD_eq_getElem?_getD,List.getElem?_eq_getElem hi]
 ·rw[List.getElem?_eq_none (by simpa using hi),List.getElem?_eq_none (by omega)];rfl
theorem Sm_const (c:Rat) : ∀n,Sm n (fun _=>c)=c*((n:Int):Rat)
 | 0=>by rw[Sm_zero];simp
 | n+1=>by rw[Sm_succ,Sm_const c n,Int.natCast_add,Rat.intCast_add];grind
def dv (l:List Rat) (t:Nat):Rat:=l.getD t 0 - qmean l
theorem dv_sum {l:List Rat} (h0:l ≠ []):Sm l.length (dv l)=0:=by
 have hl:0<l.length:=List.length_pos_iff.2 h0
 have hn:=nat_ne hl
 have e:Sm l.length (dv l)=Sm l.length (fun t=>l.getD t 0)+Sm l.length (fun _ => -qmean l):=by
  rw[←Sm_add]
  exact Sm_congr fun t _=>by unfold dv;grind
 rw[e,Sm_list,Sm_const]
 unfold qmean qlen
 grind
theorem qauto_dv (l:List Rat) (k:Nat):qauto l (qmean l) k=Sm (l.length - k) (fun t=>dv l t*dv l (t+k)) / qlen l:=rfl
theorem qabs_le {x y:Rat} (h1:x≤y) (h2 : -x≤y):qabs x≤y:=by
 unfold qabs;split<;>assumption
theorem qauto_le {l:List Rat} (h0:l ≠ []) (k:Nat) (hk:k≤l.length):qabs (qauto l (qmean l) k)≤qauto l (qmean l) 0:=by
 have hl:0<l.length:=List.length_pos_iff.2 h0
 have hn:(0:Rat)<((l.length:Int):Rat):=by
  have:=Rat.intCast_pos.2 (show(0:Int)<(l.length:Int) by omega)
  exact this
 obtain⟨m,hm⟩ : ∃m,l.length=k+m:=⟨l.length - k,by omega⟩
 have q0:Sm (l.length - 0) (fun t=>dv l t*dv l (t+0))=Sm l.length (fun t=>dv l t*dv l t):=rfl
 obtain⟨W,hW⟩ : ∃W,W=Sm l.length (fun t=>dv l t*dv l t):=⟨_,rfl⟩
 have a1:Sm (l.length - k) (fun t=>dv l t*dv l t)≤W:=by
  rw[hW]
  have:=Sm_split (fun t=>dv l t*dv l t) (l.length - k) k
  rw[show l.length - k+k=l.length from by omega] at this
  rw[this]
  have:=Sm_ge (m:=k) (f:=fun t=>(fun t=>dv l t*dv l t) (t+(l.length - k))) fun t _=>sqr_ge _
  grind
 have a2:Sm (l.length - k) (fun t=>dv l (t+k)*dv l (t+k))≤W:=by
  rw[hW]
  have:=Sm_split (fun t=>dv l t*dv l t) k (l.length - k)
  rw[show k+(l.length - k)=l.length from by omega] at this
  rw[this]
  have:=Sm_ge (m:=k) (f:=fun t=>dv l t*dv l t) fun t _=>sqr_ge _
  grind
 have b1:Sm (l.length - k) (fun t=>2*(dv l t*dv l (t+k)))≤Sm (l.length - k) (fun t=>dv l t*dv l t+dv l (t+k)*dv l (t+k)):=Sm_le fun t _=>by
  have:=sqr_ge (dv l t - dv l (t+k))
  grind
 have b2:Sm (l.length - k) (fun t => -2*(dv l t*dv l (t+k)))≤Sm (l.length - k) (fun t=>dv l t*dv l t+dv l (t+k)*dv l (t+k)):=Sm_le fun t _=>by
  have:=sqr_ge (dv l t+dv l (t+k))
  grind
 rw[Sm_add,Sm_mul] at b1 b2
 rw[qauto_dv,qauto_dv,q0,←hW]
 obtain⟨V,hV⟩ : ∃V,V=Sm (l.length - k) (fun t=>dv l t*dv l (t+k)):=⟨_,rfl⟩
 rw[←hV] at b1 b2 ⊢
 unfold qlen
 obtain⟨n,hnn⟩ : ∃n:Rat,n=((l.length:Int):Rat):=⟨_,rfl⟩
 rw[←hnn] at hn ⊢
 refine qabs_le ?_ ?_
 ·rw[Rat.div_def,Rat.div_def]
  exact Rat.mul_le_mul_of_nonneg_right (by grind) (Rat.le_of_lt (Rat.inv_pos.2 hn))
 ·have : -(V / n) = -V / n:=by rw[Rat.div_def,Rat.div_def];grind
  rw[this,Rat.div_def,Rat.div_def]
  exact Rat.mul_le_mul_of_nonneg_right (by grind) (Rat.le_of_lt (Rat.inv_pos.2 hn))
def allAuto (l:List Rat):Nat→List Rat
 | 0 => [qauto l (qmean l) 0]
 | k+1=>allAuto l k ++ [qauto l (qmean l) (k+1),qauto l (qmean l) (k+1)]
theorem allAuto_len (l:List Rat) : ∀k,(allAuto l k).length=2*k+1
 | 0=>rfl
 | k+1=>by rw[allAuto,List.length_append,allAuto_len l k];simp;omega
theorem allAuto_sum (l:List Rat) : ∀k,qsum (allAuto l k)=qauto l (qmean l) 0+2*Sm k (fun j=>qauto l (qmean l) (j+1))
 | 0=>by rw[allAuto,qsum_cons,qsum_nil,Sm_zero];grind
 | k+1=>by rw[allAuto,qsum_app,allAuto_sum l k,qsum_cons,qsum_cons,qsum_nil,Sm_succ];grind
theorem allAuto_zero {l:List Rat} (h0:l ≠ []):qsum (allAuto l (l.length - 1))=0:=by
 have hl:0<l.length:=List.length_pos_iff.2 h0
 obtain⟨m,hm⟩ : ∃m,l.length=m+1:=⟨l.length - 1,by omega⟩
 have hn:=nat_ne hl
 rw[allAuto_sum]
 have g:=Gm_sq (dv l) l.length
 rw[dv_sum h0] at g
 have e:Sm (l.length - 1) (fun j=>qauto l (qmean l) (j+1))=Gm (dv l) l.length / qlen l:=by
  unfold Gm
  have e1:Sm l.length (fun k=>Sm (l.length - k - 1) fun t=>dv l t*dv l (t+(k+1)))=Sm (l.length - 1) (fun k=>Sm (l.length - k - 1) fun t=>dv l t*dv l (t+(k+1))):=by
   have:=Sm_succ (l.length - 1) (fun k=>Sm (l.length - k - 1) fun t=>dv l t*dv l (t+(k+1)))
   rw[show l.length - 1+1=l.length from by omega] at this
   rw[this,show l.length - (l.length - 1) - 1=0 from by omega,Sm_zero]
   grind
  rw[e1,Rat.div_def,Rat.mul_comm,←Sm_mul]
  refine Sm_congr fun j _=>?_
  rw[qauto_dv,Rat.div_def,Rat.mul_comm,show l.length - (j+1)=l.length - j - 1 from by omega]
 rw[e,qauto_dv]
 have q0:Sm (l.length - 0) (fun t=>dv l t*dv l (t+0))=Sm l.length (fun t=>dv l t*dv l t):=rfl
 rw[q0]
 unfold qlen
 generalize Sm l.length (fun t=>dv l t*dv l t)=W at g ⊢
 generalize Gm (dv l) l.length=V at g ⊢
 grind
end Go.Id

/-! The statement DiagnoseParts, on the ideal machine. -/
namespace Go.Id
open Go
structure ShortL (l:List (Nat×Nat)):Prop where
 s : ∀p∈l,isShort p
 n:l.length≤12
 ne:l ≠ []
theorem allOk_of {l:List (Nat×Nat)} (h : ∀p∈l,isShort p):allOk l:=fun p hp=>(h p hp).ok.1
theorem over_of {l:List (Nat×Nat)} (h : ∀p∈l,isShort p) : ∀q∈l.map rOf,Over LC (999*LC) q:=fun q hq=>by
 obtain⟨p,hp,rfl⟩:=List.mem_map.1 hq
 exact(h p hp).ok.2.1
theorem chErr_none {l:List (Nat×Nat)} (h:allOk l) (hn:l.length≤200) (h0:l ≠ []):chErr l=0:=by
 unfold chErr
 have:l.length≠0:=fun e=>h0 (List.length_eq_zero_iff.1 e)
 rw[if_neg (by omega),if_neg (not_not_intro h),if_neg this]
theorem ShortL.err {l:List (Nat×Nat)} (s:ShortL l):chErr l=0:=chErr_none (allOk_of s.s) (by have:=s.n;omega) s.ne
theorem ShortL.pos {l:List (Nat×Nat)} (s:ShortL l):0<l.length:=List.length_pos_iff.2 s.ne
theorem ShortL.mne {l:List (Nat×Nat)} (s:ShortL l):l.map rOf ≠ []:=by simpa using s.ne
theorem qw_auto {l:List Rat} (h : ∀q∈l,Over LC (999*LC) q) (h0:l ≠ []) (hn:l.length≤12) (k:Nat):QW (qauto l (qmean l) k):=by
 have : ∀n,n≤12→LC*n*(LC*n)*n<H8∧n*((999*LC*n+n*(999*LC))*(999*LC*n+n*(999*LC)))<H8:=by decide +kernel
 obtain⟨h1,h2⟩:=this _ hn
 exact(Over.qauto h h0 k).qw h1 h2
theorem autoRes_told {l:List (Nat×Nat)} {lag:Nat} (h1:chErr l=0) (h0:lag<l.length) (h3:QW (qauto (l.map rOf) (qmean (l.map rOf)) lag)):autoRes l (lag:Int)=.tuple #[shV (shq (qauto (l.map rOf) (qmean (l.map rOf)) lag)).1 (shq (qauto (l.map rOf) (qmean (l.map rOf)) lag)).2,KI 0]:=autoRes_of h1 h0 rfl h3
theorem map_rOf_shOf {q:List Rat} (h : ∀x∈q,QW x):(q.map shOf).map rOf=q:=by
 rw[List.map_map]
 conv=>rhs;rw[←List.map_id q]
 exact List.map_congr_left fun x hx=>(shOf_rOf (h x hx)).1
theorem eql_true {p:Nat×Nat} (h:p.1<W8∧p.2<W8) (ox oy:Operand):binop Proofs.Tryz.prog .eql 30 ox oy (.agg (shC p.1 p.2).toArray) (.agg (shC p.1 p.2).toArray)=some (.bool true):=by
 rw[sh_eql h.1 h.2 h.1 h.2];simp
theorem eql_shq {x y:Rat} (hx:QW x) (hy:QW y) (ox oy:Operand):binop Proofs.Tryz.prog .eql 30 ox oy (.agg (shC (shq x).1 (shq x).2).toArray) (.agg (shC (shq y).1 (shq y).2).toArray)=some (.bool (decide (x=y))):=by
 obtain⟨a1,a2⟩:=shq_lt hx
 obtain⟨b1,b2⟩:=shq_lt hy
 rw[sh_eql a1 a2 b1 b2]
 congr 2
 exact decide_eq_decide.2 ⟨fun h=>shq_inj hx hy (Prod.ext h.1 h.2),fun h=>by rw[h];exact⟨rfl,rfl⟩⟩
noncomputable def partP (i:Nat):Code:=nthC (Proofs.Tryz.f4.body.getD .skip) i
structure PX (h hh:IH) (fr:Fr) (sz:Int) (v:Value) (l:List (Nat×Nat)):Prop where
 e:Ext h hh
 f1:fget fr 1=some (.int .u8 sz)
 f5:fget fr 5=some v
 sl:ShSl hh v l
section
variable {h hh:IH} {fr:Fr} {Q:IExit→Fr→IH→Prop} {v w:Value} {n:Nat} {sz:Int} {l:List (Nat×Nat)}
set_option maxHeartbeats 2000000 in
theorem p0 (f0:fget fr 0=some w) (f1:fget fr 1=some (.int .u8 sz)):Do (wpC Proofs.Tryz.prog 4 129 none (partP 0) fr hh) (seqK (fun fr h'=>Pst (h'=hh∧fget fr 0=some w∧fget fr 1=some (.int .u8 sz)) nx) Q) nx:=by
 show Do (wpC _ _ _ _ (.region _ _ _) fr hh) _ _
 simp -dsimp (disch:=omega) only[wpS]
 exact⟨rfl,by simp[f0],by simp[f1]⟩
set_option maxHeartbeats 2000000 in
theorem p1 (f0:fget fr 0=some w) (f1:fget fr 1=some (.int .u8 sz)):Do (wpC Proofs.Tryz.prog 4 129 none (partP 1) fr hh) (seqK (fun fr h'=>Pst (Ext hh h'∧fget fr 0=some w∧fget fr 1=some (.int .u8 sz)) nx) Q) nx:=by
 show Do (wpC _ _ _ _ (.seq _ _) fr hh) _ _
 simp -dsimp (disch:=omega) only[wpS]
 refine call dgworks_ok ?_
 rintro _ h1 ⟨X1,rfl⟩
 simp -dsimp (disch:=omega) only[wpS,wpT,Nat.reduceEqDiff]
 exact⟨X1,by simp[f0],by simp[f1]⟩
set_option maxHeartbeats 2000000 in
theorem p2 (hw:DrSl hh w n) (f0:fget fr 0=some w) (f1:fget fr 1=some (.int .u8 sz)):Do (wpC Proofs.Tryz.prog 4 129 none (partP 2) fr hh) (seqK (fun fr h'=>Pst (∃v l,PX hh h' fr sz v l∧(∀p∈l,isShort p)∧l.length≤12) nx) Q) nx:=by
 show Do (wpC _ _ _ _ (.region _ _ _) fr hh) _ _
 simp -dsimp (disch:=omega) only[wpS,f0]
 refine call (shorts_ok hw) ?_
 rintro w2 h2 ⟨X2,l2,s2,hl2,hsh2,hn2⟩
 simp -dsimp (disch:=omega) only[wpS,Nat.reduceEqDiff]
 exact⟨w2,l2,⟨X2,by simp[f1],by simp,s2⟩,hsh2,by omega⟩
set_option maxHeartbeats 2000000 in
theorem p3 (s:PX h hh fr sz v l) (sh:ShortL l):Do (wpC Proofs.Tryz.prog 4 129 none (partP 3) fr hh) (seqK (fun fr h'=>Pst (PX h h' fr sz v l) nx) Q) nx:=by
 show Do (wpC _ _ _ _ (.seq _ _) fr hh) _ _
 have hp:=sh.pos
 have c1:((l.length:Int) == 0)=false:=by rw[beq_eq_false_iff_ne];omega
 simp -dsimp (disch:=omega) only[wpS,Nat.reduceEqDiff,s.f5,s.sl.1.len sl25,c1]
 exact⟨s.e,by simp[s.f1],by simp[s.f5],s.sl⟩
structure PY (h hh:IH) (fr:Fr) (sz:Int) (v:Value) (l:List (Nat×Nat)) (q:Rat) (b9 b11:Nat):Prop where
 s:PX h hh fr sz v l
 n9:b9<hh.n
 k9:hh.ext.get b9=some (.cells (shC (shq q).1 (shq q).2) 0 none)
 f9:fget fr 9=some (ptr (2*b9) 0)
 f10:fget fr 10=some (KI 0)
 n11:b11<hh.n
 k11:hh.ext.get b11=some (.cells (shC (shq q).1 (shq q).2) 0 none)
 f11:fget fr 11=some (ptr (2*b11) 0)
 f12:fget fr 12=some (KI 0)
theorem PY.to {h3:IH} {fr3:Fr} {q:Rat} {b9 b11:Nat} (y:PY h hh fr sz v l q b9 b11) (E:Ext hh h3) (g1:fget fr3 1=fget fr 1) (g5:fget fr3 5=fget fr 5) (g9:fget fr3 9=fget fr 9) (g10:fget fr3 10=fget fr 10) (g11:fget fr3 11=fget fr 11) (g12:fget fr3 12=fget fr 12):PY h h3 fr3 sz v l q b9 b11:=by
 have:=E.n
 have:=y.n9
 have:=y.n11
 exact⟨⟨y.s.e.trans E,by rw[g1];exact y.s.f1,by rw[g5];exact y.s.f5,y.s.sl.keep E.keep⟩,by omega,E.kept y.n9 y.k9,by rw[g9];exact y.f9,by rw[g10];exact y.f10,by omega,E.kept y.n11 y.k11,by rw[g11];exact y.f11,by rw[g12];exact y.f12⟩
end
end Go.Id

/-! DiagnoseRatios: what the law needs of numbers (no program in sight). -/
namespace Go.Id
open Go
theorem qauto_sqm (l:List Rat):qauto l (qmean l) 0=qsqm l / qlen l:=by
 unfold qauto qsqm qsq
 rw[qprods_zero]
theorem Over.qsqm {L B:Nat} {l:List Rat} (h : ∀q∈l,Over L B q) (h0:l ≠ []):Over (L*l.length*(L*l.length)) (l.length*((B*l.length+l.length*B)*(B*l.length+l.length*B))) (Id.qsqm l):=by
 have hl:0<l.length:=List.length_pos_iff.2 h0
 have hL:0<L:=by obtain⟨x,hx⟩:=List.exists_mem_of_ne_nil l h0;exact(h x hx).1
 unfold Id.qsqm qsq
 have:=Over.qsum (L:=L*l.length*(L*l.length)) (B:=(B*l.length+l.length*B)*(B*l.length+l.length*B)) (l:=l.map fun x=>(x - Id.qmean l)*(x - Id.qmean l)) (Nat.mul_pos (Nat.mul_pos hL hl) (Nat.mul_pos hL hl)) (by
  intro q hq
  obtain⟨x,hx,rfl⟩:=List.mem_map.1 hq
  have k:=((h x hx).up hl).sub (Over.qmean h h0)
  exact k.mul k)
 rwa [List.length_map] at this
theorem svErr_none {ll:List (List (Nat×Nat))} (h1:2≤ll.length) (h2:ll.length≤8) (h : ∀x∈ll,x.length≤200∧allOk x∧2≤x.length∧x.length=len0 ll):svErr ll=0:=by
 have a1:ll.any (fun x=>decide (200<x.length))=false:=by
  rw[List.any_eq_false]
  intro x hx
  have:=(h x hx).1
  simp;omega
 have a2:ll.any (fun x=>decide (¬allOk x))=false:=by
  rw[List.any_eq_false]
  intro x hx
  have:=(h x hx).2.1
  rw[decide_eq_true_iff]
  exact not_not_intro this
 have a3:ll.any (fun x=>decide (x.length<2∨x.length≠len0 ll))=false:=by
  rw[List.any_eq_false]
  intro x hx
  have:=(h x hx).2.2
  rw[decide_eq_true_iff]
  omega
 unfold svErr
 rw[a1,a2,a3,if_neg (by simp;omega),if_neg (by simp),if_neg (by simp;omega)]
structure TwoC (A B:List (Nat×Nat)) (n:Nat):Prop where
 a : ∀p∈A,isShort p
 b : ∀p∈B,isShort p
 la:A.length=n
 lb:B.length=n
 n2:2≤n
 n6:n≤6
theorem TwoC.err {A B:List (Nat×Nat)} {n:Nat} (t:TwoC A B n):svErr [A,B]=0:=by
 have h1:=t.n2
 have h2:=t.n6
 refine svErr_none (by simp) (by simp) fun x hx=>?_
 have e:len0 [A,B]=n:=t.la
 rw[e]
 simp at hx
 rcases hx with rfl|rfl
 ·exact⟨by rw[t.la];omega,allOk_of t.a,by rw[t.la];omega,t.la⟩
 ·exact⟨by rw[t.lb];omega,allOk_of t.b,by rw[t.lb];omega,t.lb⟩
theorem TwoC.ne {A B:List (Nat×Nat)} {n:Nat} (t:TwoC A B n):A.map rOf ≠ []∧B.map rOf ≠ []:=by
 have h1:=t.n2
 refine⟨fun e=>?_,fun e=>?_⟩<;>have:=congrArg List.length e<;>simp at this<;>subst this
 ·have:=t.la;simp at this;omega
 ·have:=t.lb;simp at this;omega
theorem TwoC.v {A B:List (Nat×Nat)} {n:Nat} (t:TwoC A B n):qmeansV [A,B]=qsqm [qmean (A.map rOf),qmean (B.map rOf)]:=by
 unfold qmeansV qcentres
 have e:((([A,B].length - 1:Nat):Int):Rat)=1:=rfl
 rw[e]
 simp only[List.map_cons,List.map_nil]
 grind
end Go.Id

/-! DiagnoseMoves: what the law needs of numbers (no program in sight). -/
namespace Go.Id
open Go
theorem Sm_mulr (c:Rat) (f:Nat→Rat) (m:Nat):Sm m (fun t=>f t*c)=Sm m f*c:=by
 rw[Rat.mul_comm,←Sm_mul]
 exact Sm_congr fun t _=>by grind
theorem getD_map (l:List Rat) (f:Rat→Rat) {t:Nat} (ht:t<l.length):(l.map f).getD t 0=f (l.getD t 0):=by
 simp[List.getD_eq_getElem?_getD,List.getElem?_eq_getElem ht]
theorem qsum_Sm (l:List Rat) (f:Rat→Rat):qsum (l.map f)=Sm l.length (fun t=>f (l.getD t 0)):=by
 rw[←Sm_list,List.length_map]
 exact Sm_congr fun t ht=>getD_map l f ht
theorem qmean_shift {l:List Rat} (h0:l ≠ []) (a:Rat):qmean (l.map (· + a))=qmean l+a:=by
 have hn:=nat_ne (List.length_pos_iff.2 h0)
 unfold qmean qlen
 rw[List.length_map,qsum_Sm,Sm_add,Sm_list,Sm_const]
 grind
theorem qmean_scale {l:List Rat} (h0:l ≠ []) (b:Rat):qmean (l.map (· * b))=qmean l*b:=by
 have hn:=nat_ne (List.length_pos_iff.2 h0)
 unfold qmean qlen
 rw[List.length_map,qsum_Sm,Sm_mulr,Sm_list]
 grind
theorem dv_shift {l:List Rat} (h0:l ≠ []) (a:Rat) {t:Nat} (ht:t<l.length):dv (l.map (· + a)) t=dv l t:=by
 unfold dv
 rw[qmean_shift h0,getD_map l _ ht]
 grind
theorem dv_scale {l:List Rat} (h0:l ≠ []) (b:Rat) {t:Nat} (ht:t<l.length):dv (l.map (· * b)) t=dv l t*b:=by
 unfold dv
 rw[qmean_scale h0,getD_map l _ ht]
 grind
theorem qauto_shift {l:List Rat} (h0:l ≠ []) (a:Rat) (k:Nat):qauto (l.map (· + a)) (qmean (l.map (· + a))) k=qauto l (qmean l) k:=by
 rw[qauto_dv,qauto_dv]
 unfold qlen
 rw[List.length_map]
 congr 1
 exact Sm_congr fun t ht=>by rw[dv_shift h0 a (by omega),dv_shift h0 a (by omega)]
theorem qauto_scale {l:List Rat} (h0:l ≠ []) (b:Rat) (k:Nat):qauto (l.map (· * b)) (qmean (l.map (· * b))) k=qauto l (qmean l) k*(b*b):=by
 rw[qauto_dv,qauto_dv]
 unfold qlen
 rw[List.length_map]
 have e:Sm (l.length - k) (fun t=>dv (l.map (· * b)) t*dv (l.map (· * b)) (t+k))=Sm (l.length - k) (fun t=>dv l t*dv l (t+k))*(b*b):=by
  rw[←Sm_mulr]
  exact Sm_congr fun t ht=>by rw[dv_scale h0 b (by omega),dv_scale h0 b (by omega)];grind
 rw[e]
 grind
theorem qsqm_auto {l:List Rat} (h0:l ≠ []):qsqm l=qauto l (qmean l) 0*qlen l:=by
 have hn:=nat_ne (List.length_pos_iff.2 h0)
 rw[qauto_sqm]
 unfold qlen
 grind
theorem qsqm_shift {l:List Rat} (h0:l ≠ []) (a:Rat):qsqm (l.map (· + a))=qsqm l:=by
 rw[qsqm_auto (by simpa using h0),qsqm_auto h0,qauto_shift h0]
 unfold qlen
 rw[List.length_map]
theorem qsqm_scale {l:List Rat} (h0:l ≠ []) (b:Rat):qsqm (l.map (· * b))=qsqm l*(b*b):=by
 rw[qsqm_auto (by simpa using h0),qsqm_auto h0,qauto_scale h0]
 unfold qlen
 rw[List.length_map]
 grind
theorem effS_scale (a a':Nat→Rat) (w w':Rat) {c:Rat} (hc:0<c) (hw:w≠0) (ha : ∀k,a' k=a k*c) (hw':w'=w*c) (n:Nat) : ∀f k s,effS a' w' n f k s=effS a w n f k s
 | 0,_,_=>rfl
 | f+1,k,s=>by
  have e1:a' (2*k)+a' (2*k+1)≤0↔a (2*k)+a (2*k+1)≤0:=by
   rw[ha,ha]
   constructor
   ·intro h
    refine Rat.not_lt.1 fun hp=>?_
    have:=Rat.mul_pos hp hc
    grind
   ·intro h
    have:=Rat.mul_nonneg (show 0 ≤ -(a (2*k)+a (2*k+1)) by grind) (Rat.le_of_lt hc)
    grind
  have hc0:c≠0:=fun e=>by rw[e] at hc;exact absurd hc (by decide +kernel)
  have e2:(a' (2*k)+a' (2*k+1)) / w'=(a (2*k)+a (2*k+1)) / w:=by
   rw[ha,ha,hw']
   grind
  rw[effS,effS,e2]
  by_cases c1:2*k<n
  ·rw[if_pos c1,if_pos c1]
   by_cases c2:a (2*k)+a (2*k+1)≤0
   ·rw[if_pos c2,if_pos (e1.2 c2)]
   ·rw[if_neg c2,if_neg (fun h=>c2 (e1.1 h)),effS_scale a a' w w' hc hw ha hw' n f]
  ·rw[if_neg c1,if_neg c1]
theorem sqr_pos {b:Rat} (hb:b≠0):0<b*b:=by
 have h1:=sqr_ge b
 have h2:b*b≠0:=fun e=>hb (sqr_zero e)
 exact Rat.not_le.1 fun h=>h2 (Rat.le_antisymm h h1)
theorem qeff_shift {l:List Rat} (h0:l ≠ []) (a:Rat):qeff (l.map (· + a))=qeff l:=by
 unfold qeff qlen
 rw[List.length_map,qauto_shift h0]
 have e:(fun k=>qauto (l.map (· + a)) (qmean (l.map (· + a))) k)=fun k=>qauto l (qmean l) k:=funext fun k=>qauto_shift h0 a k
 have e':qauto (l.map (· + a)) (qmean (l.map (· + a)))=qauto l (qmean l):=e
 rw[e']
theorem qeff_scale {l:List Rat} (h0:l ≠ []) {b:Rat} (hb:b≠0) (hw:qauto l (qmean l) 0≠0):qeff (l.map (· * b))=qeff l:=by
 unfold qeff qlen
 rw[List.length_map,effS_scale (qauto l (qmean l)) (qauto (l.map (· * b)) (qmean (l.map (· * b)))) (qauto l (qmean l) 0) (qauto (l.map (· * b)) (qmean (l.map (· * b))) 0) (sqr_pos hb) hw (fun k=>qauto_scale h0 b k) (qauto_scale h0 b 0)]
structure Moved (A B A' B':List (Nat×Nat)) (f:Rat→Rat):Prop where
 a:A'.map rOf=(A.map rOf).map f
 b:B'.map rOf=(B.map rOf).map f
 na:A.map rOf ≠ []
 nb:B.map rOf ≠ []
theorem Moved.len {A B A' B':List (Nat×Nat)} {f:Rat→Rat} (m:Moved A B A' B' f):A'.length=A.length∧B'.length=B.length:=by
 have h1:=congrArg List.length m.a
 have h2:=congrArg List.length m.b
 simp at h1 h2
 exact⟨h1,h2⟩
theorem len0_two (A B:List (Nat×Nat)):len0 [A,B]=A.length:=rfl
theorem within_two (A B:List (Nat×Nat)):qwithin [A,B]=(qsqm (A.map rOf)+qsqm (B.map rOf)) / (((2*(A.length - 1):Nat):Int):Rat):=by
 unfold qwithin
 simp only[List.map_cons,List.map_nil,qsum_cons,qsum_nil,len0_two,List.length_cons,List.length_nil]
 grind
theorem means_two (A B:List (Nat×Nat)):qmeansV [A,B]=qsqm [qmean (A.map rOf),qmean (B.map rOf)]:=by
 unfold qmeansV qcentres
 have e:((([A,B].length - 1:Nat):Int):Rat)=1:=rfl
 rw[e]
 simp only[List.map_cons,List.map_nil]
 grind
section
variable {A B A' B':List (Nat×Nat)}
theorem Moved.within_shift {x:Rat} (m:Moved A B A' B' (· + x)):qwithin [A',B']=qwithin [A,B]:=by
 rw[within_two,within_two,m.a,m.b,m.len.1,qsqm_shift m.na,qsqm_shift m.nb]
theorem Moved.within_scale {x:Rat} (m:Moved A B A' B' (· * x)):qwithin [A',B']=qwithin [A,B]*(x*x):=by
 rw[within_two,within_two,m.a,m.b,m.len.1,qsqm_scale m.na,qsqm_scale m.nb]
 grind
theorem Moved.ratio_shift {x:Rat} (m:Moved A B A' B' (· + x)):qratioV [A',B']=qratioV [A,B]:=by
 have e:qmeansV [A',B']=qmeansV [A,B]:=by
  rw[means_two,means_two,m.a,m.b,qmean_shift m.na,qmean_shift m.nb]
  exact qsqm_shift (l:=[qmean (A.map rOf),qmean (B.map rOf)]) (by simp) x
 unfold qratioV
 rw[m.within_shift,e,len0_two,len0_two,m.len.1]
theorem Moved.ratio_scale {x:Rat} (m:Moved A B A' B' (· * x)) (hx:x≠0):qratioV [A',B']=qratioV [A,B]:=by
 have e:qmeansV [A',B']=qmeansV [A,B]*(x*x):=by
  rw[means_two,means_two,m.a,m.b,qmean_scale m.na,qmean_scale m.nb]
  exact qsqm_scale (l:=[qmean (A.map rOf),qmean (B.map rOf)]) (by simp) x
 have hp:=sqr_pos hx
 have hp0:x*x≠0:=fun h=>by rw[h] at hp;exact absurd hp (by decide +kernel)
 unfold qratioV
 rw[m.within_scale,e,len0_two,len0_two,m.len.1]
 by_cases hw:qwithin [A,B]=0
 ·rw[hw];grind
 ·grind
end
end Go.Id

/-! The statement DiagnoseSums, on the ideal machine. -/
namespace Go.Id
open Go
def Gro (h:IH) (n0 sz:Nat) (v:Value) (n:Nat) (cs:List Value):Prop:=Acc h n0 sz v n cs∨(0<sz∧cs.length=n*sz ∧ ∃k,v=.slice (some ⟨2*k,0,none⟩) n (2*n+1)∧0<n∧n0≤k∧k<h.n∧h.ext.get k=some (.cells cs sz none))
theorem Gro.sl {h:IH} {n0 sz:Nat} {v:Value} {n:Nat} {cs:List Value} (g:Gro h n0 sz v n cs):SlOf h sz v n cs:=by
 rcases g with a|⟨hz,hl,k,rfl,hn,h1,h2,h3⟩
 ·exact a.sl
 ·exact sl_block h3 h2 hz hl (by omega) (by omega)
theorem Gro.ext {h h':IH} {n0 sz:Nat} {v:Value} {n:Nat} {cs:List Value} (g:Gro h n0 sz v n cs) (e:Ext h h'):Gro h' n0 sz v n cs:=by
 rcases g with a|⟨hz,hl,k,rfl,hn,h1,h2,h3⟩
 ·exact .inl (a.ext e)
 ·exact .inr ⟨hz,hl,k,rfl,hn,h1,by have:=e.n;omega,e.kept h2 h3⟩
theorem Gro.appN {h:IH} {n0 sz:Nat} {v:Value} {n:Nat} {cs:List Value} (g:Gro h n0 sz v n cs) {P:Program} {t:TypeId} {bytes:Nat} (hT:appT P t=some (sz,bytes)) {m:Nat} {new:List Value} (hm:0<m) (hl:new.length=m*sz)
  (hc:new.all cellOK=true) (hsz:(n+m)*(bytes+1)≤1099511627776) (h0:n0≤h.n) {h0':IH} (e0:Ext h0' h) (hn0:h0'.n≤n0) :
  ∃v' h',append P (h.new (.cells new sz none)) t v (.slice (some ⟨2*h.n,0,none⟩) m (2*m+1))=some (v',h')∧Acc h' n0 sz v' (n+m) (cs ++ new)∧Grow h h'∧Ext h0' h':=by
 rcases g with a|⟨hz,hcl,k,rfl,hn,h1,h2,h3⟩
 ·exact a.appN hT hm hl hc hsz h0 e0 hn0
 ·have e1:Ext h (h.new (.cells new sz none)):=(Ext.refl h).new _
  have sv:SlOf h sz (.slice (some ⟨2*k,0,none⟩) n (2*n+1)) n cs:=sl_block h3 h2 hz hcl (by omega) (by omega)
  have sx:SlOf (h.new (.cells new sz none)) sz (.slice (some ⟨2*h.n,0,none⟩) m (2*m+1)) m new:=sl_block (k:=h.n) (f:=none) (get_new_same _ _ rfl) (by simp) hz hl (by omega) (by omega)
  refine⟨_,_,append_full hT (sv.ext e1).now sx.now hm hn hc hsz,?_,(e1.new _).grow,(e0.trans e1).new _⟩
  exact(acc_new hz (by rw[List.length_append,hcl,hl,Nat.add_mul]) (by omega)).from (by simp only[new_n];omega)
theorem build1 {h:IH} (a b:Nat):buildSlice Proofs.Tryz.prog h 25 1 [(0,shV a b)]=some (.slice (some ⟨2*h.n,0,none⟩) 1 3,h.new (.cells (shL [(a,b)]) 16 none)):=by
 rw[bs25 h 1 _ (by decide)]
 have e:fillP (fun i=>some (i*16,16)) (repl 1 [.int .u64 0,.int .u64 0,.int .u64 0,.int .u64 0,.int .u64 0,.int .u64 0,.int .u64 0,.int .u64 0,.int .u64 0,.int .u64 0,.int .u64 0,.int .u64 0,.int .u64 0,.int .u64 0,.int .u64 0,.int .u64 0]) [(0,shV a b)]=some (shL [(a,b)]):=by kernel_rfl
 rw[e];rfl
theorem allAuto_mem (l:List Rat) : ∀k,∀x∈allAuto l k,∃j,x=qauto l (qmean l) j
 | 0,x,hx=>⟨0,by simpa [allAuto] using hx⟩
 | k+1,x,hx=>by
  rw[allAuto] at hx
  rcases List.mem_append.1 hx with hx|hx
  ·exact allAuto_mem l k x hx
  ·simp at hx;exact⟨k+1,hx⟩
theorem qw_abs {l:List Rat} (h : ∀q∈l,Over LC (999*LC) q) (h0:l ≠ []) (hn:l.length≤12) (k:Nat):QW (qabs (qauto l (qmean l) k)):=by
 have : ∀n,n≤12→LC*n*(LC*n)*n<H8∧n*((999*LC*n+n*(999*LC))*(999*LC*n+n*(999*LC)))<H8:=by decide +kernel
 obtain⟨h1,h2⟩:=this _ hn
 have o:=Over.qauto h h0 k
 unfold qabs
 split
 ·exact o.neg.qw h1 h2
 ·exact o.qw h1 h2
theorem rOf_shq {q:Rat} (h:QW q):rOf (shq q)=q∧okS (shq q).1 (shq q).2:=shOf_rOf h
noncomputable def partS (i:Nat):Code:=nthC (Proofs.Tryz.f9.body.getD .skip) i
structure SX (h hh:IH) (fr:Fr) (v:Value) (l:List (Nat×Nat)) (b:Nat):Prop where
 e:Ext h hh
 f3:fget fr 3=some v
 sl:ShSl hh v l
 hb:b<hh.n
 kb:hh.ext.get b=some (.cells (shC (shq (qauto (l.map rOf) (qmean (l.map rOf)) 0)).1 (shq (qauto (l.map rOf) (qmean (l.map rOf)) 0)).2) 0 none)
 f4:fget fr 4=some (ptr (2*b) 0)
 f5:fget fr 5=some (KI 0)
section
variable {h hh:IH} {fr:Fr} {Q:IExit→Fr→IH→Prop} {v w:Value} {n:Nat} {l:List (Nat×Nat)} {b:Nat}
set_option maxHeartbeats 2000000 in
theorem s0 (f0:fget fr 0=some w):Do (wpC Proofs.Tryz.prog 9 97 none (partS 0) fr hh) (seqK (fun fr h'=>Pst (h'=hh∧fget fr 0=some w) nx) Q) nx:=by
 show Do (wpC _ _ _ _ (.region _ _ _) fr hh) _ _
 simp -dsimp (disch:=omega) only[wpS]
 exact⟨rfl,by simp[f0]⟩
set_option maxHeartbeats 2000000 in
theorem s1 (f0:fget fr 0=some w):Do (wpC Proofs.Tryz.prog 9 97 none (partS 1) fr hh) (seqK (fun fr h'=>Pst (Ext hh h'∧fget fr 0=some w) nx) Q) nx:=by
 show Do (wpC _ _ _ _ (.seq _ _) fr hh) _ _
 simp -dsimp (disch:=omega) only[wpS]
 refine call dgworks_ok ?_
 rintro _ h1 ⟨X1,rfl⟩
 simp -dsimp (disch:=omega) only[wpS,wpT,Nat.reduceEqDiff]
 exact⟨X1,by simp[f0]⟩
set_option maxHeartbeats 2000000 in
theorem s2 (hw:DrSl hh w n) (f0:fget fr 0=some w):Do (wpC Proofs.Tryz.prog 9 97 none (partS 2) fr hh) (seqK (fun fr h'=>Pst (∃v l,Ext hh h'∧fget fr 3=some v∧ShSl h' v l∧(∀p∈l,isShort p)∧l.length≤12) nx) Q) nx:=by
 show Do (wpC _ _ _ _ (.region _ _ _) fr hh) _ _
 simp -dsimp (disch:=omega) only[wpS,f0]
 refine call (shorts_ok hw) ?_
 rintro w2 h2 ⟨X2,l2,s2,hl2,hsh2,hn2⟩
 simp -dsimp (disch:=omega) only[wpS,Nat.reduceEqDiff]
 exact⟨w2,l2,X2,by simp,s2,hsh2,by omega⟩
theorem a0_facts {l:List (Nat×Nat)} (sh:ShortL l) (k:Nat):QW (qauto (l.map rOf) (qmean (l.map rOf)) k):=qw_auto (over_of sh.s) sh.mne (by rw[List.length_map];exact sh.n) k
set_option maxHeartbeats 16000000 in
theorem s7 (s:SX h hh fr v l b) (sh:ShortL l) {v8:Value} (g8:Gro hh h.n 16 v8 1 (shL ((allAuto (l.map rOf) 0).map shq))) (f8:fget fr 8=some v8):Do (wpC Proofs.Tryz.prog 9 97 none (partS 7) fr hh) (seqK (fun fr h'=>Pst (Ext h h' ∧ ∃v8,ShSl h' v8 ((allAuto (l.map rOf) (l.length - 1)).map shq)∧fget fr 8=some v8) nx) Q) nx:=by
 show Do (wpC _ _ _ _ (.seq _ _) fr hh) _ _
 have hp:=sh.pos
 have hn12:=sh.n
 have hbn:=s.hb
 have hq0:=a0_facts sh 0
 obtain⟨r1,r2⟩:=rOf_shq hq0
 simp -dsimp (maxSteps:=1000000) (disch:=first|omega|(simp only[new_n,put_n];omega)|decide +kernel|(repeat first|rw[new_n]|rw[put_n])) only[wpS]
 refine loop (fun m fr gg => ∃(k:Nat) (v8:Value),k+1+m=l.length∧Ext h gg∧Keep hh gg∧b<gg.n∧gg.ext.get b=some (.cells (shC (shq (qauto (l.map rOf) (qmean (l.map rOf)) 0)).1 (shq (qauto (l.map rOf) (qmean (l.map rOf)) 0)).2) 0 none)∧Gro gg h.n 16 v8 ((allAuto (l.map rOf) k).map shq).length (shL ((allAuto (l.map rOf) k).map shq))∧fget fr 3=some v∧fget fr 4=some (ptr (2*b) 0)∧fget fr 8=some v8∧fget fr 9=some (KN (k+1))) (l.length - 1)
  ⟨0,v8,by omega,s.e,Keep.refl _,s.hb,s.kb,g8,by simp[s.f3],by simp[s.f4],by simp[f8],by simp⟩ ?_
 rintro m fr gg ⟨k,v8,hkm,E,hK,hbg,kb,g8,f3,f4,f8,f9⟩
 have slg:=s.sl.keep hK
 have hEn:=E.n
 simp -dsimp (maxSteps:=1000000) (disch:=first|omega|(simp only[new_n,put_n];omega)|decide +kernel|(repeat first|rw[new_n]|rw[put_n])) only[wpS,Nat.reduceEqDiff,f3,f9,slg.1.len sl25]
 refine bq_intro ?_ ?_<;>intro hc<;>simp only[decide_eq_true_eq,decide_eq_false_iff_not] at hc
 ·have hk:k+1<l.length:=by omega
  have hqk:=a0_facts sh (k+1)
  have hqa:=qw_abs (over_of sh.s) sh.mne (by rw[List.length_map];exact sh.n) (k+1)
  obtain⟨r3,r4⟩:=rOf_shq hqk
  obtain⟨r5,r6⟩:=rOf_shq hqa
  have hr:=autoRes_told (l:=l) (lag:=k+1) sh.err hk hqk
  simp -dsimp (maxSteps:=1000000) (disch:=first|omega|(simp only[new_n,put_n];omega)|decide +kernel|(repeat first|rw[new_n]|rw[put_n])) only[wpS,wpT,Nat.reduceEqDiff,f3,f9]
  refine call (gAuto slg (.inl sh.n) ((k+1:Nat):Int)) ?_
  rintro _ h1 ⟨X1,rfl⟩
  rw[hr]
  obtain⟨G1,hG1,n1,Z1,k1⟩:=box_put h1 (shq (qauto (l.map rOf) (qmean (l.map rOf)) (k+1)))
  simp -dsimp (maxSteps:=1000000) (disch:=first|omega|(simp only[new_n,put_n];omega)|decide +kernel|(repeat first|rw[new_n]|rw[put_n])) only[wpS,wpT,Nat.reduceEqDiff,Nat.reduceLeDiff,Nat.reduceAdd,zc30,st30,ld30,shV_cells,shC_len,shC_all,sh_sp3]
  rw[←hG1]
  clear hG1
  have V1:=X1.trans Z1
  simp -dsimp (maxSteps:=1000000) (disch:=first|omega|(simp only[new_n,put_n];omega)|decide +kernel|(repeat first|rw[new_n]|rw[put_n])) only[sh_take]
  refine call (shabs_ok (p1:=shq (qauto (l.map rOf) (qmean (l.map rOf)) (k+1))) (shq_lt hqk) r4) ?_
  rintro _ h2 ⟨X2,rfl⟩
  rw[r3]
  have ta:toldV (qabs (qauto (l.map rOf) (qmean (l.map rOf)) (k+1)))=.tuple #[shV (shq (qabs (qauto (l.map rOf) (qmean (l.map rOf)) (k+1)))).1 (shq (qabs (qauto (l.map rOf) (qmean (l.map rOf)) (k+1)))).2,KI 0]:=toldV_of hqa
  rw[ta]
  obtain⟨G2,hG2,n2,Z2,k2⟩:=box_put h2 (shq (qabs (qauto (l.map rOf) (qmean (l.map rOf)) (k+1))))
  simp -dsimp (maxSteps:=1000000) (disch:=first|omega|(simp only[new_n,put_n];omega)|decide +kernel|(repeat first|rw[new_n]|rw[put_n])) only[wpS,wpT,Nat.reduceEqDiff,Nat.reduceLeDiff,Nat.reduceAdd,zc30,st30,ld30,shV_cells,shC_len,shC_all,sh_sp3]
  rw[←hG2]
  clear hG2
  have V2:=X2.trans Z2
  have V12:=V1.trans V2
  simp -dsimp (maxSteps:=1000000) (disch:=first|omega|(simp only[new_n,put_n];omega)|decide +kernel|(repeat first|rw[new_n]|rw[put_n])) only[wpS,Nat.reduceEqDiff,Nat.reduceLeDiff,ld30,f4,row_of (V12.kept hbg kb),shC_len,sh_take]
  refine call (shcmp_ok (p1:=shq (qabs (qauto (l.map rOf) (qmean (l.map rOf)) (k+1)))) (p2:=shq (qauto (l.map rOf) (qmean (l.map rOf)) 0)) (shq_lt hqa) (shq_lt hq0) r6 r2) ?_
  rintro _ h3 ⟨X3,rfl⟩
  rw[r5,r1]
  have hle:=qauto_le (l:=l.map rOf) sh.mne (k+1) (by rw[List.length_map];omega)
  have d1:decide ((0:Int)<(if qabs (qauto (l.map rOf) (qmean (l.map rOf)) (k+1))<qauto (l.map rOf) (qmean (l.map rOf)) 0 then (-1:Int) else if qabs (qauto (l.map rOf) (qmean (l.map rOf)) (k+1))=qauto (l.map rOf) (qmean (l.map rOf)) 0 then 0 else 1))=false:=decide_eq_false (by
   split
   ·omega
   ·split
    ·omega
    ·rename_i a1 a2
     exact absurd (Rat.le_antisymm hle (Rat.not_lt.1 a1)) a2)
  have V13:=V12.trans X3
  have V23:=V2.trans X3
  have m1:=V23.n
  have m2:=V13.n
  have bb : ∀hx:IH,buildSlice Proofs.Tryz.prog hx 25 2 [(0,.agg (shC (shq (qauto (l.map rOf) (qmean (l.map rOf)) (k+1))).1 (shq (qauto (l.map rOf) (qmean (l.map rOf)) (k+1))).2).toArray),(1,.agg (shC (shq (qauto (l.map rOf) (qmean (l.map rOf)) (k+1))).1 (shq (qauto (l.map rOf) (qmean (l.map rOf)) (k+1))).2).toArray)]=some (.slice (some ⟨2*hx.n,0,none⟩) 2 5,hx.new (.cells (shL [shq (qauto (l.map rOf) (qmean (l.map rOf)) (k+1)),shq (qauto (l.map rOf) (qmean (l.map rOf)) (k+1))]) 16 none)):=fun hx=>build2 _ _ _ _
  obtain⟨out',h8,hap,hA8,hG8,hE8⟩:=(g8.ext V13).appN (P:=Proofs.Tryz.prog) (t:=25) ap25 (m:=2) (new:=shL [shq (qauto (l.map rOf) (qmean (l.map rOf)) (k+1)),shq (qauto (l.map rOf) (qmean (l.map rOf)) (k+1))]) (by omega) (by rw[shL_len];rfl) (shL_all _) (by rw[List.length_map,allAuto_len];omega) (by omega) (E.trans V13) (Nat.le_refl _)
  have hap':append Proofs.Tryz.prog (h3.new (.cells (shL [shq (qauto (l.map rOf) (qmean (l.map rOf)) (k+1)),shq (qauto (l.map rOf) (qmean (l.map rOf)) (k+1))]) 16 none)) 25 v8 (.slice (some ⟨2*h3.n,0,none⟩) 2 5)=some (out',h8):=hap
  have g8n:=hG8.n
  have k1':=V23.kept (by omega) k1
  simp -dsimp (maxSteps:=1000000) (disch:=first|omega|(simp only[new_n,put_n];omega)|decide +kernel|(repeat first|rw[new_n]|rw[put_n])) only[wpS,wpT,Nat.reduceEqDiff,Nat.reduceLeDiff,ld30,ba25_25,d1,f8,f9,row_of k1',shC_len,sh_take,bb,hap']
  refine⟨m - 1,by omega,k+1,out',by omega,hE8,(hK.trans V13.keep).trans hG8.keep,by omega,hG8.var (by omega) (V13.kept hbg kb),.inl ?_,by simp[f3],by simp[f4],by simp,by simp⟩
  rw[allAuto,List.map_append,List.length_append]
  have:shL ((allAuto (l.map rOf) k).map shq ++ [qauto (l.map rOf) (qmean (l.map rOf)) (k+1),qauto (l.map rOf) (qmean (l.map rOf)) (k+1)].map shq)=shL ((allAuto (l.map rOf) k).map shq) ++ shL [shq (qauto (l.map rOf) (qmean (l.map rOf)) (k+1)),shq (qauto (l.map rOf) (qmean (l.map rOf)) (k+1))]:=by
   simp[shL]
  rw[this]
  exact hA8
 ·have hke:k=l.length - 1:=by omega
  subst hke
  simp -dsimp (maxSteps:=1000000) (disch:=first|omega|(simp only[new_n,put_n];omega)|decide +kernel|(repeat first|rw[new_n]|rw[put_n])) only[wpS,wpT]
  refine⟨E,v8,⟨g8.sl,by rw[List.length_map,allAuto_len];omega,fun p hp=>?_⟩,f8⟩
  obtain⟨x,hx,rfl⟩:=List.mem_map.1 hp
  obtain⟨j,rfl⟩:=allAuto_mem _ _ x hx
  exact shq_lt (a0_facts sh j)
set_option maxHeartbeats 2000000 in
theorem s8 (sh:ShortL l) {v8:Value} (s8:ShSl hh v8 ((allAuto (l.map rOf) (l.length - 1)).map shq)) (f8:fget fr 8=some v8):Do (wpC Proofs.Tryz.prog 9 97 none (partS 8) fr hh) (seqK (fun fr h'=>Pst (fget fr 2=some (.bool true)) nx) Q) nx:=by
 show Do (wpC _ _ _ _ (.region _ _ _) fr hh) _ _
 simp -dsimp (disch:=omega) only[wpS]
 refine call (isC_ok 0 1) ?_
 rintro _ h1 ⟨X1,i,j,rfl,c⟩
 simp -dsimp (disch:=omega) only[wpS,Nat.reduceEqDiff,f8]
 have hqs : ∀x∈allAuto (l.map rOf) (l.length - 1),QW x:=fun x hx=>by
  obtain⟨j,rfl⟩:=allAuto_mem _ _ x hx
  exact a0_facts sh j
 have hn12:=sh.n
 refine call (shsum_ok (s8.keep X1.keep) (by rw[List.length_map,allAuto_len];omega) (fun p hp=>by
  obtain⟨x,hx,rfl⟩:=List.mem_map.1 hp
  exact(rOf_shq (hqs x hx)).2)) ?_
 rintro _ h2 ⟨X2,rfl⟩
 have e1:((allAuto (l.map rOf) (l.length - 1)).map shq).map rOf=allAuto (l.map rOf) (l.length - 1):=map_rOf_shOf hqs
 have e2:=allAuto_zero (l:=l.map rOf) sh.mne
 rw[List.length_map] at e2
 rw[e1,e2,toldV_of QW_zero]
 simp -dsimp (disch:=omega) only[wpS,Nat.reduceEqDiff]
 refine call (isT_ok (q:=0) (c.ext X2) (by decide +kernel) (by decide) (by decide) (by decide)) ?_
 rintro _ h3 ⟨X3,rfl⟩
 simp -dsimp (disch:=omega) only[wpS,Nat.reduceEqDiff]
 rfl
end
end Go.Id

/-! The statement DiagnoseRatios, on the ideal machine. -/
namespace Go.Id
open Go
noncomputable def partR (i:Nat):Code:=nthC (Proofs.Tryz.f7.body.getD .skip) i
theorem ShSl.rest {h h':IH} {v:Value} {l:List (Nat×Nat)} (s:ShSl h v l) (kp:Keep h h') {m:Nat} (hm:m≤l.length) : ∃v',sliceOp Proofs.Tryz.prog h' 25 v (some (KN m)) none none=some v'∧ShSl h v' (l.drop m):=by
 obtain⟨a,b,c⟩:=s
 obtain⟨v',e1,e2⟩:=a.slice kp (P:=Proofs.Tryz.prog) (t:=25) u25 sz30 (l:=m) (m:=l.length) hm (Nat.le_refl _) (lo:=some (KN m)) (hi:=none) (natOf_nat (k:=.i64) hm) (fun c hc=>rfl)
 refine⟨v',e1,?_,by rw[List.length_drop];omega,fun p hp=>c p (List.mem_of_mem_drop hp)⟩
 rw[List.length_drop,shL_drop]
 have hl:((shL l).drop (m*16)).length=(l.length - m)*16:=by rw[List.length_drop,shL_len,Nat.sub_mul]
 rw[List.take_of_length_le (by omega)] at e2
 exact e2
structure RX (h hh:IH) (fr:Fr) (cp:Int) (v v7 va vb:Value) (l:List (Nat×Nat)) (n:Nat):Prop where
 e:Ext h hh
 f1:fget fr 1=some (.int .u8 cp)
 f5:fget fr 5=some v
 f6:fget fr 6=some (KN n)
 f7:fget fr 7=some v7
 sl:ShSl hh v l
 s7:ShLs hh v7 [l.take n,l.drop n]
theorem RX.to {h hh h3:IH} {fr fr3:Fr} {cp:Int} {v v7 va vb:Value} {l:List (Nat×Nat)} {n:Nat} (s:RX h hh fr cp v v7 va vb l n) (E:Ext hh h3) (g1:fget fr3 1=fget fr 1) (g5:fget fr3 5=fget fr 5) (g6:fget fr3 6=fget fr 6) (g7:fget fr3 7=fget fr 7):RX h h3 fr3 cp v v7 va vb l n :=
 ⟨s.e.trans E,by rw[g1];exact s.f1,by rw[g5];exact s.f5,by rw[g6];exact s.f6,by rw[g7];exact s.f7,s.sl.keep E.keep,s.s7.ext E⟩
structure Bx (hh:IH) (fr:Fr) (t b:Nat) (p:Nat×Nat):Prop where
 n:b<hh.n
 k:hh.ext.get b=some (.cells (shC p.1 p.2) 0 none)
 f:fget fr t=some (ptr (2*b) 0)
theorem Bx.to {hh h3:IH} {fr fr3:Fr} {t b:Nat} {p:Nat×Nat} (x:Bx hh fr t b p) (E:Ext hh h3) (g:fget fr3 t=fget fr t):Bx h3 fr3 t b p:=⟨by have:=x.n;have:=E.n;omega,E.kept x.n x.k,by rw[g];exact x.f⟩
theorem Bx.r {hh:IH} {fr:Fr} {t b:Nat} {p:Nat×Nat} (x:Bx hh fr t b p) {h3:IH} (E:Ext hh h3):h3.row (2*b)=some (shC p.1 p.2):=row_of (E.kept x.n x.k)
section
variable {h hh:IH} {fr:Fr} {Q:IExit→Fr→IH→Prop} {v v7 va vb w:Value} {n:Nat} {cp:Int} {l:List (Nat×Nat)}
set_option maxHeartbeats 4000000 in
theorem r0 (f0:fget fr 0=some w) (f1:fget fr 1=some (.int .u8 cp)):Do (wpC Proofs.Tryz.prog 7 166 none (partR 0) fr hh) (seqK (fun fr h'=>Pst (h'=hh∧fget fr 0=some w∧fget fr 1=some (.int .u8 cp)) nx) Q) nx:=by
 show Do (wpC _ _ _ _ (.region _ _ _) fr hh) _ _
 simp -dsimp (disch:=omega) only[wpS]
 exact⟨rfl,by simp[f0],by simp[f1]⟩
set_option maxHeartbeats 4000000 in
theorem r1 (f0:fget fr 0=some w) (f1:fget fr 1=some (.int .u8 cp)):Do (wpC Proofs.Tryz.prog 7 166 none (partR 1) fr hh) (seqK (fun fr h'=>Pst (Ext hh h'∧fget fr 0=some w∧fget fr 1=some (.int .u8 cp)) nx) Q) nx:=by
 show Do (wpC _ _ _ _ (.seq _ _) fr hh) _ _
 simp -dsimp (disch:=omega) only[wpS]
 refine call dgworks_ok ?_
 rintro _ h1 ⟨X1,rfl⟩
 simp -dsimp (disch:=omega) only[wpS,wpT,Nat.reduceEqDiff]
 exact⟨X1,by simp[f0],by simp[f1]⟩
set_option maxHeartbeats 4000000 in
theorem r2 {nd:Nat} (hw:DrSl hh w nd) (f0:fget fr 0=some w) (f1:fget fr 1=some (.int .u8 cp)):Do (wpC Proofs.Tryz.prog 7 166 none (partR 2) fr hh) (seqK (fun fr h'=>Pst (∃v l,Ext hh h'∧fget fr 1=some (.int .u8 cp)∧fget fr 5=some v∧ShSl h' v l∧(∀p∈l,isShort p)∧l.length≤12) nx) Q) nx:=by
 show Do (wpC _ _ _ _ (.region _ _ _) fr hh) _ _
 simp -dsimp (disch:=omega) only[wpS,f0]
 refine call (shorts_ok hw) ?_
 rintro w2 h2 ⟨X2,l2,s2,hl2,hsh2,hn2⟩
 simp -dsimp (disch:=omega) only[wpS,Nat.reduceEqDiff]
 exact⟨w2,l2,X2,by simp[f1],by simp,s2,hsh2,by omega⟩
set_option maxHeartbeats 4000000 in
theorem r3 (f1:fget fr 1=some (.int .u8 cp)) (f5:fget fr 5=some v) (sl:ShSl hh v l) (hl:l.length≤12):Do (wpC Proofs.Tryz.prog 7 166 none (partR 3) fr hh) (seqK (fun fr h'=>Pst (h'=hh∧fget fr 1=some (.int .u8 cp) ∧ ∃v5,fget fr 5=some v5∧ShSl hh v5 (l.take (l.length / 2*2))) nx) Q) nx:=by
 show Do (wpC _ _ _ _ (.region _ _ _) fr hh) _ _
 obtain⟨m,hm⟩ : ∃m:Nat,m=l.length / 2*2:=⟨_,rfl⟩
 have e2:(l.length:Int) / 2*2=(m:Int):=by omega
 obtain⟨v1,ev,sv⟩:=sl.arg.first (Keep.refl hh) (m:=m) (by omega) (by omega)
 rw[hm] at sv
 simp -dsimp (disch:=omega) only[wpS,Nat.reduceEqDiff,f5,sl.1.len sl25,e2,ev]
 exact⟨rfl,by simp[f1],_,rfl,sv⟩
set_option maxHeartbeats 4000000 in
theorem r4 (f1:fget fr 1=some (.int .u8 cp)) (f5:fget fr 5=some v) (sl:ShSl hh v l) (hl:l.length=2*n) (n2:2≤n) (n6:n≤6):Do (wpC Proofs.Tryz.prog 7 166 none (partR 4) fr hh) (seqK (fun fr h'=>Pst (h'=hh∧fget fr 1=some (.int .u8 cp)∧fget fr 5=some v) nx) Q) nx:=by
 show Do (wpC _ _ _ _ (.seq _ _) fr hh) _ _
 have c1:decide ((l.length:Int)<4)=false:=decide_eq_false (by omega)
 simp -dsimp (disch:=omega) only[wpS,Nat.reduceEqDiff,f5,sl.1.len sl25,c1]
 exact⟨rfl,by simp[f1],by simp[f5]⟩
theorem ratio_cases (ll:List (List (Nat×Nat))) (h:svErr ll=0) : ∃(p:Nat×Nat) (e:Int),(p.1<W8∧p.2<W8)∧ratioRes ll=.tuple #[shV p.1 p.2,KI e]∧(e=0→qwithin ll≠0∧QW (qratioV ll)∧p=shq (qratioV ll)):=by
 unfold ratioRes
 rw[if_pos h]
 by_cases hw:qwithin ll=0
 ·rw[if_pos hw]
  exact⟨(0,0),7,⟨by decide +kernel,by decide +kernel⟩,rfl,fun e=>by cases e⟩
 ·rw[if_neg hw]
  unfold toldV
  split
  ·rename_i hq
   exact⟨shq (qratioV ll),0,shq_lt hq,rfl,fun _=>⟨hw,hq,rfl⟩⟩
  ·exact⟨(0,0),6,⟨by decide +kernel,by decide +kernel⟩,rfl,fun e=>by cases e⟩
theorem TwoC.fit {A B:List (Nat×Nat)} {n:Nat} (t:TwoC A B n):FitL [A,B]:=fun _=>⟨by have:=t.n6;show A.length≤12;rw[t.la];omega,by show(2:Nat)≤8;omega⟩
end
end Go.Id
