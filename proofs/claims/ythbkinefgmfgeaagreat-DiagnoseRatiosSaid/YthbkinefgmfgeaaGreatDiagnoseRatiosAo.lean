/-
  DiagnoseRatios: for every input the law returns true, and each argument reads as it did. Conditions: none but the row's own.
-/
import Derived.Test.YthbkinefgmfgeaaGreatDiagnoseRatiosAn
import Derived.Test.YthbkinefgmfgeaaGreatDiagnoseRatiosAm
set_option linter.unusedVariables false
set_option linter.unusedSimpArgs false
set_option linter.defProp false
set_option linter.deprecated false
/-! The statement DiagnoseSums, on the ideal machine. -/
namespace Go.Id
open Go
def Gro (h:IH) (n0 sz:Nat) (v:Value) (n:Nat) (cs:List Value):Prop:=Acc h n0 sz v n cs∨(0<sz∧cs.length=n*sz ∧ ∃k,v=.slice (some ⟨2*k,0,none⟩) n (2*n+1)∧0<n∧n0≤k∧k<h.n∧h.ext.get k=some (.cells cs sz none))
theorem Gro.sl {h:IH} {n0 sz:Nat} {v:Value} {n:Nat} {cs:List Value} (g:Gro h n0 sz v n cs):SlOf h sz v n cs:=by
 rcases g with a|⟨hz,hl,k,rfl,hn,h1,h2,h3⟩
 ·exact a.sl
 ·exact sl_block h3 h2 hz hl (by omega) (by omega)
theorem Gro.ext {h h':IH} {n0 sz:Nat} {v:Value} {n:Nat} {cs:List Value} (g:Gro h n0 sz v n cs) (e:Ext h h'):Gro h' n0 sz v n cs:=by
 rcases g with a|⟨hz,hl,k,rfl,hn,h1,h2,h3⟩
 ·exact .inl (a.ext e)
 ·exact .inr ⟨hz,hl,k,rfl,hn,h1,by have:=e.n;omega,e.kept h2 h3⟩
theorem Gro.appN {h:IH} {n0 sz:Nat} {v:Value} {n:Nat} {cs:List Value} (g:Gro h n0 sz v n cs) {P:Program} {t:TypeId} {bytes:Nat} (hT:appT P t=some (sz,bytes)) {m:Nat} {new:List Value} (hm:0<m) (hl:new.length=m*sz)
  (hc:new.all cellOK=true) (hsz:(n+m)*(bytes+1)≤1099511627776) (h0:n0≤h.n) {h0':IH} (e0:Ext h0' h) (hn0:h0'.n≤n0) :
  ∃v' h',append P (h.new (.cells new sz none)) t v (.slice (some ⟨2*h.n,0,none⟩) m (2*m+1))=some (v',h')∧Acc h' n0 sz v' (n+m) (cs ++ new)∧Grow h h'∧Ext h0' h':=by
 rcases g with a|⟨hz,hcl,k,rfl,hn,h1,h2,h3⟩
 ·exact a.appN hT hm hl hc hsz h0 e0 hn0
 ·have e1:Ext h (h.new (.cells new sz none)):=(Ext.refl h).new _
  have sv:SlOf h sz (.slice (some ⟨2*k,0,none⟩) n (2*n+1)) n cs:=sl_block h3 h2 hz hcl (by omega) (by omega)
  have sx:SlOf (h.new (.cells new sz none)) sz (.slice (some ⟨2*h.n,0,none⟩) m (2*m+1)) m new:=sl_block (k:=h.n) (f:=none) (get_new_same _ _ rfl) (by simp) hz hl (by omega) (by omega)
  refine⟨_,_,append_full hT (sv.ext e1).now sx.now hm hn hc hsz,?_,(e1.new _).grow,(e0.trans e1).new _⟩
  exact(acc_new hz (by rw[List.length_append,hcl,hl,Nat.add_mul]) (by omega)).from (by simp only[new_n];omega)
theorem allAuto_mem (l:List Rat) : ∀k,∀x∈allAuto l k,∃j,x=qauto l (qmean l) j
 | 0,x,hx=>⟨0,by simpa [allAuto] using hx⟩
 | k+1,x,hx=>by
  rw[allAuto] at hx
  rcases List.mem_append.1 hx with hx|hx
  ·exact allAuto_mem l k x hx
  ·simp at hx;exact⟨k+1,hx⟩
theorem qw_abs {l:List Rat} (h : ∀q∈l,Over LC (999*LC) q) (h0:l ≠ []) (hn:l.length≤12) (k:Nat):QW (qabs (qauto l (qmean l) k)):=by
 have : ∀n,n≤12→LC*n*(LC*n)*n<H8∧n*((999*LC*n+n*(999*LC))*(999*LC*n+n*(999*LC)))<H8:=by decide +kernel
 obtain⟨h1,h2⟩:=this _ hn
 have o:=Over.qauto h h0 k
 unfold qabs
 split
 ·exact o.neg.qw h1 h2
 ·exact o.qw h1 h2
theorem rOf_shq {q:Rat} (h:QW q):rOf (shq q)=q∧okS (shq q).1 (shq q).2:=shOf_rOf h
noncomputable def partS (i:Nat):Code:=nthC (Proofs.Tryz.f9.body.getD .skip) i
structure SX (h hh:IH) (fr:Fr) (v:Value) (l:List (Nat×Nat)) (b:Nat):Prop where
 e:Ext h hh
 f3:fget fr 3=some v
 sl:ShSl hh v l
 hb:b<hh.n
 kb:hh.ext.get b=some (.cells (shC (shq (qauto (l.map rOf) (qmean (l.map rOf)) 0)).1 (shq (qauto (l.map rOf) (qmean (l.map rOf)) 0)).2) 0 none)
 f4:fget fr 4=some (ptr (2*b) 0)
 f5:fget fr 5=some (KI 0)
section
variable {h hh:IH} {fr:Fr} {Q:IExit→Fr→IH→Prop} {v w:Value} {n:Nat} {l:List (Nat×Nat)} {b:Nat}
set_option maxHeartbeats 2000000 in
theorem s0 (f0:fget fr 0=some w):Do (wpC Proofs.Tryz.prog 9 97 none (partS 0) fr hh) (seqK (fun fr h'=>Pst (h'=hh∧fget fr 0=some w) nx) Q) nx:=by
 show Do (wpC _ _ _ _ (.region _ _ _) fr hh) _ _
 simp -dsimp (disch:=omega) only[wpS]
 exact⟨rfl,by simp[f0]⟩
set_option maxHeartbeats 2000000 in
theorem s2 (hw:DrSl hh w n) (f0:fget fr 0=some w):Do (wpC Proofs.Tryz.prog 9 97 none (partS 2) fr hh) (seqK (fun fr h'=>Pst (∃v l,Ext hh h'∧fget fr 3=some v∧ShSl h' v l∧(∀p∈l,isShort p)∧l.length≤12) nx) Q) nx:=by
 show Do (wpC _ _ _ _ (.region _ _ _) fr hh) _ _
 simp -dsimp (disch:=omega) only[wpS,f0]
 refine call (shorts_ok hw) ?_
 rintro w2 h2 ⟨X2,l2,s2,hl2,hsh2,hn2⟩
 simp -dsimp (disch:=omega) only[wpS,Nat.reduceEqDiff]
 exact⟨w2,l2,X2,by simp,s2,hsh2,by omega⟩
theorem a0_facts {l:List (Nat×Nat)} (sh:ShortL l) (k:Nat):QW (qauto (l.map rOf) (qmean (l.map rOf)) k):=qw_auto (over_of sh.s) sh.mne (by rw[List.length_map];exact sh.n) k
set_option maxHeartbeats 16000000 in
theorem s7 (s:SX h hh fr v l b) (sh:ShortL l) {v8:Value} (g8:Gro hh h.n 16 v8 1 (shL ((allAuto (l.map rOf) 0).map shq))) (f8:fget fr 8=some v8):Do (wpC Proofs.Tryz.prog 9 97 none (partS 7) fr hh) (seqK (fun fr h'=>Pst (Ext h h' ∧ ∃v8,ShSl h' v8 ((allAuto (l.map rOf) (l.length - 1)).map shq)∧fget fr 8=some v8) nx) Q) nx:=by
 show Do (wpC _ _ _ _ (.seq _ _) fr hh) _ _
 have hp:=sh.pos
 have hn12:=sh.n
 have hbn:=s.hb
 have hq0:=a0_facts sh 0
 obtain⟨r1,r2⟩:=rOf_shq hq0
 simp -dsimp (maxSteps:=1000000) (disch:=first|omega|(simp only[new_n,put_n];omega)|decide +kernel|(repeat first|rw[new_n]|rw[put_n])) only[wpS]
 refine loop (fun m fr gg => ∃(k:Nat) (v8:Value),k+1+m=l.length∧Ext h gg∧Keep hh gg∧b<gg.n∧gg.ext.get b=some (.cells (shC (shq (qauto (l.map rOf) (qmean (l.map rOf)) 0)).1 (shq (qauto (l.map rOf) (qmean (l.map rOf)) 0)).2) 0 none)∧Gro gg h.n 16 v8 ((allAuto (l.map rOf) k).map shq).length (shL ((allAuto (l.map rOf) k).map shq))∧fget fr 3=some v∧fget fr 4=some (ptr (2*b) 0)∧fget fr 8=some v8∧fget fr 9=some (KN (k+1))) (l.length - 1)
  ⟨0,v8,by omega,s.e,Keep.refl _,s.hb,s.kb,g8,by simp[s.f3],by simp[s.f4],by simp[f8],by simp⟩ ?_
 rintro m fr gg ⟨k,v8,hkm,E,hK,hbg,kb,g8,f3,f4,f8,f9⟩
 have slg:=s.sl.keep hK
 have hEn:=E.n
 simp -dsimp (maxSteps:=1000000) (disch:=first|omega|(simp only[new_n,put_n];omega)|decide +kernel|(repeat first|rw[new_n]|rw[put_n])) only[wpS,Nat.reduceEqDiff,f3,f9,slg.1.len sl25]
 refine bq_intro ?_ ?_<;>intro hc<;>simp only[decide_eq_true_eq,decide_eq_false_iff_not] at hc
 ·have hk:k+1<l.length:=by omega
  have hqk:=a0_facts sh (k+1)
  have hqa:=qw_abs (over_of sh.s) sh.mne (by rw[List.length_map];exact sh.n) (k+1)
  obtain⟨r3,r4⟩:=rOf_shq hqk
  obtain⟨r5,r6⟩:=rOf_shq hqa
  have hr:=autoRes_told (l:=l) (lag:=k+1) sh.err hk hqk
  simp -dsimp (maxSteps:=1000000) (disch:=first|omega|(simp only[new_n,put_n];omega)|decide +kernel|(repeat first|rw[new_n]|rw[put_n])) only[wpS,wpT,Nat.reduceEqDiff,f3,f9]
  refine call (gAuto slg (.inl sh.n) ((k+1:Nat):Int)) ?_
  rintro _ h1 ⟨X1,rfl⟩
  rw[hr]
  obtain⟨G1,hG1,n1,Z1,k1⟩:=box_put h1 (shq (qauto (l.map rOf) (qmean (l.map rOf)) (k+1)))
  simp -dsimp (maxSteps:=1000000) (disch:=first|omega|(simp only[new_n,put_n];omega)|decide +kernel|(repeat first|rw[new_n]|rw[put_n])) only[wpS,wpT,Nat.reduceEqDiff,Nat.reduceLeDiff,Nat.reduceAdd,zc30,st30,ld30,shV_cells,shC_len,shC_all,sh_sp3]
  rw[←hG1]
  clear hG1
  have V1:=X1.trans Z1
  simp -dsimp (maxSteps:=1000000) (disch:=first|omega|(simp only[new_n,put_n];omega)|decide +kernel|(repeat first|rw[new_n]|rw[put_n])) only[sh_take]
  refine call (shabs_ok (p1:=shq (qauto (l.map rOf) (qmean (l.map rOf)) (k+1))) (shq_lt hqk) r4) ?_
  rintro _ h2 ⟨X2,rfl⟩
  rw[r3]
  have ta:toldV (qabs (qauto (l.map rOf) (qmean (l.map rOf)) (k+1)))=.tuple #[shV (shq (qabs (qauto (l.map rOf) (qmean (l.map rOf)) (k+1)))).1 (shq (qabs (qauto (l.map rOf) (qmean (l.map rOf)) (k+1)))).2,KI 0]:=toldV_of hqa
  rw[ta]
  obtain⟨G2,hG2,n2,Z2,k2⟩:=box_put h2 (shq (qabs (qauto (l.map rOf) (qmean (l.map rOf)) (k+1))))
  simp -dsimp (maxSteps:=1000000) (disch:=first|omega|(simp only[new_n,put_n];omega)|decide +kernel|(repeat first|rw[new_n]|rw[put_n])) only[wpS,wpT,Nat.reduceEqDiff,Nat.reduceLeDiff,Nat.reduceAdd,zc30,st30,ld30,shV_cells,shC_len,shC_all,sh_sp3]
  rw[←hG2]
  clear hG2
  have V2:=X2.trans Z2
  have V12:=V1.trans V2
  simp -dsimp (maxSteps:=1000000) (disch:=first|omega|(simp only[new_n,put_n];omega)|decide +kernel|(repeat first|rw[new_n]|rw[put_n])) only[wpS,Nat.reduceEqDiff,Nat.reduceLeDiff,ld30,f4,row_of (V12.kept hbg kb),shC_len,sh_take]
  refine call (shcmp_ok (p1:=shq (qabs (qauto (l.map rOf) (qmean (l.map rOf)) (k+1)))) (p2:=shq (qauto (l.map rOf) (qmean (l.map rOf)) 0)) (shq_lt hqa) (shq_lt hq0) r6 r2) ?_
  rintro _ h3 ⟨X3,rfl⟩
  rw[r5,r1]
  have hle:=qauto_le (l:=l.map rOf) sh.mne (k+1) (by rw[List.length_map];omega)
  have d1:decide ((0:Int)<(if qabs (qauto (l.map rOf) (qmean (l.map rOf)) (k+1))<qauto (l.map rOf) (qmean (l.map rOf)) 0 then (-1:Int) else if qabs (qauto (l.map rOf) (qmean (l.map rOf)) (k+1))=qauto (l.map rOf) (qmean (l.map rOf)) 0 then 0 else 1))=false:=decide_eq_false (by
   split
   ·omega
   ·split
    ·omega
    ·rename_i a1 a2
     exact absurd (Rat.le_antisymm hle (Rat.not_lt.1 a1)) a2)
  have V13:=V12.trans X3
  have V23:=V2.trans X3
  have m1:=V23.n
  have m2:=V13.n
  have bb : ∀hx:IH,buildSlice Proofs.Tryz.prog hx 25 2 [(0,.agg (shC (shq (qauto (l.map rOf) (qmean (l.map rOf)) (k+1))).1 (shq (qauto (l.map rOf) (qmean (l.map rOf)) (k+1))).2).toArray),(1,.agg (shC (shq (qauto (l.map rOf) (qmean (l.map rOf)) (k+1))).1 (shq (qauto (l.map rOf) (qmean (l.map rOf)) (k+1))).2).toArray)]=some (.slice (some ⟨2*hx.n,0,none⟩) 2 5,hx.new (.cells (shL [shq (qauto (l.map rOf) (qmean (l.map rOf)) (k+1)),shq (qauto (l.map rOf) (qmean (l.map rOf)) (k+1))]) 16 none)):=fun hx=>build2 _ _ _ _
  obtain⟨out',h8,hap,hA8,hG8,hE8⟩:=(g8.ext V13).appN (P:=Proofs.Tryz.prog) (t:=25) ap25 (m:=2) (new:=shL [shq (qauto (l.map rOf) (qmean (l.map rOf)) (k+1)),shq (qauto (l.map rOf) (qmean (l.map rOf)) (k+1))]) (by omega) (by rw[shL_len];rfl) (shL_all _) (by rw[List.length_map,allAuto_len];omega) (by omega) (E.trans V13) (Nat.le_refl _)
  have hap':append Proofs.Tryz.prog (h3.new (.cells (shL [shq (qauto (l.map rOf) (qmean (l.map rOf)) (k+1)),shq (qauto (l.map rOf) (qmean (l.map rOf)) (k+1))]) 16 none)) 25 v8 (.slice (some ⟨2*h3.n,0,none⟩) 2 5)=some (out',h8):=hap
  have g8n:=hG8.n
  have k1':=V23.kept (by omega) k1
  simp -dsimp (maxSteps:=1000000) (disch:=first|omega|(simp only[new_n,put_n];omega)|decide +kernel|(repeat first|rw[new_n]|rw[put_n])) only[wpS,wpT,Nat.reduceEqDiff,Nat.reduceLeDiff,ld30,ba25_25,d1,f8,f9,row_of k1',shC_len,sh_take,bb,hap']
  refine⟨m - 1,by omega,k+1,out',by omega,hE8,(hK.trans V13.keep).trans hG8.keep,by omega,hG8.var (by omega) (V13.kept hbg kb),.inl ?_,by simp[f3],by simp[f4],by simp,by simp⟩
  rw[allAuto,List.map_append,List.length_append]
  have:shL ((allAuto (l.map rOf) k).map shq ++ [qauto (l.map rOf) (qmean (l.map rOf)) (k+1),qauto (l.map rOf) (qmean (l.map rOf)) (k+1)].map shq)=shL ((allAuto (l.map rOf) k).map shq) ++ shL [shq (qauto (l.map rOf) (qmean (l.map rOf)) (k+1)),shq (qauto (l.map rOf) (qmean (l.map rOf)) (k+1))]:=by
   simp[shL]
  rw[this]
  exact hA8
 ·have hke:k=l.length - 1:=by omega
  subst hke
  simp -dsimp (maxSteps:=1000000) (disch:=first|omega|(simp only[new_n,put_n];omega)|decide +kernel|(repeat first|rw[new_n]|rw[put_n])) only[wpS,wpT]
  refine⟨E,v8,⟨g8.sl,by rw[List.length_map,allAuto_len];omega,fun p hp=>?_⟩,f8⟩
  obtain⟨x,hx,rfl⟩:=List.mem_map.1 hp
  obtain⟨j,rfl⟩:=allAuto_mem _ _ x hx
  exact shq_lt (a0_facts sh j)
end
end Go.Id

/-! The statement DiagnoseRatios, on the ideal machine. -/
namespace Go.Id
open Go
noncomputable def partR (i:Nat):Code:=nthC (Proofs.Tryz.f7.body.getD .skip) i
theorem ShSl.rest {h h':IH} {v:Value} {l:List (Nat×Nat)} (s:ShSl h v l) (kp:Keep h h') {m:Nat} (hm:m≤l.length) : ∃v',sliceOp Proofs.Tryz.prog h' 25 v (some (KN m)) none none=some v'∧ShSl h v' (l.drop m):=by
 obtain⟨a,b,c⟩:=s
 obtain⟨v',e1,e2⟩:=a.slice kp (P:=Proofs.Tryz.prog) (t:=25) u25 sz30 (l:=m) (m:=l.length) hm (Nat.le_refl _) (lo:=some (KN m)) (hi:=none) (natOf_nat (k:=.i64) hm) (fun c hc=>rfl)
 refine⟨v',e1,?_,by rw[List.length_drop];omega,fun p hp=>c p (List.mem_of_mem_drop hp)⟩
 rw[List.length_drop,shL_drop]
 have hl:((shL l).drop (m*16)).length=(l.length - m)*16:=by rw[List.length_drop,shL_len,Nat.sub_mul]
 rw[List.take_of_length_le (by omega)] at e2
 exact e2
structure RX (h hh:IH) (fr:Fr) (cp:Int) (v v7 va vb:Value) (l:List (Nat×Nat)) (n:Nat):Prop where
 e:Ext h hh
 f1:fget fr 1=some (.int .u8 cp)
 f5:fget fr 5=some v
 f6:fget fr 6=some (KN n)
 f7:fget fr 7=some v7
 sl:ShSl hh v l
 s7:ShLs hh v7 [l.take n,l.drop n]
theorem RX.to {h hh h3:IH} {fr fr3:Fr} {cp:Int} {v v7 va vb:Value} {l:List (Nat×Nat)} {n:Nat} (s:RX h hh fr cp v v7 va vb l n) (E:Ext hh h3) (g1:fget fr3 1=fget fr 1) (g5:fget fr3 5=fget fr 5) (g6:fget fr3 6=fget fr 6) (g7:fget fr3 7=fget fr 7):RX h h3 fr3 cp v v7 va vb l n :=
 ⟨s.e.trans E,by rw[g1];exact s.f1,by rw[g5];exact s.f5,by rw[g6];exact s.f6,by rw[g7];exact s.f7,s.sl.keep E.keep,s.s7.ext E⟩
structure Bx (hh:IH) (fr:Fr) (t b:Nat) (p:Nat×Nat):Prop where
 n:b<hh.n
 k:hh.ext.get b=some (.cells (shC p.1 p.2) 0 none)
 f:fget fr t=some (ptr (2*b) 0)
theorem Bx.to {hh h3:IH} {fr fr3:Fr} {t b:Nat} {p:Nat×Nat} (x:Bx hh fr t b p) (E:Ext hh h3) (g:fget fr3 t=fget fr t):Bx h3 fr3 t b p:=⟨by have:=x.n;have:=E.n;omega,E.kept x.n x.k,by rw[g];exact x.f⟩
theorem Bx.r {hh:IH} {fr:Fr} {t b:Nat} {p:Nat×Nat} (x:Bx hh fr t b p) {h3:IH} (E:Ext hh h3):h3.row (2*b)=some (shC p.1 p.2):=row_of (E.kept x.n x.k)
section
variable {h hh:IH} {fr:Fr} {Q:IExit→Fr→IH→Prop} {v v7 va vb w:Value} {n:Nat} {cp:Int} {l:List (Nat×Nat)}
set_option maxHeartbeats 4000000 in
theorem r0 (f0:fget fr 0=some w) (f1:fget fr 1=some (.int .u8 cp)):Do (wpC Proofs.Tryz.prog 7 166 none (partR 0) fr hh) (seqK (fun fr h'=>Pst (h'=hh∧fget fr 0=some w∧fget fr 1=some (.int .u8 cp)) nx) Q) nx:=by
 show Do (wpC _ _ _ _ (.region _ _ _) fr hh) _ _
 simp -dsimp (disch:=omega) only[wpS]
 exact⟨rfl,by simp[f0],by simp[f1]⟩
set_option maxHeartbeats 4000000 in
theorem r1 (f0:fget fr 0=some w) (f1:fget fr 1=some (.int .u8 cp)):Do (wpC Proofs.Tryz.prog 7 166 none (partR 1) fr hh) (seqK (fun fr h'=>Pst (Ext hh h'∧fget fr 0=some w∧fget fr 1=some (.int .u8 cp)) nx) Q) nx:=by
 show Do (wpC _ _ _ _ (.seq _ _) fr hh) _ _
 simp -dsimp (disch:=omega) only[wpS]
 refine call dgworks_ok ?_
 rintro _ h1 ⟨X1,rfl⟩
 simp -dsimp (disch:=omega) only[wpS,wpT,Nat.reduceEqDiff]
 exact⟨X1,by simp[f0],by simp[f1]⟩
set_option maxHeartbeats 4000000 in
theorem r2 {nd:Nat} (hw:DrSl hh w nd) (f0:fget fr 0=some w) (f1:fget fr 1=some (.int .u8 cp)):Do (wpC Proofs.Tryz.prog 7 166 none (partR 2) fr hh) (seqK (fun fr h'=>Pst (∃v l,Ext hh h'∧fget fr 1=some (.int .u8 cp)∧fget fr 5=some v∧ShSl h' v l∧(∀p∈l,isShort p)∧l.length≤12) nx) Q) nx:=by
 show Do (wpC _ _ _ _ (.region _ _ _) fr hh) _ _
 simp -dsimp (disch:=omega) only[wpS,f0]
 refine call (shorts_ok hw) ?_
 rintro w2 h2 ⟨X2,l2,s2,hl2,hsh2,hn2⟩
 simp -dsimp (disch:=omega) only[wpS,Nat.reduceEqDiff]
 exact⟨w2,l2,X2,by simp[f1],by simp,s2,hsh2,by omega⟩
set_option maxHeartbeats 4000000 in
theorem r3 (f1:fget fr 1=some (.int .u8 cp)) (f5:fget fr 5=some v) (sl:ShSl hh v l) (hl:l.length≤12):Do (wpC Proofs.Tryz.prog 7 166 none (partR 3) fr hh) (seqK (fun fr h'=>Pst (h'=hh∧fget fr 1=some (.int .u8 cp) ∧ ∃v5,fget fr 5=some v5∧ShSl hh v5 (l.take (l.length / 2*2))) nx) Q) nx:=by
 show Do (wpC _ _ _ _ (.region _ _ _) fr hh) _ _
 obtain⟨m,hm⟩ : ∃m:Nat,m=l.length / 2*2:=⟨_,rfl⟩
 have e2:(l.length:Int) / 2*2=(m:Int):=by omega
 obtain⟨v1,ev,sv⟩:=sl.arg.first (Keep.refl hh) (m:=m) (by omega) (by omega)
 rw[hm] at sv
 simp -dsimp (disch:=omega) only[wpS,Nat.reduceEqDiff,f5,sl.1.len sl25,e2,ev]
 exact⟨rfl,by simp[f1],_,rfl,sv⟩
set_option maxHeartbeats 4000000 in
theorem r4 (f1:fget fr 1=some (.int .u8 cp)) (f5:fget fr 5=some v) (sl:ShSl hh v l) (hl:l.length=2*n) (n2:2≤n) (n6:n≤6):Do (wpC Proofs.Tryz.prog 7 166 none (partR 4) fr hh) (seqK (fun fr h'=>Pst (h'=hh∧fget fr 1=some (.int .u8 cp)∧fget fr 5=some v) nx) Q) nx:=by
 show Do (wpC _ _ _ _ (.seq _ _) fr hh) _ _
 have c1:decide ((l.length:Int)<4)=false:=decide_eq_false (by omega)
 simp -dsimp (disch:=omega) only[wpS,Nat.reduceEqDiff,f5,sl.1.len sl25,c1]
 exact⟨rfl,by simp[f1],by simp[f5]⟩
set_option maxHeartbeats 4000000 in
theorem r5 (f1:fget fr 1=some (.int .u8 cp)) (f5:fget fr 5=some v) (sl:ShSl hh v l) (hl:l.length=2*n) (n2:2≤n) (n6:n≤6):Do (wpC Proofs.Tryz.prog 7 166 none (partR 5) fr hh) (seqK (fun fr h'=>Pst (h'=hh∧fget fr 1=some (.int .u8 cp)∧fget fr 5=some v∧fget fr 6=some (KN n)) nx) Q) nx:=by
 show Do (wpC _ _ _ _ (.region _ _ _) fr hh) _ _
 have e2:(l.length:Int) / 2=(n:Int):=by omega
 simp -dsimp (disch:=omega) only[wpS,Nat.reduceEqDiff,f5,sl.1.len sl25,e2]
 exact⟨rfl,by simp[f1],by simp[f5],rfl⟩
set_option maxHeartbeats 4000000 in
theorem r6 (f1:fget fr 1=some (.int .u8 cp)) (f5:fget fr 5=some v) (sl:ShSl hh v l) (hl:l.length=2*n) (n2:2≤n) (n6:n≤6) (f6:fget fr 6=some (KN n)):Do (wpC Proofs.Tryz.prog 7 166 none (partR 6) fr hh) (seqK (fun fr h'=>Pst (∃v7 va vb,RX hh h' fr cp v v7 va vb l n∧ShSl h' va (l.take n)∧ShSl h' vb (l.drop n)) nx) Q) nx:=by
 show Do (wpC _ _ _ _ (.region _ _ _) fr hh) _ _
 obtain⟨va,ea,sa⟩:=sl.arg.first (Keep.refl hh) (m:=n) (by omega) (by omega)
 obtain⟨vb,eb,sb⟩:=sl.rest (Keep.refl hh) (m:=n) (by omega)
 refine drawn [(2,[8]),(5,[8])] (by kernel_rfl) (by kernel_rfl) rfl ?_
 simp -dsimp (disch:=omega) only[wpS,wpT,Nat.reduceEqDiff,Nat.reduceLeDiff,Nat.reduceAdd,Nat.reduceMul,bs22,f5,f6,ea,eb,sa.1.cells,sb.1.cells]
 have X:=(Ext.refl hh).new (.cells [va,vb] 1 none)
 have ea':=(sl.1.slice_same (Keep.refl hh) X.keep (P:=Proofs.Tryz.prog) u25 sz30).symm.trans ea
 have eb':=(sl.1.slice_same (Keep.refl hh) X.keep (P:=Proofs.Tryz.prog) u25 sz30).symm.trans eb
 refine⟨wpSteady_c2 (wpSteady_one rfl rfl rfl rfl (steady_slice rfl rfl rfl ea ea')) (wpSteady_one rfl rfl rfl rfl (steady_slice rfl rfl rfl eb eb')),?_⟩
 simp -dsimp (disch:=omega) only[wpS,wpT,Nat.reduceAdd]
 exact⟨_,va,vb,⟨X,by simp[f1],by simp[f5],by simp[f6],rfl,sl.keep X.keep,shLs_two sa sb⟩,sa.keep X.keep,sb.keep X.keep⟩
theorem ratio_cases (ll:List (List (Nat×Nat))) (h:svErr ll=0) : ∃(p:Nat×Nat) (e:Int),(p.1<W8∧p.2<W8)∧ratioRes ll=.tuple #[shV p.1 p.2,KI e]∧(e=0→qwithin ll≠0∧QW (qratioV ll)∧p=shq (qratioV ll)):=by
 unfold ratioRes
 rw[if_pos h]
 by_cases hw:qwithin ll=0
 ·rw[if_pos hw]
  exact⟨(0,0),7,⟨by decide +kernel,by decide +kernel⟩,rfl,fun e=>by cases e⟩
 ·rw[if_neg hw]
  unfold toldV
  split
  ·rename_i hq
   exact⟨shq (qratioV ll),0,shq_lt hq,rfl,fun _=>⟨hw,hq,rfl⟩⟩
  ·exact⟨(0,0),6,⟨by decide +kernel,by decide +kernel⟩,rfl,fun e=>by cases e⟩
theorem TwoC.fit {A B:List (Nat×Nat)} {n:Nat} (t:TwoC A B n):FitL [A,B]:=fun _=>⟨by have:=t.n6;show A.length≤12;rw[t.la];omega,by show(2:Nat)≤8;omega⟩
set_option maxHeartbeats 4000000 in
theorem r7 (s:RX h hh fr cp v v7 va vb l n) (sa:ShSl hh va (l.take n)) (sb:ShSl hh vb (l.drop n)) (t:TwoC (l.take n) (l.drop n) n):Do (wpC Proofs.Tryz.prog 7 166 none (partR 7) fr hh) (seqK (fun fr h'=>Pst (RX h h' fr cp v v7 va vb l n∧ShSl h' va (l.take n)∧ShSl h' vb (l.drop n) ∧ ∃(b8:Nat) (p8:Nat×Nat) (e9:Int),Bx h' fr 8 b8 p8∧fget fr 9=some (KI e9)∧(e9=0→qwithin [l.take n,l.drop n]≠0∧QW (qratioV [l.take n,l.drop n])∧p8=shq (qratioV [l.take n,l.drop n]))) nx) Q) nx:=by
 show Do (wpC _ _ _ _ (.region _ _ _) fr hh) _ _
 simp -dsimp (disch:=omega) only[wpS,s.f7]
 obtain⟨p8,e9,hw8,hr,hi⟩:=ratio_cases _ t.err
 refine call (gRatio s.s7 t.fit) ?_
 rintro _ h1 ⟨X1,rfl⟩
 rw[hr]
 obtain⟨G1,hG1,nG1,ZG1,kG1⟩:=box_put h1 p8
 simp -dsimp (disch:=omega) only[wpS,wpT,Nat.reduceEqDiff,Nat.reduceLeDiff,Nat.reduceAdd,zc30,st30,shV_cells,shC_len,shC_all,sh_sp3]
 rw[←hG1]
 clear hG1
 have V:=X1.trans ZG1
 exact⟨s.to V (by simp) (by simp) (by simp) (by simp),sa.keep V.keep,sb.keep V.keep,h1.n,p8,e9,⟨by omega,kG1,rfl⟩,rfl,hi⟩
set_option maxHeartbeats 4000000 in
theorem r8 (s:RX h hh fr cp v v7 va vb l n) (sa:ShSl hh va (l.take n)) (sb:ShSl hh vb (l.drop n)) (t:TwoC (l.take n) (l.drop n) n) {b8:Nat} {p8:Nat×Nat} {e9:Int} (x8:Bx hh fr 8 b8 p8) (f9:fget fr 9=some (KI e9)):Do (wpC Proofs.Tryz.prog 7 166 none (partR 8) fr hh) (seqK (fun fr h'=>Pst (RX h h' fr cp v v7 va vb l n∧ShSl h' va (l.take n)∧ShSl h' vb (l.drop n)∧Bx h' fr 8 b8 p8∧fget fr 9=some (KI e9) ∧ ∃b10,Bx h' fr 10 b10 (shq (qmeansV [l.take n,l.drop n]))∧fget fr 11=some (KI 0)) nx) Q) nx:=by
 show Do (wpC _ _ _ _ (.region _ _ _) fr hh) _ _
 simp -dsimp (disch:=omega) only[wpS,s.f7]
 have hr:meansRes [l.take n,l.drop n]=.tuple #[shV (shq (qmeansV [l.take n,l.drop n])).1 (shq (qmeansV [l.take n,l.drop n])).2,KI 0]:=meansRes_of t.err rfl t.qwV
 refine call (gMeans s.s7 t.fit) ?_
 rintro _ h1 ⟨X1,rfl⟩
 rw[hr]
 obtain⟨G1,hG1,nG1,ZG1,kG1⟩:=box_put h1 (shq (qmeansV [l.take n,l.drop n]))
 simp -dsimp (disch:=omega) only[wpS,wpT,Nat.reduceEqDiff,Nat.reduceLeDiff,Nat.reduceAdd,zc30,st30,shV_cells,shC_len,shC_all,sh_sp3]
 rw[←hG1]
 clear hG1
 have V:=X1.trans ZG1
 exact⟨s.to V (by simp) (by simp) (by simp) (by simp),sa.keep V.keep,sb.keep V.keep,x8.to V (by simp),by simp[f9],h1.n,⟨by omega,kG1,rfl⟩,rfl⟩
set_option maxHeartbeats 4000000 in
theorem r9 (s:RX h hh fr cp v v7 va vb l n) (sa:ShSl hh va (l.take n)) (sb:ShSl hh vb (l.drop n)) (t:TwoC (l.take n) (l.drop n) n) {b8:Nat} {p8:Nat×Nat} {e9:Int} (x8:Bx hh fr 8 b8 p8) (f9:fget fr 9=some (KI e9)) {b10:Nat} (x10:Bx hh fr 10 b10 (shq (qmeansV [l.take n,l.drop n]))) (f11:fget fr 11=some (KI 0)):Do (wpC Proofs.Tryz.prog 7 166 none (partR 9) fr hh) (seqK (fun fr h'=>Pst (RX h h' fr cp v v7 va vb l n∧ShSl h' va (l.take n)∧ShSl h' vb (l.drop n)∧(Bx h' fr 8 b8 p8∧fget fr 9=some (KI e9))∧(Bx h' fr 10 b10 (shq (qmeansV [l.take n,l.drop n]))∧fget fr 11=some (KI 0)) ∧ ∃b,Bx h' fr 12 b (shq (qmean ((l.take n).map rOf)))∧fget fr 13=some (KI 0)) nx) Q) nx:=by
 show Do (wpC _ _ _ _ (.region _ _ _) fr hh) _ _
 have hn2:=t.n2
 have hn6:=t.n6
 have hlen:l.length=2*n:=by
  have h1:=t.la
  have h2:=t.lb
  rw[List.length_take] at h1
  rw[List.length_drop] at h2
  omega
 have hne:l.take n ≠ []:=fun e=>by have:=t.ne.1;rw[e] at this;exact this rfl
 have hr:=meanRes_told (l:=l.take n) (chErr_none (allOk_of t.a) (by rw[t.la];omega) hne) (qw_mean (over_of t.a) t.ne.1 (by rw[List.length_map,t.la];omega))
 obtain⟨vx,ex,sx⟩:=s.sl.arg.first (Keep.refl hh) (m:=n) (by omega) (by omega)
 simp -dsimp (disch:=omega) only[wpS,Nat.reduceEqDiff,s.f5,s.f6,ex]
 refine call (gMean sx) ?_
 rintro _ h1 ⟨X1,rfl⟩
 rw[hr]
 obtain⟨G1,hG1,nG1,ZG1,kG1⟩:=box_put h1 (shq (qmean ((l.take n).map rOf)))
 simp -dsimp (disch:=omega) only[wpS,wpT,Nat.reduceEqDiff,Nat.reduceLeDiff,Nat.reduceAdd,zc30,st30,shV_cells,shC_len,shC_all,sh_sp3]
 rw[←hG1]
 clear hG1
 have V:=X1.trans ZG1
 exact⟨s.to V (by simp) (by simp) (by simp) (by simp),sa.keep V.keep,sb.keep V.keep,⟨x8.to V (by simp),by simp[f9]⟩,⟨x10.to V (by simp),by simp[f11]⟩,h1.n,⟨by omega,kG1,rfl⟩,rfl⟩
set_option maxHeartbeats 4000000 in
theorem r10 (s:RX h hh fr cp v v7 va vb l n) (sa:ShSl hh va (l.take n)) (sb:ShSl hh vb (l.drop n)) (t:TwoC (l.take n) (l.drop n) n) {b8:Nat} {p8:Nat×Nat} {e9:Int} (x8:Bx hh fr 8 b8 p8) (f9:fget fr 9=some (KI e9)) {b10:Nat} (x10:Bx hh fr 10 b10 (shq (qmeansV [l.take n,l.drop n]))) (f11:fget fr 11=some (KI 0)) {b12:Nat} (x12:Bx hh fr 12 b12 (shq (qmean ((l.take n).map rOf)))) (f13:fget fr 13=some (KI 0)):Do (wpC Proofs.Tryz.prog 7 166 none (partR 10) fr hh) (seqK (fun fr h'=>Pst (RX h h' fr cp v v7 va vb l n∧ShSl h' va (l.take n)∧ShSl h' vb (l.drop n)∧(Bx h' fr 8 b8 p8∧fget fr 9=some (KI e9))∧(Bx h' fr 10 b10 (shq (qmeansV [l.take n,l.drop n]))∧fget fr 11=some (KI 0))∧(Bx h' fr 12 b12 (shq (qmean ((l.take n).map rOf)))∧fget fr 13=some (KI 0)) ∧ ∃b,Bx h' fr 14 b (shq (qmean ((l.drop n).map rOf)))∧fget fr 15=some (KI 0)) nx) Q) nx:=by
 show Do (wpC _ _ _ _ (.region _ _ _) fr hh) _ _
 have hn2:=t.n2
 have hn6:=t.n6
 have hlen:l.length=2*n:=by
  have h1:=t.la
  have h2:=t.lb
  rw[List.length_take] at h1
  rw[List.length_drop] at h2
  omega
 have hne:l.drop n ≠ []:=fun e=>by have:=t.ne.2;rw[e] at this;exact this rfl
 have hr:=meanRes_told (l:=l.drop n) (chErr_none (allOk_of t.b) (by rw[t.lb];omega) hne) (qw_mean (over_of t.b) t.ne.2 (by rw[List.length_map,t.lb];omega))
 obtain⟨vx,ex,sx⟩:=s.sl.rest (Keep.refl hh) (m:=n) (by omega)
 simp -dsimp (disch:=omega) only[wpS,Nat.reduceEqDiff,s.f5,s.f6,ex]
 refine call (gMean sx) ?_
 rintro _ h1 ⟨X1,rfl⟩
 rw[hr]
 obtain⟨G1,hG1,nG1,ZG1,kG1⟩:=box_put h1 (shq (qmean ((l.drop n).map rOf)))
 simp -dsimp (disch:=omega) only[wpS,wpT,Nat.reduceEqDiff,Nat.reduceLeDiff,Nat.reduceAdd,zc30,st30,shV_cells,shC_len,shC_all,sh_sp3]
 rw[←hG1]
 clear hG1
 have V:=X1.trans ZG1
 exact⟨s.to V (by simp) (by simp) (by simp) (by simp),sa.keep V.keep,sb.keep V.keep,⟨x8.to V (by simp),by simp[f9]⟩,⟨x10.to V (by simp),by simp[f11]⟩,⟨x12.to V (by simp),by simp[f13]⟩,h1.n,⟨by omega,kG1,rfl⟩,rfl⟩
set_option maxHeartbeats 4000000 in
theorem r11 (s:RX h hh fr cp v v7 va vb l n) (sa:ShSl hh va (l.take n)) (sb:ShSl hh vb (l.drop n)) (t:TwoC (l.take n) (l.drop n) n) {b8:Nat} {p8:Nat×Nat} {e9:Int} (x8:Bx hh fr 8 b8 p8) (f9:fget fr 9=some (KI e9)) {b10:Nat} (x10:Bx hh fr 10 b10 (shq (qmeansV [l.take n,l.drop n]))) (f11:fget fr 11=some (KI 0)) {b12:Nat} (x12:Bx hh fr 12 b12 (shq (qmean ((l.take n).map rOf)))) (f13:fget fr 13=some (KI 0)) {b14:Nat} (x14:Bx hh fr 14 b14 (shq (qmean ((l.drop n).map rOf)))) (f15:fget fr 15=some (KI 0)):Do (wpC Proofs.Tryz.prog 7 166 none (partR 11) fr hh) (seqK (fun fr h'=>Pst (RX h h' fr cp v v7 va vb l n∧(Bx h' fr 8 b8 p8∧fget fr 9=some (KI e9))∧(Bx h' fr 12 b12 (shq (qmean ((l.take n).map rOf)))∧fget fr 13=some (KI 0))∧(Bx h' fr 14 b14 (shq (qmean ((l.drop n).map rOf)))∧fget fr 15=some (KI 0))) nx) Q) nx:=by
 show Do (wpC _ _ _ _ (.seq _ _) fr hh) _ _
 have hn6:=t.n6
 have qa:QW (qmean ((l.take n).map rOf)):=qw_mean (over_of t.a) t.ne.1 (by rw[List.length_map,t.la];omega)
 have qb:QW (qmean ((l.drop n).map rOf)):=qw_mean (over_of t.b) t.ne.2 (by rw[List.length_map,t.lb];omega)
 obtain⟨dd,hdd⟩ : ∃dd:Bool,dd=decide ((qmean ((l.take n).map rOf))=(qmean ((l.drop n).map rOf))):=⟨_,rfl⟩
 have heq2 : ∀ox oy,binop Proofs.Tryz.prog .eql 30 ox oy (.agg (shC (shq (qmean ((l.take n).map rOf))).1 (shq (qmean ((l.take n).map rOf))).2).toArray) (.agg (shC (shq (qmean ((l.drop n).map rOf))).1 (shq (qmean ((l.drop n).map rOf))).2).toArray)=some (.bool dd):=fun ox oy=>by
  rw[hdd];exact eql_shq qa qb ox oy
 have hnd:(!(dd == dd))=false:=by simp
 have hz:shareV (Rat.divInt 0 1)=.agg (shC (shq 0).1 (shq 0).2).toArray:=rfl
 have heq1 : ∀ox oy,binop Proofs.Tryz.prog .eql 30 ox oy (.agg (shC (shq (qmeansV [l.take n,l.drop n])).1 (shq (qmeansV [l.take n,l.drop n])).2).toArray) (.agg (shC (shq 0).1 (shq 0).2).toArray)=some (.bool dd):=fun ox oy=>by
  rw[hdd,eql_shq t.qwV QW_zero ox oy]
  congr 2
  exact decide_eq_decide.2 t.vzero
 have X0:=Ext.refl hh
 have L1:=(psh x10.k).2.2
 have L2:=(psh x12.k).2.2
 have L3:=(psh x14.k).2.2
 have N1:=x10.n
 have N2:=x12.n
 have N3:=x14.n
 simp -dsimp (disch:=omega) only[wpS]
 refine drawn [(11,[19]),(14,[12]),(15,[12])] (by kernel_rfl) (by kernel_rfl) rfl ?_
 simp -dsimp (disch:=omega) only[wpS,wpT,Nat.reduceEqDiff,Nat.reduceLeDiff,ld30,f11,f13,f15,x10.f,x10.r X0,shC_len,sh_take]
 refine call (lawq_ok 0 1 (by decide) (by decide) (by decide)) ?_
 rintro _ h1 ⟨X1,rfl⟩
 rw[hz]
 simp -dsimp (disch:=omega) only[wpS,wpT,Nat.reduceEqDiff,Nat.reduceLeDiff,ld30,bn4,heq1,heq2,hnd,x12.f,x14.f,x12.r X1,x14.r X1,shC_len,sh_take]
 refine⟨wpSteady_c2 (wpSteady_one rfl rfl rfl rfl (steady_ext (H0:=hh) (b:=2*b10) (o:=0) x10.f (by omega) X0 X1 L1)) (wpSteady_c2 (wpSteady_one rfl rfl rfl rfl (steady_ext (H0:=hh) (b:=2*b12) (o:=0) x12.f (by omega) X1 X0 L2)) (wpSteady_one rfl rfl rfl rfl (steady_ext (H0:=hh) (b:=2*b14) (o:=0) x14.f (by omega) X1 X0 L3))),?_⟩
 simp -dsimp (disch:=omega) only[wpS,wpT,Nat.reduceEqDiff,Nat.reduceAdd]
 exact⟨s.to X1 (by simp) (by simp) (by simp) (by simp),⟨x8.to X1 (by simp),by simp[f9]⟩,⟨x12.to X1 (by simp),by simp[f13]⟩,x14.to X1 (by simp),by simp[f15]⟩
set_option maxHeartbeats 8000000 in
theorem r12 (s:RX h hh fr cp v v7 va vb l n) (t:TwoC (l.take n) (l.drop n) n) {b8:Nat} {p8:Nat×Nat} {e9:Int} (x8:Bx hh fr 8 b8 p8) (f9:fget fr 9=some (KI e9)) (hi:e9=0→qwithin [l.take n,l.drop n]≠0∧QW (qratioV [l.take n,l.drop n])∧p8=shq (qratioV [l.take n,l.drop n])) {b12:Nat} (x12:Bx hh fr 12 b12 (shq (qmean ((l.take n).map rOf)))) (f13:fget fr 13=some (KI 0)) {b14:Nat} (x14:Bx hh fr 14 b14 (shq (qmean ((l.drop n).map rOf)))) (f15:fget fr 15=some (KI 0)):Do (wpC Proofs.Tryz.prog 7 166 none (partR 12) fr hh) (seqK (fun fr h'=>Pst (RX h h' fr cp v v7 va vb l n) nx) Q) nx:=by
 show Do (wpC _ _ _ _ (.seq _ _) fr hh) _ _
 by_cases h0:e9=0
 case neg =>
  have c1:(e9 == 0)=false:=by simpa using h0
  simp -dsimp (maxSteps:=1000000) (disch:=first|omega|(simp only[new_n,put_n];omega)|decide +kernel|(repeat first|rw[new_n]|rw[put_n])) only[wpS,Nat.reduceEqDiff,f9,c1]
  exact s.to (Ext.refl hh) (by simp) (by simp) (by simp) (by simp)
 subst h0
 obtain⟨hw,hq,rfl⟩:=hi rfl
 have hn6:=t.n6
 have qa:QW (qmean ((l.take n).map rOf)):=qw_mean (over_of t.a) t.ne.1 (by rw[List.length_map,t.la];omega)
 have qb:QW (qmean ((l.drop n).map rOf)):=qw_mean (over_of t.b) t.ne.2 (by rw[List.length_map,t.lb];omega)
 obtain⟨dd,hdd⟩ : ∃dd:Bool,dd=decide ((qmean ((l.take n).map rOf))=(qmean ((l.drop n).map rOf))):=⟨_,rfl⟩
 have heq2 : ∀ox oy,binop Proofs.Tryz.prog .eql 30 ox oy (.agg (shC (shq (qmean ((l.take n).map rOf))).1 (shq (qmean ((l.take n).map rOf))).2).toArray) (.agg (shC (shq (qmean ((l.drop n).map rOf))).1 (shq (qmean ((l.drop n).map rOf))).2).toArray)=some (.bool dd):=fun ox oy=>by
  rw[hdd];exact eql_shq qa qb ox oy
 have hnd:(!(dd == dd))=false:=by simp
 have hn2:=t.n2
 have hqy:QW (Rat.divInt ((n:Int) - 1) n):=qw_div ⟨by omega,by omega⟩ ⟨by omega,by omega⟩ (by omega)
 obtain⟨hge,hiff⟩:=t.ratio hw
 obtain⟨a1,a2⟩:=rOf_shq hq
 obtain⟨a3,a4⟩:=rOf_shq hqy
 have hs:shareV (Rat.divInt ((n:Int) - 1) n)=shV (shq (Rat.divInt ((n:Int) - 1) n)).1 (shq (Rat.divInt ((n:Int) - 1) n)).2:=rfl
 have X0:=Ext.refl hh
 have L1:=(psh x8.k).2.2
 have N1:=x8.n
 have d1:decide ((if (qratioV [l.take n,l.drop n])<(Rat.divInt ((n:Int) - 1) n) then (-1:Int) else if (qratioV [l.take n,l.drop n])=(Rat.divInt ((n:Int) - 1) n) then 0 else 1)<0)=false:=decide_eq_false (by
  rw[if_neg (Rat.not_lt.2 hge)]
  split<;>omega)
 have d2:((if (qratioV [l.take n,l.drop n])<(Rat.divInt ((n:Int) - 1) n) then (-1:Int) else if (qratioV [l.take n,l.drop n])=(Rat.divInt ((n:Int) - 1) n) then 0 else 1) == 0)=dd:=by
  rw[hdd,if_neg (Rat.not_lt.2 hge),Bool.eq_iff_iff,beq_iff_eq,decide_eq_true_iff,←hiff]
  by_cases hc:(qratioV [l.take n,l.drop n])=(Rat.divInt ((n:Int) - 1) n)
  ·simp[hc]
  ·simp[]
 simp -dsimp (maxSteps:=1000000) (disch:=first|omega|(simp only[new_n,put_n];omega)|decide +kernel|(repeat first|rw[new_n]|rw[put_n])) only[wpS,wpT,Nat.reduceEqDiff,f9]
 refine drawn [(0,[5])] (by kernel_rfl) (by kernel_rfl) rfl ?_
 simp -dsimp (maxSteps:=1000000) (disch:=first|omega|(simp only[new_n,put_n];omega)|decide +kernel|(repeat first|rw[new_n]|rw[put_n])) only[wpS,Nat.reduceEqDiff,Nat.reduceLeDiff,ld30,x8.f,x8.r X0,shC_len,sh_take,s.f6]
 refine call (lawq_ok ((n:Int) - 1) n ⟨by omega,by omega⟩ ⟨by omega,by omega⟩ (by omega)) ?_
 rintro _ h1 ⟨X1,rfl⟩
 rw[hs]
 simp -dsimp (maxSteps:=1000000) (disch:=first|omega|(simp only[new_n,put_n];omega)|decide +kernel|(repeat first|rw[new_n]|rw[put_n])) only[wpS,Nat.reduceEqDiff]
 refine call (shcmp_ok (p1:=shq (qratioV [l.take n,l.drop n])) (p2:=shq (Rat.divInt ((n:Int) - 1) n)) (shq_lt hq) (shq_lt hqy) a2 a4) ?_
 rintro _ h2 ⟨X2,rfl⟩
 have X12:=X1.trans X2
 rw[a1,a3]
 simp -dsimp (maxSteps:=1000000) (disch:=first|omega|(simp only[new_n,put_n];omega)|decide +kernel|(repeat first|rw[new_n]|rw[put_n])) only[wpS,Nat.reduceEqDiff]
 refine⟨wpSteady_one rfl rfl rfl rfl (steady_ext (H0:=hh) (b:=2*b8) (o:=0) x8.f (by omega) X0 X1 L1),?_⟩
 simp -dsimp (maxSteps:=1000000) (disch:=first|omega|(simp only[new_n,put_n];omega)|decide +kernel|(repeat first|rw[new_n]|rw[put_n])) only[wpS,wpT,Nat.reduceEqDiff,Nat.reduceLeDiff,Nat.reduceAdd,ld30,bn4,d1,d2,x12.f,x14.f,x12.r X12,x14.r X12,shC_len,sh_take,heq2,hnd]
 exact s.to X12 (by simp) (by simp) (by simp) (by simp)
set_option maxHeartbeats 4000000 in
theorem r13 (s:RX h hh fr cp v v7 va vb l n):Do (wpC Proofs.Tryz.prog 7 166 none (partR 13) fr hh) (seqK (fun fr h'=>Pst (RX h h' fr cp v v7 va vb l n∧fget fr 18=some (.slice none 0 0)) nx) Q) nx:=by
 show Do (wpC _ _ _ _ (.region _ _ _) fr hh) _ _
 simp -dsimp (disch:=omega) only[wpS]
 exact⟨s.to (Ext.refl hh) (by simp) (by simp) (by simp) (by simp),rfl⟩
set_option maxHeartbeats 8000000 in
theorem r14 (s:RX h hh fr cp v v7 va vb l n) (hc:0≤cp∧cp<256) (f18:fget fr 18=some (.slice none 0 0)):Do (wpC Proofs.Tryz.prog 7 166 none (partR 14) fr hh) (seqK (fun fr h'=>Pst (RX h h' fr cp v v7 va vb l n ∧ ∃(v18:Value) (m:Nat),2≤m∧m≤8∧ShLs h' v18 (List.replicate m l)∧fget fr 18=some v18) nx) Q) nx:=by
 show Do (wpC _ _ _ _ (.seq _ _) fr hh) _ _
 obtain⟨M,hM⟩ : ∃M:Nat,(M:Int)=2+cp % 7:=⟨(2+cp % 7).toNat,by omega⟩
 have hEn:=s.e.n
 simp -dsimp (disch:=omega) only[wpS,Nat.reduceEqDiff,cv5_3,s.f1,←hM]
 refine loop (fun m fr gg => ∃(i:Nat) (out:Value),i+m=M∧Ext hh gg∧Acc gg hh.n 1 out i (List.replicate i v)∧fget fr 1=some (.int .u8 cp)∧fget fr 5=some v∧fget fr 6=some (KN n)∧fget fr 7=some v7∧fget fr 18=some out∧fget fr 117=some (KN M)∧fget fr 118=some (KN i)) M
  ⟨0,.slice none 0 0,by omega,Ext.refl _,Acc.nil _ _ (by omega),by simp[s.f1],by simp[s.f5],by simp[s.f6],by simp[s.f7],by simp[f18],by simp,by simp⟩ ?_
 rintro m fr gg ⟨i,out,him,E,hA,g1,g5,g6,g7,g18,g117,g118⟩
 have hn:=E.n
 simp -dsimp (disch:=omega) only[wpS,g117,g118]
 refine bq_intro ?_ ?_<;>intro hb<;>simp only[decide_eq_true_eq,decide_eq_false_iff_not] at hb
 ·have hi:i<M:=by omega
  obtain⟨out',h8,hap,hA8,hG8,hE8⟩:=hA.app1 (P:=Proofs.Tryz.prog) (t:=22) ap22 (x:=v) s.sl.1.cok (by omega) (by omega) E (Nat.le_refl _)
  have hap':append Proofs.Tryz.prog (gg.new (.cells [v] 1 none)) 22 out (.slice (some ⟨2*gg.n,0,none⟩) 1 3)=some (out',h8):=hap
  simp -dsimp (disch:=omega) only[wpS,wpT,Nat.reduceEqDiff,Nat.reduceLeDiff,Nat.reduceAdd,bs22,ba22_22,g18,g5,g118,s.sl.1.cells,hap']
  refine⟨m - 1,by omega,i+1,out',by omega,hE8,by rw[List.replicate_succ'];exact hA8,by simp[g1],by simp[g5],by simp[g6],by simp[g7],by simp,by simp[g117],by simp⟩
 ·obtain rfl:i=M:=by omega
  simp -dsimp (disch:=omega) only[wpS,wpT]
  refine⟨⟨s.e.trans E,by simp[g1],by simp[g5],by simp[g6],by simp[g7],s.sl.keep E.keep,s.s7.ext E⟩,out,i,by omega,by omega,⟨List.replicate i v,by rw[List.length_replicate];exact hA.sl,by rw[List.length_replicate];omega,fun j x hx=>?_⟩,by simp[g18]⟩
  have hj:j<i:=by have:=(List.getElem?_eq_some_iff.1 hx).1;simpa using this
  rw[List.getElem?_replicate,if_pos hj] at hx
  cases hx
  exact⟨v,by rw[List.getElem?_replicate,if_pos hj],s.sl.keep E.keep⟩
theorem rep_res {l:List (Nat×Nat)} {m:Nat} (sh:ShortL l) (h2:2≤l.length) (m2:2≤m) (m8:m≤8) : ∃(p:Nat×Nat) (e:Int),(p.1<W8∧p.2<W8)∧ratioRes (List.replicate m l)=.tuple #[shV p.1 p.2,KI e] ∧
  (qauto (l.map rOf) (qmean (l.map rOf)) 0=0→p=(0,0)∧e=7)∧(qauto (l.map rOf) (qmean (l.map rOf)) 0≠0→p=shq (Rat.divInt ((l.length:Int) - 1) l.length)∧e=0):=by
 have hn:=sh.n
 have he:=rep_err m2 m8 sh.s h2 hn
 have hz:=rep_zero (l:=l) m2 h2
 have hqy:QW (Rat.divInt ((l.length:Int) - 1) l.length):=qw_div ⟨by omega,by omega⟩ ⟨by omega,by omega⟩ (by omega)
 by_cases h0:qwithin (List.replicate m l)=0
 ·exact⟨(0,0),7,⟨by decide +kernel,by decide +kernel⟩,ratioRes_no he h0,fun _=>⟨rfl,rfl⟩,fun hne=>absurd (hz.1 h0) hne⟩
 ·refine⟨_,0,shq_lt hqy,ratioRes_of he h0 (rep_ratio m2 h2 h0) hqy,fun hz0=>absurd (hz.2 hz0) h0,fun _=>⟨rfl,rfl⟩⟩
theorem rep_fit {l:List (Nat×Nat)} {m:Nat} (sh:ShortL l) (m2:2≤m) (m8:m≤8):FitL (List.replicate m l):=fun _=>⟨by rw[rep_len0 m2];exact sh.n,by rw[List.length_replicate];exact m8⟩
set_option maxHeartbeats 4000000 in
theorem r15 (s:RX h hh fr cp v v7 va vb l n) (sh:ShortL l) (hl:l.length=2*n) (n2:2≤n) (n6:n≤6) {v18:Value} {m:Nat} (m2:2≤m) (m8:m≤8) (s18:ShLs hh v18 (List.replicate m l)) (f18:fget fr 18=some v18):Do (wpC Proofs.Tryz.prog 7 166 none (partR 15) fr hh) (seqK (fun fr h'=>Pst (RX h h' fr cp v v7 va vb l n∧(ShLs h' v18 (List.replicate m l)∧fget fr 18=some v18) ∧ ∃(b19:Nat) (p19:Nat×Nat) (e20:Int),Bx h' fr 19 b19 p19∧fget fr 20=some (KI e20)∧(p19.1<W8∧p19.2<W8)∧((qauto (l.map rOf) (qmean (l.map rOf)) 0)=0→p19=(0,0)∧e20=7)∧((qauto (l.map rOf) (qmean (l.map rOf)) 0)≠0→p19=shq (Rat.divInt ((l.length:Int) - 1) l.length)∧e20=0)) nx) Q) nx:=by
 show Do (wpC _ _ _ _ (.region _ _ _) fr hh) _ _
 simp -dsimp (disch:=omega) only[wpS,f18]
 obtain⟨p,e,hp,hr,c1,c2⟩:=rep_res sh (by omega) m2 m8
 refine call (gRatio s18 (rep_fit sh m2 m8)) ?_
 rintro _ h1 ⟨X1,rfl⟩
 rw[hr]
 obtain⟨G1,hG1,nG1,ZG1,kG1⟩:=box_put h1 p
 simp -dsimp (disch:=omega) only[wpS,wpT,Nat.reduceEqDiff,Nat.reduceLeDiff,Nat.reduceAdd,zc30,st30,shV_cells,shC_len,shC_all,sh_sp3]
 rw[←hG1]
 clear hG1
 have V:=X1.trans ZG1
 exact⟨s.to V (by simp) (by simp) (by simp) (by simp),⟨s18.ext V,by simp[f18]⟩,h1.n,p,e,⟨by omega,kG1,rfl⟩,rfl,hp,c1,c2⟩
set_option maxHeartbeats 4000000 in
theorem r16 (s:RX h hh fr cp v v7 va vb l n) (sh:ShortL l) (hl:l.length=2*n) (n2:2≤n) (n6:n≤6) {v18:Value} {m:Nat} (m2:2≤m) (m8:m≤8) (s18:ShLs hh v18 (List.replicate m l)) (f18:fget fr 18=some v18) {b19:Nat} {p19:Nat×Nat} {e20:Int} (x19:Bx hh fr 19 b19 p19) (f20:fget fr 20=some (KI e20)):Do (wpC Proofs.Tryz.prog 7 166 none (partR 16) fr hh) (seqK (fun fr h'=>Pst (RX h h' fr cp v v7 va vb l n∧(ShLs h' v18 (List.replicate m l)∧fget fr 18=some v18)∧(Bx h' fr 19 b19 p19∧fget fr 20=some (KI e20)) ∧ ∃b21,Bx h' fr 21 b21 (shq (qauto (l.map rOf) (qmean (l.map rOf)) 0))∧fget fr 22=some (KI 0)) nx) Q) nx:=by
 show Do (wpC _ _ _ _ (.region _ _ _) fr hh) _ _
 simp -dsimp (disch:=omega) only[wpS,s.f5]
 have hr:=autoRes_told (lag:=0) sh.err sh.pos (qw_auto (over_of sh.s) sh.mne (by rw[List.length_map];exact sh.n) 0)
 refine call (gAuto s.sl (.inl sh.n) ((0:Nat):Int)) ?_
 rintro _ h1 ⟨X1,rfl⟩
 rw[hr]
 obtain⟨G1,hG1,nG1,ZG1,kG1⟩:=box_put h1 (shq (qauto (l.map rOf) (qmean (l.map rOf)) 0))
 simp -dsimp (disch:=omega) only[wpS,wpT,Nat.reduceEqDiff,Nat.reduceLeDiff,Nat.reduceAdd,zc30,st30,shV_cells,shC_len,shC_all,sh_sp3]
 rw[←hG1]
 clear hG1
 have V:=X1.trans ZG1
 exact⟨s.to V (by simp) (by simp) (by simp) (by simp),⟨s18.ext V,by simp[f18]⟩,⟨x19.to V (by simp),by simp[f20]⟩,h1.n,⟨by omega,kG1,rfl⟩,rfl⟩
set_option maxHeartbeats 4000000 in
theorem r17 (s:RX h hh fr cp v v7 va vb l n) (sh:ShortL l) (hl:l.length=2*n) (n2:2≤n) (n6:n≤6) {v18:Value} {m:Nat} (m2:2≤m) (m8:m≤8) (s18:ShLs hh v18 (List.replicate m l)) (f18:fget fr 18=some v18) {b19:Nat} {p19:Nat×Nat} {e20:Int} (x19:Bx hh fr 19 b19 p19) (f20:fget fr 20=some (KI e20)) {b21:Nat} (x21:Bx hh fr 21 b21 (shq (qauto (l.map rOf) (qmean (l.map rOf)) 0))) (f22:fget fr 22=some (KI 0)) (ha:(qauto (l.map rOf) (qmean (l.map rOf)) 0)≠0):Do (wpC Proofs.Tryz.prog 7 166 none (partR 17) fr hh) (seqK (fun fr h'=>Pst (RX h h' fr cp v v7 va vb l n∧(ShLs h' v18 (List.replicate m l)∧fget fr 18=some v18)∧(Bx h' fr 19 b19 p19∧fget fr 20=some (KI e20))∧(Bx h' fr 21 b21 (shq (qauto (l.map rOf) (qmean (l.map rOf)) 0))∧fget fr 22=some (KI 0))) nx) Q) nx:=by
 show Do (wpC _ _ _ _ (.seq _ _) fr hh) _ _
 have hqa:=a0_facts sh 0
 have hz:shareV (Rat.divInt 0 1)=.agg (shC (shq 0).1 (shq 0).2).toArray:=rfl
 have X0:=Ext.refl hh
 have L1:=(psh x21.k).2.2
 have N1:=x21.n
 have heq : ∀ox oy,binop Proofs.Tryz.prog .eql 30 ox oy (.agg (shC (shq (qauto (l.map rOf) (qmean (l.map rOf)) 0)).1 (shq (qauto (l.map rOf) (qmean (l.map rOf)) 0)).2).toArray) (.agg (shC (shq 0).1 (shq 0).2).toArray)=some (.bool false):=fun ox oy=>by
  rw[eql_shq hqa QW_zero ox oy,decide_eq_false ha]
 simp -dsimp (disch:=omega) only[wpS]
 refine drawn [(0,[3])] (by kernel_rfl) (by kernel_rfl) rfl ?_
 simp -dsimp (disch:=omega) only[wpS,Nat.reduceLeDiff,ld30,x21.f,x21.r X0,shC_len,sh_take]
 refine call (lawq_ok 0 1 (by decide) (by decide) (by decide)) ?_
 rintro _ h1 ⟨X1,rfl⟩
 rw[hz]
 simp -dsimp (disch:=omega) only[wpS,Nat.reduceEqDiff,heq]
 refine⟨wpSteady_one rfl rfl rfl rfl (steady_ext (H0:=hh) (b:=2*b21) (o:=0) x21.f (by omega) X0 X1 L1),?_⟩
 simp -dsimp (disch:=omega) only[wpS,wpT,Nat.reduceEqDiff,Nat.reduceAdd]
 exact⟨s.to X1 (by simp) (by simp) (by simp) (by simp),⟨s18.ext X1,by simp[f18]⟩,⟨x19.to X1 (by simp),by simp[f20]⟩,x21.to X1 (by simp),by simp[f22]⟩
set_option maxHeartbeats 8000000 in
theorem r18 (s:RX h hh fr cp v v7 va vb l n) (sh:ShortL l) (hl:l.length=2*n) (n2:2≤n) (n6:n≤6) {v18:Value} {m:Nat} (m2:2≤m) (m8:m≤8) (s18:ShLs hh v18 (List.replicate m l)) (f18:fget fr 18=some v18) {b19:Nat} {p19:Nat×Nat} {e20:Int} (x19:Bx hh fr 19 b19 p19) (f20:fget fr 20=some (KI e20)) {b21:Nat} (x21:Bx hh fr 21 b21 (shq (qauto (l.map rOf) (qmean (l.map rOf)) 0))) (f22:fget fr 22=some (KI 0)) (ha:(qauto (l.map rOf) (qmean (l.map rOf)) 0)≠0) (c2:(qauto (l.map rOf) (qmean (l.map rOf)) 0)≠0→p19=shq (Rat.divInt ((l.length:Int) - 1) l.length)∧e20=0):Do (wpC Proofs.Tryz.prog 7 166 none (partR 18) fr hh) (seqK (fun fr h'=>Pst (fget fr 4=some (.bool true)) nx) Q) nx:=by
 show Do (wpC _ _ _ _ (.region _ _ _) fr hh) _ _
 obtain⟨rfl,rfl⟩:=c2 ha
 have hn:=sh.n
 have hqy:QW (Rat.divInt ((l.length:Int) - 1) l.length):=qw_div ⟨by omega,by omega⟩ ⟨by omega,by omega⟩ (by omega)
 have hs:shareV (Rat.divInt ((l.length:Int) - 1) l.length)=.agg (shC (shq (Rat.divInt ((l.length:Int) - 1) l.length)).1 (shq (Rat.divInt ((l.length:Int) - 1) l.length)).2).toArray:=rfl
 have heq:=eql_true (shq_lt hqy)
 have X0:=Ext.refl hh
 have L1:=(psh x19.k).2.2
 have N1:=x19.n
 have hlen:=s.sl.1.len (P:=Proofs.Tryz.prog) sl25
 refine drawn [(7,[17])] (by kernel_rfl) (by kernel_rfl) rfl ?_
 simp -dsimp (disch:=omega) only[wpS,wpT,Nat.reduceEqDiff,Nat.reduceLeDiff,ld30,f22,f20,x19.f,x19.r X0,shC_len,sh_take,s.f5,hlen]
 refine call (lawq_ok ((l.length:Int) - 1) l.length ⟨by omega,by omega⟩ ⟨by omega,by omega⟩ (by omega)) ?_
 rintro _ h1 ⟨X1,rfl⟩
 rw[hs]
 simp -dsimp (disch:=omega) only[wpS,wpT,Nat.reduceEqDiff,heq]
 refine call (isC_ok 0 1) ?_
 rintro _ h2 ⟨X2,i,j,rfl,c⟩
 have X12:=X1.trans X2
 simp -dsimp (disch:=omega) only[wpS,wpT,Nat.reduceEqDiff,f18]
 have hr:meansRes (List.replicate m l)=.tuple #[shareV 0,KI 0]:=meansRes_of (rep_err m2 m8 sh.s (by omega) hn) (rep_means m2) QW_zero
 refine call (gMeans (s18.ext X12) (rep_fit sh m2 m8)) ?_
 rintro _ h3 ⟨X3,rfl⟩
 rw[hr]
 simp -dsimp (disch:=omega) only[wpS,wpT,Nat.reduceEqDiff]
 refine call (isT_ok (q:=0) (c.ext X3) (by decide +kernel) (by decide) (by decide) (by decide)) ?_
 rintro _ h4 ⟨X4,rfl⟩
 simp -dsimp (disch:=omega) only[wpS,Nat.reduceEqDiff]
 have X14:=(X12.trans X3).trans X4
 refine⟨wpSteady_one rfl rfl rfl rfl (steady_ext (H0:=hh) (b:=2*b19) (o:=0) x19.f (by omega) X0 X1 L1),?_⟩
 simp -dsimp (disch:=omega) only[wpS,wpT,Nat.reduceAdd]
 rfl
end
theorem dgratios_ideal {h:IH} {w:Value} {nd:Nat} {cp:Int} (hw:DrSl h w nd) (hc:0≤cp∧cp<256) :
  WV Proofs.Tryz.prog (.func (.func 7) #[] #[]) [w,.int .u8 cp] h fun r _=>r=.bool true:=by
 refine enter (nt:=166) (rs:=[.tmp 4]) Proofs.Tryz.func7 rfl rfl rfl (by simp) ?_
 rw[d_seq];refine cut _ (r0 (w:=w) (cp:=cp) (by simp) (by simp)) ?_;rintro fr h0 ⟨rfl,f0,f1⟩
 rw[d_seq];refine cut _ (r1 f0 f1) ?_;clear f0 f1;rintro fr h1 ⟨X1,f0,f1⟩
 rw[d_seq];refine cut _ (r2 (hw.keep X1.keep) f0 f1) ?_;clear f0 f1;rintro fr h2 ⟨v0,l0,X2,f1,f5,sl0,hsh,hn⟩
 rw[d_seq];refine cut _ (r3 f1 f5 sl0 hn) ?_;clear f1 f5;rintro fr h3 ⟨rfl,f1,v,f5,sl⟩
 have hll:(l0.take (l0.length / 2*2)).length=l0.length / 2*2:=by rw[List.length_take];omega
 have hsl : ∀p∈l0.take (l0.length / 2*2),isShort p:=fun p hp=>hsh p (List.mem_of_mem_take hp)
 obtain⟨n,hnn⟩ : ∃n,n=l0.length / 2:=⟨_,rfl⟩
 rw[←hnn] at hll hsl sl
 generalize l0.take (n*2)=l at hll hsl sl
 by_cases hlt:l.length<4
 ·have c1:decide ((l.length:Int)<4)=true:=decide_eq_true (by omega)
  simp -dsimp (disch:=omega) only[wpS,Nat.reduceEqDiff,f5,sl.1.len sl25,c1]
 ·have hl:l.length=2*n:=by omega
  have n2:2≤n:=by omega
  have n6:n≤6:=by omega
  have sh:ShortL l:=⟨hsl,by omega,fun e=>by rw[e] at hlt;simp at hlt⟩
  have t:TwoC (l.take n) (l.drop n) n:=⟨fun p hp=>hsl p (List.mem_of_mem_take hp),fun p hp=>hsl p (List.mem_of_mem_drop hp),by rw[List.length_take];omega,by rw[List.length_drop];omega,n2,n6⟩
  rw[d_seq];refine cut _ (r4 f1 f5 sl hl n2 n6) ?_;clear f1 f5;rintro fr h4 ⟨rfl,f1,f5⟩
  rw[d_seq];refine cut _ (r5 f1 f5 sl hl n2 n6) ?_;clear f1 f5;rintro fr h5 ⟨rfl,f1,f5,f6⟩
  rw[d_seq];refine cut _ (r6 f1 f5 sl hl n2 n6 f6) ?_;clear f1 f5 f6;rintro fr h6 ⟨v7,va,vb,s,sa,sb⟩
  rw[d_seq];refine cut _ (r7 s sa sb t) ?_;clear s sa sb;rintro fr h7 ⟨s,sa,sb,b8,p8,e9,x8,f9,hi⟩
  rw[d_seq];refine cut _ (r8 s sa sb t x8 f9) ?_;clear s sa sb x8 f9;rintro fr h8 ⟨s,sa,sb,x8,f9,b10,x10,f11⟩
  rw[d_seq];refine cut _ (r9 s sa sb t x8 f9 x10 f11) ?_;clear s sa sb x8 f9 x10 f11;rintro fr h9 ⟨s,sa,sb,⟨x8,f9⟩,⟨x10,f11⟩,b12,x12,f13⟩
  rw[d_seq];refine cut _ (r10 s sa sb t x8 f9 x10 f11 x12 f13) ?_;clear s sa sb x8 f9 x10 f11 x12 f13;rintro fr h10 ⟨s,sa,sb,⟨x8,f9⟩,⟨x10,f11⟩,⟨x12,f13⟩,b14,x14,f15⟩
  rw[d_seq];refine cut _ (r11 s sa sb t x8 f9 x10 f11 x12 f13 x14 f15) ?_;clear s x8 f9 x10 f11 x12 f13 x14 f15;rintro fr h11 ⟨s,⟨x8,f9⟩,⟨x12,f13⟩,x14,f15⟩
  rw[d_seq];refine cut _ (r12 s t x8 f9 hi x12 f13 x14 f15) ?_;clear s x8 f9 x12 f13 x14 f15;intro fr h12 s
  rw[d_seq];refine cut _ (r13 s) ?_;clear s;rintro fr h13 ⟨s,f18⟩
  rw[d_seq];refine cut _ (r14 s hc f18) ?_;clear s f18;rintro fr h14 ⟨s,v18,m,m2,m8,s18,f18⟩
  rw[d_seq];refine cut _ (r15 s sh hl n2 n6 m2 m8 s18 f18) ?_;clear s s18 f18;rintro fr h15 ⟨s,⟨s18,f18⟩,b19,p19,e20,x19,f20,hp19,c1,c2⟩
  rw[d_seq];refine cut _ (r16 s sh hl n2 n6 m2 m8 s18 f18 x19 f20) ?_;clear s s18 f18 x19 f20;rintro fr h16 ⟨s,⟨s18,f18⟩,⟨x19,f20⟩,b21,x21,f22⟩
  by_cases ha:(qauto (l.map rOf) (qmean (l.map rOf)) 0)=0
  ·have hqa:=a0_facts sh 0
   have hz:shareV (Rat.divInt 0 1)=.agg (shC (shq 0).1 (shq 0).2).toArray:=rfl
   have X0:=Ext.refl h16
   have L1:=(psh x21.k).2.2
   have N1:=x21.n
   have N2:=x19.n
   obtain⟨rfl,rfl⟩:=c1 ha
   have heq : ∀ox oy,binop Proofs.Tryz.prog .eql 30 ox oy (.agg (shC (shq (qauto (l.map rOf) (qmean (l.map rOf)) 0)).1 (shq (qauto (l.map rOf) (qmean (l.map rOf)) 0)).2).toArray) (.agg (shC (shq 0).1 (shq 0).2).toArray)=some (.bool true):=fun ox oy=>by
    rw[eql_shq hqa QW_zero ox oy,decide_eq_true ha]
   simp -dsimp (disch:=omega) only[wpS]
   refine drawn [(0,[3])] (by kernel_rfl) (by kernel_rfl) rfl ?_
   simp -dsimp (disch:=omega) only[wpS,Nat.reduceLeDiff,ld30,x21.f,x21.r X0,shC_len,sh_take]
   refine call (lawq_ok 0 1 (by decide) (by decide) (by decide)) ?_
   rintro _ g1 ⟨Y1,rfl⟩
   rw[hz]
   simp -dsimp (disch:=omega) only[wpS,Nat.reduceEqDiff,heq]
   refine⟨wpSteady_one rfl rfl rfl rfl (steady_ext (H0:=h16) (b:=2*b21) (o:=0) x21.f (by omega) X0 Y1 L1),?_⟩
   simp -dsimp (disch:=omega) only[wpS,wpT,Nat.reduceEqDiff,Nat.reduceAdd]
   have M1:=(psh (Y1.kept x19.n x19.k)).2.2
   have Z0:=Ext.refl g1
   have Zn:=Y1.n
   refine drawn [(1,[0])] (by kernel_rfl) (by kernel_rfl) rfl ?_
   simp -dsimp (disch:=omega) only[wpS]
   refine call (faC_ok 7) ?_
   rintro _ g2 ⟨Y2,i,rfl,c⟩
   simp -dsimp (disch:=omega) only[wpS,Nat.reduceEqDiff,Nat.reduceLeDiff,ld30,x19.f,x19.r (Y1.trans Y2),f20,shC_len,sh_take]
   refine call (faT_ok c) ?_
   rintro _ g3 ⟨Y3,rfl⟩
   simp -dsimp (disch:=omega) only[wpS,Nat.reduceEqDiff]
   refine⟨wpSteady_one rfl rfl rfl rfl (steady_ext (H0:=g1) (b:=2*b19) (o:=0) x19.f (by omega) Y2 Z0 M1),?_⟩
   simp -dsimp (disch:=omega) only[wpS,wpT,Nat.reduceEqDiff,Nat.reduceAdd]
  ·rw[d_seq];refine cut _ (r17 s sh hl n2 n6 m2 m8 s18 f18 x19 f20 x21 f22 ha) ?_;clear s s18 f18 x19 f20 x21 f22;rintro fr h17 ⟨s,⟨s18,f18⟩,⟨x19,f20⟩,x21,f22⟩
   rw[d_seq];refine cut _ (r18 s sh hl n2 n6 m2 m8 s18 f18 x19 f20 x21 f22 ha c2) ?_;clear s s18 f18 x19 f20 x21 f22;intro fr h18 f4
   simp -dsimp (disch:=omega) only[wpS,f4]
end Go.Id

/-! DiagnoseRatios: for every input the law returns true, and each argument reads as it did. Conditions: none but the row's own. -/
namespace Go.Proofs.YthbkinefgmfgeaaGreat
open Go.ChangeShapes Go.WideShapes Go.ChangeAt Go.RowKit Go.Id
set_option maxRecDepth 100000 in
theorem diagnoseRatios_lifted (os:Os) (started:os.Started) (H:Type) (enc:TypeId×Value→H) :
  ReturnsInHanded {} Tryz.checked os 7 .any (Rows.diagnoseRatiosSpec.pre6 enc Tryz.prog Tryz.f7 Rows.diagnoseRatiosRow.domain false) (Rows.diagnoseRatiosSpec.post enc Tryz.prog Tryz.f7 false true false false):=by
 refine returnsInHanded_of_change (C:=Tryz.checked) Tryz.own started (by kernel_rfl) Tryz.func7
  (ChangeSpec.witness6 (enc:=enc) (C:=Tryz.checked) false ⟨#[],#[.slice none 0 0,.int .u8 0],[]⟩ 8 (by kernel_rfl) (by kernel_rfl) (by kernel_rfl) (by kernel_rfl)) ?_
 intro W base args ds gs before hval0 hW hcnd _
 have hval : ∀(j:Nat) t v,Tryz.f7.params[j]?=some t→args[j]?=some v→Value.okWide Tryz.prog W .any base t v:=hval0
 have hW':=hW
 obtain⟨p,q,hA0,hV,rfl,hfz,hnd⟩:=hW
 have hA:DataW.TrodAll enc Tryz.prog W 0 (fun _=>true) true Tryz.f7.params.toList args.toList ds p:=hA0
 have hA1:=hA
 rw[Tryz.params7] at hA hval
 obtain⟨a0,r0,d0,ds0,p0,q0,e0,rfl,rfl,t0,h0A⟩:=trodAll_cons hA
 obtain⟨a1,r1,d1,ds1,p1,q1,rfl,rfl,rfl,t1,h1A⟩:=trodAll_cons h0A
 obtain⟨rfl,rfl,rfl⟩:=trodAll_nil h1A
 obtain⟨rfl,rfl⟩:=trodVars_none hV
 obtain rfl:args = #[a0,a1]:=by cases args;simpa using e0
 obtain⟨b0,n0,c0,rfl⟩:=okWide_slice u_drafts (hval 0 _ _ rfl rfl)
 obtain⟨fu0,t0⟩:=t0
 obtain⟨v0,l0,g0,m0,s0⟩:=tell_drafts (fun _=>none) t0
 cases g0
 obtain⟨x1,rfl,_,_,w1⟩:=open_int u_u8 (hval 1 _ _ rfl rfl) t1
 have i1:0≤x1∧x1<256:=wf_u8 w1
 have hb:=tell_ok (W:=W) (G:=fun _=>none) (fun b cs h=>by cases h)
 refine(wv_true Tryz.sound (dgratios_ideal s0 i1) hb (args':=#[.slice b0 n0 c0,.int .u8 x1]) (.cons (trV_rel m0) (.cons (.scal rfl) (.nil _)))).mono fun e W' ⟨he,hk⟩=>?_
 subst he
 refine⟨_,rfl,post_of_below (pa:=p0 ++ (p1 ++ [])) (pv:=[]) hW' (fun _ _ _=>trodAll_mk1 (shut_bool Tryz.underlying4 _)) (fun sp hs=>?_) (fun _ _=>rfl) hk⟩
 exact trodAll_stays Tryz.kids Tryz.pos hk hA1 (fun t ht=>by
  rw[Tryz.params7] at ht
  simp at ht
  rcases ht with rfl|rfl<;>exact of_decide_eq_true (by kernel_rfl)) (fun x hx=>hs x (by simpa using hx))
theorem diagnoseRatios_row:Rows.DiagnoseRatiosSaid :=
 OpenClaim.holds_of_wide 7 Tryz.f7 rfl rfl rfl rfl rfl rfl rfl ⟨rfl,rfl,rfl,rfl,rfl⟩ rfl rfl rfl rfl rfl (by kernel_rfl) Tryz.func7 (by kernel_rfl)
  (of_decide_eq_true (by kernel_rfl)) (by unfold Func.isWrapper;first|(rw[if_pos (by decide +kernel)];kernel_rfl)|(rw[if_neg (by decide +kernel)];exact⟨rfl,rfl⟩))
  (fun os started H enc _=>diagnoseRatios_lifted os started H enc)
#print axioms diagnoseRatios_row
end Go.Proofs.YthbkinefgmfgeaaGreat
