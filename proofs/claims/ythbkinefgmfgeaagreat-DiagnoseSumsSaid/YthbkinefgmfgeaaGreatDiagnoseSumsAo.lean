/-
  DiagnoseSums: for every input the law returns true, and each argument reads as it did. Conditions: none but the row's own.
-/
import Derived.Test.YthbkinefgmfgeaaGreatDiagnoseSumsAn
import Derived.Test.YthbkinefgmfgeaaGreatDiagnoseSumsAm
set_option linter.unusedVariables false
set_option linter.unusedSimpArgs false
set_option linter.defProp false
set_option linter.deprecated false
/-! The statement DiagnoseSums, on the ideal machine. -/
namespace Go.Id
open Go
def Gro (h:IH) (n0 sz:Nat) (v:Value) (n:Nat) (cs:List Value):Prop:=Acc h n0 sz v n cs∨(0<sz∧cs.length=n*sz ∧ ∃k,v=.slice (some ⟨2*k,0,none⟩) n (2*n+1)∧0<n∧n0≤k∧k<h.n∧h.ext.get k=some (.cells cs sz none))
theorem Gro.sl {h:IH} {n0 sz:Nat} {v:Value} {n:Nat} {cs:List Value} (g:Gro h n0 sz v n cs):SlOf h sz v n cs:=by
 rcases g with a|⟨hz,hl,k,rfl,hn,h1,h2,h3⟩
 ·exact a.sl
 ·exact sl_block h3 h2 hz hl (by omega) (by omega)
theorem Gro.ext {h h':IH} {n0 sz:Nat} {v:Value} {n:Nat} {cs:List Value} (g:Gro h n0 sz v n cs) (e:Ext h h'):Gro h' n0 sz v n cs:=by
 rcases g with a|⟨hz,hl,k,rfl,hn,h1,h2,h3⟩
 ·exact .inl (a.ext e)
 ·exact .inr ⟨hz,hl,k,rfl,hn,h1,by have:=e.n;omega,e.kept h2 h3⟩
theorem Gro.appN {h:IH} {n0 sz:Nat} {v:Value} {n:Nat} {cs:List Value} (g:Gro h n0 sz v n cs) {P:Program} {t:TypeId} {bytes:Nat} (hT:appT P t=some (sz,bytes)) {m:Nat} {new:List Value} (hm:0<m) (hl:new.length=m*sz)
  (hc:new.all cellOK=true) (hsz:(n+m)*(bytes+1)≤1099511627776) (h0:n0≤h.n) {h0':IH} (e0:Ext h0' h) (hn0:h0'.n≤n0) :
  ∃v' h',append P (h.new (.cells new sz none)) t v (.slice (some ⟨2*h.n,0,none⟩) m (2*m+1))=some (v',h')∧Acc h' n0 sz v' (n+m) (cs ++ new)∧Grow h h'∧Ext h0' h':=by
 rcases g with a|⟨hz,hcl,k,rfl,hn,h1,h2,h3⟩
 ·exact a.appN hT hm hl hc hsz h0 e0 hn0
 ·have e1:Ext h (h.new (.cells new sz none)):=(Ext.refl h).new _
  have sv:SlOf h sz (.slice (some ⟨2*k,0,none⟩) n (2*n+1)) n cs:=sl_block h3 h2 hz hcl (by omega) (by omega)
  have sx:SlOf (h.new (.cells new sz none)) sz (.slice (some ⟨2*h.n,0,none⟩) m (2*m+1)) m new:=sl_block (k:=h.n) (f:=none) (get_new_same _ _ rfl) (by simp) hz hl (by omega) (by omega)
  refine⟨_,_,append_full hT (sv.ext e1).now sx.now hm hn hc hsz,?_,(e1.new _).grow,(e0.trans e1).new _⟩
  exact(acc_new hz (by rw[List.length_append,hcl,hl,Nat.add_mul]) (by omega)).from (by simp only[new_n];omega)
theorem build1 {h:IH} (a b:Nat):buildSlice Proofs.Tryz.prog h 25 1 [(0,shV a b)]=some (.slice (some ⟨2*h.n,0,none⟩) 1 3,h.new (.cells (shL [(a,b)]) 16 none)):=by
 rw[bs25 h 1 _ (by decide)]
 have e:fillP (fun i=>some (i*16,16)) (repl 1 [.int .u64 0,.int .u64 0,.int .u64 0,.int .u64 0,.int .u64 0,.int .u64 0,.int .u64 0,.int .u64 0,.int .u64 0,.int .u64 0,.int .u64 0,.int .u64 0,.int .u64 0,.int .u64 0,.int .u64 0,.int .u64 0]) [(0,shV a b)]=some (shL [(a,b)]):=by kernel_rfl
 rw[e];rfl
theorem allAuto_mem (l:List Rat) : ∀k,∀x∈allAuto l k,∃j,x=qauto l (qmean l) j
 | 0,x,hx=>⟨0,by simpa [allAuto] using hx⟩
 | k+1,x,hx=>by
  rw[allAuto] at hx
  rcases List.mem_append.1 hx with hx|hx
  ·exact allAuto_mem l k x hx
  ·simp at hx;exact⟨k+1,hx⟩
theorem qw_abs {l:List Rat} (h : ∀q∈l,Over LC (999*LC) q) (h0:l ≠ []) (hn:l.length≤12) (k:Nat):QW (qabs (qauto l (qmean l) k)):=by
 have : ∀n,n≤12→LC*n*(LC*n)*n<H8∧n*((999*LC*n+n*(999*LC))*(999*LC*n+n*(999*LC)))<H8:=by decide +kernel
 obtain⟨h1,h2⟩:=this _ hn
 have o:=Over.qauto h h0 k
 unfold qabs
 split
 ·exact o.neg.qw h1 h2
 ·exact o.qw h1 h2
theorem rOf_shq {q:Rat} (h:QW q):rOf (shq q)=q∧okS (shq q).1 (shq q).2:=shOf_rOf h
noncomputable def partS (i:Nat):Code:=nthC (Proofs.Tryz.f9.body.getD .skip) i
structure SX (h hh:IH) (fr:Fr) (v:Value) (l:List (Nat×Nat)) (b:Nat):Prop where
 e:Ext h hh
 f3:fget fr 3=some v
 sl:ShSl hh v l
 hb:b<hh.n
 kb:hh.ext.get b=some (.cells (shC (shq (qauto (l.map rOf) (qmean (l.map rOf)) 0)).1 (shq (qauto (l.map rOf) (qmean (l.map rOf)) 0)).2) 0 none)
 f4:fget fr 4=some (ptr (2*b) 0)
 f5:fget fr 5=some (KI 0)
section
variable {h hh:IH} {fr:Fr} {Q:IExit→Fr→IH→Prop} {v w:Value} {n:Nat} {l:List (Nat×Nat)} {b:Nat}
set_option maxHeartbeats 2000000 in
theorem s0 (f0:fget fr 0=some w):Do (wpC Proofs.Tryz.prog 9 97 none (partS 0) fr hh) (seqK (fun fr h'=>Pst (h'=hh∧fget fr 0=some w) nx) Q) nx:=by
 show Do (wpC _ _ _ _ (.region _ _ _) fr hh) _ _
 simp -dsimp (disch:=omega) only[wpS]
 exact⟨rfl,by simp[f0]⟩
set_option maxHeartbeats 2000000 in
theorem s1 (f0:fget fr 0=some w):Do (wpC Proofs.Tryz.prog 9 97 none (partS 1) fr hh) (seqK (fun fr h'=>Pst (Ext hh h'∧fget fr 0=some w) nx) Q) nx:=by
 show Do (wpC _ _ _ _ (.seq _ _) fr hh) _ _
 simp -dsimp (disch:=omega) only[wpS]
 refine call dgworks_ok ?_
 rintro _ h1 ⟨X1,rfl⟩
 simp -dsimp (disch:=omega) only[wpS,wpT,Nat.reduceEqDiff]
 exact⟨X1,by simp[f0]⟩
set_option maxHeartbeats 2000000 in
theorem s2 (hw:DrSl hh w n) (f0:fget fr 0=some w):Do (wpC Proofs.Tryz.prog 9 97 none (partS 2) fr hh) (seqK (fun fr h'=>Pst (∃v l,Ext hh h'∧fget fr 3=some v∧ShSl h' v l∧(∀p∈l,isShort p)∧l.length≤12) nx) Q) nx:=by
 show Do (wpC _ _ _ _ (.region _ _ _) fr hh) _ _
 simp -dsimp (disch:=omega) only[wpS,f0]
 refine call (shorts_ok hw) ?_
 rintro w2 h2 ⟨X2,l2,s2,hl2,hsh2,hn2⟩
 simp -dsimp (disch:=omega) only[wpS,Nat.reduceEqDiff]
 exact⟨w2,l2,X2,by simp,s2,hsh2,by omega⟩
set_option maxHeartbeats 2000000 in
theorem s3 (f3:fget fr 3=some v) (sl:ShSl hh v l) (sh:ShortL l):Do (wpC Proofs.Tryz.prog 9 97 none (partS 3) fr hh) (seqK (fun fr h'=>Pst (∃b,SX hh h' fr v l b) nx) Q) nx:=by
 show Do (wpC _ _ _ _ (.region _ _ _) fr hh) _ _
 simp -dsimp (disch:=omega) only[wpS,f3]
 have hr:=autoRes_told (lag:=0) sh.err sh.pos (qw_auto (over_of sh.s) sh.mne (by rw[List.length_map];exact sh.n) 0)
 refine call (gAuto sl (.inl sh.n) ((0:Nat):Int)) ?_
 rintro _ h1 ⟨X1,rfl⟩
 rw[hr]
 obtain⟨G1,hG1,n1,Z1,k1⟩:=box_put h1 (shq (qauto (l.map rOf) (qmean (l.map rOf)) 0))
 simp -dsimp (disch:=omega) only[wpS,wpT,Nat.reduceEqDiff,Nat.reduceLeDiff,Nat.reduceAdd,zc30,st30,shV_cells,shC_len,shC_all,sh_sp3]
 rw[←hG1]
 have V:=X1.trans Z1
 exact⟨h1.n,V,by simp[f3],sl.keep V.keep,by omega,k1,rfl,rfl⟩
set_option maxHeartbeats 2000000 in
theorem s4 (s:SX h hh fr v l b) (sh:ShortL l):Do (wpC Proofs.Tryz.prog 9 97 none (partS 4) fr hh) (seqK (fun fr h'=>Pst (SX h h' fr v l b) nx) Q) nx:=by
 show Do (wpC _ _ _ _ (.seq _ _) fr hh) _ _
 have hp:=sh.pos
 have c1:((l.length:Int) == 0)=false:=by rw[beq_eq_false_iff_ne];omega
 simp -dsimp (disch:=omega) only[wpS,Nat.reduceEqDiff,s.f3,s.sl.1.len sl25,c1]
 exact⟨s.e,by simp[s.f3],s.sl,s.hb,s.kb,by simp[s.f4],by simp[s.f5]⟩
theorem a0_facts {l:List (Nat×Nat)} (sh:ShortL l) (k:Nat):QW (qauto (l.map rOf) (qmean (l.map rOf)) k):=qw_auto (over_of sh.s) sh.mne (by rw[List.length_map];exact sh.n) k
set_option maxHeartbeats 2000000 in
theorem s5 (s:SX h hh fr v l b) (sh:ShortL l):Do (wpC Proofs.Tryz.prog 9 97 none (partS 5) fr hh) (seqK (fun fr h'=>Pst (SX h h' fr v l b) nx) Q) nx:=by
 show Do (wpC _ _ _ _ (.seq _ _) fr hh) _ _
 have hq:=a0_facts sh 0
 obtain⟨r1,r2⟩:=rOf_shq hq
 have hge:=qauto_ge (l:=l.map rOf)
 simp -dsimp (disch:=omega) only[wpS,Nat.reduceLeDiff,ld30,row_of s.kb,s.f4,shC_len,sh_take]
 refine call (shsign_ok (p1:=shq (qauto (l.map rOf) (qmean (l.map rOf)) 0)) (shq_lt hq) r2) ?_
 rintro _ h1 ⟨X1,rfl⟩
 rw[r1]
 have d1:decide ((if qauto (l.map rOf) (qmean (l.map rOf)) 0<0 then (-1:Int) else if qauto (l.map rOf) (qmean (l.map rOf)) 0=0 then 0 else 1)<0)=false:=decide_eq_false (by
  rw[if_neg (Rat.not_lt.2 hge)]
  split<;>omega)
 simp -dsimp (disch:=omega) only[wpS,wpT,Nat.reduceEqDiff,s.f5,d1]
 have:=X1.n
 have:=s.hb
 exact⟨s.e.trans X1,by simp[s.f3],s.sl.keep X1.keep,by omega,X1.kept s.hb s.kb,by simp[s.f4],by simp[s.f5]⟩
set_option maxHeartbeats 2000000 in
theorem s6 (s:SX h hh fr v l b) (sh:ShortL l):Do (wpC Proofs.Tryz.prog 9 97 none (partS 6) fr hh) (seqK (fun fr h'=>Pst (SX h h' fr v l b ∧ ∃v8,Gro h' h.n 16 v8 1 (shL ((allAuto (l.map rOf) 0).map shq))∧fget fr 8=some v8) nx) Q) nx:=by
 show Do (wpC _ _ _ _ (.region _ _ _) fr hh) _ _
 have hn:=s.e.n
 have bb:buildSlice Proofs.Tryz.prog hh 25 1 [(0,.agg (shC (shq (qauto (l.map rOf) (qmean (l.map rOf)) 0)).1 (shq (qauto (l.map rOf) (qmean (l.map rOf)) 0)).2).toArray)]=some (.slice (some ⟨2*hh.n,0,none⟩) 1 3,hh.new (.cells (shL [shq (qauto (l.map rOf) (qmean (l.map rOf)) 0)]) 16 none)):=build1 _ _
 simp -dsimp (disch:=omega) only[wpS,Nat.reduceEqDiff,Nat.reduceLeDiff,ld30,row_of s.kb,s.f4,shC_len,sh_take,bb]
 have X:=(Ext.refl hh).new (.cells (shL [shq (qauto (l.map rOf) (qmean (l.map rOf)) 0)]) 16 none)
 have:=X.n
 have:=s.hb
 exact⟨⟨s.e.trans X,by simp[s.f3],s.sl.keep X.keep,by omega,X.kept s.hb s.kb,by simp[s.f4],by simp[s.f5]⟩,_,.inr ⟨by omega,by rw[shL_len];rfl,hh.n,rfl,by omega,hn,by simp,get_new_same _ _ rfl⟩,rfl⟩
set_option maxHeartbeats 16000000 in
theorem s7 (s:SX h hh fr v l b) (sh:ShortL l) {v8:Value} (g8:Gro hh h.n 16 v8 1 (shL ((allAuto (l.map rOf) 0).map shq))) (f8:fget fr 8=some v8):Do (wpC Proofs.Tryz.prog 9 97 none (partS 7) fr hh) (seqK (fun fr h'=>Pst (Ext h h' ∧ ∃v8,ShSl h' v8 ((allAuto (l.map rOf) (l.length - 1)).map shq)∧fget fr 8=some v8) nx) Q) nx:=by
 show Do (wpC _ _ _ _ (.seq _ _) fr hh) _ _
 have hp:=sh.pos
 have hn12:=sh.n
 have hbn:=s.hb
 have hq0:=a0_facts sh 0
 obtain⟨r1,r2⟩:=rOf_shq hq0
 simp -dsimp (maxSteps:=1000000) (disch:=first|omega|(simp only[new_n,put_n];omega)|decide +kernel|(repeat first|rw[new_n]|rw[put_n])) only[wpS]
 refine loop (fun m fr gg => ∃(k:Nat) (v8:Value),k+1+m=l.length∧Ext h gg∧Keep hh gg∧b<gg.n∧gg.ext.get b=some (.cells (shC (shq (qauto (l.map rOf) (qmean (l.map rOf)) 0)).1 (shq (qauto (l.map rOf) (qmean (l.map rOf)) 0)).2) 0 none)∧Gro gg h.n 16 v8 ((allAuto (l.map rOf) k).map shq).length (shL ((allAuto (l.map rOf) k).map shq))∧fget fr 3=some v∧fget fr 4=some (ptr (2*b) 0)∧fget fr 8=some v8∧fget fr 9=some (KN (k+1))) (l.length - 1)
  ⟨0,v8,by omega,s.e,Keep.refl _,s.hb,s.kb,g8,by simp[s.f3],by simp[s.f4],by simp[f8],by simp⟩ ?_
 rintro m fr gg ⟨k,v8,hkm,E,hK,hbg,kb,g8,f3,f4,f8,f9⟩
 have slg:=s.sl.keep hK
 have hEn:=E.n
 simp -dsimp (maxSteps:=1000000) (disch:=first|omega|(simp only[new_n,put_n];omega)|decide +kernel|(repeat first|rw[new_n]|rw[put_n])) only[wpS,Nat.reduceEqDiff,f3,f9,slg.1.len sl25]
 refine bq_intro ?_ ?_<;>intro hc<;>simp only[decide_eq_true_eq,decide_eq_false_iff_not] at hc
 ·have hk:k+1<l.length:=by omega
  have hqk:=a0_facts sh (k+1)
  have hqa:=qw_abs (over_of sh.s) sh.mne (by rw[List.length_map];exact sh.n) (k+1)
  obtain⟨r3,r4⟩:=rOf_shq hqk
  obtain⟨r5,r6⟩:=rOf_shq hqa
  have hr:=autoRes_told (l:=l) (lag:=k+1) sh.err hk hqk
  simp -dsimp (maxSteps:=1000000) (disch:=first|omega|(simp only[new_n,put_n];omega)|decide +kernel|(repeat first|rw[new_n]|rw[put_n])) only[wpS,wpT,Nat.reduceEqDiff,f3,f9]
  refine call (gAuto slg (.inl sh.n) ((k+1:Nat):Int)) ?_
  rintro _ h1 ⟨X1,rfl⟩
  rw[hr]
  obtain⟨G1,hG1,n1,Z1,k1⟩:=box_put h1 (shq (qauto (l.map rOf) (qmean (l.map rOf)) (k+1)))
  simp -dsimp (maxSteps:=1000000) (disch:=first|omega|(simp only[new_n,put_n];omega)|decide +kernel|(repeat first|rw[new_n]|rw[put_n])) only[wpS,wpT,Nat.reduceEqDiff,Nat.reduceLeDiff,Nat.reduceAdd,zc30,st30,ld30,shV_cells,shC_len,shC_all,sh_sp3]
  rw[←hG1]
  clear hG1
  have V1:=X1.trans Z1
  simp -dsimp (maxSteps:=1000000) (disch:=first|omega|(simp only[new_n,put_n];omega)|decide +kernel|(repeat first|rw[new_n]|rw[put_n])) only[sh_take]
  refine call (shabs_ok (p1:=shq (qauto (l.map rOf) (qmean (l.map rOf)) (k+1))) (shq_lt hqk) r4) ?_
  rintro _ h2 ⟨X2,rfl⟩
  rw[r3]
  have ta:toldV (qabs (qauto (l.map rOf) (qmean (l.map rOf)) (k+1)))=.tuple #[shV (shq (qabs (qauto (l.map rOf) (qmean (l.map rOf)) (k+1)))).1 (shq (qabs (qauto (l.map rOf) (qmean (l.map rOf)) (k+1)))).2,KI 0]:=toldV_of hqa
  rw[ta]
  obtain⟨G2,hG2,n2,Z2,k2⟩:=box_put h2 (shq (qabs (qauto (l.map rOf) (qmean (l.map rOf)) (k+1))))
  simp -dsimp (maxSteps:=1000000) (disch:=first|omega|(simp only[new_n,put_n];omega)|decide +kernel|(repeat first|rw[new_n]|rw[put_n])) only[wpS,wpT,Nat.reduceEqDiff,Nat.reduceLeDiff,Nat.reduceAdd,zc30,st30,ld30,shV_cells,shC_len,shC_all,sh_sp3]
  rw[←hG2]
  clear hG2
  have V2:=X2.trans Z2
  have V12:=V1.trans V2
  simp -dsimp (maxSteps:=1000000) (disch:=first|omega|(simp only[new_n,put_n];omega)|decide +kernel|(repeat first|rw[new_n]|rw[put_n])) only[wpS,Nat.reduceEqDiff,Nat.reduceLeDiff,ld30,f4,row_of (V12.kept hbg kb),shC_len,sh_take]
  refine call (shcmp_ok (p1:=shq (qabs (qauto (l.map rOf) (qmean (l.map rOf)) (k+1)))) (p2:=shq (qauto (l.map rOf) (qmean (l.map rOf)) 0)) (shq_lt hqa) (shq_lt hq0) r6 r2) ?_
  rintro _ h3 ⟨X3,rfl⟩
  rw[r5,r1]
  have hle:=qauto_le (l:=l.map rOf) sh.mne (k+1) (by rw[List.length_map];omega)
  have d1:decide ((0:Int)<(if qabs (qauto (l.map rOf) (qmean (l.map rOf)) (k+1))<qauto (l.map rOf) (qmean (l.map rOf)) 0 then (-1:Int) else if qabs (qauto (l.map rOf) (qmean (l.map rOf)) (k+1))=qauto (l.map rOf) (qmean (l.map rOf)) 0 then 0 else 1))=false:=decide_eq_false (by
   split
   ·omega
   ·split
    ·omega
    ·rename_i a1 a2
     exact absurd (Rat.le_antisymm hle (Rat.not_lt.1 a1)) a2)
  have V13:=V12.trans X3
  have V23:=V2.trans X3
  have m1:=V23.n
  have m2:=V13.n
  have bb : ∀hx:IH,buildSlice Proofs.Tryz.prog hx 25 2 [(0,.agg (shC (shq (qauto (l.map rOf) (qmean (l.map rOf)) (k+1))).1 (shq (qauto (l.map rOf) (qmean (l.map rOf)) (k+1))).2).toArray),(1,.agg (shC (shq (qauto (l.map rOf) (qmean (l.map rOf)) (k+1))).1 (shq (qauto (l.map rOf) (qmean (l.map rOf)) (k+1))).2).toArray)]=some (.slice (some ⟨2*hx.n,0,none⟩) 2 5,hx.new (.cells (shL [shq (qauto (l.map rOf) (qmean (l.map rOf)) (k+1)),shq (qauto (l.map rOf) (qmean (l.map rOf)) (k+1))]) 16 none)):=fun hx=>build2 _ _ _ _
  obtain⟨out',h8,hap,hA8,hG8,hE8⟩:=(g8.ext V13).appN (P:=Proofs.Tryz.prog) (t:=25) ap25 (m:=2) (new:=shL [shq (qauto (l.map rOf) (qmean (l.map rOf)) (k+1)),shq (qauto (l.map rOf) (qmean (l.map rOf)) (k+1))]) (by omega) (by rw[shL_len];rfl) (shL_all _) (by rw[List.length_map,allAuto_len];omega) (by omega) (E.trans V13) (Nat.le_refl _)
  have hap':append Proofs.Tryz.prog (h3.new (.cells (shL [shq (qauto (l.map rOf) (qmean (l.map rOf)) (k+1)),shq (qauto (l.map rOf) (qmean (l.map rOf)) (k+1))]) 16 none)) 25 v8 (.slice (some ⟨2*h3.n,0,none⟩) 2 5)=some (out',h8):=hap
  have g8n:=hG8.n
  have k1':=V23.kept (by omega) k1
  simp -dsimp (maxSteps:=1000000) (disch:=first|omega|(simp only[new_n,put_n];omega)|decide +kernel|(repeat first|rw[new_n]|rw[put_n])) only[wpS,wpT,Nat.reduceEqDiff,Nat.reduceLeDiff,ld30,ba25_25,d1,f8,f9,row_of k1',shC_len,sh_take,bb,hap']
  refine⟨m - 1,by omega,k+1,out',by omega,hE8,(hK.trans V13.keep).trans hG8.keep,by omega,hG8.var (by omega) (V13.kept hbg kb),.inl ?_,by simp[f3],by simp[f4],by simp,by simp⟩
  rw[allAuto,List.map_append,List.length_append]
  have:shL ((allAuto (l.map rOf) k).map shq ++ [qauto (l.map rOf) (qmean (l.map rOf)) (k+1),qauto (l.map rOf) (qmean (l.map rOf)) (k+1)].map shq)=shL ((allAuto (l.map rOf) k).map shq) ++ shL [shq (qauto (l.map rOf) (qmean (l.map rOf)) (k+1)),shq (qauto (l.map rOf) (qmean (l.map rOf)) (k+1))]:=by
   simp[shL]
  rw[this]
  exact hA8
 ·have hke:k=l.length - 1:=by omega
  subst hke
  simp -dsimp (maxSteps:=1000000) (disch:=first|omega|(simp only[new_n,put_n];omega)|decide +kernel|(repeat first|rw[new_n]|rw[put_n])) only[wpS,wpT]
  refine⟨E,v8,⟨g8.sl,by rw[List.length_map,allAuto_len];omega,fun p hp=>?_⟩,f8⟩
  obtain⟨x,hx,rfl⟩:=List.mem_map.1 hp
  obtain⟨j,rfl⟩:=allAuto_mem _ _ x hx
  exact shq_lt (a0_facts sh j)
set_option maxHeartbeats 2000000 in
theorem s8 (sh:ShortL l) {v8:Value} (s8:ShSl hh v8 ((allAuto (l.map rOf) (l.length - 1)).map shq)) (f8:fget fr 8=some v8):Do (wpC Proofs.Tryz.prog 9 97 none (partS 8) fr hh) (seqK (fun fr h'=>Pst (fget fr 2=some (.bool true)) nx) Q) nx:=by
 show Do (wpC _ _ _ _ (.region _ _ _) fr hh) _ _
 simp -dsimp (disch:=omega) only[wpS]
 refine call (isC_ok 0 1) ?_
 rintro _ h1 ⟨X1,i,j,rfl,c⟩
 simp -dsimp (disch:=omega) only[wpS,Nat.reduceEqDiff,f8]
 have hqs : ∀x∈allAuto (l.map rOf) (l.length - 1),QW x:=fun x hx=>by
  obtain⟨j,rfl⟩:=allAuto_mem _ _ x hx
  exact a0_facts sh j
 have hn12:=sh.n
 refine call (shsum_ok (s8.keep X1.keep) (by rw[List.length_map,allAuto_len];omega) (fun p hp=>by
  obtain⟨x,hx,rfl⟩:=List.mem_map.1 hp
  exact(rOf_shq (hqs x hx)).2)) ?_
 rintro _ h2 ⟨X2,rfl⟩
 have e1:((allAuto (l.map rOf) (l.length - 1)).map shq).map rOf=allAuto (l.map rOf) (l.length - 1):=map_rOf_shOf hqs
 have e2:=allAuto_zero (l:=l.map rOf) sh.mne
 rw[List.length_map] at e2
 rw[e1,e2,toldV_of QW_zero]
 simp -dsimp (disch:=omega) only[wpS,Nat.reduceEqDiff]
 refine call (isT_ok (q:=0) (c.ext X2) (by decide +kernel) (by decide) (by decide) (by decide)) ?_
 rintro _ h3 ⟨X3,rfl⟩
 simp -dsimp (disch:=omega) only[wpS,Nat.reduceEqDiff]
 rfl
end
theorem dgsums_ideal {h:IH} {w:Value} {n:Nat} (hw:DrSl h w n) :
  WV Proofs.Tryz.prog (.func (.func 9) #[] #[]) [w] h fun r _=>r=.bool true:=by
 refine enter (nt:=97) (rs:=[.tmp 2]) Proofs.Tryz.func9 rfl rfl rfl (by simp) ?_
 rw[d_seq];refine cut _ (s0 (w:=w) (by simp)) ?_;rintro fr h0 ⟨rfl,f0⟩
 rw[d_seq];refine cut _ (s1 f0) ?_;clear f0;rintro fr h1 ⟨X1,f0⟩
 rw[d_seq];refine cut _ (s2 (hw.keep X1.keep) f0) ?_;clear f0;rintro fr h2 ⟨v,l,X2,f3,sl,hsh,hn⟩
 by_cases hne:l = []
 ·subst hne
  have hl : ∀hx,lenB Proofs.Tryz.prog hx 25 v=some (KI 0):=fun hx=>sl.1.len sl25 hx
  have hr:autoRes [] 0=.tuple #[shV ((0,0):Nat×Nat).1 ((0,0):Nat×Nat).2,KI 4]:=by unfold autoRes;rw[if_neg (by decide)];rfl
  simp -dsimp (disch:=omega) only[wpS,f3]
  refine call (gAuto sl (.inl (by decide)) 0) ?_
  rintro _ h3 ⟨X3,rfl⟩
  rw[hr]
  obtain⟨G1,hG1,n1,Z1,k1⟩:=box_put h3 (0,0)
  simp -dsimp (disch:=omega) only[wpS,wpT,Nat.reduceEqDiff,Nat.reduceLeDiff,Nat.reduceAdd,zc30,st30,shV_cells,shC_len,shC_all,sh_sp3]
  rw[←hG1]
  clear hG1
  have X0:=Ext.refl G1
  have L1:=(psh k1).2.2
  simp -dsimp (disch:=omega) only[wpS,wpT,Nat.reduceEqDiff,f3,hl]
  refine drawn [(1,[0])] (by kernel_rfl) (by kernel_rfl) rfl ?_
  simp -dsimp (disch:=omega) only[wpS]
  refine call (faC_ok 4) ?_
  rintro _ h4 ⟨X4,i,rfl,c⟩
  simp -dsimp (disch:=omega) only[wpS,Nat.reduceEqDiff,Nat.reduceLeDiff,ld30,row_of (X4.kept (by omega) k1),shC_len,sh_take]
  refine call (faT_ok c) ?_
  rintro _ h5 ⟨X5,rfl⟩
  simp -dsimp (disch:=omega) only[wpS,Nat.reduceEqDiff]
  refine⟨by repeat' first|refine wpSteady_c2 ?_ ?_|refine wpSteady_t2 ?_ ?_|exact wpSteady_one rfl rfl rfl rfl (steady_ext (H0:=G1) rfl (by omega) (by assumption) (by assumption) (by with_reducible assumption)),?_⟩
  simp -dsimp (disch:=omega) only[wpS,wpT,Nat.reduceEqDiff,Nat.reduceAdd]
 ·have sh:ShortL l:=⟨hsh,hn,hne⟩
  rw[d_seq];refine cut _ (s3 f3 sl sh) ?_;clear f3 sl;rintro fr h3 ⟨b,s⟩
  rw[d_seq];refine cut _ (s4 s sh) ?_;clear s;intro fr h4 s
  rw[d_seq];refine cut _ (s5 s sh) ?_;clear s;intro fr h5 s
  rw[d_seq];refine cut _ (s6 s sh) ?_;clear s;rintro fr h6 ⟨s,v8,g8,f8⟩
  rw[d_seq];refine cut _ (s7 s sh g8 f8) ?_;clear s g8 f8;rintro fr h7 ⟨E,v8,t8,f8⟩
  rw[d_seq];refine cut _ (s8 sh t8 f8) ?_;clear t8 f8;intro fr h8 f2
  simp -dsimp (disch:=omega) only[wpS,f2]
end Go.Id

/-! DiagnoseSums: for every input the law returns true, and each argument reads as it did. Conditions: none but the row's own. -/
namespace Go.Proofs.YthbkinefgmfgeaaGreat
open Go.ChangeShapes Go.WideShapes Go.ChangeAt Go.RowKit Go.Id
set_option maxRecDepth 100000 in
theorem diagnoseSums_lifted (os:Os) (started:os.Started) (H:Type) (enc:TypeId×Value→H) :
  ReturnsInHanded {} Tryz.checked os 9 .any (Rows.diagnoseSumsSpec.pre6 enc Tryz.prog Tryz.f9 Rows.diagnoseSumsRow.domain false) (Rows.diagnoseSumsSpec.post enc Tryz.prog Tryz.f9 false true false false):=by
 refine returnsInHanded_of_change (C:=Tryz.checked) Tryz.own started (by kernel_rfl) Tryz.func9
  (ChangeSpec.witness6 (enc:=enc) (C:=Tryz.checked) false ⟨#[],#[.slice none 0 0],[]⟩ 8 (by kernel_rfl) (by kernel_rfl) (by kernel_rfl) (by kernel_rfl)) ?_
 intro W base args ds gs before hval0 hW hcnd _
 have hval : ∀(j:Nat) t v,Tryz.f9.params[j]?=some t→args[j]?=some v→Value.okWide Tryz.prog W .any base t v:=hval0
 have hW':=hW
 obtain⟨p,q,hA0,hV,rfl,hfz,hnd⟩:=hW
 have hA:DataW.TrodAll enc Tryz.prog W 0 (fun _=>true) true Tryz.f9.params.toList args.toList ds p:=hA0
 have hA1:=hA
 rw[Tryz.params9] at hA hval
 obtain⟨a0,r0,d0,ds0,p0,q0,e0,rfl,rfl,t0,h0A⟩:=trodAll_cons hA
 obtain⟨rfl,rfl,rfl⟩:=trodAll_nil h0A
 obtain⟨rfl,rfl⟩:=trodVars_none hV
 obtain rfl:args = #[a0]:=by cases args;simpa using e0
 obtain⟨b0,n0,c0,rfl⟩:=okWide_slice u_drafts (hval 0 _ _ rfl rfl)
 obtain⟨fu0,t0⟩:=t0
 obtain⟨v0,l0,g0,m0,s0⟩:=tell_drafts (fun _=>none) t0
 cases g0
 have hb:=tell_ok (W:=W) (G:=fun _=>none) (fun b cs h=>by cases h)
 refine(wv_true Tryz.sound (dgsums_ideal s0) hb (args':=#[.slice b0 n0 c0]) (.cons (trV_rel m0) (.nil _))).mono fun e W' ⟨he,hk⟩=>?_
 subst he
 refine⟨_,rfl,post_of_below (pa:=p0 ++ []) (pv:=[]) hW' (fun _ _ _=>trodAll_mk1 (shut_bool Tryz.underlying4 _)) (fun sp hs=>?_) (fun _ _=>rfl) hk⟩
 exact trodAll_stays Tryz.kids Tryz.pos hk hA1 (fun t ht=>by
  rw[Tryz.params9] at ht
  simp at ht
  rcases ht with rfl<;>exact of_decide_eq_true (by kernel_rfl)) (fun x hx=>hs x (by simpa using hx))
theorem diagnoseSums_row:Rows.DiagnoseSumsSaid :=
 OpenClaim.holds_of_wide 9 Tryz.f9 rfl rfl rfl rfl rfl rfl rfl ⟨rfl,rfl,rfl,rfl,rfl⟩ rfl rfl rfl rfl rfl (by kernel_rfl) Tryz.func9 (by kernel_rfl)
  (of_decide_eq_true (by kernel_rfl)) (by unfold Func.isWrapper;first|(rw[if_pos (by decide +kernel)];kernel_rfl)|(rw[if_neg (by decide +kernel)];exact⟨rfl,rfl⟩))
  (fun os started H enc _=>diagnoseSums_lifted os started H enc)
#print axioms diagnoseSums_row
end Go.Proofs.YthbkinefgmfgeaaGreat
