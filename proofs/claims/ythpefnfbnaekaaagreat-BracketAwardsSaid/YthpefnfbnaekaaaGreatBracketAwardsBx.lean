/-
  BracketAwards: for every input the law returns true, and each argument reads as it did. Conditions: none but the row's own.
-/
import Derived.Test.YthpefnfbnaekaaaGreatBracketAwardsAr
import Derived.Test.YthpefnfbnaekaaaGreatBracketAwardsBw
import Derived.Test.YthpefnfbnaekaaaGreatBracketAwardsBo
set_option linter.unusedVariables false
set_option linter.unusedSimpArgs false
set_option linter.defProp false
set_option linter.deprecated false
namespace Go.Id
open Go
open Go.Proofs.Tryz (prog)
open Nat (reduceAdd reduceEqDiff reduceLeDiff)
set_option maxHeartbeats 16000000
theorem ix2A (a b:Value):indexV prog 39 (.agg #[a,b]) (KN 0)=some a∧indexV prog 39 (.agg #[a,b]) (KN 1)=some b:=⟨by kernel_rfl,by kernel_rfl⟩
structure AwS (h g:IH) (fr:Fr) (vc vo:Value) (c own:List Int) (M S n:Nat):Prop where
 e:Ext h g
 sc:SlOf g 1 vc c.length (c.map KI)
 so:SlOf g 1 vo own.length (own.map KI)
 f2:fget fr 2=some (B8 n)
 f7:fget fr 7=some vc
 f8:fget fr 8=some (KN M)
 f9:fget fr 9=some (KN S)
 f46:fget fr 46=some (.agg #[.slice none 0 0,vo])
set_option maxRecDepth 20000 in
theorem awards_rest {h:IH} {fr:Fr} {vp vl:Value} {ps ls:List Nat} {u s b m n:Nat} (d:Dr6 h (.agg #[vp,B8 u,vl,B16 s]) ps ls u s) (g:h.ext.get b=some (.cells [vp,B8 u,vl,B16 s] 0 none)) (hb:b<h.n) (hm:m<256) (hn:n<256)
  (f1:fget fr 1=some (B8 m)) (f2:fget fr 2=some (B8 n)) (f3:fget fr 3=some (ptr (2*b) 0)) :
  Do (wpC prog 6 182 none (restAt bodyAw 2) fr h) (retK prog [.tmp 6] fun r _=>r=.bool true) nx:=by
 have e5:(m:Int) % 5=((m % 5:Nat):Int):=by omega
 have e11:IntKind.i64.wrap (11+((m % 5:Nat):Int))=((11+m % 5:Nat):Int):=by rw[wrap_i64 (by omega)];omega
 have tk:List.take 4 (List.drop 0 [vp,B8 u,vl,B16 s]) = [vp,B8 u,vl,B16 s]:=rfl
 have hs0:1≤houseN s∧houseN s≤1000:=by unfold houseN;split<;>omega
 have mn:(if (40:Int)<(houseN s:Int) then (40:Int) else (houseN s:Int))=((min (houseN s) 40:Nat):Int):=by split<;>omega
 obtain⟨S,hS⟩ : ∃S,S=min (houseN s) 40:=⟨_,rfl⟩
 rw[←hS] at mn
 have S1:1≤S∧S≤40:=by omega
 obtain⟨M,hM⟩ : ∃M,M=11+m % 5:=⟨_,rfl⟩
 have M1:11≤M∧M≤15:=by omega
 rw[←hM] at e11
 show Do (wpC _ _ _ _ (.seq _ _) fr h) _ _
 rw[d_seq]
 have l3:=ld_draftD g
 have X0:=Ext.refl h
 refine drawn [(6,[1])] (by kernel_rfl) (by kernel_rfl) rfl ?_
 simp -dsimp (maxSteps:=1000000) (disch:=try exact dx) only[wpS,wpT,reduceLeDiff,reduceAdd,ld26,f3,row_of g,tk]
 refine call (census_ok d) ?_
 rintro vc h1 ⟨X1,sc⟩
 have g1:=X1.kept hb g
 simp -dsimp (maxSteps:=1000000) (disch:=try exact dx) only[wpS,wpT,reduceEqDiff,reduceLeDiff,reduceAdd,ld26,cv5_3,f1,f3,e5,e11,row_of g1,tk]
 refine call (house_ok (d.keep X1.keep)) ?_
 rintro _ h2 ⟨X2,rfl⟩
 simp -dsimp (maxSteps:=1000000) (disch:=try exact dx) only[wpS,reduceEqDiff,min_kk,mn]
 refine⟨wpSteady_one rfl rfl rfl rfl (steady_ext (H0:=h) (b:=2*b) (o:=0) (by simp[f3]) (by omega) X1 X0 l3),?_⟩
 have Y2:=X1.trans X2
 have g2:=Y2.kept hb g
 simp -dsimp (maxSteps:=1000000) (disch:=try exact dx) only[wpS,wpT,reduceEqDiff,reduceLeDiff,reduceAdd,ld26,f3,row_of g2,tk]
 refine call (mins6_ok (d.keep Y2.keep)) ?_
 rintro vo h3 ⟨X3,so⟩
 have CC:=census_cen d.bu d.bp
 obtain⟨c,hc⟩ : ∃c,c=census u ps:=⟨_,rfl⟩
 obtain⟨own0,hown⟩ : ∃o,o=minTake ls (houseN s) (census u ps).length:=⟨_,rfl⟩
 have lo:own0.length=(census u ps).length:=by rw[hown,minTake_len]
 have ob : ∀x∈own0,0≤x∧x≤3:=by rw[hown];exact minTake_mem _ _ _
 rw[←hown] at so
 rw[←lo] at so
 rw[←hc] at sc CC lo
 have lc:=CC.len
 simp -dsimp (maxSteps:=1000000) (disch:=try exact dx) only[wpS,reduceEqDiff]
 refine call (quotaSum_ok so (by omega) (fun x hx=>by have:=ob x hx;omega)) ?_
 rintro _ h4 ⟨e4,rfl⟩
 rw[e4]
 clear e4 h4
 simp -dsimp (maxSteps:=1000000) (disch:=try exact dx) only[wpS,reduceEqDiff]
 have hm0:=X3.n
 refine bq_cut (fun fr5 h5=>h5=h3 ∧ ∃(ov:Value) (own:List Int),(own = []∨(own.length=c.length∧(∀x∈own,0≤x)∧own.sum≤S))∧SlOf h3 1 ov own.length (own.map KI)∧fget fr5 2=some (B8 n)∧fget fr5 7=some vc∧fget fr5 8=some (KN M)∧fget fr5 9=some (KN S)∧fget fr5 10=some ov) (fun hc=>?_) (fun hc=>?_) ?_
 ·simp -dsimp (maxSteps:=1000000) (disch:=try exact dx) only[wpS]
  exact⟨rfl,.slice none 0 0,[],.inl rfl,SlOf.nil _ (by omega),by simp[f2],by simp,by simp,by simp,by simp⟩
 ·simp -dsimp (maxSteps:=1000000) (disch:=try exact dx) only[wpS]
  exact⟨rfl,vo,own0,.inr ⟨lo,fun x hx=>(ob x hx).1,by simpa using hc⟩,so,by simp[f2],by simp,by simp,by simp,by simp⟩
 clear f1 f2 f3
 rintro fr5 h5 ⟨eh,ov,own,c4,sO,f2,f7,f8,f9,f10⟩
 rw[eh]
 clear eh h5
 have oc:=sO.cells
 have sp11:IH.splice [Value.slice none 0 0] 0 [ov] = [ov]:=rfl
 simp -dsimp (maxSteps:=1000000) (disch:=try exact dx) only[wpS,wpT,reduceLeDiff,reduceAdd,bv39,pl39_0,pl39_1,f10,oc,sp11]
 have E0:=Ext.refl h3
 refine loop (fun mm fr g => ∃k:Nat,k+mm=2∧AwS h3 g fr vc ov c own M S n∧fget fr 47=some (KN k)) 2
  ⟨0,by omega,⟨E0,sc.keep (X2.trans X3).keep,sO,by simp[f2],by simp[f7],by simp[f8],by simp[f9],by simp⟩,by simp⟩ ?_
 clear f2 f7 f8 f9 f10
 rintro mm fr g ⟨k,hk,⟨E,sc,sO,f2,f7,f8,f9,f46⟩,f47⟩
 by_cases ck:k<2
 ·obtain⟨lv,least,il,sl,c4⟩ : ∃(lv:Value) (least:List Int),indexV prog 39 (.agg #[.slice none 0 0,ov]) (KN k)=some lv∧SlOf g 1 lv least.length (least.map KI)∧(least = []∨(least.length=c.length∧(∀x∈least,0≤x)∧least.sum≤S)):=by
   rcases(by omega:k=0∨k=1) with rfl|rfl
   ·exact⟨_,[],(ix2A _ _).1,SlOf.nil _ (by omega),.inl rfl⟩
   ·exact⟨_,own,(ix2A _ _).2,sO,c4⟩
  simp -dsimp (maxSteps:=1000000) (disch:=try exact dx) only[wpS,wpT,reduceEqDiff,f46,f47,f7,f8,f9,il]
  refine call (award_ok sc sl CC.quota ⟨S1.1,by omega⟩ M1 c4) ?_
  rintro _ h4 ⟨X4,cs,ss,A,B,left,v,w,rfl,sA,sB,AW⟩
  have a1:=sA.cells
  have a2:=sA.cok
  have a3:=sB.cells
  have a4:=sB.cok
  have z4:=X4.n
  obtain⟨H5,hH5,n5,E5,g13⟩:=boxed h4 [.slice none 0 0,.slice none 0 0,KI 0] [v,w,KI left]
  have sc5:=sc.keep (X4.trans E5).keep
  have cN:=sc5.now
  simp -dsimp (maxSteps:=1000000) (disch:=try exact dx) only[wpS,wpT,reduceEqDiff,reduceLeDiff,reduceAdd,zc33,st33,f7,a2,a4]
  rw[←hH5]
  clear hH5
  simp -dsimp (maxSteps:=1000000) (disch:=try exact dx) only[wpS,cN.len sl29]
  have l0 : ∀x∈leastOr c.length least,0≤x:=pos_low (fun x hx=>by
   rcases c4 with c4|c4
   ·rw[c4] at hx;cases hx
   ·exact c4.2.1 x hx)
  have c1:0<c.length:=by
   have:=CC.ne
   exact List.length_pos_iff.2 this
  have X5:=Ext.refl H5
  refine loop (fun m3 fr g3 => ∃(i:Nat) (qv:Value),i+m3=c.length∧Ext H5 g3∧Acc g3 H5.n 1 qv i ((orderL c.length n i).map KI)∧fget fr 2=some (B8 n)∧fget fr 7=some vc∧fget fr 8=some (KN M)∧fget fr 9=some (KN S)∧fget fr 12=some lv∧fget fr 13=some (ptr (2*h4.n) 0)∧fget fr 14=some (KI 0)∧fget fr 15=some qv∧fget fr 46=some (.agg #[.slice none 0 0,ov])∧fget fr 47=some (KN k)∧fget fr 59=some (KN c.length)∧fget fr 60=some (KN i)) c.length
   ⟨0,.slice none 0 0,by omega,X5,Acc.nil _ _ (by omega),by simp[f2],by simp[f7],by simp[f8],by simp[f9],by simp,by simp,by simp,by simp,by simp[f46],by simp[f47],by simp,by simp⟩ ?_
  clear f2 f7 f8 f9 f46 f47 X5
  rintro m3 fr g3 ⟨i,qv,him,E6,A6,f2,f7,f8,f9,f12,f13,f14,f15,f46,f47,f59,f60⟩
  have z6:=E6.n
  by_cases ci:i<c.length
  ·obtain⟨qv2,h7,hap,A7,G7,E7⟩:=A6.app1 (P:=prog) (t:=29) ap29 (x:=KN ((i+n) % c.length)) rfl (by omega) z6 E6 (Nat.le_refl _)
   have w1:IntKind.i64.wrap ((i:Int)+(n:Int))=((i+n:Nat):Int):=by rw[wrap_i64 (by omega)];omega
   have e1:((i+n:Nat):Int) % (c.length:Int)=(((i+n) % c.length:Nat):Int):=rfl
   have e2:IntKind.i64.wrap ((i:Int)+1)=((i+1:Nat):Int):=by rw[wrap_i64 (by omega)];omega
   have cN:=(sc5.keep E6.keep).now
   have z7:=G7.n
   simp -dsimp (maxSteps:=1000000) (disch:=try exact dx) only[wpS,wpT,reduceEqDiff,reduceLeDiff,reduceAdd,cv5_3,bs29,ba29_29,f2,f7,f15,f59,f60,w1,e1,e2,cN.len sl29,hap]
   refine⟨m3 - 1,by omega,i+1,qv2,by omega,E7,?_,by simp[f2],by simp[f7],by simp[f8],by simp[f9],by simp[f12],by simp[f13],by simp[f14],by simp,by simp[f46],by simp[f47],by simp[f59],by simp⟩
   rw[orderL_succ,List.map_append]
   exact A7
  ·obtain rfl:i=c.length:=by omega
   have k13:=E6.kept (by omega) g13
   simp -dsimp (maxSteps:=1000000) (disch:=try exact dx) only[wpS,wpT,reduceEqDiff,reduceLeDiff,reduceAdd,ld33,f13,f15,f59,f60,row_of k13,tk3r]
   have sA6:=(sA.keep E5.keep).keep E6.keep
   have sB6:=(sB.keep E5.keep).keep E6.keep
   have lB:(tiedL cs B).length=B.length:=by unfold tiedL;rw[List.length_map]
   have oS:=A6.sl
   rw[show c.length=(orderL c.length n c.length).length from(orderL_len _ _ _).symm] at oS
   have oL:(orderL c.length n c.length).length=c.length:=orderL_len _ _ _
   rw[oL] at oS
   refine call (settle_ok AW l0 (by omega) ⟨c1,by omega⟩ sA6 sB6 (order:=orderL c.length n c.length) (by rw[oL];exact oS) (by omega) (orderL_in c1) (.inr fun j hj=>orderL_all j hj)) ?_
   rintro _ h8 ⟨X8,wv,W,C,rfl,sW,lW,sS,sub,sumW⟩
   have z8:=X8.n
   obtain⟨fine,posW⟩:=settled_fine AW l0 sS lW
   have bW : ∀x∈W,0≤x∧x≤40:=fun x hx=>by
    obtain⟨q,hq⟩:=List.getElem?_of_mem hx
    have h1:=sum_getD_le W posW q
    rw[show W.getD q 0=x from by rw[List.getD_eq_getElem?_getD,hq];rfl] at h1
    exact⟨posW x hx,by omega⟩
   have ll:(leastOr c.length least).length=c.length:=low_len (c4.imp id fun h=>h.1)
   have e0:openErr c W M least=0:=openErr_fine CC.quota lW (fun x hx=>by have:=bW x hx;omega) M1 ll (fun i hi=>fine i hi) (by omega)
   have R:=regs_ok e0
   have WK:=AW.weak M1 sub
   have cert:certB M (regsV c W least)=true:=some_cert R M1 AW.C sS l0 WK
   have scH:=(sc5.keep E6.keep).keep X8.keep
   have slH:=(((sl.keep X4.keep).keep E5.keep).keep E6.keep).keep X8.keep
   rw[←lW] at sW
   have WN:=sW.now
   have nl:((c.length:Int) != (c.length:Int))=false:=by simp
   have lW':(W.length:Int)=(c.length:Int):=by omega
   simp -dsimp (maxSteps:=1000000) (disch:=try exact dx) only[wpS,wpT,reduceEqDiff,f7,f14,WN.len sl29,scH.now.len sl29,lW',nl,f8,f12]
   have ls:least.length≤1000:=by
    rcases c4 with c4|c4
    ·rw[c4];simp
    ·omega
   refine call (certify_ok (m:=(M:Int)) scH sW slH (by omega) (by omega) (by omega)) ?_
   rintro _ h9 ⟨X9,rfl⟩
   have cb:certifyB c W M least=true:=by unfold certifyB;rw[e0,cert];rfl
   rw[cb,e0]
   simp -dsimp (maxSteps:=1000000) (disch:=try exact dx) only[wpS,reduceEqDiff,f7,f8,f12]
   refine call (find_ok (m:=(M:Int)) (scH.keep X9.keep) (sW.keep X9.keep) (slH.keep X9.keep) (by omega) (by omega) (by omega)) ?_
   rintro _ h10 ⟨X10,rfl⟩
   have fe:findE c W M least=0:=by unfold findE;rw[if_neg (by simpa using e0),if_pos cert]
   have fv:findV c W M least=(brk M (regsV c W least)).v:=by unfold findV;rw[if_pos fe]
   rw[fe,fv]
   obtain⟨bk,hbk⟩ : ∃q,q=brk M (regsV c W least):=⟨_,rfl⟩
   rw[←hbk,show bk.v=brV (shq bk.lo) (shq bk.hi) bk.en bk.sc bk.sq from rfl]
   obtain⟨H11,hH11,n11,E11,g21⟩:=boxed h10 Z35 (brC (shq bk.lo) (shq bk.hi) bk.en bk.sc bk.sq)
   simp -dsimp (maxSteps:=1000000) (disch:=try exact dx) only[wpS,wpT,reduceEqDiff,reduceLeDiff,reduceAdd,zc49,st49,brC_len,brC_all,brC_all0]
   rw[←hH11]
   clear hH11
   have XH:=X8.trans (X9.trans (X10.trans E11))
   have XG:=(X4.trans E5).trans (E6.trans XH)
   have scI:=sc.keep XG.keep
   have sWI:=sW.keep (X9.trans (X10.trans E11)).keep
   have slI:=sl.keep XG.keep
   have soI:=sO.keep XG.keep
   have cI:=scI.now
   have WI:=sWI.now
   obtain⟨a,ha⟩ : ∃a,a=n % c.length:=⟨_,rfl⟩
   obtain⟨b',hb'⟩ : ∃a,a=(n+1) % c.length:=⟨_,rfl⟩
   have al:a<c.length:=by rw[ha];exact Nat.mod_lt _ c1
   have bl:b'<c.length:=by rw[hb'];exact Nat.mod_lt _ c1
   have q1:(n:Int) % (c.length:Int)=(a:Int):=by rw[ha];rfl
   have w1:IntKind.i64.wrap ((n:Int)+1)=((n+1:Nat):Int):=by rw[wrap_i64 (by omega)];omega
   have q2:((n+1:Nat):Int) % (c.length:Int)=(b':Int):=by rw[hb'];rfl
   have e2:IntKind.i64.wrap ((k:Int)+1)=((k+1:Nat):Int):=by rw[wrap_i64 (by omega)];omega
   have fin : ∀(fr2:Fr) (g2:IH),Ext H11 g2→fget fr2 2=some (B8 n)→fget fr2 7=some vc→fget fr2 8=some (KN M)→fget fr2 9=some (KN S)→fget fr2 46=some (.agg #[.slice none 0 0,ov])→fget fr2 47=some (KN (k+1)) → ∃m',m'<mm ∧ ∃k:Nat,k+m'=2∧AwS h3 g2 fr2 vc ov c own M S n∧fget fr2 47=some (KN k) :=
    fun fr2 g2 X a2 a7 a8 a9 a46 a47=>⟨mm - 1,by omega,k+1,by omega,⟨(E.trans XG).trans X,scI.keep X.keep,soI.keep X.keep,a2,a7,a8,a9,a46⟩,a47⟩
   have Wa:W[a]?=some (W.getD a 0):=at_getD (by omega)
   have Wb:W[b']?=some (W.getD b' 0):=at_getD (by omega)
   have ba:=bW _ (List.mem_of_getElem? Wa)
   have bb:=bW _ (List.mem_of_getElem? Wb)
   have lA:=WI.ld (P:=prog) (t:=3) (c:=a) (by rw[List.length_map];omega) ag3
   rw[map_get,Wa,Option.map_some] at lA
   have ix:=WI.idx (P:=prog) (t:=29) es29 (k:=.i64) (j:=a) (by omega)
   by_cases cab:a=b'
   ·have d1:((a:Int) == (b':Int))=true:=by rw[cab,beq_self_eq_true]
    simp -dsimp (maxSteps:=1000000) (disch:=try exact dx) only[wpS,wpT,reduceEqDiff,cv5_3,f2,f7,f47,cI.len sl29,q1,w1,q2,d1,e2]
    exact fin _ _ (Ext.refl _) (by simp[f2]) (by simp[f7]) (by simp[f8]) (by simp[f9]) (by simp[f46]) (by simp)
   have d1:((a:Int) == (b':Int))=false:=by rw[beq_eq_false_iff_ne];omega
   by_cases c2:W.getD a 0<2
   ·have d2:decide (W.getD a 0<2)=true:=decide_eq_true c2
    simp -dsimp (maxSteps:=1000000) (disch:=try exact dx) only[wpS,wpT,reduceEqDiff,cv5_3,f2,f7,f47,cI.len sl29,q1,w1,q2,d1,ix,lA,d2,e2]
    exact fin _ _ (Ext.refl _) (by simp[f2]) (by simp[f7]) (by simp[f8]) (by simp[f9]) (by simp[f46]) (by simp)
   have d2:decide (W.getD a 0<2)=false:=decide_eq_false c2
   simp -dsimp (maxSteps:=1000000) (disch:=try exact dx) only[wpS,wpT,reduceEqDiff,cv5_3,f2,f7,cI.len sl29,q1,w1,q2,d1,ix,lA,d2]
   refine call (cloneI_ok sWI (by omega) (all_map W) (by omega)) ?_
   rintro _ h12 ⟨X12,j,j1,j2,rfl,gj⟩
   have z12:=X12.n
   have N1:=blk_now (n:=W.length) gj (by simp)
   have ai:elemAddr (blkV j W.length) a=ptr (2*j) a:=by simp[elemAddr]
   have ak:elemAddr (blkV j W.length) b'=ptr (2*j) b':=by simp[elemAddr]
   have li:load prog h12 3 (ptr (2*j) a)=some (KI (W.getD a 0)):=by
    have:=N1.ld (P:=prog) (t:=3) (c:=a) (by rw[List.length_map];omega) ag3
    rw[ai,map_get,Wa] at this
    exact this
   have v1:IntKind.i64.wrap (W.getD a 0 - 2)=W.getD a 0 - 2:=by rw[wrap_i64 (by omega)]
   obtain⟨L1,hL1⟩ : ∃l,l=W.set a (W.getD a 0 - 2):=⟨_,rfl⟩
   have l1:L1.length=W.length:=by rw[hL1,List.length_set]
   have L1b:L1.getD b' 0=W.getD b' 0:=by rw[hL1];exact getD_set_ne (by omega)
   have s1:IH.splice (W.map KI) a [.int .i64 (W.getD a 0 - 2)]=L1.map KI:=by rw[splice_set (by rw[List.length_map];omega),map_set',←hL1]
   have gk:(L1.map KI)[b']?=some (KI (W.getD b' 0)):=by rw[map_get,at_getD (by omega),L1b];rfl
   have v2:IntKind.i64.wrap (W.getD b' 0+2)=W.getD b' 0+2:=by rw[wrap_i64 (by omega)]
   obtain⟨O,hO⟩ : ∃l,l=L1.set b' (W.getD b' 0+2):=⟨_,rfl⟩
   have lO:O.length=W.length:=by rw[hO,List.length_set,l1]
   have s2:IH.splice (L1.map KI) b' [.int .i64 (W.getD b' 0+2)]=O.map KI:=by rw[splice_set (by rw[List.length_map];omega),map_set',←hO]
   have Oa:O.getD a 0=W.getD a 0 - 2:=by rw[hO,getD_set_ne (by omega),hL1,getD_set_self (by omega)]
   have Ob:O.getD b' 0=W.getD b' 0+2:=by rw[hO,getD_set_self (by omega)]
   have Oo : ∀q,q≠a→q≠b'→O.getD q 0=W.getD q 0:=fun q h1 h2=>by rw[hO,getD_set_ne h2,hL1,getD_set_ne h1]
   have sumO:O.sum=W.sum:=by
    have h1:=sum_set W a (-2) (by omega)
    have h2:=sum_set L1 b' 2 (by omega)
    rw[L1b,←hO] at h2
    rw[show W.getD a 0 + -2=W.getD a 0 - 2 from by omega,←hL1] at h1
    omega
   simp -dsimp (maxSteps:=1000000) (disch:=try exact dx) only[wpS,wpT,reduceEqDiff,ld3,st3,N1.idx es29 (show a<W.length by omega),N1.idx es29 (show b'<W.length by omega),ai,ak,li,v1,v2,gj,List.length_map,s1,s2,gk]
   have K13:Ext H11 ((h12.put j (.cells (L1.map KI) 1 none)).put j (.cells (O.map KI) 1 none)):=(X12.put (by omega) _).put (by omega) _
   obtain⟨H13,hH13⟩ : ∃H,H=(h12.put j (.cells (L1.map KI) 1 none)).put j (.cells (O.map KI) 1 none):=⟨_,rfl⟩
   have gO:H13.ext.get j=some (.cells (O.map KI) 1 none):=by rw[hH13];exact get_put_same _ _ rfl
   have n13:H13.n=h12.n:=by rw[hH13];rfl
   rw[←hH13] at K13 ⊢
   clear hH13
   have ON:=blk_now (n:=W.length) gO (by rw[List.length_map];omega)
   have lP:=ON.ld (P:=prog) (t:=3) (c:=a) (by rw[List.length_map];omega) ag3
   rw[map_get,at_getD (by omega),Option.map_some] at lP
   have LN:=(slI.keep K13.keep).now
   have sO13:SlOf H13 1 (blkV j W.length) O.length (O.map KI):=by rw[lO];exact blk_sl gO (by omega) (by rw[List.length_map];exact lO) (by omega)
   by_cases cut:least ≠ []∧O.getD a 0<least.getD a 0
   ·obtain⟨u1,u2⟩:=cut
    have c5:=c4.resolve_left u1
    have d0:decide ((0:Int)<(least.length:Int))=true:=decide_eq_true (by omega)
    have d3:decide (O.getD a 0<least.getD a 0)=true:=decide_eq_true u2
    have lQ:=LN.ld (P:=prog) (t:=3) (c:=a) (by rw[List.length_map];omega) ag3
    rw[map_get,at_getD (by omega),Option.map_some] at lQ
    simp -dsimp (maxSteps:=1000000) (disch:=try exact dx) only[wpS,wpT,reduceEqDiff,f12,f47,LN.len sl29,d0,ON.idx es29 (show a<W.length by omega),LN.idx es29 (show a<least.length by omega),lP,lQ,d3,e2]
    exact fin _ _ K13 (by simp[f2]) (by simp[f7]) (by simp[f8]) (by simp[f9]) (by simp[f46]) (by simp)
   have lowa:(leastOr c.length least).getD a 0≤O.getD a 0:=by
    unfold leastOr
    by_cases u1:least = []
    ·rw[if_pos u1,List.getD_eq_getElem?_getD,List.getElem?_replicate,if_pos al]
     show(0:Int)≤_
     omega
    ·rw[if_neg u1]
     have : ¬O.getD a 0<least.getD a 0:=fun h9=>cut ⟨u1,h9⟩
     omega
   have lowO:lowOK O (leastOr c.length least) c.length:=by
    intro q hq
    have h1:=fine q hq
    by_cases qa:q=a
    ·subst qa;exact⟨h1.1,lowa⟩
    ·by_cases qb:q=b'
     ·subst qb;omega
     ·rw[Oo q qa qb];exact h1
   have bO : ∀x∈O,0≤x∧x≤1000:=by
    intro x hx
    obtain⟨q,hq⟩:=List.getElem?_of_mem hx
    have ql:=(List.getElem?_eq_some_iff.1 hq).1
    have e:O.getD q 0=x:=by rw[List.getD_eq_getElem?_getD,hq];rfl
    have h1:=lowO q (by omega)
    have h2:W.getD q 0≤40∧0≤W.getD q 0:=by
     have:=bW _ (List.mem_of_getElem? (at_getD (by omega:q<W.length)))
     omega
    by_cases qa:q=a
    ·subst qa;omega
    ·by_cases qb:q=b'
     ·subst qb;omega
     ·rw[Oo q qa qb] at e;omega
   have e0':openErr c O M least=0:=openErr_fine CC.quota (by omega) bO M1 ll lowO (by omega)
   have RO:=regs_ok e0'
   have cf:certB M (regsV c O least)=false:=moved_not M1 AW.C sS WK RO al bl Oa Ob l0 (by omega) (fine b' bl).2
   have key:certifyB c O M least=false∧openErr c O M least=0:=⟨by unfold certifyB;rw[cf,Bool.and_false],e0'⟩
   clear cf RO
   rcases c4 with c4|c4
   ·have d0:decide ((0:Int)<(least.length:Int))=false:=decide_eq_false (by rw[c4];simp)
    simp -dsimp (maxSteps:=1000000) (disch:=try exact dx) only[wpS,wpT,reduceEqDiff,f12,f7,f8,LN.len sl29,d0]
    refine call (certify_ok (m:=(M:Int)) (scI.keep K13.keep) sO13 (slI.keep K13.keep) (by omega) (by omega) (by omega)) ?_
    rintro _ h14 ⟨X14,rfl⟩
    rw[key.2,key.1]
    simp -dsimp (maxSteps:=1000000) (disch:=try exact dx) only[wpS,wpT,reduceEqDiff,f47,e2]
    exact fin _ _ (K13.trans X14) (by simp[f2]) (by simp[f7]) (by simp[f8]) (by simp[f9]) (by simp[f46]) (by simp)
   ·have d3:decide (O.getD a 0<least.getD a 0)=false:=decide_eq_false fun h9=>cut ⟨fun e=>by rw[e] at c4;have:=c4.1;simp at this;omega,h9⟩
    have d0:decide ((0:Int)<(least.length:Int))=true:=decide_eq_true (by omega)
    have lQ:=LN.ld (P:=prog) (t:=3) (c:=a) (by rw[List.length_map];omega) ag3
    rw[map_get,at_getD (by omega),Option.map_some] at lQ
    simp -dsimp (maxSteps:=1000000) (disch:=try exact dx) only[wpS,wpT,reduceEqDiff,f12,f7,f8,LN.len sl29,d0,ON.idx es29 (show a<W.length by omega),LN.idx es29 (show a<least.length by omega),lP,lQ,d3]
    refine call (certify_ok (m:=(M:Int)) (scI.keep K13.keep) sO13 (slI.keep K13.keep) (by omega) (by omega) (by omega)) ?_
    rintro _ h14 ⟨X14,rfl⟩
    rw[key.2,key.1]
    simp -dsimp (maxSteps:=1000000) (disch:=try exact dx) only[wpS,wpT,reduceEqDiff,f47,e2]
    exact fin _ _ (K13.trans X14) (by simp[f2]) (by simp[f7]) (by simp[f8]) (by simp[f9]) (by simp[f46]) (by simp)
 ·simp -dsimp (maxSteps:=1000000) (disch:=try exact dx) only[wpS,wpT,f47]
end Go.Id

namespace Go.Proofs.YthpefnfbnaekaaaGreat
open Go.ChangeShapes Go.WideShapes Go.ChangeAt Go.RowKit Go.Id
set_option maxRecDepth 100000 in
theorem bracketAwards_lifted (os:Os) (started:os.Started) (H:Type) (enc:TypeId×Value→H) :
  ReturnsInHanded {} Tryz.checked os 6 .any (Rows.bracketAwardsSpec.pre6 enc Tryz.prog Tryz.f6 Rows.bracketAwardsRow.domain false) (Rows.bracketAwardsSpec.post enc Tryz.prog Tryz.f6 false true false false):=by
 refine returnsInHanded_of_change (C:=Tryz.checked) Tryz.own started (by kernel_rfl) Tryz.func6
  (ChangeSpec.witness6 (enc:=enc) (C:=Tryz.checked) false ⟨#[],#[.agg #[.slice none 0 0,.int .u8 0,.slice none 0 0,.int .u16 0],.int .u8 0,.int .u8 0],[]⟩ 8 (by kernel_rfl) (by kernel_rfl) (by kernel_rfl) (by kernel_rfl)) ?_
 intro W base args ds gs before hval0 hW hcnd _
 have hval : ∀(j:Nat) t v,Tryz.f6.params[j]?=some t→args[j]?=some v→Value.okWide Tryz.prog W .any base t v:=hval0
 have hW':=hW
 obtain⟨p,q,hA0,hV,rfl,hfz,hnd⟩:=hW
 have hA:DataW.TrodAll enc Tryz.prog W 0 (fun _=>true) true Tryz.f6.params.toList args.toList ds p:=hA0
 have hA1:=hA
 rw[Tryz.params6] at hA hval
 obtain⟨a0,r0,d0,ds0,p0,q0,e0,rfl,rfl,t0,h0A⟩:=trodAll_cons hA
 obtain⟨a1,r1,d1,ds1,p1,q1,rfl,rfl,rfl,t1,h1A⟩:=trodAll_cons h0A
 obtain⟨a2,r2,d2,ds2,p2,q2,rfl,rfl,rfl,t2,h2A⟩:=trodAll_cons h1A
 obtain⟨rfl,rfl,rfl⟩:=trodAll_nil h2A
 obtain⟨rfl,rfl⟩:=trodVars_none hV
 obtain rfl:args = #[a0,a1,a2]:=by cases args;simpa using e0
 obtain⟨z0,rfl,_⟩:=okWide_struct u_draft6 (hval 0 _ _ rfl rfl)
 obtain⟨fu0,t0⟩:=t0
 obtain⟨ya0,u0,yb0,s0,ps0,ls0,g0,m0,dr0⟩:=draft6_of (fun _=>none) t0
 obtain rfl:z0 = #[ya0,B8 u0,yb0,B16 s0]:=by cases z0;simpa using g0
 obtain⟨x1,rfl,_,_,w1⟩:=open_int u_u8 (hval 1 _ _ rfl rfl) t1
 have i1:0≤x1∧x1<256:=wf_u8 w1
 obtain⟨k1,rfl⟩ : ∃k:Nat,x1=k:=⟨x1.toNat,by omega⟩
 obtain⟨x2,rfl,_,_,w2⟩:=open_int u_u8 (hval 2 _ _ rfl rfl) t2
 have i2:0≤x2∧x2<256:=wf_u8 w2
 obtain⟨k2,rfl⟩ : ∃k:Nat,x2=k:=⟨x2.toNat,by omega⟩
 have hb:=tell_ok (W:=W) (G:=fun _=>none) (fun b cs h=>by cases h)
 refine(parts_true (tb:=tbW) (nt:=182) (rs:=[.tmp 6]) Tryz.sound sound_W Tryz.func6 rfl rfl rfl (by simp) (awards0 _ _ _ _ _ _ _) (awards1 _ _) (awards_rest (b:=0) (dr0.keep ((Ext.refl _).new _).keep) (get_new_same _ _ rfl) (by simp) (by omega) (by omega) rfl rfl rfl) hb (args':=#[.agg #[ya0,B8 u0,yb0,B16 s0],.int .u8 (k1:Int),.int .u8 (k2:Int)]) (.cons (.agg_iff (.cons (trV_rel m0.1) (.cons (.scal rfl) (.cons (trV_rel m0.2) (.cons (.scal rfl) (.nil _)))))) (.cons (.scal rfl) (.cons (.scal rfl) (.nil _))))).mono fun e W' ⟨he,hk⟩=>?_
 subst he
 refine⟨_,rfl,post_of_below (pa:=p0 ++ (p1 ++ (p2 ++ []))) (pv:=[]) hW' (fun _ _ _=>trodAll_mk1 (shut_bool Tryz.underlying4 _)) (fun sp hs=>?_) (fun _ _=>rfl) hk⟩
 exact trodAll_stays Tryz.kids Tryz.pos hk hA1 (fun t ht=>by
  rw[Tryz.params6] at ht
  simp at ht
  rcases ht with rfl|rfl|rfl<;>exact of_decide_eq_true (by kernel_rfl)) (fun x hx=>hs x (by simpa using hx))
theorem bracketAwards_row:Rows.BracketAwardsSaid :=
 OpenClaim.holds_of_wide 6 Tryz.f6 rfl rfl rfl rfl rfl rfl rfl ⟨rfl,rfl,rfl,rfl,rfl⟩ rfl rfl rfl rfl rfl (by kernel_rfl) Tryz.func6 (by kernel_rfl)
  (of_decide_eq_true (by kernel_rfl)) (by unfold Func.isWrapper;first|(rw[if_pos (by decide +kernel)];kernel_rfl)|(rw[if_neg (by decide +kernel)];exact⟨rfl,rfl⟩))
  (fun os started H enc _=>bracketAwards_lifted os started H enc)
#print axioms bracketAwards_row
end Go.Proofs.YthpefnfbnaekaaaGreat
