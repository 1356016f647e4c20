/-
  BracketTwo: for every input the law returns true, and each argument reads as it did. Conditions: none but the row's own.
-/
import Derived.Test.YthpefnfbnaekaaaGreatBracketTwoAr
import Derived.Test.YthpefnfbnaekaaaGreatBracketTwoBv
import Derived.Test.YthpefnfbnaekaaaGreatBracketTwoBo
import Derived.Test.YthpefnfbnaekaaaGreatBracketTwoBq
set_option linter.unusedVariables false
set_option linter.unusedSimpArgs false
set_option linter.defProp false
set_option linter.deprecated false
namespace Go.Id
open Go
open Go.Proofs.Tryz (prog)
open Nat (reduceAdd reduceEqDiff reduceLeDiff)
set_option maxHeartbeats 16000000
theorem moved_fine {a b c:Nat} {L:List Int} (h0:0<L.length) (hL : ∀x∈L,0≤x∧x≤40):(movedL a b c L).length=L.length∧(∀x∈movedL a b c L,0≤x∧x≤1000)∧(movedL a b c L).sum=L.sum:=by
 obtain⟨i,hi⟩ : ∃i,i=a % L.length:=⟨_,rfl⟩
 obtain⟨k,hk⟩ : ∃i,i=b % L.length:=⟨_,rfl⟩
 have mi:i<L.length:=by rw[hi];exact Nat.mod_lt _ h0
 have mk:k<L.length:=by rw[hk];exact Nat.mod_lt _ h0
 have bi:=hL _ (List.mem_of_getElem? (at_getD mi))
 have bk:=hL _ (List.mem_of_getElem? (at_getD mk))
 obtain⟨d,hd⟩ : ∃z:Int,z=if L.getD i 0<((c % 3:Nat):Int) then L.getD i 0 else ((c % 3:Nat):Int):=⟨_,rfl⟩
 have db:0≤d∧d≤2∧d≤L.getD i 0:=by rw[hd];split<;>omega
 obtain⟨L1,hL1⟩ : ∃l,l=L.set i (L.getD i 0 - d):=⟨_,rfl⟩
 have l1:L1.length=L.length:=by rw[hL1,List.length_set]
 have b1:0≤L1.getD k 0∧L1.getD k 0≤40:=by
  rw[hL1,getD_setI _ _ _ _ mk]
  split<;>omega
 have e:movedL a b c L=L1.set k (L1.getD k 0+d):=by rw[hL1,hd,hi,hk];rfl
 refine⟨by rw[e,List.length_set,l1],fun x hx=>?_,?_⟩
 ·rw[e] at hx
  rcases List.mem_or_eq_of_mem_set hx with h|h
  ·rw[hL1] at h
   rcases List.mem_or_eq_of_mem_set h with h|h
   ·have:=hL x h;omega
   ·omega
  ·omega
 ·have h1:=sum_set L i (-d) mi
  have h2:=sum_set L1 k d (by omega)
  rw[show L.getD i 0 + -d=L.getD i 0 - d from by omega,←hL1] at h1
  rw[e];omega
noncomputable abbrev bodyTw:Code:=Proofs.Tryz.f7.body.getD .skip
theorem two0 (base:Nat→Option (List Value)) (vp vl:Value) (u s:Int) (a b c d x m:Int) :
  evC (E1 prog tbW) (callV (E1 prog tbW) 1) 7 166 none 1 (partAt bodyTw 0) (enterFr 0 [.agg #[vp,.int .u8 u,vl,.int .u16 s],.agg #[.int .u8 a,.int .u8 b,.int .u8 c,.int .u8 d,KI x],.int .u8 m]) (IH.start base)=some (.normal,(6,.bool false) :: (4,ptr 2 0) :: (3,ptr 0 0) :: enterFr 0 [.agg #[vp,.int .u8 u,vl,.int .u16 s],.agg #[.int .u8 a,.int .u8 b,.int .u8 c,.int .u8 d,KI x],.int .u8 m],((IH.start base).new (.cells [vp,.int .u8 u,vl,.int .u16 s] 0 none)).new (.cells [.int .u8 a,.int .u8 b,.int .u8 c,.int .u8 d,KI x] 0 none)):=rfl
theorem two1 (fr:Fr) (h:IH) :
  evC (E1 prog tbW) (callV (E1 prog tbW) 1) 7 166 none 1 (partAt bodyTw 1) fr h=some (.normal,(23,.bool false) :: (22,.bool true) :: fr,h):=rfl
set_option maxRecDepth 20000 in
theorem two_rest {h:IH} {fr:Fr} {vp vl:Value} {ps ls:List Nat} {u s b3 b4 a b cc d m:Nat} {x:Int} (dr:Dr6 h (.agg #[vp,B8 u,vl,B16 s]) ps ls u s) (g3:h.ext.get b3=some (.cells [vp,B8 u,vl,B16 s] 0 none)) (hb3:b3<h.n) (g4:h.ext.get b4=some (.cells [B8 a,B8 b,B8 cc,B8 d,KI x] 0 none)) (hb4:b4<h.n)
  (ha:a<256) (hb:b<256) (hcc:cc<256) (hm:m<256) (f2:fget fr 2=some (B8 m)) (f3:fget fr 3=some (ptr (2*b3) 0)) (f4:fget fr 4=some (ptr (2*b4) 0)) :
  Do (wpC prog 7 166 none (restAt bodyTw 2) fr h) (retK prog [.tmp 6] fun r _=>r=.bool true) nx:=by
 have e5:(m:Int) % 5=((m % 5:Nat):Int):=by omega
 have e11:IntKind.i64.wrap (11+((m % 5:Nat):Int))=((11+m % 5:Nat):Int):=by rw[wrap_i64 (by omega)];omega
 have tk:List.take 4 (List.drop 0 [vp,B8 u,vl,B16 s]) = [vp,B8 u,vl,B16 s]:=rfl
 have tk5:List.take 5 (List.drop 0 [B8 a,B8 b,B8 cc,B8 d,KI x]) = [B8 a,B8 b,B8 cc,B8 d,KI x]:=rfl
 have hs0:1≤houseN s∧houseN s≤1000:=by unfold houseN;split<;>omega
 have mn:(if (40:Int)<(houseN s:Int) then (40:Int) else (houseN s:Int))=((min (houseN s) 40:Nat):Int):=by split<;>omega
 obtain⟨S,hS⟩ : ∃S,S=min (houseN s) 40:=⟨_,rfl⟩
 rw[←hS] at mn
 have S1:1≤S∧S≤40:=by omega
 obtain⟨M,hM⟩ : ∃M,M=11+m % 5:=⟨_,rfl⟩
 have M1:11≤M∧M≤15:=by omega
 rw[←hM] at e11
 show Do (wpC _ _ _ _ (.seq _ _) fr h) _ _
 simp -dsimp (maxSteps:=1000000) (disch:=try exact dx) only[wpS,wpT,reduceLeDiff,reduceAdd,ld26,f3,row_of g3,tk]
 refine call (census_ok dr) ?_
 rintro vc h1 ⟨X1,sc⟩
 have g31:=X1.kept hb3 g3
 simp -dsimp (maxSteps:=1000000) (disch:=try exact dx) only[wpS,wpT,reduceEqDiff,reduceLeDiff,reduceAdd,ld26,cv5_3,f2,f3,row_of g31,tk,e5,e11]
 refine call (house_ok (dr.keep X1.keep)) ?_
 rintro _ h2 ⟨X2,rfl⟩
 have CC:=census_cen dr.bu dr.bp
 obtain⟨c,hc⟩ : ∃c,c=census u ps:=⟨_,rfl⟩
 rw[←hc] at sc CC
 have lc:=CC.len
 have c1:0<c.length:=List.length_pos_iff.2 CC.ne
 simp -dsimp (maxSteps:=1000000) (disch:=try exact dx) only[wpS,reduceEqDiff,min_kk,mn]
 have sc2:=sc.keep X2.keep
 refine call (award_ok (least:=[]) sc2 (SlOf.nil _ (by omega)) CC.quota ⟨S1.1,by omega⟩ M1 (.inl rfl)) ?_
 rintro _ h3 ⟨X3,cs,ss,A,B,left,v,w,rfl,sA,sB,AW⟩
 have a1:=sA.cells
 have a2:=sA.cok
 have a3:=sB.cells
 have a4:=sB.cok
 have z3:=(X1.trans (X2.trans X3)).n
 obtain⟨H5,hH5,n5,E5,g9⟩:=boxed h3 [.slice none 0 0,.slice none 0 0,KI 0] [v,w,KI left]
 have sc5:=sc2.keep (X3.trans E5).keep
 have cN:=sc5.now
 simp -dsimp (maxSteps:=1000000) (disch:=try exact dx) only[wpS,wpT,reduceEqDiff,reduceLeDiff,reduceAdd,zc33,st33,a2,a4,cN.len sl29]
 rw[←hH5]
 clear hH5
 have l0 : ∀x∈leastOr c.length [],0≤x:=pos_low (fun x hx=>by cases hx)
 have X5:=Ext.refl H5
 refine loop (fun m3 fr g => ∃(i:Nat) (qv:Value),i+m3=c.length∧Ext H5 g∧Acc g H5.n 1 qv i ((orderL c.length 0 i).map KI)∧fget fr 4=some (ptr (2*b4) 0)∧fget fr 7=some vc∧fget fr 8=some (KN M)∧fget fr 9=some (ptr (2*h3.n) 0)∧fget fr 10=some (KI 0)∧fget fr 11=some qv∧fget fr 40=some (KN c.length)∧fget fr 41=some (KN i)) c.length
  ⟨0,.slice none 0 0,by omega,X5,Acc.nil _ _ (by omega),by simp[f4],by simp,by simp,by simp,by simp,by simp,by simp,by simp⟩ ?_
 clear f2 f3 f4 X5
 rintro m3 fr g ⟨i,qv,him,E6,A6,f4,f7,f8,f9,f10,f11,f40,f41⟩
 have z6:=E6.n
 by_cases ci:i<c.length
 ·obtain⟨qv2,h7,hap,A7,G7,E7⟩:=A6.app1 (P:=prog) (t:=29) ap29 (x:=KN i) rfl (by omega) z6 E6 (Nat.le_refl _)
  have e2:IntKind.i64.wrap ((i:Int)+1)=((i+1:Nat):Int):=by rw[wrap_i64 (by omega)];omega
  simp -dsimp (maxSteps:=1000000) (disch:=try exact dx) only[wpS,wpT,reduceEqDiff,reduceLeDiff,reduceAdd,bs29,ba29_29,f11,f40,f41,e2,hap]
  refine⟨m3 - 1,by omega,i+1,qv2,by omega,E7,?_,by simp[f4],by simp[f7],by simp[f8],by simp[f9],by simp[f10],by simp,by simp[f40],by simp⟩
  rw[orderL_succ,List.map_append,show(i+0) % c.length=i from Nat.mod_eq_of_lt ci]
  exact A7
 ·obtain rfl:i=c.length:=by omega
  have k9:=E6.kept (by omega) g9
  simp -dsimp (maxSteps:=1000000) (disch:=try exact dx) only[wpS,wpT,reduceEqDiff,reduceLeDiff,reduceAdd,ld33,f9,f11,f40,f41,row_of k9,tk3r]
  have sA6:=(sA.keep E5.keep).keep E6.keep
  have sB6:=(sB.keep E5.keep).keep E6.keep
  have oL:(orderL c.length 0 c.length).length=c.length:=orderL_len _ _ _
  have oS:=A6.sl
  refine call (settle_ok AW l0 (by omega) ⟨c1,by omega⟩ sA6 sB6 (order:=orderL c.length 0 c.length) (by rw[oL];exact oS) (by omega) (orderL_in c1) (.inr fun j hj=>orderL_all j hj)) ?_
  rintro _ h8 ⟨X8,wv,W,C,rfl,sW,lW,sS,sub,sumW⟩
  have z8:=X8.n
  obtain⟨fine,posW⟩:=settled_fine AW l0 sS lW
  have bW : ∀x∈W,0≤x∧x≤40:=fun x hx=>by
   obtain⟨q,hq⟩:=List.getElem?_of_mem hx
   have h1:=sum_getD_le W posW q
   rw[show W.getD q 0=x from by rw[List.getD_eq_getElem?_getD,hq];rfl] at h1
   exact⟨posW x hx,by omega⟩
  have ll:(leastOr c.length []).length=c.length:=low_len (.inl rfl)
  have e0:openErr c W M []=0:=openErr_fine CC.quota lW (fun x hx=>by have:=bW x hx;omega) M1 ll (fun i hi=>fine i hi) (by omega)
  have R:=regs_ok e0
  have cert:certB M (regsV c W [])=true:=some_cert R M1 AW.C sS l0 (AW.weak M1 sub)
  obtain⟨O,hO⟩ : ∃O,O=movedL a b cc W:=⟨_,rfl⟩
  obtain⟨lO,bO,sumO⟩:=moved_fine (a:=a) (b:=b) (c:=cc) (L:=W) (by omega) bW
  rw[←hO] at lO bO sumO
  have lz : ∀q,(leastOr c.length []).getD q 0=0:=by
   intro q
   unfold leastOr
   rw[if_pos rfl,List.getD_eq_getElem?_getD,List.getElem?_replicate]
   split<;>rfl
  have e0':openErr c O M []=0:=openErr_fine CC.quota (by omega) bO M1 ll (fun q hq=>by
   rw[lz q]
   have:=bO _ (List.mem_of_getElem? (at_getD (by omega:q<O.length)))
   omega) (by omega)
  have RO:=regs_ok e0'
  have XH:=(E5.trans E6).trans X8
  have scH:=(sc5.keep E6.keep).keep X8.keep
  rw[←lW] at sW
  have WN:=sW.now
  have nl:((c.length:Int) != (c.length:Int))=false:=by simp
  have lW':(W.length:Int)=(c.length:Int):=by omega
  have k4:=((X1.trans (X2.trans X3)).trans XH).kept hb4 g4
  simp -dsimp (maxSteps:=1000000) (disch:=try exact dx) only[wpS,wpT,reduceEqDiff,reduceLeDiff,reduceAdd,ld28,f4,f7,f10,WN.len sl29,scH.now.len sl29,lW',nl,row_of k4,tk5]
  refine call (sfMoved_ok sW (by omega) (by omega) ha hb hcc (fun y hy=>by have:=bW y hy;omega)) ?_
  rintro ov h9 ⟨X9,sO⟩
  rw[←hO,←lO] at sO
  simp -dsimp (maxSteps:=1000000) (disch:=try exact dx) only[wpS,reduceEqDiff,f7,f8]
  refine call (certify_ok (m:=(M:Int)) (least:=[]) (scH.keep X9.keep) sO (SlOf.nil _ (by omega)) (by omega) (by omega) (by simp)) ?_
  rintro _ h10 ⟨X10,rfl⟩
  rw[e0']
  have cb:certifyB c O M []=certB M (regsV c O []):=by unfold certifyB;rw[e0'];rfl
  rw[cb]
  cases cO:certB M (regsV c O []) with
  | false =>
   simp -dsimp (maxSteps:=1000000) (disch:=try exact dx) only[wpS,wpT,reduceEqDiff]
  | true =>
   have cN:=(scH.keep (X9.trans X10).keep)
   simp -dsimp (maxSteps:=1000000) (disch:=try exact dx) only[wpS,wpT,reduceEqDiff,f7,cN.now.len sl29]
   have sWH:=sW.keep (X9.trans X10).keep
   have sOH:=sO.keep X10.keep
   have X0:=Ext.refl h10
   refine loop (fun m1 fr g => ∃i:Nat,i+m1=c.length∧Ext h10 g∧fget fr 7=some vc∧fget fr 8=some (KN M)∧fget fr 13=some wv∧fget fr 15=some ov∧fget fr 83=some (KN c.length)∧fget fr 84=some (KN i)) c.length
    ⟨0,by omega,X0,by simp[f7],by simp[f8],by simp,by simp,by simp,by simp⟩ ?_
   clear f4 f7 f8 f9 f10 f11 f40 f41
   rintro m1 fr g ⟨i,him1,E1,f7,f8,f13,f15,f83,f84⟩
   by_cases ci:i<c.length
   ·have e2:IntKind.i64.wrap ((i:Int)+1)=((i+1:Nat):Int):=by rw[wrap_i64 (by omega)];omega
    have cG:=cN.keep E1.keep
    simp -dsimp (maxSteps:=1000000) (disch:=try exact dx) only[wpS,wpT,reduceEqDiff,f7,f83,f84,cG.now.len sl29]
    have X1g:=Ext.refl g
    refine loop (fun m2 fr g2 => ∃j:Nat,j+m2=c.length∧Ext g g2∧fget fr 7=some vc∧fget fr 8=some (KN M)∧fget fr 13=some wv∧fget fr 15=some ov∧fget fr 18=some (KN i)∧fget fr 83=some (KN c.length)∧fget fr 84=some (KN i)∧fget fr 88=some (KN c.length)∧fget fr 89=some (KN j)) c.length
     ⟨0,by omega,X1g,by simp[f7],by simp[f8],by simp[f13],by simp[f15],by simp,by simp[f83],by simp[f84],by simp,by simp⟩ ?_
    clear f7 f8 f13 f15 f83 f84 X1g
    rintro m2 fr g2 ⟨j,him2,E2,f7,f8,f13,f15,f18,f83,f84,f88,f89⟩
    by_cases cj:j<c.length
    ·have e3:IntKind.i64.wrap ((j:Int)+1)=((j+1:Nat):Int):=by rw[wrap_i64 (by omega)];omega
     have fin : ∀(fr2:Fr) (g3:IH),Ext g2 g3→fget fr2 7=some vc→fget fr2 8=some (KN M)→fget fr2 13=some wv→fget fr2 15=some ov→fget fr2 18=some (KN i)→fget fr2 83=some (KN c.length)→fget fr2 84=some (KN i)→fget fr2 88=some (KN c.length)→fget fr2 89=some (KN (j+1)) → ∃m',m'<m2 ∧ ∃j:Nat,j+m'=c.length∧Ext g g3∧fget fr2 7=some vc∧fget fr2 8=some (KN M)∧fget fr2 13=some wv∧fget fr2 15=some ov∧fget fr2 18=some (KN i)∧fget fr2 83=some (KN c.length)∧fget fr2 84=some (KN i)∧fget fr2 88=some (KN c.length)∧fget fr2 89=some (KN j) :=
      fun fr2 g3 X a7 a8 a13 a15 a18 a83 a84 a88 a89=>⟨m2 - 1,by omega,j+1,by omega,E2.trans X,a7,a8,a13,a15,a18,a83,a84,a88,a89⟩
     have G2:=(E1.trans E2).keep
     have ON:=(sOH.keep G2).now
     have WN:=(sWH.keep G2).now
     have CN:=(cN.keep G2).now
     have ld:=fun(v:Value) (L:List Int) (N:SlNow g2 1 v L.length (L.map KI)) (q:Nat) (hq:q<L.length)=>(show load prog g2 3 (elemAddr v q)=some (KI (L.getD q 0)) by
      have:=N.ld (P:=prog) (t:=3) (c:=q) (by rw[List.length_map];omega) ag3
      rwa [map_get,at_getD hq,Option.map_some] at this)
     have oi:=ld ov O ON i (by omega)
     have oj:=ld ov O ON j (by omega)
     have wi:=ld wv W WN i (by omega)
     have wj:=ld wv W WN j (by omega)
     have pi:=ld vc c CN i (by omega)
     have pj:=ld vc c CN j (by omega)
     have x1:=ON.idx (P:=prog) (t:=29) es29 (k:=.i64) (j:=i) (by omega)
     have x2:=ON.idx (P:=prog) (t:=29) es29 (k:=.i64) (j:=j) (by omega)
     have x3:=WN.idx (P:=prog) (t:=29) es29 (k:=.i64) (j:=i) (by omega)
     have x4:=WN.idx (P:=prog) (t:=29) es29 (k:=.i64) (j:=j) (by omega)
     have x5:=CN.idx (P:=prog) (t:=29) es29 (k:=.i64) (j:=i) (by omega)
     have x6:=CN.idx (P:=prog) (t:=29) es29 (k:=.i64) (j:=j) (by omega)
     by_cases g1:O.getD i 0≤W.getD i 0
     ·have d1:decide (O.getD i 0≤W.getD i 0)=true:=decide_eq_true g1
      simp -dsimp (maxSteps:=1000000) (disch:=try exact dx) only[wpS,wpT,reduceEqDiff,f13,f15,f18,f88,f89,x1,x3,oi,wi,d1,e3]
      exact fin _ _ (Ext.refl _) (by simp[f7]) (by simp[f8]) (by simp[f13]) (by simp[f15]) (by simp[f18]) (by simp[f83]) (by simp[f84]) (by simp[f88]) (by simp)
     have d1:decide (O.getD i 0≤W.getD i 0)=false:=decide_eq_false g1
     by_cases g2':W.getD j 0≤O.getD j 0
     ·have d2:decide (W.getD j 0≤O.getD j 0)=true:=decide_eq_true g2'
      simp -dsimp (maxSteps:=1000000) (disch:=try exact dx) only[wpS,wpT,reduceEqDiff,f13,f15,f18,f88,f89,x1,x2,x3,x4,oi,oj,wi,wj,d1,d2,e3]
      exact fin _ _ (Ext.refl _) (by simp[f7]) (by simp[f8]) (by simp[f13]) (by simp[f15]) (by simp[f18]) (by simp[f83]) (by simp[f84]) (by simp[f88]) (by simp)
     have d2:decide (W.getD j 0≤O.getD j 0)=false:=decide_eq_false g2'
     obtain⟨⟨p1,p2⟩,r1,r2,r3⟩:=two_certs M1 R RO cert cO ci cj (by omega) (by omega)
     have bOi:=bO _ (List.mem_of_getElem? (at_getD (by omega:i<O.length)))
     have bOj:=bO _ (List.mem_of_getElem? (at_getD (by omega:j<O.length)))
     have bWi:=bW _ (List.mem_of_getElem? (at_getD (by omega:i<W.length)))
     have bWj:=bW _ (List.mem_of_getElem? (at_getD (by omega:j<W.length)))
     have bci:=CC.b _ (List.mem_of_getElem? (at_getD ci))
     have bcj:=CC.b _ (List.mem_of_getElem? (at_getD cj))
     have w1:IntKind.i64.wrap (O.getD i 0 - 1)=O.getD i 0 - 1:=by rw[wrap_i64 (by omega)]
     have w2:IntKind.i64.wrap (W.getD i 0+1)=O.getD i 0:=by rw[wrap_i64 (by omega)];omega
     have w3:IntKind.i64.wrap (W.getD j 0 - 1)=O.getD j 0:=by rw[wrap_i64 (by omega)];omega
     have ae:aboveErr M (c.getD i 0) (O.getD i 0 - 1) (c.getD j 0) (O.getD j 0)=false:=by
      unfold aboveErr
      have h1:inR 11 15 [(M:Int)]=true:=inR_iff.2 fun y hy=>by simp at hy;omega
      have h2:inR 0 1000 [O.getD i 0 - 1,O.getD j 0]=true:=inR_iff.2 fun y hy=>by simp only[List.mem_cons,List.not_mem_nil,or_false] at hy;rcases hy with rfl|rfl<;>omega
      have h3:inR 1 1000000000 [c.getD i 0,c.getD j 0]=true:=inR_iff.2 fun y hy=>by simp only[List.mem_cons,List.not_mem_nil,or_false] at hy;rcases hy with rfl|rfl<;>omega
      rw[h1,h2,h3];rfl
     simp -dsimp (maxSteps:=1000000) (disch:=try exact dx) only[wpS,wpT,reduceEqDiff,f7,f8,f13,f15,f18,f88,f89,x1,x2,x3,x4,x5,x6,oi,oj,wi,wj,pi,pj,d1,d2,w1]
     refine call (above_ok M (c.getD i 0) (O.getD i 0 - 1) (c.getD j 0) (O.getD j 0)) ?_
     rintro _ g3 ⟨X3',rfl⟩
     rw[ae,if_neg (by simp),Int.toNat_natCast,r3]
     have ln:=fun(v:Value) (L:List Int) (s:SlOf h10 1 v L.length (L.map KI)) (q:Nat) (hq:q<L.length)=>(show load prog g3 3 (elemAddr v q)=some (KI (L.getD q 0)) by
      have:=(s.keep ((E1.trans E2).trans X3').keep).now.ld (P:=prog) (t:=3) (c:=q) (by rw[List.length_map];omega) ag3
      rwa [map_get,at_getD hq,Option.map_some] at this)
     have oi:=ln ov O sOH i (by omega)
     have oj:=ln ov O sOH j (by omega)
     have wi:=ln wv W sWH i (by omega)
     have wj:=ln wv W sWH j (by omega)
     have nn1:(O.getD i 0 != O.getD i 0)=false:=by simp
     have nn2:(O.getD j 0 != O.getD j 0)=false:=by simp
     simp -dsimp (maxSteps:=1000000) (disch:=try exact dx) only[wpS,wpT,reduceEqDiff,f13,f15,f18,f89,x1,x2,x3,x4,oi,oj,wi,wj,w2,w3,nn1,nn2,e3]
     exact fin _ _ X3' (by simp[f7]) (by simp[f8]) (by simp[f13]) (by simp[f15]) (by simp[f18]) (by simp[f83]) (by simp[f84]) (by simp[f88]) (by simp)
    ·simp -dsimp (maxSteps:=1000000) (disch:=try exact dx) only[wpS,wpT,reduceEqDiff,f84,f88,f89,e2]
     exact⟨m1 - 1,by omega,i+1,by omega,E1.trans E2,by simp[f7],by simp[f8],by simp[f13],by simp[f15],by simp[f83],by simp⟩
   ·simp -dsimp (maxSteps:=1000000) (disch:=try exact dx) only[wpS,wpT,f83,f84]
end Go.Id

namespace Go.Proofs.YthpefnfbnaekaaaGreat
open Go.ChangeShapes Go.WideShapes Go.ChangeAt Go.RowKit Go.Id
set_option maxRecDepth 100000 in
theorem bracketTwo_lifted (os:Os) (started:os.Started) (H:Type) (enc:TypeId×Value→H) :
  ReturnsInHanded {} Tryz.checked os 7 .any (Rows.bracketTwoSpec.pre6 enc Tryz.prog Tryz.f7 Rows.bracketTwoRow.domain false) (Rows.bracketTwoSpec.post enc Tryz.prog Tryz.f7 false true false false):=by
 refine returnsInHanded_of_change (C:=Tryz.checked) Tryz.own started (by kernel_rfl) Tryz.func7
  (ChangeSpec.witness6 (enc:=enc) (C:=Tryz.checked) false ⟨#[],#[.agg #[.slice none 0 0,.int .u8 0,.slice none 0 0,.int .u16 0],.agg #[.int .u8 0,.int .u8 0,.int .u8 0,.int .u8 0,.int .i64 0],.int .u8 0],[]⟩ 8 (by kernel_rfl) (by kernel_rfl) (by kernel_rfl) (by kernel_rfl)) ?_
 intro W base args ds gs before hval0 hW hcnd _
 have hval : ∀(j:Nat) t v,Tryz.f7.params[j]?=some t→args[j]?=some v→Value.okWide Tryz.prog W .any base t v:=hval0
 have hW':=hW
 obtain⟨p,q,hA0,hV,rfl,hfz,hnd⟩:=hW
 have hA:DataW.TrodAll enc Tryz.prog W 0 (fun _=>true) true Tryz.f7.params.toList args.toList ds p:=hA0
 have hA1:=hA
 rw[Tryz.params7] at hA hval
 obtain⟨a0,r0,d0,ds0,p0,q0,e0,rfl,rfl,t0,h0A⟩:=trodAll_cons hA
 obtain⟨a1,r1,d1,ds1,p1,q1,rfl,rfl,rfl,t1,h1A⟩:=trodAll_cons h0A
 obtain⟨a2,r2,d2,ds2,p2,q2,rfl,rfl,rfl,t2,h2A⟩:=trodAll_cons h1A
 obtain⟨rfl,rfl,rfl⟩:=trodAll_nil h2A
 obtain⟨rfl,rfl⟩:=trodVars_none hV
 obtain rfl:args = #[a0,a1,a2]:=by cases args;simpa using e0
 obtain⟨z0,rfl,_⟩:=okWide_struct u_draft6 (hval 0 _ _ rfl rfl)
 obtain⟨fu0,t0⟩:=t0
 obtain⟨ya0,u0,yb0,s0,ps0,ls0,g0,m0,dr0⟩:=draft6_of (fun _=>none) t0
 obtain rfl:z0 = #[ya0,B8 u0,yb0,B16 s0]:=by cases z0;simpa using g0
 obtain⟨z1,rfl,_⟩:=okWide_struct u_shift (hval 1 _ _ rfl rfl)
 obtain⟨fu1,t1⟩:=t1
 obtain⟨sa1,sb1,sc1,sd1,sn1,g1,sh1⟩:=shift_of t1
 obtain rfl:z1 = #[B8 sa1,B8 sb1,B8 sc1,B8 sd1,KI sn1]:=by cases z1;simpa using g1
 obtain⟨x2,rfl,_,_,w2⟩:=open_int u_u8 (hval 2 _ _ rfl rfl) t2
 have i2:0≤x2∧x2<256:=wf_u8 w2
 obtain⟨k2,rfl⟩ : ∃k:Nat,x2=k:=⟨x2.toNat,by omega⟩
 have hb:=tell_ok (W:=W) (G:=fun _=>none) (fun b cs h=>by cases h)
 refine(parts_true (tb:=tbW) (nt:=166) (rs:=[.tmp 6]) Tryz.sound sound_W Tryz.func7 rfl rfl rfl (by simp) (two0 _ _ _ _ _ _ _ _ _ _ _) (two1 _ _) (two_rest (b3:=0) (b4:=1) (dr0.keep (((Ext.refl _).new _).new _).keep) (by rw[get_new_old _ _ (by simp[IH.start])];exact get_new_same _ _ rfl) (by simp) (get_new_same _ _ rfl) (by simp) sh1.1 sh1.2.1 sh1.2.2.1 (by omega) rfl rfl rfl) hb (args':=#[.agg #[ya0,B8 u0,yb0,B16 s0],.agg #[B8 sa1,B8 sb1,B8 sc1,B8 sd1,KI sn1],.int .u8 (k2:Int)]) (.cons (.agg_iff (.cons (trV_rel m0.1) (.cons (.scal rfl) (.cons (trV_rel m0.2) (.cons (.scal rfl) (.nil _)))))) (.cons (.agg_iff (.cons (.scal rfl) (.cons (.scal rfl) (.cons (.scal rfl) (.cons (.scal rfl) (.cons (.scal rfl) (.nil _))))))) (.cons (.scal rfl) (.nil _))))).mono fun e W' ⟨he,hk⟩=>?_
 subst he
 refine⟨_,rfl,post_of_below (pa:=p0 ++ (p1 ++ (p2 ++ []))) (pv:=[]) hW' (fun _ _ _=>trodAll_mk1 (shut_bool Tryz.underlying4 _)) (fun sp hs=>?_) (fun _ _=>rfl) hk⟩
 exact trodAll_stays Tryz.kids Tryz.pos hk hA1 (fun t ht=>by
  rw[Tryz.params7] at ht
  simp at ht
  rcases ht with rfl|rfl|rfl<;>exact of_decide_eq_true (by kernel_rfl)) (fun x hx=>hs x (by simpa using hx))
theorem bracketTwo_row:Rows.BracketTwoSaid :=
 OpenClaim.holds_of_wide 7 Tryz.f7 rfl rfl rfl rfl rfl rfl rfl ⟨rfl,rfl,rfl,rfl,rfl⟩ rfl rfl rfl rfl rfl (by kernel_rfl) Tryz.func7 (by kernel_rfl)
  (of_decide_eq_true (by kernel_rfl)) (by unfold Func.isWrapper;first|(rw[if_pos (by decide +kernel)];kernel_rfl)|(rw[if_neg (by decide +kernel)];exact⟨rfl,rfl⟩))
  (fun os started H enc _=>bracketTwo_lifted os started H enc)
#print axioms bracketTwo_row
end Go.Proofs.YthpefnfbnaekaaaGreat
