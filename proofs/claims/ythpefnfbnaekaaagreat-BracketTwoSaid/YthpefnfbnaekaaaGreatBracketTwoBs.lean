/-
  Contracts: package divisor: the iterator over a race's seats.
-/
import Derived.Test.YthpefnfbnaekaaaGreatBracketTwoAr
import Derived.Test.YthpefnfbnaekaaaGreatBracketTwoBr
set_option linter.unusedVariables false
set_option linter.unusedSimpArgs false
set_option linter.defProp false
set_option linter.deprecated false
namespace Go.Id
open Go
open Go.Proofs.Tryz (prog)
open Nat (reduceAdd reduceEqDiff reduceLeDiff)
set_option maxHeartbeats 16000000
def KeepAbove (n0:Nat) (h h':IH):Prop:=h.n≤h'.n ∧ ∀k c e f,n0<k→k<h.n→h.ext.get k=some (.cells c e f)→e≠0 → ∃f',h'.ext.get k=some (.cells c e f')
theorem Keep.above {h h':IH} (k:Keep h h') (n0:Nat):KeepAbove n0 h h':=⟨k.n,fun j c e f _ hj hg he=>k.get j c e f hj hg he⟩
def OwnL (h:IH) (n0:Nat) (v:Value) (cs:List Value):Prop :=
 ∃k c tl f,v=.slice (some ⟨2*k,0,none⟩) cs.length c∧0<c∧cs.length≤c / 2∧n0<k∧k<h.n∧h.ext.get k=some (.cells (cs ++ tl) 1 f)
theorem OwnL.above {h h':IH} {n0:Nat} {v:Value} {cs:List Value} (o:OwnL h n0 v cs) (k:KeepAbove n0 h h'):OwnL h' n0 v cs:=by
 obtain⟨j,c,tl,f,h1,h2,h3,h4,h5,h6⟩:=o
 obtain⟨f',h7⟩:=k.2 j _ _ _ h4 h5 h6 (by omega)
 exact⟨j,c,tl,f',h1,h2,h3,h4,by have:=k.1;omega,h7⟩
theorem OwnL.sl {h:IH} {n0:Nat} {v:Value} {cs:List Value} (o:OwnL h n0 v cs):SlOf h 1 v cs.length cs:=by
 obtain⟨k,c,tl,f,rfl,h2,h3,h4,h5,h6⟩:=o
 refine⟨by omega,by omega,.inr ⟨2*k,0,c,rfl,.inr ⟨by omega,by omega,cs ++ tl,.inr ⟨by omega,by omega,f,?_⟩,?_,?_,?_⟩⟩⟩
 ·rw[show 2*k / 2=k from by omega,h6]
 ·rw[row_even];simp[IH.cells,h6]
 ·rw[List.drop_zero,Nat.mul_one,List.take_append_of_le_length (by omega),List.take_of_length_le (by omega)]
 ·rw[List.length_append];omega
theorem RAcc.own {h:IH} {n0 n1:Nat} {v:Value} {n:Nat} {cs:List Value} (a:RAcc h n0 v n cs) (h0:0<n) (h1:n1<n0):OwnL h n1 v cs:=by
 obtain⟨hl,⟨_,rfl⟩|⟨k,fam,tl,rfl,c1,c2,c3,c4,_⟩⟩:=a
 ·omega
 ·exact⟨k,_,tl,fam,by rw[hl],by omega,by omega,by omega,c3,c4⟩
theorem RaceAt.tie {R:RaceP} (O:R.OK) {h:IH} {s:Nat→Nat} {left:Int} {tv:Value} (r:RaceAt R h s left tv) (tv':Value):RaceAt R (h.put R.kt (.cells [tv'] 0 none)) s left tv':=by
 obtain⟨a,b,c,d,f,g,l⟩:=r
 have bx:=O.bx
 exact⟨by rw[get_put_old _ _ (by omega)];exact a,fun i hi=>by rw[get_put_old _ _ (by have:=O.lo i hi;omega)];exact b i hi,get_put_same _ _ rfl,by rw[get_put_old _ _ (by omega)];exact d,by rw[get_put_old _ _ (by omega)];exact f,g.keep ((Ext.refl h).keep.put c _),l⟩
theorem claimC_2 (m a p s:Nat):(claimC m a p s)[2]?=some (KN s):=rfl
theorem rankC_all (m p s:Nat):(rankC m p s).all cellOK=true:=by rw[rankC_rk];exact rk_all _ _ _
theorem take_one_more {α:Type} {l:List α} {i:Nat} {x:α} (h:l[i]?=some x):l.take (i+1)=l.take i ++ [x]:=by rw[List.take_succ,h];rfl
theorem given_nil (s:Nat→Nat):given s []=s:=by funext i;simp[given]
theorem asc_not {B:List Nat} (h:B.Pairwise (· < ·)) {j b:Nat} (hb:B[j]?=some b):b∉B.take j:=by
 intro hm
 rw[take_split hb,List.pairwise_append] at h
 have:=h.2.2 b hm b List.mem_cons_self
 omega
set_option maxRecDepth 20000 in
theorem seats_walk {R:RaceP} (O:R.OK) {h:IH} {y:Value} {seats:Nat} {low s0:Nat→Nat} {left0:Nat} (J:(Nat→Nat)→Nat→IH→Prop) (hK : ∀s c a b,J s c a→Own R a b→J s c b)
  (hy : ∀s c i left hh,c<seats→i<R.n→J s c hh→RaceAt R hh (given s [i]) left (.slice none 0 0)→WV prog y [ptr (2*R.kk i) 0] hh fun v h'=>v=.bool (decide (c+1≠seats))∧J (given s [i]) (c+1) h'∧RaceAt R h' (given s [i]) left (.slice none 0 0)∧KeepAbove R.kb2 hh h')
  (h0:J s0 0 h) (r0:RaceAt R h s0 left0 (.slice none 0 0)) (F0:Fair R.m R.n R.p low s0) (b0 : ∀i,i<R.n→s0 i+left0≤1000) (hs:left0≤seats) :
  WV prog (.func (.func 136) #[] #[ptr (2*R.kb1) 0,ptr (2*R.kb2) 0]) [y] h fun _ h' => ∃s c left,J s c h'∧RaceEnd R h' low s left∧c+left=left0:=by
 refine enter (nt:=69) (rs:=[]) Proofs.Tryz.func136 rfl rfl rfl (by simp) ?_
 simp -dsimp (maxSteps:=1000000) (disch:=try exact dx) only[wpS,reduceAdd]
 refine loop (fun mm fr g => ∃(s:Nat→Nat) (c:Nat),J s c g∧RaceAt R g s mm (.slice none 0 0)∧Fair R.m R.n R.p low s∧(∀i,i<R.n→s i+mm≤1000)∧c+mm=left0∧fget fr 0=some y∧fget fr 1=some (ptr (2*R.kb1) 0)∧fget fr 2=some (ptr (2*R.kb2) 0)) left0
  ⟨s0,0,h0,r0,F0,b0,by omega,by simp,by simp,by simp⟩ ?_
 rintro mm fr g ⟨s,c,j,r,F,bs,cs,f0,f1,f2⟩
 have bx:=O.bx
 have lt:=r.lt
 have q1:=row_of r.g1
 have qr:=row_of r.gr
 by_cases cm:0<mm
 ·simp -dsimp (maxSteps:=1000000) (disch:=try exact dx) only[wpS,wpT,reduceEqDiff,ld185,fa151_2,ld3,fa151_1,ld149,f1,q1,qr]
  have hC:=r.claims O fun i hi=>by have:=bs i hi;omega
  have hlen:(R.cls s).length=R.n:=by unfold RaceP.cls;rw[List.length_map,List.length_range]
  have hmap:(R.cls s).map Claim.ptr=(List.range R.n).map fun i=>ptr (2*R.kk i) 0:=by unfold RaceP.cls;rw[List.map_map];rfl
  refine call (best_walk (m:=R.m) (l:=R.cls s) (by rw[hlen,hmap];exact r.sl) hC (by rw[hlen];exact O.nn.2)) ?_
  rintro tv g2 ⟨X2,A2⟩
  rw[hlen,R.best_eq s] at A2
  obtain⟨B,hB⟩ : ∃B,B=R.best s:=⟨_,rfl⟩
  have BO:BestOK (fun i=>keyC R.m (R.p i) (s i)) R.n B:=by rw[hB];exact best_ok _ _
  have hBm:(R.best s).map (fun i=>((R.cls s).getD i noClaim).ptr)=B.map fun i=>ptr (2*R.kk i) 0:=by
   rw[←hB]
   refine List.map_congr_left fun i hi=>?_
   have hin:=BO.lt i hi
   unfold RaceP.cls
   rw[List.getD_eq_getElem?_getD,List.getElem?_map,List.getElem?_range hin]
   rfl
  rw[hBm,←hB] at A2
  have B0:0<B.length:=List.length_pos_iff.2 (BO.ne O.nn.1)
  have Bn:B.length≤60:=by have:=asc_len B 0 R.n BO.asc (fun y hy=>⟨by omega,BO.lt y hy⟩);have:=O.nn.2;omega
  have r2:=r.ext O X2
  have j2:=hK _ _ _ _ j ((Own.refl R g).ext X2)
  have T2:=A2.own (n1:=R.kb2) B0 lt
  have TN:=A2.sl.now
  have p1:=row_of r2.g1
  have pr:=row_of r2.gr
  have pb:=row_of r2.g2
  have pt:=r2.gt
  have bc1:=A2.sl.cells
  have bc2:=A2.sl.cok
  by_cases cl:mm<B.length
  ·simp -dsimp (maxSteps:=1000000) (disch:=try exact dx) only[wpS,wpT,reduceEqDiff,reduceLeDiff,ld185,fa151_2,ld3,ld159,st149,f1,f2,p1,pr,pb,pt,TN.len sl149,bc1,bc2]
   refine⟨s,c,mm,hK _ _ _ _ j2 ((Own.refl R g2).putT _),⟨F,.inr ⟨cm,by rw[←hB];exact cl,tv,r2.tie O tv,?_⟩⟩,cs⟩
   rw[←hB]
   exact A2.sl.keep ((Ext.refl g2).keep.put pt _)
  ·simp -dsimp (maxSteps:=1000000) (disch:=try exact dx) only[wpS,wpT,reduceEqDiff,ld185,fa151_2,ld3,f1,p1,pr,TN.len sl149]
   refine loop (fun m3 fr g3 => ∃jx,jx+m3=B.length∧J (given s (B.take jx)) (c+jx) g3∧RaceAt R g3 (given s (B.take jx)) ((mm - jx:Nat):Int) (.slice none 0 0)∧OwnL g3 R.kb2 tv (B.map fun i=>ptr (2*R.kk i) 0)∧fget fr 0=some y∧fget fr 1=some (ptr (2*R.kb1) 0)∧fget fr 2=some (ptr (2*R.kb2) 0)∧fget fr 27=some tv∧fget fr 28=some (KN B.length)∧fget fr 29=some (KN jx)) B.length
    ⟨0,by omega,by rw[List.take_zero,given_nil];exact j2,by rw[List.take_zero,given_nil];exact r2,T2,by simp[f0],by simp[f1],by simp[f2],by simp,by simp,by simp⟩ ?_
   clear f0 f1 f2 p1 pr pb pt TN bc1 bc2
   rintro m3 fr g3 ⟨jx,hjx,j3,r3,T3,f0,f1,f2,f27,f28,f29⟩
   have lt3:=r3.lt
   have p1:=row_of r3.g1
   have pr:=row_of r3.gr
   have pg:=r3.gr
   have TS:=T3.sl
   rw[List.length_map] at TS
   have TN:=TS.now
   by_cases cj:jx<B.length
   ·obtain⟨b,hb⟩ : ∃b,B[jx]?=some b:=⟨_,List.getElem?_eq_getElem cj⟩
    have bn:=BO.lt b (List.mem_of_getElem? hb)
    have lo:=O.lo b bn
    have pp:=O.pp b bn
    have bb:=bs b bn
    have hnb:b∉B.take jx:=asc_not BO.asc hb
    have sb:given s (B.take jx) b=s b:=by unfold given;rw[if_neg hnb]
    have gb:=r3.gc b bn
    rw[sb] at gb
    have qb:=row_of gb
    have lB:=TN.ld (P:=prog) (t:=152) (c:=jx) (by rw[List.length_map];omega) ag152
    rw[List.getElem?_map,hb] at lB
    have lB:load prog g3 152 (elemAddr tv jx)=some (ptr (2*R.kk b) 0):=lB
    have w1:IntKind.i64.wrap ((s b:Int)+1)=((s b+1:Nat):Int):=by rw[wrap_i64 (by omega)];omega
    have w2:IntKind.i64.wrap (((mm - jx:Nat):Int) - 1)=((mm - (jx+1):Nat):Int):=by rw[wrap_i64 (by omega)];omega
    simp -dsimp (maxSteps:=1000000) (disch:=try exact dx) only[wpS,wpT,reduceEqDiff,reduceLeDiff,reduceAdd,ld185,fa151_2,ld3,st3,fa156_1,fa151_0,fa156_0,fa154_1,f1,f27,f28,f29,p1,pr,pg,qb,gb,TN.idx es149 cj,lB,w1,w2,sp_seat,claimC_len,claimC_2]
    obtain⟨H1,hH1⟩ : ∃H,H=((g3.put R.kr (.cells [KN R.m,R.va,Value.int IntKind.i64 ((mm - (jx+1):Nat):Int)] 0 none)).put (R.kk b) (.cells (KN (R.at_ b) :: KN (R.p b) :: Value.int IntKind.i64 ((s b+1:Nat):Int) :: rankC R.m (R.p b) (s b)) 0 none)):=⟨_,rfl⟩
    rw[←hH1]
    have n1:H1.n=g3.n:=by rw[hH1];rfl
    have oth : ∀k,k≠R.kr→k≠R.kk b→H1.ext.get k=g3.ext.get k:=fun k h1 h2=>by rw[hH1,get_put_old _ _ h2,get_put_old _ _ h1]
    have k1:H1.ext.get R.kr=some (.cells [KN R.m,R.va,Value.int IntKind.i64 ((mm - (jx+1):Nat):Int)] 0 none):=by rw[hH1,get_put_old _ _ (by omega)];exact get_put_same _ _ rfl
    have kb:H1.ext.get (R.kk b)=some (.cells (KN (R.at_ b) :: KN (R.p b) :: Value.int IntKind.i64 ((s b+1:Nat):Int) :: rankC R.m (R.p b) (s b)) 0 none):=by rw[hH1];exact get_put_same _ _ rfl
    have O1:Own R g3 H1:=by rw[hH1];exact((Own.refl R g3).putR _).putK bn _
    have P1:Keep g3 H1:=by rw[hH1];exact((Ext.refl g3).keep.put pg _).put (by rw[get_put_old _ _ (by omega)];exact gb) _
    clear hH1
    refine call (ranked_ok (s:=s b+1) O.mm pp.2 (by omega)) ?_
    rintro _ h4 ⟨X4,rfl⟩
    have n4:=X4.n
    have kb4:=X4.kept (by omega) kb
    have spn:IH.splice (KN (R.at_ b) :: KN (R.p b) :: Value.int IntKind.i64 ((s b+1:Nat):Int) :: rankC R.m (R.p b) (s b)) 3 (rankC R.m (R.p b) (s b+1))=claimC R.m (R.at_ b) (R.p b) (s b+1):=sp_next _ _ _ _ _ _ (rankC_len _ _ _)
    unfold rankV
    simp -dsimp (maxSteps:=1000000) (disch:=try exact dx) only[wpS,wpT,reduceEqDiff,reduceLeDiff,reduceAdd,fa156_2,st115,f0,kb4,spn,rankC_len,rankC_all]
    obtain⟨H5,hH5⟩ : ∃H,H=h4.put (R.kk b) (.cells (claimC R.m (R.at_ b) (R.p b) (s b+1)) 0 none):=⟨_,rfl⟩
    rw[←hH5]
    have n5:H5.n=h4.n:=by rw[hH5];rfl
    have oth5 : ∀k,k<g3.n→k≠R.kr→k≠R.kk b→H5.ext.get k=g3.ext.get k:=fun k h0 h1 h2=>by rw[hH5,get_put_old _ _ h2,X4.get k (by omega),oth k h1 h2]
    have k5:H5.ext.get R.kr=some (.cells [KN R.m,R.va,Value.int IntKind.i64 ((mm - (jx+1):Nat):Int)] 0 none):=by rw[hH5,get_put_old _ _ (by omega)];exact X4.kept (by omega) k1
    have kb5:H5.ext.get (R.kk b)=some (.cells (claimC R.m (R.at_ b) (R.p b) (s b+1)) 0 none):=by rw[hH5];exact get_put_same _ _ rfl
    have O5:Own R g3 H5:=by rw[hH5];exact(O1.ext X4).putK bn _
    have P5:Keep g3 H5:=by rw[hH5];exact(P1.trans X4.keep).put kb4 _
    clear hH5
    have j5:=hK _ _ _ _ j3 O5
    have r5:RaceAt R H5 (given (given s (B.take jx)) [b]) ((mm - (jx+1):Nat):Int) (.slice none 0 0):=r3.upd O bn (by omega) P5 oth5 k5 (by rw[sb];exact kb5)
    have T5:=T3.above (P5.above R.kb2)
    refine call (hy (given s (B.take jx)) (c+jx) b _ H5 (by omega) bn j5 r5) ?_
    rintro _ h6 ⟨rfl,j6,r6,K6⟩
    have T6:=T5.above K6
    rw[given_snoc s (B.take jx) b hnb,←take_one_more hb] at j6 r6
    by_cases cz:c+jx+1=seats
    ·rw[decide_eq_false (by omega)]
     simp -dsimp (maxSteps:=1000000) (disch:=try exact dx) only[wpS,wpT,reduceEqDiff]
     have hj:jx+1=B.length:=by omega
     rw[hj,List.take_of_length_le (Nat.le_refl _)] at j6 r6
     refine⟨given s B,c+jx+1,0,j6,⟨fair_group O.mm (fun i hi=>(O.pp i hi).1) F BO,.inl ⟨rfl,?_⟩⟩,by omega⟩
     rw[show mm - B.length=0 from by omega] at r6
     exact r6
    ·rw[decide_eq_true (by omega)]
     have e2:IntKind.i64.wrap ((jx:Int)+1)=((jx+1:Nat):Int):=by rw[wrap_i64 (by omega)];omega
     simp -dsimp (maxSteps:=1000000) (disch:=try exact dx) only[wpS,wpT,reduceEqDiff,f29,e2]
     exact⟨m3 - 1,by omega,jx+1,by omega,j6,r6,T6,by simp[f0],by simp[f1],by simp[f2],by simp[f27],by simp[f28],by simp⟩
   ·simp -dsimp (maxSteps:=1000000) (disch:=try exact dx) only[wpS,wpT,f28,f29]
    have hjx:jx=B.length:=by omega
    rw[hjx,List.take_of_length_le (Nat.le_refl _)] at j3 r3
    refine⟨mm - B.length,by omega,given s B,c+B.length,j3,r3,fair_group O.mm (fun i hi=>(O.pp i hi).1) F BO,fun i hi=>?_,by omega,by simp[f0],by simp[f1],by simp[f2]⟩
    have:=bs i hi
    unfold given
    split<;>omega
 ·simp -dsimp (maxSteps:=1000000) (disch:=try exact dx) only[wpS,wpT,reduceEqDiff,ld185,fa151_2,ld3,f1,q1,qr]
  obtain rfl:mm=0:=by omega
  exact⟨s,c,0,j,⟨F,.inl ⟨rfl,r⟩⟩,by omega⟩
end Go.Id
