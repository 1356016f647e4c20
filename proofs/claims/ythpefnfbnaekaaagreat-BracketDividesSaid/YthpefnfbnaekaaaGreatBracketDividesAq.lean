/-
  Contracts: package divisor: the iterator over a race's seats. Contracts: package divisor: an award is made.
-/
import Derived.Test.YthpefnfbnaekaaaGreatBracketDividesAg
import Derived.Test.YthpefnfbnaekaaaGreatBracketDividesAp
set_option linter.unusedVariables false
set_option linter.unusedSimpArgs false
set_option linter.defProp false
set_option linter.deprecated false
namespace Go.Id
open Go
open Go.Proofs.Tryz (prog)
open Nat (reduceAdd reduceEqDiff reduceLeDiff)
set_option maxHeartbeats 16000000
def KeepAbove (n0:Nat) (h h':IH):Prop:=h.n≤h'.n ∧ ∀k c e f,n0<k→k<h.n→h.ext.get k=some (.cells c e f)→e≠0 → ∃f',h'.ext.get k=some (.cells c e f')
theorem Keep.above {h h':IH} (k:Keep h h') (n0:Nat):KeepAbove n0 h h':=⟨k.n,fun j c e f _ hj hg he=>k.get j c e f hj hg he⟩
def OwnL (h:IH) (n0:Nat) (v:Value) (cs:List Value):Prop :=
 ∃k c tl f,v=.slice (some ⟨2*k,0,none⟩) cs.length c∧0<c∧cs.length≤c / 2∧n0<k∧k<h.n∧h.ext.get k=some (.cells (cs ++ tl) 1 f)
theorem OwnL.above {h h':IH} {n0:Nat} {v:Value} {cs:List Value} (o:OwnL h n0 v cs) (k:KeepAbove n0 h h'):OwnL h' n0 v cs:=by
 obtain⟨j,c,tl,f,h1,h2,h3,h4,h5,h6⟩:=o
 obtain⟨f',h7⟩:=k.2 j _ _ _ h4 h5 h6 (by omega)
 exact⟨j,c,tl,f',h1,h2,h3,h4,by have:=k.1;omega,h7⟩
theorem OwnL.sl {h:IH} {n0:Nat} {v:Value} {cs:List Value} (o:OwnL h n0 v cs):SlOf h 1 v cs.length cs:=by
 obtain⟨k,c,tl,f,rfl,h2,h3,h4,h5,h6⟩:=o
 refine⟨by omega,by omega,.inr ⟨2*k,0,c,rfl,.inr ⟨by omega,by omega,cs ++ tl,.inr ⟨by omega,by omega,f,?_⟩,?_,?_,?_⟩⟩⟩
 ·rw[show 2*k / 2=k from by omega,h6]
 ·rw[row_even];simp[IH.cells,h6]
 ·rw[List.drop_zero,Nat.mul_one,List.take_append_of_le_length (by omega),List.take_of_length_le (by omega)]
 ·rw[List.length_append];omega
theorem RAcc.own {h:IH} {n0 n1:Nat} {v:Value} {n:Nat} {cs:List Value} (a:RAcc h n0 v n cs) (h0:0<n) (h1:n1<n0):OwnL h n1 v cs:=by
 obtain⟨hl,⟨_,rfl⟩|⟨k,fam,tl,rfl,c1,c2,c3,c4,_⟩⟩:=a
 ·omega
 ·exact⟨k,_,tl,fam,by rw[hl],by omega,by omega,by omega,c3,c4⟩
theorem RaceAt.tie {R:RaceP} (O:R.OK) {h:IH} {s:Nat→Nat} {left:Int} {tv:Value} (r:RaceAt R h s left tv) (tv':Value):RaceAt R (h.put R.kt (.cells [tv'] 0 none)) s left tv':=by
 obtain⟨a,b,c,d,f,g,l⟩:=r
 have bx:=O.bx
 exact⟨by rw[get_put_old _ _ (by omega)];exact a,fun i hi=>by rw[get_put_old _ _ (by have:=O.lo i hi;omega)];exact b i hi,get_put_same _ _ rfl,by rw[get_put_old _ _ (by omega)];exact d,by rw[get_put_old _ _ (by omega)];exact f,g.keep ((Ext.refl h).keep.put c _),l⟩
theorem claimC_2 (m a p s:Nat):(claimC m a p s)[2]?=some (KN s):=rfl
theorem rankC_all (m p s:Nat):(rankC m p s).all cellOK=true:=by rw[rankC_rk];exact rk_all _ _ _
theorem take_one_more {α:Type} {l:List α} {i:Nat} {x:α} (h:l[i]?=some x):l.take (i+1)=l.take i ++ [x]:=by rw[List.take_succ,h];rfl
theorem given_nil (s:Nat→Nat):given s []=s:=by funext i;simp[given]
theorem asc_not {B:List Nat} (h:B.Pairwise (· < ·)) {j b:Nat} (hb:B[j]?=some b):b∉B.take j:=by
 intro hm
 rw[take_split hb,List.pairwise_append] at h
 have:=h.2.2 b hm b List.mem_cons_self
 omega
set_option maxRecDepth 20000 in
theorem seats_walk {R:RaceP} (O:R.OK) {h:IH} {y:Value} {seats:Nat} {low s0:Nat→Nat} {left0:Nat} (J:(Nat→Nat)→Nat→IH→Prop) (hK : ∀s c a b,J s c a→Own R a b→J s c b)
  (hy : ∀s c i left hh,c<seats→i<R.n→J s c hh→RaceAt R hh (given s [i]) left (.slice none 0 0)→WV prog y [ptr (2*R.kk i) 0] hh fun v h'=>v=.bool (decide (c+1≠seats))∧J (given s [i]) (c+1) h'∧RaceAt R h' (given s [i]) left (.slice none 0 0)∧KeepAbove R.kb2 hh h')
  (h0:J s0 0 h) (r0:RaceAt R h s0 left0 (.slice none 0 0)) (F0:Fair R.m R.n R.p low s0) (b0 : ∀i,i<R.n→s0 i+left0≤1000) (hs:left0≤seats) :
  WV prog (.func (.func 136) #[] #[ptr (2*R.kb1) 0,ptr (2*R.kb2) 0]) [y] h fun _ h' => ∃s c left,J s c h'∧RaceEnd R h' low s left∧c+left=left0:=by
 refine enter (nt:=69) (rs:=[]) Proofs.Tryz.func136 rfl rfl rfl (by simp) ?_
 simp -dsimp (maxSteps:=1000000) (disch:=try exact dx) only[wpS,reduceAdd]
 refine loop (fun mm fr g => ∃(s:Nat→Nat) (c:Nat),J s c g∧RaceAt R g s mm (.slice none 0 0)∧Fair R.m R.n R.p low s∧(∀i,i<R.n→s i+mm≤1000)∧c+mm=left0∧fget fr 0=some y∧fget fr 1=some (ptr (2*R.kb1) 0)∧fget fr 2=some (ptr (2*R.kb2) 0)) left0
  ⟨s0,0,h0,r0,F0,b0,by omega,by simp,by simp,by simp⟩ ?_
 rintro mm fr g ⟨s,c,j,r,F,bs,cs,f0,f1,f2⟩
 have bx:=O.bx
 have lt:=r.lt
 have q1:=row_of r.g1
 have qr:=row_of r.gr
 by_cases cm:0<mm
 ·simp -dsimp (maxSteps:=1000000) (disch:=try exact dx) only[wpS,wpT,reduceEqDiff,ld185,fa151_2,ld3,fa151_1,ld149,f1,q1,qr]
  have hC:=r.claims O fun i hi=>by have:=bs i hi;omega
  have hlen:(R.cls s).length=R.n:=by unfold RaceP.cls;rw[List.length_map,List.length_range]
  have hmap:(R.cls s).map Claim.ptr=(List.range R.n).map fun i=>ptr (2*R.kk i) 0:=by unfold RaceP.cls;rw[List.map_map];rfl
  refine call (best_walk (m:=R.m) (l:=R.cls s) (by rw[hlen,hmap];exact r.sl) hC (by rw[hlen];exact O.nn.2)) ?_
  rintro tv g2 ⟨X2,A2⟩
  rw[hlen,R.best_eq s] at A2
  obtain⟨B,hB⟩ : ∃B,B=R.best s:=⟨_,rfl⟩
  have BO:BestOK (fun i=>keyC R.m (R.p i) (s i)) R.n B:=by rw[hB];exact best_ok _ _
  have hBm:(R.best s).map (fun i=>((R.cls s).getD i noClaim).ptr)=B.map fun i=>ptr (2*R.kk i) 0:=by
   rw[←hB]
   refine List.map_congr_left fun i hi=>?_
   have hin:=BO.lt i hi
   unfold RaceP.cls
   rw[List.getD_eq_getElem?_getD,List.getElem?_map,List.getElem?_range hin]
   rfl
  rw[hBm,←hB] at A2
  have B0:0<B.length:=List.length_pos_iff.2 (BO.ne O.nn.1)
  have Bn:B.length≤60:=by have:=asc_len B 0 R.n BO.asc (fun y hy=>⟨by omega,BO.lt y hy⟩);have:=O.nn.2;omega
  have r2:=r.ext O X2
  have j2:=hK _ _ _ _ j ((Own.refl R g).ext X2)
  have T2:=A2.own (n1:=R.kb2) B0 lt
  have TN:=A2.sl.now
  have p1:=row_of r2.g1
  have pr:=row_of r2.gr
  have pb:=row_of r2.g2
  have pt:=r2.gt
  have bc1:=A2.sl.cells
  have bc2:=A2.sl.cok
  by_cases cl:mm<B.length
  ·simp -dsimp (maxSteps:=1000000) (disch:=try exact dx) only[wpS,wpT,reduceEqDiff,reduceLeDiff,ld185,fa151_2,ld3,ld159,st149,f1,f2,p1,pr,pb,pt,TN.len sl149,bc1,bc2]
   refine⟨s,c,mm,hK _ _ _ _ j2 ((Own.refl R g2).putT _),⟨F,.inr ⟨cm,by rw[←hB];exact cl,tv,r2.tie O tv,?_⟩⟩,cs⟩
   rw[←hB]
   exact A2.sl.keep ((Ext.refl g2).keep.put pt _)
  ·simp -dsimp (maxSteps:=1000000) (disch:=try exact dx) only[wpS,wpT,reduceEqDiff,ld185,fa151_2,ld3,f1,p1,pr,TN.len sl149]
   refine loop (fun m3 fr g3 => ∃jx,jx+m3=B.length∧J (given s (B.take jx)) (c+jx) g3∧RaceAt R g3 (given s (B.take jx)) ((mm - jx:Nat):Int) (.slice none 0 0)∧OwnL g3 R.kb2 tv (B.map fun i=>ptr (2*R.kk i) 0)∧fget fr 0=some y∧fget fr 1=some (ptr (2*R.kb1) 0)∧fget fr 2=some (ptr (2*R.kb2) 0)∧fget fr 27=some tv∧fget fr 28=some (KN B.length)∧fget fr 29=some (KN jx)) B.length
    ⟨0,by omega,by rw[List.take_zero,given_nil];exact j2,by rw[List.take_zero,given_nil];exact r2,T2,by simp[f0],by simp[f1],by simp[f2],by simp,by simp,by simp⟩ ?_
   clear f0 f1 f2 p1 pr pb pt TN bc1 bc2
   rintro m3 fr g3 ⟨jx,hjx,j3,r3,T3,f0,f1,f2,f27,f28,f29⟩
   have lt3:=r3.lt
   have p1:=row_of r3.g1
   have pr:=row_of r3.gr
   have pg:=r3.gr
   have TS:=T3.sl
   rw[List.length_map] at TS
   have TN:=TS.now
   by_cases cj:jx<B.length
   ·obtain⟨b,hb⟩ : ∃b,B[jx]?=some b:=⟨_,List.getElem?_eq_getElem cj⟩
    have bn:=BO.lt b (List.mem_of_getElem? hb)
    have lo:=O.lo b bn
    have pp:=O.pp b bn
    have bb:=bs b bn
    have hnb:b∉B.take jx:=asc_not BO.asc hb
    have sb:given s (B.take jx) b=s b:=by unfold given;rw[if_neg hnb]
    have gb:=r3.gc b bn
    rw[sb] at gb
    have qb:=row_of gb
    have lB:=TN.ld (P:=prog) (t:=152) (c:=jx) (by rw[List.length_map];omega) ag152
    rw[List.getElem?_map,hb] at lB
    have lB:load prog g3 152 (elemAddr tv jx)=some (ptr (2*R.kk b) 0):=lB
    have w1:IntKind.i64.wrap ((s b:Int)+1)=((s b+1:Nat):Int):=by rw[wrap_i64 (by omega)];omega
    have w2:IntKind.i64.wrap (((mm - jx:Nat):Int) - 1)=((mm - (jx+1):Nat):Int):=by rw[wrap_i64 (by omega)];omega
    simp -dsimp (maxSteps:=1000000) (disch:=try exact dx) only[wpS,wpT,reduceEqDiff,reduceLeDiff,reduceAdd,ld185,fa151_2,ld3,st3,fa156_1,fa151_0,fa156_0,fa154_1,f1,f27,f28,f29,p1,pr,pg,qb,gb,TN.idx es149 cj,lB,w1,w2,sp_seat,claimC_len,claimC_2]
    obtain⟨H1,hH1⟩ : ∃H,H=((g3.put R.kr (.cells [KN R.m,R.va,Value.int IntKind.i64 ((mm - (jx+1):Nat):Int)] 0 none)).put (R.kk b) (.cells (KN (R.at_ b) :: KN (R.p b) :: Value.int IntKind.i64 ((s b+1:Nat):Int) :: rankC R.m (R.p b) (s b)) 0 none)):=⟨_,rfl⟩
    rw[←hH1]
    have n1:H1.n=g3.n:=by rw[hH1];rfl
    have oth : ∀k,k≠R.kr→k≠R.kk b→H1.ext.get k=g3.ext.get k:=fun k h1 h2=>by rw[hH1,get_put_old _ _ h2,get_put_old _ _ h1]
    have k1:H1.ext.get R.kr=some (.cells [KN R.m,R.va,Value.int IntKind.i64 ((mm - (jx+1):Nat):Int)] 0 none):=by rw[hH1,get_put_old _ _ (by omega)];exact get_put_same _ _ rfl
    have kb:H1.ext.get (R.kk b)=some (.cells (KN (R.at_ b) :: KN (R.p b) :: Value.int IntKind.i64 ((s b+1:Nat):Int) :: rankC R.m (R.p b) (s b)) 0 none):=by rw[hH1];exact get_put_same _ _ rfl
    have O1:Own R g3 H1:=by rw[hH1];exact((Own.refl R g3).putR _).putK bn _
    have P1:Keep g3 H1:=by rw[hH1];exact((Ext.refl g3).keep.put pg _).put (by rw[get_put_old _ _ (by omega)];exact gb) _
    clear hH1
    refine call (ranked_ok (s:=s b+1) O.mm pp.2 (by omega)) ?_
    rintro _ h4 ⟨X4,rfl⟩
    have n4:=X4.n
    have kb4:=X4.kept (by omega) kb
    have spn:IH.splice (KN (R.at_ b) :: KN (R.p b) :: Value.int IntKind.i64 ((s b+1:Nat):Int) :: rankC R.m (R.p b) (s b)) 3 (rankC R.m (R.p b) (s b+1))=claimC R.m (R.at_ b) (R.p b) (s b+1):=sp_next _ _ _ _ _ _ (rankC_len _ _ _)
    unfold rankV
    simp -dsimp (maxSteps:=1000000) (disch:=try exact dx) only[wpS,wpT,reduceEqDiff,reduceLeDiff,reduceAdd,fa156_2,st115,f0,kb4,spn,rankC_len,rankC_all]
    obtain⟨H5,hH5⟩ : ∃H,H=h4.put (R.kk b) (.cells (claimC R.m (R.at_ b) (R.p b) (s b+1)) 0 none):=⟨_,rfl⟩
    rw[←hH5]
    have n5:H5.n=h4.n:=by rw[hH5];rfl
    have oth5 : ∀k,k<g3.n→k≠R.kr→k≠R.kk b→H5.ext.get k=g3.ext.get k:=fun k h0 h1 h2=>by rw[hH5,get_put_old _ _ h2,X4.get k (by omega),oth k h1 h2]
    have k5:H5.ext.get R.kr=some (.cells [KN R.m,R.va,Value.int IntKind.i64 ((mm - (jx+1):Nat):Int)] 0 none):=by rw[hH5,get_put_old _ _ (by omega)];exact X4.kept (by omega) k1
    have kb5:H5.ext.get (R.kk b)=some (.cells (claimC R.m (R.at_ b) (R.p b) (s b+1)) 0 none):=by rw[hH5];exact get_put_same _ _ rfl
    have O5:Own R g3 H5:=by rw[hH5];exact(O1.ext X4).putK bn _
    have P5:Keep g3 H5:=by rw[hH5];exact(P1.trans X4.keep).put kb4 _
    clear hH5
    have j5:=hK _ _ _ _ j3 O5
    have r5:RaceAt R H5 (given (given s (B.take jx)) [b]) ((mm - (jx+1):Nat):Int) (.slice none 0 0):=r3.upd O bn (by omega) P5 oth5 k5 (by rw[sb];exact kb5)
    have T5:=T3.above (P5.above R.kb2)
    refine call (hy (given s (B.take jx)) (c+jx) b _ H5 (by omega) bn j5 r5) ?_
    rintro _ h6 ⟨rfl,j6,r6,K6⟩
    have T6:=T5.above K6
    rw[given_snoc s (B.take jx) b hnb,←take_one_more hb] at j6 r6
    by_cases cz:c+jx+1=seats
    ·rw[decide_eq_false (by omega)]
     simp -dsimp (maxSteps:=1000000) (disch:=try exact dx) only[wpS,wpT,reduceEqDiff]
     have hj:jx+1=B.length:=by omega
     rw[hj,List.take_of_length_le (Nat.le_refl _)] at j6 r6
     refine⟨given s B,c+jx+1,0,j6,⟨fair_group O.mm (fun i hi=>(O.pp i hi).1) F BO,.inl ⟨rfl,?_⟩⟩,by omega⟩
     rw[show mm - B.length=0 from by omega] at r6
     exact r6
    ·rw[decide_eq_true (by omega)]
     have e2:IntKind.i64.wrap ((jx:Int)+1)=((jx+1:Nat):Int):=by rw[wrap_i64 (by omega)];omega
     simp -dsimp (maxSteps:=1000000) (disch:=try exact dx) only[wpS,wpT,reduceEqDiff,f29,e2]
     exact⟨m3 - 1,by omega,jx+1,by omega,j6,r6,T6,by simp[f0],by simp[f1],by simp[f2],by simp[f27],by simp[f28],by simp⟩
   ·simp -dsimp (maxSteps:=1000000) (disch:=try exact dx) only[wpS,wpT,f28,f29]
    have hjx:jx=B.length:=by omega
    rw[hjx,List.take_of_length_le (Nat.le_refl _)] at j3 r3
    refine⟨mm - B.length,by omega,given s B,c+B.length,j3,r3,fair_group O.mm (fun i hi=>(O.pp i hi).1) F BO,fun i hi=>?_,by omega,by simp[f0],by simp[f1],by simp[f2]⟩
    have:=bs i hi
    unfold given
    split<;>omega
 ·simp -dsimp (maxSteps:=1000000) (disch:=try exact dx) only[wpS,wpT,reduceEqDiff,ld185,fa151_2,ld3,f1,q1,qr]
  obtain rfl:mm=0:=by omega
  exact⟨s,c,0,j,⟨F,.inl ⟨rfl,r⟩⟩,by omega⟩
end Go.Id

namespace Go.Id
open Go
open Go.Proofs.Tryz (prog)
open Nat (reduceAdd reduceEqDiff reduceLeDiff)
set_option maxHeartbeats 16000000
theorem rankC_sp (m p s:Nat):IH.splice (.bool false :: Z16) 0 (rankC m p s)=rankC m p s:=splice_all (by rw[rankC_len];rfl)
theorem boxed1 (h:IH) (a:List Value) : ∃H,H=h.new (.cells a 0 none)∧H.n=h.n+1∧Ext h H∧H.ext.get h.n=some (.cells a 0 none):=⟨_,rfl,rfl,(Ext.refl h).new _,by simp (disch:=try exact dx) only[get_new_same]⟩
theorem ld_cellC {h:IH} {k o:Nat} {cs:List Value} {e:Nat} {f:Option Nat} {v:Value} (g:h.ext.get k=some (.cells cs e f)) (hv:cs[o]?=some v):load prog h 149 (ptr (2*k) o)=some v:=by
 rw[load_scal ag149,ld_of (row_of g),hv]
theorem sum_take_le : ∀(l:List Int),(∀x∈l,0≤x) → ∀i,0≤(l.take i).sum∧(l.take (i+1)).sum≤l.sum
 | [],_,i=>by simp
 | a :: l,h,i=>by
  have h1:=h a List.mem_cons_self
  have h2:=sum_nonneg l fun y hy=>h y (List.mem_cons_of_mem _ hy)
  cases i with
  | zero=>simp;omega
  | succ i =>
   have:=sum_take_le l (fun y hy=>h y (List.mem_cons_of_mem _ hy)) i
   rw[List.take_succ_cons,List.take_succ_cons,List.sum_cons,List.sum_cons,List.sum_cons]
   omega
theorem sum_replicate0 : ∀k:Nat,(List.replicate k (0:Int)).sum=0
 | 0=>rfl
 | k+1=>by rw[List.replicate_succ,List.sum_cons,sum_replicate0 k];rfl
def posR (people:List Int) (j:Nat):Bool:=decide (0<people.getD j 0)
structure ClS (H7 g:IH) (m kr:Nat) (people low:List Int) (i:Nat) (cs:List Claim) (av:Value) (left:Int):Prop where
 e:Mem kr H7 g
 gr:g.ext.get kr=some (.cells [KN m,av,KI left] 0 none)
 acc:Acc g H7.n 1 av cs.length (cs.map Claim.ptr)
 cl:Claims g m cs
 at_:cs.map Claim.at_=(List.range i).filter (posR people)
 num : ∀c∈cs,c.p=(people.getD c.at_ 0).toNat∧c.s=(low.getD c.at_ 0).toNat
 asc:(cs.map Claim.k).Pairwise (· < ·)
 lo : ∀c∈cs,H7.n≤c.k
theorem ClS.left {H7 g:IH} {m kr:Nat} {people low:List Int} {i:Nat} {cs:List Claim} {av:Value} {l:Int} (S:ClS H7 g m kr people low i cs av l) (hk:kr<H7.n) (l2:Int):ClS H7 (g.put kr (.cells [KN m,av,KI l2] 0 none)) m kr people low i cs av l2:=by
 obtain⟨e,gr,acc,cl,at_,num,asc,lo⟩:=S
 refine⟨e.put (.inr rfl) _,get_put_same _ _ rfl,acc.put gr _,fun c hc=>?_,at_,num,asc,lo⟩
 obtain⟨a,b⟩:=cl c hc
 have:=lo c hc
 exact⟨by rw[get_put_old _ _ (by omega)];exact a,b⟩
theorem ClS.skip {H7 g:IH} {m kr:Nat} {people low:List Int} {i:Nat} {cs:List Claim} {av:Value} {l:Int} (S:ClS H7 g m kr people low i cs av l) (hi:posR people i=false):ClS H7 g m kr people low (i+1) cs av l :=
 ⟨S.e,S.gr,S.acc,S.cl,by rw[List.range_succ,List.filter_append,List.filter_cons_of_neg (by simp[hi]),List.filter_nil,List.append_nil];exact S.at_,S.num,S.asc,S.lo⟩
theorem Mem.keep0 {m:Nat} {h h':IH} {c:List Value} {f:Option Nat} (e:Mem m h h') (hm:h.ext.get m=some (.cells c 0 f)):Keep h h':=⟨e.n,e.base,fun k c e1 f hk hg he=>by
 by_cases hkm:k=m
 ·subst hkm;rw[hm] at hg;cases hg;exact absurd rfl he
 ·exact⟨f,by rw[e.get k hk hkm];exact hg⟩⟩
theorem seatsF_ok {h:IH} {a b:Nat}:WV prog (.func (.func 105) #[] #[]) [ptr (2*a) 0,ptr (2*b) 0] h
  fun r h'=>r=.func (.func 136) #[] #[ptr (2*h.n) 0,ptr (2*(h.n+1)) 0]∧h'=(h.new (.cells [ptr (2*a) 0] 0 none)).new (.cells [ptr (2*b) 0] 0 none):=by
 refine enter (nt:=6) (rs:=[.tmp 4]) Proofs.Tryz.func105 rfl rfl rfl (by simp) ?_
 simp -dsimp (maxSteps:=1000000) (disch:=try exact dx) only[wpS,wpT,reduceEqDiff,reduceAdd]
theorem rangeEnd_two {k i:Nat} {r:ILoop} {fr:Fr} {Q:IExit→Fr→IH→Prop} {h1:IH} (hg:h1.ext.get k=some (.loop r)∨h1.ext.get k=some (.loop (doneL r (.exit i)))) (he:Q (.exit i) fr (h1.put k .dead)=Q .normal fr (h1.put k .dead)) (hq:Q .normal fr (h1.put k .dead)):RangeEnd k r fr Q h1:=by
 rcases hg with hg|hg
 ·exact .inl ⟨hg,hq⟩
 ·exact .inr (.inl ⟨i,hg,he▸hq⟩)
theorem claimC_0 (m a p s:Nat):(claimC m a p s)[0]?=some (KN a):=rfl
theorem ld_cellN {h:IH} {k o:Nat} {cs:List Value} {e:Nat} {f:Option Nat} {v:Value} (g:h.ext.get k=some (.cells cs e f)) (hv:cs[o]?=some v):load prog h 3 (ptr (2*k) o)=some v:=by
 rw[load_scal ag3,ld_of (row_of g),hv]
theorem getD_set_self {l:List Int} {i:Nat} {x:Int} (h:i<l.length):(l.set i x).getD i 0=x:=by
 rw[List.getD_eq_getElem?_getD,List.getElem?_set_self h];rfl
theorem getD_set_ne {l:List Int} {i j:Nat} {x:Int} (h:j≠i):(l.set i x).getD j 0=l.getD j 0:=by
 rw[List.getD_eq_getElem?_getD,List.getElem?_set_ne (Ne.symm h),←List.getD_eq_getElem?_getD]
theorem deadKeep {h:IH} {k:Nat} {r:ILoop} {o:IObj} (hk:h.ext.get k=some (.loop r)):Keep h (h.put k o):=⟨Nat.le_refl _,rfl,fun j c e f hj hg he=>by
 by_cases hjk:j=k
 ·subst hjk;rw[hk] at hg;cases hg
 ·exact⟨f,by rw[get_put_old _ _ hjk];exact hg⟩⟩
theorem tk3r (a b c:Value):List.take 3 (List.drop 0 [a,b,c]) = [a,b,c]:=rfl
theorem getD_nonneg {l:List Int} (h : ∀x∈l,0≤x) (j:Nat):0≤l.getD j 0:=by
 rw[List.getD_eq_getElem?_getD]
 cases hj:l[j]? with
 | none=>exact Int.le_refl _
 | some x=>exact h x (List.mem_of_getElem? hj)
theorem map_getD (cs:List Claim):cs.map Claim.ptr=(List.range cs.length).map fun i=>ptr (2*(cs.getD i noClaim).k) 0:=by
 refine List.ext_getElem? fun i=>?_
 rw[List.getElem?_map,List.getElem?_map]
 by_cases h:i<cs.length
 ·rw[List.getElem?_range h,List.getElem?_eq_getElem h]
  show some (cs[i].ptr)=some (ptr (2*(cs.getD i noClaim).k) 0)
  rw[List.getD_eq_getElem?_getD,List.getElem?_eq_getElem h];rfl
 ·rw[List.getElem?_eq_none (by omega),List.getElem?_eq_none (by rw[List.length_range];omega)];rfl
theorem Acc.own {R:RaceP} (O:R.OK) {h h':IH} {n0:Nat} {v:Value} {n:Nat} {cs:List Value} (a:Acc h n0 1 v n cs) (hb:R.kb2<n0) (o:Own R h h'):Acc h' n0 1 v n cs:=by
 have bx:=O.bx
 obtain⟨hz,hl,a|⟨k,fam,rfl,hn,h1,h2,h3,h4⟩⟩:=a
 ·exact⟨hz,hl,.inl a⟩
 ·refine⟨hz,hl,.inr ⟨k,fam,rfl,hn,h1,by have:=o.n;omega,?_,?_⟩⟩
  ·rw[o.get k h2 (by omega) (by omega) (fun i hi=>by have:=O.lo i hi;omega)];exact h3
  ·cases fam with
   | none=>trivial
   | some f =>
    obtain⟨a1,a2,rest,a3,a4⟩:=h4
    exact⟨a1,by have:=o.n;omega,rest,by rw[o.fams f a2];exact a3,a4⟩
def raceOf (cs:List Claim) (m kr g:Nat) (av:Value):RaceP:=⟨cs.length,m,kr,g,g+1,g+2,fun i=>(cs.getD i noClaim).k,fun i=>(cs.getD i noClaim).at_,fun i=>(cs.getD i noClaim).p,av⟩
theorem claim_mem {cs:List Claim} {i:Nat} (h:i<cs.length):cs.getD i noClaim∈cs:=by
 rw[List.getD_eq_getElem?_getD,List.getElem?_eq_getElem h];exact List.getElem_mem h
theorem ClS.len {H7 g:IH} {m kr:Nat} {people low:List Int} {i:Nat} {cs:List Claim} {av:Value} {l:Int} (S:ClS H7 g m kr people low i cs av l):cs.length≤i:=by
 have h1:=congrArg List.length S.at_
 rw[List.length_map] at h1
 have h2:=List.length_filter_le (posR people) (List.range i)
 rw[List.length_range] at h2
 omega
theorem ClS.pos {H7 g:IH} {m kr:Nat} {people low:List Int} {i:Nat} {cs:List Claim} {av:Value} {l:Int} (S:ClS H7 g m kr people low i cs av l) {c:Claim} (hc:c∈cs):c.at_<i∧0<people.getD c.at_ 0∧1≤c.p:=by
 have h1:c.at_∈(List.range i).filter (posR people):=by rw[←S.at_];exact List.mem_map.2 ⟨c,hc,rfl⟩
 rw[List.mem_filter,List.mem_range] at h1
 have h2:0<people.getD c.at_ 0:=by simpa [posR] using h1.2
 have:=(S.num c hc).1
 exact⟨h1.1,h2,by omega⟩
theorem ClS.race {H7 g:IH} {m kr:Nat} {people low:List Int} {cs:List Claim} {av:Value} {l:Int} (S:ClS H7 g m kr people low people.length cs av l) (hm:11≤m∧m≤15) (hk:kr<H7.n) (h6:people.length≤60) (h0 : ∀x∈people,0≤x) (hs:people.sum≠0):(raceOf cs m kr g.n av).OK where
 inc i j hij hj:=by
  have a:=List.pairwise_iff_getElem.1 S.asc i j (by rw[List.length_map];exact Nat.lt_trans hij hj) (by rw[List.length_map];exact hj) hij
  rw[List.getElem_map,List.getElem_map] at a
  show(cs.getD i noClaim).k<(cs.getD j noClaim).k
  have hj:j<cs.length:=hj
  rw[List.getD_eq_getElem?_getD,List.getD_eq_getElem?_getD,List.getElem?_eq_getElem (by omega),List.getElem?_eq_getElem hj]
  exact a
 lo i hi:=by
  have c:=claim_mem (cs:=cs) hi
  have h1:=S.lo _ c
  have h2:=(S.cl _ c).2.1
  exact⟨Nat.lt_of_lt_of_le hk h1,h2⟩
 bx:=⟨Nat.lt_of_lt_of_le hk S.e.n,Nat.lt_succ_self _,Nat.lt_succ_self _⟩
 pp i hi:=⟨(S.pos (claim_mem (cs:=cs) hi)).2.2,(S.cl _ (claim_mem (cs:=cs) hi)).2.2.1⟩
 mm:=hm
 nn:=by
  refine⟨?_,Nat.le_trans S.len h6⟩
  obtain⟨x,hx,hx0⟩:=pos_of_sum people (by have:=sum_nonneg people h0;omega)
  obtain⟨j,hj⟩:=List.getElem?_of_mem hx
  have jl:=(List.getElem?_eq_some_iff.1 hj).1
  have h1:j∈(List.range people.length).filter (posR people):=by
   rw[List.mem_filter,List.mem_range]
   have h9:=h0 x hx
   refine⟨jl,?_⟩
   unfold posR
   rw[List.getD_eq_getElem?_getD,hj,decide_eq_true_eq]
   show 0<x
   omega
  rw[←S.at_] at h1
  have:=List.length_pos_of_mem h1
  rw[List.length_map] at this
  exact this
theorem ClS.inj {H7 g:IH} {m kr:Nat} {people low:List Int} {i:Nat} {cs:List Claim} {av:Value} {l:Int} (S:ClS H7 g m kr people low i cs av l) {a b:Nat} (ha:a<cs.length) (hb:b<cs.length) (hab:b≠a):(cs.getD a noClaim).at_≠(cs.getD b noClaim).at_:=by
 have hp:(cs.map Claim.at_).Pairwise (· < ·):=by rw[S.at_];exact List.pairwise_lt_range.filter _
 have lt : ∀x y,x<y→y<cs.length→(cs.getD x noClaim).at_<(cs.getD y noClaim).at_:=by
  intro x y hxy hy
  have h:=List.pairwise_iff_getElem.1 hp x y (by rw[List.length_map];omega) (by rw[List.length_map];exact hy) hxy
  rw[List.getElem_map,List.getElem_map] at h
  rw[List.getD_eq_getElem?_getD,List.getD_eq_getElem?_getD,List.getElem?_eq_getElem (by omega),List.getElem?_eq_getElem hy]
  exact h
 rcases Nat.lt_or_gt_of_ne hab with h|h
 ·have:=lt b a h ha;omega
 ·have:=lt a b h hb;omega
set_option maxRecDepth 20000 in
theorem run_walk {h:IH} {vp vl:Value} {seats m:Nat} {people least:List Int} (hp:SlOf h 1 vp people.length (people.map KI)) (hl:SlOf h 1 vl least.length (least.map KI)) (c1:quotaOK people=true) (c2:1≤seats∧seats≤1000) (c3:11≤m∧m≤15)
  (c4:least = []∨(least.length=people.length∧(∀x∈least,0≤x)∧least.sum≤seats)) :
  WV prog (.func (.func 58) #[] #[]) [vp,KI seats,KN m,vl] h fun r h'=>Ext h h' ∧ ∃(cs:List Claim) (s:Nat→Nat) (c left:Nat) (A:List Int) (B:List Nat) (ks:Nat) (w ov:Value),r=.tuple #[.agg #[blkV ks people.length,w,KI left],ov,KI 0]∧SlOf h' 1 (blkV ks people.length) people.length (A.map KI)∧SlOf h' 1 w B.length (B.map fun i=>KN (cs.getD i noClaim).at_) ∧
   A.length=people.length∧A.sum=(leastOr people.length least).sum+c∧(∀i,i<cs.length→A.getD (cs.getD i noClaim).at_ 0=s i)∧(∀j,people.getD j 0≤0→A.getD j 0=(leastOr people.length least).getD j 0)∧cs.map Claim.at_=(List.range people.length).filter (posR people)∧(∀c∈cs,c.p=(people.getD c.at_ 0).toNat∧c.s=((leastOr people.length least).getD c.at_ 0).toNat) ∧
   Fair m cs.length (fun i=>(cs.getD i noClaim).p) (fun i=>(cs.getD i noClaim).s) s∧((left=0∧B = [])∨(0<left∧left<B.length∧B=bestN (fun i=>keyC m (cs.getD i noClaim).p (s i)) cs.length))∧(leastOr people.length least).sum+c+left=seats:=by
 obtain⟨q1,q2,q3⟩:=quotaOK_iff.1 c1
 refine enter (nt:=153) (rs:=[.cell 8 33,.cell 9 29,.tmp 10]) Proofs.Tryz.func58 rfl rfl rfl (by simp) ?_
 simp -dsimp (maxSteps:=1000000) (disch:=try exact dx) only[wpS,reduceEqDiff,reduceAdd,zc33,zc29]
 obtain⟨H0,hH0,n0,E0,g0,g1,g2⟩:=boxes3 h [KI seats] [.slice none 0 0,.slice none 0 0,KI 0] [.slice none 0 0]
 rw[←hH0]
 clear hH0
 have hp0:=hp.keep E0.keep
 have hl0:=hl.keep E0.keep
 refine call (qcheck_ok hp0 (by omega)) ?_
 rintro _ k0 ⟨hk,rfl⟩
 rw[hk,if_pos c1]
 clear hk k0
 simp -dsimp (maxSteps:=1000000) (disch:=try exact dx) only[wpS,wpT,reduceEqDiff,reduceLeDiff,reduceAdd,ld3,bs29,row_of g0]
 refine call (within_ok (l:=[(seats:Int)]) 1 1000 (built1 H0 seats) (by simp)) ?_
 rintro _ h1 ⟨X1,rfl⟩
 have i1:inR 1 1000 [(seats:Int)]=true:=inR_iff.2 fun n hn=>by simp at hn;omega
 rw[i1]
 simp -dsimp (maxSteps:=1000000) (disch:=try exact dx) only[wpS,wpT,reduceEqDiff]
 refine call (known_ok (l:=[]) m (SlOf.nil _ (by omega)) (by simp)) ?_
 rintro _ h2 ⟨X2,rfl⟩
 have i2:(inR 11 15 [(m:Int)] && inR 0 1000 [])=true:=by
  rw[Bool.and_eq_true]
  exact⟨inR_iff.2 fun n hn=>by simp at hn;omega,rfl⟩
 rw[i2]
 have E2:Ext H0 h2:=(((Ext.refl H0).new _).trans X1).trans X2
 clear X1 X2 h1
 have N2:=E2.n
 have hp2:=hp0.keep E2.keep
 have hl2:=hl0.keep E2.keep
 have g02:=E2.kept (by omega) g0
 have g12:=E2.kept (by omega) g1
 have g22:=E2.kept (by omega) g2
 have n1:0<people.length:=by
  cases people with
  | nil=>simp at q3
  | cons a l=>simp
 obtain⟨low,hlow⟩ : ∃low,low=leastOr people.length least:=⟨_,rfl⟩
 have ll:low.length=people.length:=by
  rw[hlow];unfold leastOr
  rcases c4 with c4|c4
  ·rw[if_pos c4,List.length_replicate]
  ·split
   ·rw[List.length_replicate]
   ·exact c4.1
 have lpos : ∀x∈low,0≤x:=by
  rw[hlow];unfold leastOr
  split
  ·intro x hx;have:=List.eq_of_mem_replicate hx;omega
  ·rcases c4 with c4|c4
   ·contradiction
   ·exact c4.2.1
 have lsum:low.sum≤seats:=by
  rw[hlow];unfold leastOr
  split
  ·rw[sum_replicate0];omega
  ·rcases c4 with c4|c4
   ·contradiction
   ·exact c4.2.2
 simp -dsimp (maxSteps:=1000000) (disch:=try exact dx) only[wpS,wpT,reduceEqDiff,hl2.now.len sl29]
 refine bq_cut (fun fr3 h3 => ∃sv,Ext h2 h3∧SlOf h3 1 sv low.length (low.map KI)∧fget fr3 0=some vp∧fget fr3 2=some (KN m)∧fget fr3 3=some sv∧fget fr3 5=some (ptr (2*h.n) 0)∧fget fr3 8=some (ptr (2*(h.n+1)) 0)∧fget fr3 9=some (ptr (2*(h.n+1+1)) 0)) (fun hc=>?_) (fun hc=>?_) ?_
 ·have e0:least = []:=by simpa using hc
  have mk:=makeSlice_eq (P:=prog) (t:=29) mk29 h2 .i64 .i64 (l:=(people.length:Int)) (c:=(people.length:Int)) (by omega) (by omega) (by omega)
  simp -dsimp (maxSteps:=1000000) (disch:=try exact dx) only[wpS,reduceEqDiff,hp2.now.len sl29,mk]
  have e1:low=List.replicate people.length 0:=by rw[hlow];unfold leastOr;rw[if_pos e0]
  refine⟨.slice (some ⟨2*h2.n,0,none⟩) people.length (2*people.length+1),(Ext.refl h2).new _,?_,by simp,by simp,by simp,by simp,by simp,by simp⟩
  rw[ll,e1,←replZ]
  exact built_sl h2 (by omega) (by rw[replZ];simp) n1
 ·have e0:least ≠ []:=by simpa using hc
  have e1:low=least:=by rw[hlow];unfold leastOr;rw[if_neg e0]
  simp -dsimp (maxSteps:=1000000) (disch:=try exact dx) only[wpS]
  exact⟨vl,Ext.refl _,by rw[e1];exact hl2,by simp,by simp,by simp,by simp,by simp,by simp⟩
 ·rintro fr3 h3 ⟨sv,E3,hs3,f0,f2,f3,f5,f8,f9⟩
  have N3:=E3.n
  have g03:=E3.kept (by omega) g02
  have g13:=E3.kept (by omega) g12
  have g23:=E3.kept (by omega) g22
  have S3:=hs3.now
  have hp3:=hp2.keep E3.keep
  simp -dsimp (maxSteps:=1000000) (disch:=try exact dx) only[wpS,wpT,reduceEqDiff,reduceLeDiff,reduceAdd,ld3,bv151,pl151_0,pl151_2,zc151,st151,f0,f2,f3,f5,row_of g03,hp3.now.len sl29,S3.len sl29,ll]
  obtain⟨H4,hH4,n4,E4,g4⟩:=boxed h3 [KI 0,.slice none 0 0,KI 0] [KI m,.slice none 0 0,KI seats]
  rw[←hH4]
  clear hH4
  have hs4:=hs3.keep E4.keep
  have g14:=E4.kept (by omega) g13
  refine call (within_ok 0 seats hs4 (by omega)) ?_
  rintro _ h5 ⟨X5,rfl⟩
  have i3:inR 0 (seats:Int) low=true:=inR_iff.2 fun x hx=>⟨lpos x hx,by have:=le_sum low lpos x hx;omega⟩
  rw[i3]
  simp -dsimp (maxSteps:=1000000) (disch:=try exact dx) only[wpS,wpT,reduceEqDiff,f3]
  have g15:=X5.kept (by omega) g14
  refine call (cloneI_ok (hs4.keep X5.keep) (by omega) (all_map low) (by omega)) ?_
  rintro _ h6 ⟨X6,ks,ks1,ks2,rfl,gS6⟩
  have N5:=X5.n
  have N6:=X6.n
  have g16:=X6.kept (by omega) g15
  have E6:Ext H0 h6:=(((E2.trans E3).trans E4).trans X5).trans X6
  simp -dsimp (maxSteps:=1000000) (disch:=try exact dx) only[wpS,wpT,reduceEqDiff,reduceLeDiff,reduceAdd,st29,fa33_0,f0,f8,g16,((hp3.keep E4.keep).keep (X5.trans X6).keep).now.len sl29]
  obtain⟨H7,hH7⟩ : ∃H,H=h6.put (h.n+1) (.cells [blkV ks people.length,.slice none 0 0,.int .i64 0] 0 none):=⟨_,rfl⟩
  rw[ll,←hH7]
  have N4:=E4.n
  have n7:H7.n=h6.n:=by rw[hH7];rfl
  have o7 : ∀k,k≠h.n+1→H7.ext.get k=h6.ext.get k:=fun k hk=>by rw[hH7];exact get_put_old _ _ hk
  have ga:H7.ext.get (h.n+1)=some (.cells [blkV ks people.length,.slice none 0 0,.int .i64 0] 0 none):=by rw[hH7];exact get_put_same _ _ rfl
  have gS7:H7.ext.get ks=some (.cells (low.map KI) 1 none):=by rw[o7 ks (by omega)];exact gS6
  have gk7:H7.ext.get h3.n=some (.cells [KI m,.slice none 0 0,KI seats] 0 none):=by rw[o7 h3.n (by omega)];exact(X5.trans X6).kept (by omega) g4
  have gp7:H7.ext.get h.n=some (.cells [KI seats] 0 none):=by rw[o7 h.n (by omega)];exact E6.kept (by omega) g0
  have go7:H7.ext.get (h.n+1+1)=some (.cells [.slice none 0 0] 0 none):=by rw[o7 _ (by omega)];exact E6.kept (by omega) g2
  have E7:Ext h H7:=by rw[hH7];exact(E0.trans E6).put (by omega) _
  have K7:Keep h3 H7:=by rw[hH7];exact((E4.trans X5).trans X6).keep.put g16 _
  have hp7:=hp3.keep K7
  have hs7:=hs3.keep K7
  clear hH7 o7 g15 g14 g16 g4 g1 g12 g13 hs4 hl0 hl2 hp0 hp2 g02 g03 g22 g23 g2 g0 gS6
  refine loop (fun mm fr g => ∃(i:Nat) (cs:List Claim) (av:Value),i+mm=people.length∧ClS H7 g m h3.n people low i cs av (seats - (low.take i).sum)∧fget fr 2=some (KN m)∧fget fr 3=some sv∧fget fr 5=some (ptr (2*h.n) 0)∧fget fr 8=some (ptr (2*(h.n+1)) 0)∧fget fr 9=some (ptr (2*(h.n+1+1)) 0)∧fget fr 12=some (ptr (2*h3.n) 0)∧fget fr 59=some vp∧fget fr 60=some (KN people.length)∧fget fr 61=some (KN i)) people.length
   ⟨0,[],.slice none 0 0,by omega,⟨Mem.refl _ _,by simpa using gk7,Acc.nil _ _ (by omega),(fun c hc=>by cases hc),rfl,(fun c hc=>by cases hc),List.Pairwise.nil,(fun c hc=>by cases hc)⟩,by simp[f2],by simp[f3],by simp[f5],by simp[f8],by simp[f9],by simp,by simp,by simp,by simp⟩ ?_
  clear f0 f2 f3 f5 f8 f9
  rintro mm fr g ⟨i,cs,av,him,S,f2,f3,f5,f8,f9,f12,f59,f60,f61⟩
  have KG:=S.e.keep0 gk7
  have gn:=S.e.n
  have P0:=(hp7.keep KG).now
  have L0:=(hs7.keep KG).now
  by_cases ci:i<people.length
  ·have lP:=P0.ld (P:=prog) (t:=3) (c:=i) (by simp<;>omega) ag3
   have lL:=L0.ld (P:=prog) (t:=3) (c:=i) (by simp<;>omega) ag3
   rw[map_get,at_getD ci] at lP
   rw[map_get,at_getD (by omega)] at lL
   have pb:=q2 _ (List.mem_of_getElem? (at_getD ci))
   have lb:=lpos _ (List.mem_of_getElem? (at_getD (l:=low) (i:=i) (by omega)))
   have ls:=le_sum low lpos _ (List.mem_of_getElem? (at_getD (l:=low) (i:=i) (by omega)))
   have ts:(low.take (i+1)).sum=(low.take i).sum+low.getD i 0:=sum_take_succ low (at_getD (by omega))
   have tb:0≤(low.take i).sum∧(low.take (i+1)).sum≤low.sum:=sum_take_le low lpos i
   have e2:IntKind.i64.wrap ((i:Int)+1)=((i+1:Nat):Int):=by rw[wrap_i64 (by omega)];omega
   have e3:IntKind.i64.wrap ((seats:Int) - (low.take i).sum - low.getD i 0)=(seats:Int) - (low.take (i+1)).sum:=by rw[wrap_i64 (by omega)];omega
   have gr:=S.gr
   have ac1:=S.acc.sl.cells
   have ac2:=S.acc.sl.cok
   by_cases cp:0<people.getD i 0
   ·have dp:decide (0<people.getD i 0)=true:=decide_eq_true cp
    simp -dsimp (maxSteps:=1000000) (disch:=try exact dx) only[wpS,wpT,reduceEqDiff,reduceLeDiff,reduceAdd,ld3,fa151_2,st3,f3,f12,f59,f60,f61,P0.idx es29 ci,L0.idx es29 (show i<low.length by omega),lP,lL,row_of gr,gr,e3]
    have S2:=S.left (l2:=(seats:Int) - (low.take (i+1)).sum) (by omega)
    obtain⟨g2,hg2⟩ : ∃g2,g2=g.put h3.n (.cells [KN m,av,KI ((seats:Int) - (low.take (i+1)).sum)] 0 none):=⟨_,rfl⟩
    rw[←hg2] at S2 ⊢
    have n2:g2.n=g.n:=by rw[hg2];rfl
    clear hg2
    have K2:=S2.e.keep0 gk7
    have L2:=(hs7.keep K2).now
    have lL2:=L2.ld (P:=prog) (t:=3) (c:=i) (by simp<;>omega) ag3
    rw[map_get,at_getD (by omega)] at lL2
    have gr2:=S2.gr
    refine drawn [(1,[19]),(8,[19])] (by kernel_rfl) (by kernel_rfl) rfl ?_
    simp -dsimp (maxSteps:=1000000) (disch:=try exact dx) only[wpS,wpT,reduceEqDiff,reduceLeDiff,reduceAdd,fa151_1,ld149,bv154,pl154_0,pl154_1,f2,f3,f12,L2.idx es29 (show i<low.length by omega),lL2,row_of gr2]
    obtain⟨p,hpn⟩ : ∃p,p=(people.getD i 0).toNat:=⟨_,rfl⟩
    obtain⟨l,hln⟩ : ∃l,l=(low.getD i 0).toNat:=⟨_,rfl⟩
    have hpi:people.getD i 0=(p:Int):=by omega
    have hli:low.getD i 0=(l:Int):=by omega
    rw[hpi,hli]
    refine call (ranked_ok (p:=p) (s:=l) c3 (by omega) (by omega)) ?_
    rintro _ g3 ⟨X3,rfl⟩
    unfold rankV
    have n3:=X3.n
    obtain⟨G,hG,nG,EG,gG⟩:=boxed1 g3 (claimC m i p l)
    have E3G:Ext g2 G:=X3.trans EG
    have cE:Ext (g2.upTo H7.n) G:=(ext_upTo (by omega)).trans E3G
    have hn1:cs.length≤60:=by
     have h1:=congrArg List.length S2.at_
     rw[List.length_map] at h1
     have h2:=List.length_filter_le (posR people) (List.range i)
     rw[List.length_range] at h2
     omega
    obtain⟨v',h5,hap,A5,G5,E5⟩:=(S2.acc.ext E3G).app1 (P:=prog) (t:=149) ap149 (x:=Id.ptr (2*g3.n) 0) rfl (by omega) (by omega) cE (Nat.le_refl _)
    rw[hG,show(g3.new (.cells (claimC m i p l) 0 none)).n=g3.n+1 from rfl] at hap
    have gr5:h5.ext.get h3.n=some (.cells [KN m,av,KI ((seats:Int) - (low.take (i+1)).sum)] 0 none):=(E5.get h3.n (show h3.n<H7.n by omega)).trans gr2
    have vc1:=A5.sl.cells
    have vc2:=A5.sl.cok
    have hap:append prog ((g3.new (.cells (Value.int IntKind.i64 i :: Value.int IntKind.i64 p :: Value.int IntKind.i64 l :: rankC m p l) 0 none)).new (.cells [ptr (2*g3.n) 0] 1 none)) 149 av (.slice (some ⟨2*(g3.n+1),0,none⟩) 1 3)=some (v',h5):=hap
    simp -dsimp (maxSteps:=1000000) (disch:=try exact dx) only[wpS,wpT,reduceEqDiff,reduceLeDiff,reduceAdd,fa151_1,bv156,pl156_0,pl156_1,pl156_2,bs149,st149,ba149_149,f12,rankC_len,rankC_sp,hap,gr5,vc1,vc2]
    have NG:Ext g2 (G.new (.cells [Id.ptr (2*g3.n) 0] 1 none)):=E3G.new _
    have lL9:=((hs7.keep K2).keep NG.keep).now.ld (P:=prog) (t:=3) (c:=i) (by simp<;>omega) ag3
    rw[map_get,at_getD (by omega),hli] at lL9
    rw[hli] at lL2
    rw[hG] at NG lL9
    refine⟨wpSteady_c2 (wpSteady_one rfl rfl rfl rfl (steady_load (av:=ptr (2*h3.n) 1) (v:=av) (by simp) (ld_cellC gr2 rfl) (ld_cellC (NG.kept (by omega) gr2) rfl))) (wpSteady_one rfl rfl rfl rfl (steady_load (av:=elemAddr sv i) (v:=KI l) (by simp) lL2 lL9)),?_⟩
    simp -dsimp (maxSteps:=1000000) (disch:=try exact dx) only[wpS,wpT,reduceEqDiff,reduceAdd,f61,e2]
    have gtag : ∀k c f,k<G.n→G.ext.get k=some (.cells c 0 f)→h5.ext.get k=some (.cells c 0 f):=fun k c f hk hg=>by
     rcases G5.get k hk with h9|⟨c1,e1,f1,f2,h9,h10,_⟩
     ·rw[h9,hg]
     ·rw[hg] at h10;cases h10;exact absurd rfl h9
    have G5n:=G5.n
    have S5:ClS H7 (h5.put h3.n (.cells [KN m,v',KI ((seats:Int) - (low.take (i+1)).sum)] 0 none)) m h3.n people low (i+1) (cs ++ [⟨g3.n,i,p,l⟩]) v' ((seats:Int) - (low.take (i+1)).sum):=by
     refine⟨Mem.put ⟨by omega,E5.base.trans S2.e.base,fun k hk hne=>(E5.get k hk).trans (S2.e.get k hk hne),fun f hf=>(E5.fams f hf).trans (S2.e.fams f hf)⟩ (.inr rfl) _,get_put_same _ _ rfl,?_,?_,?_,?_,?_,?_⟩
     ·rw[List.length_append,List.map_append]
      exact A5.put gr5 _
     ·intro c hc
      rcases List.mem_append.1 hc with hc|hc
      ·obtain⟨a1,a2,a3⟩:=S2.cl c hc
       have a4:=S2.lo c hc
       exact⟨by rw[get_put_old _ _ (by omega)];exact gtag _ _ _ (by have:=E3G.n;omega) (E3G.kept a2 a1),(show c.k<h5.n by have:=E3G.n;omega),a3⟩
      ·simp at hc;subst hc
       exact⟨by dsimp only;rw[get_put_old _ _ (by omega)];exact gtag _ _ _ (by omega) gG,(show g3.n<h5.n by omega),(show p≤1000000000 by omega),(show l≤1000 by omega)⟩
     ·rw[List.map_append,List.range_succ,List.filter_append,List.filter_cons_of_pos (show posR people i=true by unfold posR;rw[hpi] at dp ⊢;exact dp),List.filter_nil,S2.at_]
      rfl
     ·intro c hc
      rcases List.mem_append.1 hc with hc|hc
      ·exact S2.num c hc
      ·simp at hc;subst hc
       exact⟨hpn,hln⟩
     ·rw[List.map_append,List.pairwise_append]
      refine⟨S2.asc,by simp,fun x hx y hy=>?_⟩
      obtain⟨c,hc,rfl⟩:=List.mem_map.1 hx
      simp at hy;subst hy
      have:=(S2.cl c hc).2.1
      omega
     ·intro c hc
      rcases List.mem_append.1 hc with hc|hc
      ·exact S2.lo c hc
      ·simp at hc;subst hc
       show H7.n≤g3.n
       have:=S2.e.n
       omega
    exact⟨mm - 1,by omega,i+1,_,v',by omega,S5,by simp[f2],by simp[f3],by simp[f5],by simp[f8],by simp[f9],by simp[f12],by simp[f59],by simp[f60],by simp⟩
   ·have dp:decide (0<people.getD i 0)=false:=decide_eq_false cp
    simp -dsimp (maxSteps:=1000000) (disch:=try exact dx) only[wpS,wpT,reduceEqDiff,reduceLeDiff,reduceAdd,ld3,fa151_2,st3,f3,f12,f59,f60,f61,P0.idx es29 ci,L0.idx es29 (show i<low.length by omega),lP,lL,row_of gr,gr,e2,e3]
    exact⟨mm - 1,by omega,i+1,cs,av,by omega,(S.left (by omega) _).skip dp,by simp[f2],by simp[f3],by simp[f5],by simp[f8],by simp[f9],by simp[f12],by simp[f59],by simp[f60],by simp⟩
  ·obtain rfl:i=people.length:=by omega
   rw[List.take_of_length_le (by omega)] at S
   have gr:=S.gr
   simp -dsimp (maxSteps:=1000000) (disch:=try exact dx) only[wpS,wpT,reduceEqDiff,ld3,fa151_2,zc149,f12,f60,f61,row_of gr]
   refine call seatsF_ok ?_
   rintro _ H9' ⟨rfl,hH9'⟩
   obtain⟨H9,hH9⟩ : ∃H,H=(((g.new (.cells [.slice none 0 0] 0 none)).new (.cells [ptr (2*h3.n) 0] 0 none)).new (.cells [ptr (2*g.n) 0] 0 none)):=⟨_,rfl⟩
   rw[hH9',show(g.new (.cells [.slice none 0 0] 0 none)).n=g.n+1 from rfl,←hH9]
   clear hH9' H9'
   have E9:Ext g H9:=by rw[hH9];exact(((Ext.refl g).new _).new _).new _
   have n9:H9.n=g.n+3:=by rw[hH9];rfl
   have gt9:H9.ext.get g.n=some (.cells [.slice none 0 0] 0 none):=by rw[hH9];simp (disch:=try exact dx) only[get_new_same,get_new_old]
   have g19:H9.ext.get (g.n+1)=some (.cells [ptr (2*h3.n) 0] 0 none):=by rw[hH9];simp (disch:=try exact dx) only[get_new_same,get_new_old]
   have g29:H9.ext.get (g.n+2)=some (.cells [ptr (2*g.n) 0] 0 none):=by rw[hH9];simp (disch:=try exact dx) only[get_new_same]
   clear hH9
   have OK:=S.race c3 (by omega) q1 (fun x hx=>(q2 x hx).1) q3
   simp -dsimp (maxSteps:=1000000) (disch:=try exact dx) only[wpS]
   have Hlow:low.sum=(low.sum.toNat:Int):=by have:=sum_nonneg low lpos;omega
   have KG9:=KG.trans E9.keep
   have oth9 : ∀k,k<H7.n→k≠h3.n→H9.ext.get k=H7.ext.get k:=fun k hk hne=>(E9.get k (by omega)).trans (S.e.get k hk hne)
   have EH9:Ext h H9:=(Mem.ext E7 (by omega) S.e).trans E9
   obtain⟨kL,hkL⟩ : ∃k,k=H9.n:=⟨_,rfl⟩
   refine range2 (p:=103) (nt:=153) rfl rfl (by decide) (fun r y hfn hnt hbd hy=>?_)
   let J:(Nat→Nat)→Nat→IH→Prop:=fun s c hh => ∃(A:List Int) (ov:Value) (oc:List Value),Ext h hh∧kL<hh.n∧hh.ext.get kL=some (.loop (if c=seats then doneL r (.exit 2) else r))∧hh.ext.get (h.n+1)=some (.cells [blkV ks people.length,.slice none 0 0,.int .i64 0] 0 none)∧hh.ext.get ks=some (.cells (A.map KI) 1 none) ∧
    hh.ext.get h.n=some (.cells [KI seats] 0 none)∧hh.ext.get (h.n+1+1)=some (.cells [ov] 0 none)∧Acc hh (kL+1) 1 ov c oc∧A.length=people.length∧A.sum=low.sum+c∧(∀i,i<cs.length→A.getD (cs.getD i noClaim).at_ 0=s i)∧(∀j,people.getD j 0≤0→A.getD j 0=low.getD j 0)∧c≤seats
   have bav : ∀k,k<H7.n∨g.n≤k→blockOf av≠some (2*k):=by
    intro k hk
    obtain⟨_,_,⟨h9,_⟩|⟨k0,fam,h9,_,h10,h11,_⟩⟩:=S.acc
    ·rw[h9];simp[blockOf]
    ·rw[h9];simp[blockOf];omega
   have J0:J (fun i=>(cs.getD i noClaim).s) 0 (H9.new (.loop r)):=by
    refine⟨low,.slice none 0 0,[],EH9.new _,by rw[hkL];simp,?_,?_,?_,?_,?_,Acc.nil _ _ (by omega),ll,by omega,fun i hi=>?_,fun _ _=>rfl,by omega⟩
    ·rw[if_neg (by omega),hkL];exact get_new_same _ _ rfl
    ·rw[get_new_old _ _ (by omega),oth9 _ (by omega) (by omega)];exact ga
    ·rw[get_new_old _ _ (by omega),oth9 _ (by omega) (by omega)];exact gS7
    ·rw[get_new_old _ _ (by omega),oth9 _ (by omega) (by omega)];exact gp7
    ·rw[get_new_old _ _ (by omega),oth9 _ (by omega) (by omega)];exact go7
    ·have h1:=(S.num _ (claim_mem hi)).2
     have h2:=getD_nonneg lpos (cs.getD i noClaim).at_
     show low.getD (cs.getD i noClaim).at_ 0=((cs.getD i noClaim).s:Int)
     omega
   have JK : ∀s c a b,J s c a→Own (raceOf cs m h3.n g.n av) a b→J s c b:=by
    rintro s c a b ⟨A,ov,oc,JE,Jn,JL,J8,JS,J5,J9,Jacc,Jr⟩ o
    have bk : ∀k,k<a.n→(k<h3.n∨k=ks∨g.n+2<k)→b.ext.get k=a.ext.get k:=fun k hk hc=>by
     refine o.get k hk (fun h9=>?_) (fun h9=>?_) (fun i hi h9=>?_)
     ·have h9:k=h3.n:=h9
      omega
     ·have h9:k=g.n:=h9
      omega
     ·have h9:k=(cs.getD i noClaim).k:=h9
      have h10:=S.lo _ (claim_mem hi)
      have h11:=(S.cl _ (claim_mem hi)).2.1
      omega
    have on:=o.n
    have jn:=JE.n
    refine⟨A,ov,oc,⟨by omega,o.base.trans JE.base,fun k hk=>(bk k (by omega) (.inl (by omega))).trans (JE.get k hk),fun f hf=>(o.fams f (by omega)).trans (JE.fams f hf)⟩,by omega,?_,?_,?_,?_,?_,Acc.own (R:=raceOf cs m h3.n g.n av) OK Jacc (show g.n+2<kL+1 by omega) o,Jr⟩
    ·rw[bk kL Jn (by omega)];exact JL
    ·rw[bk _ (by omega) (by omega)];exact J8
    ·rw[bk _ (by omega) (by omega)];exact JS
    ·rw[bk _ (by omega) (by omega)];exact J5
    ·rw[bk _ (by omega) (by omega)];exact J9
   have R0:RaceAt (raceOf cs m h3.n g.n av) (H9.new (.loop r)) (fun i=>(cs.getD i noClaim).s) ((seats:Int) - low.sum) (.slice none 0 0):=by
    refine RaceAt.ext OK (h:=H9) ⟨E9.kept (show h3.n<g.n by omega) S.gr,fun i hi=>?_,gt9,g19,g29,?_,(show g.n+2<H9.n by omega)⟩ ((Ext.refl _).new _)
    ·obtain⟨a1,a2,_⟩:=S.cl _ (claim_mem (cs:=cs) hi)
     exact E9.kept a2 a1
    ·have h1:=S.acc.sl.keep E9.keep
     rw[map_getD cs] at h1
     exact h1
   refine WV.mono (seats_walk OK (seats:=seats) (low:=fun i=>(cs.getD i noClaim).s) (left0:=((seats:Int) - low.sum).toNat) J JK ?_ J0 (by rw[Int.toNat_of_nonneg (by omega)];exact R0) (fair_start _ _ _ _) ?_ (by omega)) ?_
   ·rintro s c i left hh hcs hi ⟨A,ov,oc,JE,Jn,JL,J8,JS,J5,J9,Jacc,Jla,Jsum,Jat,Jz,Jc⟩ r1
    rw[if_neg (by omega)] at JL
    have hi:i<cs.length:=hi
    have cm:=claim_mem hi
    have ck1:=S.lo _ cm
    have ck2:=(S.cl _ cm).2.1
    have cp:=S.pos cm
    have cg:=r1.gc i hi
    obtain⟨x,hxx⟩ : ∃x,x=cs.getD i noClaim:=⟨_,rfl⟩
    have cg:hh.ext.get x.k=some (.cells (claimC m x.at_ x.p (s i+1)) 0 none):=by
     have h1:given s [i] i=s i+1:=by simp[given]
     rw[h1] at cg
     rw[hxx];exact cg
    rw[←hxx] at ck1 ck2 cp
    have e1:(raceOf cs m h3.n g.n av).kk i=x.k:=by rw[hxx];rfl
    rw[e1]
    refine hy _ hh _ (by rw[←hkL];exact JL) ?_
    rw[←hkL]
    simp -dsimp (maxSteps:=1000000) (disch:=try exact dx) only[wpS,reduceEqDiff]
    refine⟨rfl,JL,?_⟩
    rw[hfn,hnt,hbd]
    obtain⟨HB,hHB⟩ : ∃H,H=hh.put kL (.loop (busyL r)):=⟨_,rfl⟩
    rw[←hHB]
    have bo : ∀j,j≠kL→HB.ext.get j=hh.ext.get j:=fun j hj=>by rw[hHB];exact get_put_old _ _ hj
    have bL:HB.ext.get kL=some (.loop (busyL r)):=by rw[hHB];exact get_put_same _ _ rfl
    have bn:HB.n=hh.n:=by rw[hHB];rfl
    have be:Ext h HB:=by rw[hHB];exact JE.put (by have:=EH9.n;omega) _
    have bA:Acc HB (kL+1) 1 ov c oc:=by rw[hHB];exact Jacc.put_below (by omega) _
    have bv:SlOf HB 1 av cs.length ((List.range cs.length).map fun i=>ptr (2*(cs.getD i noClaim).k) 0):=by rw[hHB];exact r1.sl.putAt (bav kL (by omega)) _
    clear hHB
    have b8:=(bo (h.n+1) (by omega)).trans J8
    have bS:=(bo ks (by omega)).trans JS
    have b5:=(bo h.n (by omega)).trans J5
    have b9:=(bo (h.n+1+1) (by omega)).trans J9
    have bx:=(bo x.k (by omega)).trans cg
    have S0:=blk_now (n:=people.length) bS (by rw[List.length_map];exact Jla)
    have ax:elemAddr (blkV ks people.length) x.at_=ptr (2*ks) x.at_:=by simp[elemAddr]
    have s1:IH.splice (A.map KI) x.at_ [.int .i64 ((s i+1:Nat):Int)]=(A.set x.at_ ((s i+1:Nat):Int)).map KI:=by rw[splice_set (by rw[List.length_map];omega),map_set']
    simp -dsimp (maxSteps:=1000000) (disch:=try exact dx) only[wpS,wpT,reduceEqDiff,ld3,fa33_0,st3,ld29,fa156_0,fa154_0,fa156_1,f8,row_of b8,row_of bx,claimC_2,claimC_0,S0.idx es29 cp.1,ax,bS,List.length_map,s1]
    obtain⟨H2,hH2⟩ : ∃H,H=HB.put ks (.cells ((A.set x.at_ ((s i+1:Nat):Int)).map KI) 1 none):=⟨_,rfl⟩
    rw[←hH2]
    have bo2 : ∀j,j≠ks→H2.ext.get j=HB.ext.get j:=fun j hj=>by rw[hH2];exact get_put_old _ _ hj
    have n2:H2.n=HB.n:=by rw[hH2];rfl
    have e2:Ext h H2:=by rw[hH2];exact be.put (by omega) _
    have A2:Acc H2 (kL+1) 1 ov c oc:=by rw[hH2];exact bA.put_below (by omega) _
    have cv:=(show SlOf H2 1 av cs.length ((List.range cs.length).map fun i=>ptr (2*(cs.getD i noClaim).k) 0) by rw[hH2];exact bv.putAt (bav ks (by omega)) _)
    have cS:=(show H2.ext.get ks=some (.cells ((A.set x.at_ ((s i+1:Nat):Int)).map KI) 1 none) by rw[hH2];exact get_put_same _ _ rfl)
    clear hH2
    have cL:=(bo2 kL (by omega)).trans bL
    have c8:=(bo2 (h.n+1) (by omega)).trans b8
    have c5:=(bo2 h.n (by omega)).trans b5
    have c9:=(bo2 (h.n+1+1) (by omega)).trans b9
    have cx:=(bo2 x.k (by omega)).trans bx
    have cE:Ext (H2.upTo (kL+1)) H2:=ext_upTo (by omega)
    obtain⟨v',h5,hap,A5,G5,E5⟩:=A2.app1 (P:=prog) (t:=29) ap29 (x:=KN x.at_) rfl (by omega) (by omega) cE (Nat.le_refl _)
    have G5n:=G5.n
    have up : ∀k,k<kL+1→h5.ext.get k=H2.ext.get k:=fun k hk=>E5.get k hk
    have dL:=(up kL (by omega)).trans cL
    have d8:=(up (h.n+1) (by omega)).trans c8
    have d5:=(up h.n (by omega)).trans c5
    have d9:=(up (h.n+1+1) (by omega)).trans c9
    have dS:=(up ks (by omega)).trans cS
    have vc1:=A5.sl.cells
    have vc2:=A5.sl.cok
    have NN:Ext H2 (H2.new (.cells [KN x.at_] 1 none)):=(Ext.refl H2).new _
    refine drawn [(0,[7]),(5,[7])] (by kernel_rfl) (by kernel_rfl) rfl ?_
    simp -dsimp (maxSteps:=1000000) (disch:=try exact dx) only[wpS,wpT,reduceEqDiff,reduceLeDiff,reduceAdd,st29,ld3,bs29,ld29,fa156_0,fa154_0,ba29_29,f9,row_of c9,row_of cx,claimC_0,hap,d9,vc1,vc2]
    refine⟨wpSteady_c2 (wpSteady_one rfl rfl rfl rfl (steady_load (av:=ptr (2*(h.n+1+1)) 0) (v:=ov) (by simp[f9]) (ld_cell c9 rfl) (ld_cell (NN.kept (by omega) c9) rfl))) (wpSteady_one rfl rfl rfl rfl (steady_load (av:=ptr (2*x.k) 0) (v:=KN x.at_) (by simp) (ld_cellN cx rfl) (ld_cellN (NN.kept (by omega) cx) rfl))),?_⟩
    have m1:=(A5.put d9 (.cells [v'] 0 none)).sl.now
    simp -dsimp (maxSteps:=1000000) (disch:=try exact dx) only[wpS,wpT,reduceEqDiff,reduceAdd,ld3,ld29,f5,f9,row_of d5,m1.len sl29]
    have fin : ∀o,o=(if c+1=seats then doneL r (.exit 2) else r)→J (given s [i]) (c+1) ((h5.put (h.n+1+1) (.cells [v'] 0 none)).put kL (.loop o))∧RaceAt (raceOf cs m h3.n g.n av) ((h5.put (h.n+1+1) (.cells [v'] 0 none)).put kL (.loop o)) (given s [i]) left (.slice none 0 0)∧KeepAbove (g.n+2) hh ((h5.put (h.n+1+1) (.cells [v'] 0 none)).put kL (.loop o)):=by
     intro o ho
     have tot : ∀k,k<kL→k≠ks→k≠h.n+1+1→((h5.put (h.n+1+1) (.cells [v'] 0 none)).put kL (.loop o)).ext.get k=hh.ext.get k:=fun k h1 h2 h3=>by
      rw[get_put_old _ _ (by omega),get_put_old _ _ h3,up k (by omega),bo2 k h2,bo k (by omega)]
     refine⟨⟨A.set x.at_ ((s i+1:Nat):Int),v',_,(((e2.upTo (by omega)).trans E5).put (by omega) _).put (by omega) _,by show kL<h5.n;omega,by rw[get_put_same _ _ rfl,ho],?_,?_,?_,?_,(A5.put d9 _).put_below (by omega) _,by rw[List.length_set];exact Jla,?_,?_,?_,by omega⟩,?_,?_⟩
     ·rw[get_put_old _ _ (by omega),get_put_old _ _ (by omega)];exact d8
     ·rw[get_put_old _ _ (by omega),get_put_old _ _ (by omega)];exact dS
     ·rw[get_put_old _ _ (by omega),get_put_old _ _ (by omega)];exact d5
     ·rw[get_put_old _ _ (by omega)];exact get_put_same _ _ rfl
     ·have h1:=sum_set A x.at_ 1 (by omega)
      have h2:=Jat i hi
      rw[←hxx] at h2
      rw[h2] at h1
      rw[show((s i+1:Nat):Int)=(s i:Int)+1 from by omega,h1]
      omega
     ·intro j hj
      by_cases hji:j=i
      ·subst hji
       rw[←hxx,getD_set_self (by omega)]
       simp[given]
      ·rw[getD_set_ne (by rw[hxx];exact fun h9=>S.inj hi hj hji h9.symm),Jat j hj]
       simp[given,hji]
     ·intro j hj
      rw[getD_set_ne (by intro h9;rw[h9] at hj;omega)]
      exact Jz j hj
     ·exact⟨(tot h3.n (by omega) (by omega) (by omega)).trans r1.gr,fun j hj=>(tot _ (by have:=(S.cl _ (claim_mem (cs:=cs) hj)).2.1;show(cs.getD j noClaim).k<kL;omega) (by have:=S.lo _ (claim_mem (cs:=cs) hj);show(cs.getD j noClaim).k≠ks;omega) (by have:=S.lo _ (claim_mem (cs:=cs) hj);show(cs.getD j noClaim).k≠h.n+1+1;omega)).trans (r1.gc j hj),(tot g.n (by omega) (by omega) (by omega)).trans r1.gt,(tot (g.n+1) (by omega) (by omega) (by omega)).trans r1.g1,(tot (g.n+2) (by omega) (by omega) (by omega)).trans r1.g2,
       ((cv.keep G5.keep).putAt (bav (h.n+1+1) (by omega)) _).putAt (bav kL (by omega)) _,show g.n+2<h5.n by omega⟩
     ·refine⟨show hh.n≤h5.n by omega,fun k c1 e f h1 h2 h3 h4=>?_⟩
      have k1:k≠kL:=by rintro rfl;rw[JL] at h3;cases h3
      rw[get_put_old _ _ k1,get_put_old _ _ (by omega)]
      exact G5.keep.get k c1 e f (by omega) (by rw[bo2 k (by omega),bo k k1];exact h3) h4
    refine bq_intro (fun hcc=>?_) (fun hcc=>?_)
    ·have hz:c+1=seats:=by simp at hcc;omega
     simp -dsimp (maxSteps:=1000000) (disch:=try exact dx) only[wpS,wpT]
     exact⟨by rw[get_put_old _ _ (by omega)];exact dL,by rw[decide_eq_false (by omega)],fin _ (if_pos hz).symm⟩
    ·have hz:c+1≠seats:=by simp at hcc;omega
     simp -dsimp (maxSteps:=1000000) (disch:=try exact dx) only[wpS,wpT]
     exact⟨by rw[get_put_old _ _ (by omega)];exact dL,by rw[decide_eq_true (by omega)],fin _ (if_neg hz).symm⟩
   ·intro i hi
    have h1:=(S.num _ (claim_mem hi)).2
    have h2:=getD_nonneg lpos (cs.getD i noClaim).at_
    have h3:low.getD (cs.getD i noClaim).at_ 0≤low.sum:=le_sum low lpos _ (List.mem_of_getElem? (at_getD (by have:=(S.pos (claim_mem hi)).1;omega)))
    show(cs.getD i noClaim).s+((seats:Int) - low.sum).toNat≤1000
    omega
   ·rintro _ h' ⟨s,c,left,⟨A,ov,oc,JE,Jn,JL,J8,JS,J5,J9,Jacc,Jla,Jsum,Jat,Jz,Jc⟩,RE,Jcl⟩
    refine rangeEnd_two (i:=2) ?_ rfl ?_
    ·rw[←hkL,JL]
     split
     ·exact .inr rfl
     ·exact .inl rfl
    ·have Rk:=OK.bx
     rw[←hkL]
     obtain⟨F,tv,nT,B,Rat,Tsl,TT⟩:Fair m cs.length (fun i=>(cs.getD i noClaim).p) (fun i=>(cs.getD i noClaim).s) s ∧ ∃(tv:Value) (nT:Nat) (B:List Nat),RaceAt (raceOf cs m h3.n g.n av) h' s (left:Int) tv∧SlOf h' 1 tv B.length (B.map fun i=>ptr (2*(cs.getD i noClaim).k) 0)∧((left=0∧B = [])∨(0<left∧left<B.length∧B=(raceOf cs m h3.n g.n av).best s)):=by
      obtain⟨F,⟨z,ra⟩|⟨z1,z2,tv,ra,sl⟩⟩:=RE
      ·exact⟨F,.slice none 0 0,0,[],by rw[z];exact ra,SlOf.nil _ (by omega),.inl ⟨z,rfl⟩⟩
      ·exact⟨F,tv,0,_,ra,sl,.inr ⟨z1,z2,rfl⟩⟩
     obtain⟨HF,hHF⟩ : ∃H,H=h'.put kL .dead:=⟨_,rfl⟩
     rw[←hHF]
     have gt:=(show HF.ext.get g.n=some (.cells [tv] 0 none) by rw[hHF,get_put_old _ _ (by omega)];exact Rat.gt)
     have FT:SlOf HF 1 tv B.length (B.map fun i=>ptr (2*(cs.getD i noClaim).k) 0):=by rw[hHF];exact Tsl.keep (deadKeep JL)
     have FN:=FT.now
     simp -dsimp (maxSteps:=1000000) (disch:=try exact dx) only[wpS,reduceEqDiff,ld149,row_of gt,FN.len sl149]
     have Blt : ∀b∈B,b<cs.length:=by
      rcases TT with⟨_,h1⟩|⟨_,_,h1⟩
      ·rw[h1];intro b hb;cases hb
      ·rw[h1];exact(best_ok _ _).lt
     have Bl:B.length≤60:=by
      rcases TT with⟨_,h1⟩|⟨_,_,h1⟩
      ·rw[h1];simp
      ·have h2:=S.len
       have h3:=asc_len B 0 cs.length (by rw[h1];exact(best_ok _ _).asc) fun y hy=>⟨by omega,Blt y hy⟩
       omega
     have F8:=(show HF.ext.get (h.n+1)=some (.cells [blkV ks people.length,.slice none 0 0,.int .i64 0] 0 none) by rw[hHF,get_put_old _ _ (by omega)];exact J8)
     have FC : ∀b,b<cs.length→HF.ext.get (cs.getD b noClaim).k=some (.cells (claimC m (cs.getD b noClaim).at_ (cs.getD b noClaim).p (s b)) 0 none)∧(cs.getD b noClaim).k<HF.n∧(cs.getD b noClaim).k≠h.n+1:=fun b hb=>by
      have h1:=S.lo _ (claim_mem hb)
      have h2:=(S.cl _ (claim_mem hb)).2.1
      refine⟨?_,?_,by omega⟩
      ·rw[hHF,get_put_old _ _ (by omega)];exact Rat.gc b hb
      ·rw[hHF];show _<h'.n;omega
     have Fn:kL<HF.n:=by rw[hHF];exact Jn
     refine loop (fun m3 fr gg => ∃(jx:Nat) (w:Value),jx+m3=B.length∧Mem (h.n+1) HF gg∧gg.ext.get (h.n+1)=some (.cells [blkV ks people.length,w,.int .i64 0] 0 none)∧Acc gg HF.n 1 w jx ((B.take jx).map fun i=>KN (cs.getD i noClaim).at_)∧fget fr 8=some (ptr (2*(h.n+1)) 0)∧fget fr 9=some (ptr (2*(h.n+1+1)) 0)∧fget fr 12=some (ptr (2*h3.n) 0)∧fget fr 15=some (ptr (2*g.n) 0)∧fget fr 128=some tv∧fget fr 129=some (KN B.length)∧fget fr 130=some (KN jx)) B.length
      ⟨0,.slice none 0 0,by omega,Mem.refl _ _,F8,Acc.nil _ _ (by omega),by simp[f8],by simp[f9],by simp[f12],by simp,by simp,by simp,by simp⟩ ?_
     clear f2 f3 f5 f8 f9 f12 f59 f60 f61
     rintro m3 fr gg ⟨jx,w,hjx,M,U8,UA,f8,f9,f12,f15,f128,f129,f130⟩
     have Mn:=M.n
     have UT:=FT.keep (M.keep0 F8)
     have UN:=UT.now
     have uc1:=UA.sl.cells
     have uc2:=UA.sl.cok
     by_cases cj:jx<B.length
     ·obtain⟨b,hb⟩ : ∃b,B[jx]?=some b:=⟨_,List.getElem?_eq_getElem cj⟩
      obtain⟨fc1,fc2,fc3⟩:=FC b (Blt b (List.mem_of_getElem? hb))
      have lB:=UN.ld (P:=prog) (t:=152) (c:=jx) (by rw[List.length_map];omega) ag152
      rw[List.getElem?_map,hb] at lB
      obtain⟨x,hxx⟩ : ∃x,x=cs.getD b noClaim:=⟨_,rfl⟩
      have lB:load prog gg 152 (elemAddr tv jx)=some (ptr (2*x.k) 0):=by rw[hxx];exact lB
      rw[←hxx] at fc1 fc2 fc3
      have cx:=(M.get x.k fc2 fc3).trans fc1
      have cE:Ext (gg.upTo HF.n) gg:=ext_upTo (by omega)
      obtain⟨v',h5,hap,A5,G5,E5⟩:=UA.app1 (P:=prog) (t:=29) ap29 (x:=KN x.at_) rfl (by omega) (by omega) cE (Nat.le_refl _)
      have G5n:=G5.n
      have d8:=(E5.get (h.n+1) (show h.n+1<HF.n by omega)).trans U8
      have vc1:=A5.sl.cells
      have vc2:=A5.sl.cok
      have NN:Ext gg (gg.new (.cells [KN x.at_] 1 none)):=(Ext.refl gg).new _
      have e2:IntKind.i64.wrap ((jx:Int)+1)=((jx+1:Nat):Int):=by rw[wrap_i64 (by omega)];omega
      simp -dsimp (maxSteps:=1000000) (disch:=try exact dx) only[wpS,wpT,reduceEqDiff,f128,f129,f130,UN.idx es149 cj,lB]
      refine drawn [(1,[8]),(6,[8])] (by kernel_rfl) (by kernel_rfl) rfl ?_
      simp -dsimp (maxSteps:=1000000) (disch:=try exact dx) only[wpS,wpT,reduceEqDiff,reduceLeDiff,reduceAdd,st29,ld3,bs29,ld29,fa156_0,fa154_0,fa33_1,ba29_29,f8,row_of U8,row_of cx,claimC_0,hap,d8,vc1,vc2]
      refine⟨wpSteady_c2 (wpSteady_one rfl rfl rfl rfl (steady_load (av:=ptr (2*(h.n+1)) 1) (v:=w) (by simp) (ld_cell U8 rfl) (ld_cell (NN.kept (by omega) U8) rfl))) (wpSteady_one rfl rfl rfl rfl (steady_load (av:=ptr (2*x.k) 0) (v:=KN x.at_) (by simp) (ld_cellN cx rfl) (ld_cellN (NN.kept (by omega) cx) rfl))),?_⟩
      simp -dsimp (maxSteps:=1000000) (disch:=try exact dx) only[wpS,wpT,reduceEqDiff,reduceAdd,f130,e2]
      refine⟨m3 - 1,by omega,jx+1,v',by omega,Mem.put ⟨by omega,E5.base.trans M.base,fun k hk hne=>(E5.get k hk).trans (M.get k hk hne),fun f hf=>(E5.fams f hf).trans (M.fams f hf)⟩ (.inr rfl) _,get_put_same _ _ rfl,?_,by simp[f8],by simp[f9],by simp[f12],by simp[f15],by simp[f128],by simp[f129],by simp⟩
      rw[take_one_more hb,List.map_append,List.map_cons,List.map_nil,←hxx]
      exact A5.put d8 _
     ·have U15:=(M.get g.n (by omega) (by omega)).trans gt
      simp -dsimp (maxSteps:=1000000) (disch:=try exact dx) only[wpS,wpT,reduceEqDiff,ld149,f129,f130,f15,row_of U15,UN.len sl149]
      obtain rfl:jx=B.length:=by omega
      rw[List.take_of_length_le (Nat.le_refl _)] at UA
      have Ur:=(M.get h3.n (by omega) (by omega)).trans (show HF.ext.get h3.n=some (.cells [KN m,av,KI left] 0 none) by rw[hHF,get_put_old _ _ (by omega)];exact Rat.gr)
      have US:=(M.get ks (by omega) (by omega)).trans (show HF.ext.get ks=some (.cells (A.map KI) 1 none) by rw[hHF,get_put_old _ _ (by omega)];exact JS)
      have U9:=(M.get (h.n+1+1) (by omega) (by omega)).trans (show HF.ext.get (h.n+1+1)=some (.cells [ov] 0 none) by rw[hHF,get_put_old _ _ (by omega)];exact J9)
      have EF:Ext h HF:=by rw[hHF];exact JE.put (by omega) _
      have Eg:Ext h gg:=Mem.ext EF (by omega) M
      have oc1:=Jacc.sl.cells
      have oc2:=Jacc.sl.cok
      refine bq_cut (fun fr2 g2=>Ext h g2∧g2.n=gg.n∧g2.ext.get (h.n+1)=some (.cells [blkV ks people.length,w,KI left] 0 none)∧g2.ext.get (h.n+1+1)=some (.cells [ov] 0 none)∧g2.ext.get ks=some (.cells (A.map KI) 1 none)∧SlOf g2 1 w B.length (B.map fun i=>KN (cs.getD i noClaim).at_)∧fget fr2 8=some (ptr (2*(h.n+1)) 0)∧fget fr2 9=some (ptr (2*(h.n+1+1)) 0)) (fun hc=>?_) (fun hc=>?_) ?_
      ·simp -dsimp (maxSteps:=1000000) (disch:=try exact dx) only[wpS,wpT,reduceEqDiff,reduceLeDiff,reduceAdd,ld3,fa151_2,st3,fa33_2,f8,f12,row_of Ur,U8]
       exact⟨Eg.put (by omega) _,rfl,get_put_same _ _ rfl,by rw[get_put_old _ _ (by omega)];exact U9,by rw[get_put_old _ _ (by omega)];exact US,UA.sl.keep ((Ext.refl gg).keep.put U8 _),by simp[f8],by simp[f9]⟩
      ·have hB:B = []:=by
        have h1 : ¬(0:Int)<(B.length:Int):=by simpa using hc
        exact List.length_eq_zero_iff.1 (by omega)
       have h0:left=0:=by
        rcases TT with⟨h1,_⟩|⟨h1,h2,_⟩
        ·exact h1
        ·rw[hB] at h2;simp at h2
       simp -dsimp (maxSteps:=1000000) (disch:=try exact dx) only[wpS]
       exact⟨Eg,rfl,by rw[h0];exact U8,U9,US,UA.sl,by simp[f8],by simp[f9]⟩
      ·rintro fr2 g2 ⟨V0,Vn,V8,V9,VS,VT,f8,f9⟩
       simp -dsimp (maxSteps:=1000000) (disch:=try exact dx) only[wpS]
       refine drawn [(1,[3])] (by kernel_rfl) (by kernel_rfl) rfl ?_
       simp -dsimp (maxSteps:=1000000) (disch:=try exact dx) only[wpS,wpT,reduceEqDiff,reduceLeDiff,reduceAdd,st33,st29,ld29,ld33,f8,f9,row_of V8,row_of V9,V8,V9,uc2,oc1,oc2,tk3r]
       refine⟨wpSteady_one rfl rfl rfl rfl (steady_load (av:=ptr (2*(h.n+1+1)) 0) (v:=ov) (by simp[f9]) (ld_cell V9 rfl) (ld_cell (by rw[get_put_old _ _ (by omega)];exact V9) rfl)),?_⟩
       simp -dsimp (maxSteps:=1000000) (disch:=try exact dx) only[wpS,wpT,reduceEqDiff,reduceLeDiff,reduceAdd,ld29,ld33,f8,f9]
       rw[←hlow]
       exact⟨(V0.put (by omega) _).put (by omega) _,cs,s,c,left,A,B,ks,w,ov,rfl,((blk_sl VS (by omega) (by rw[List.length_map];exact Jla) n1).put_ne (by omega) _).put_ne (by omega) _,VT.keep (((Ext.refl g2).keep.put V8 _).put (by rw[get_put_old _ _ (by omega)];exact V9) _),Jla,Jsum,Jat,Jz,S.at_,S.num,F,TT,by omega⟩
end Go.Id

namespace Go.Id
open Go
structure ClaimsOf (people low:List Int) (cs:List Claim):Prop where
 at_:cs.map Claim.at_=(List.range people.length).filter (posR people)
 num : ∀c∈cs,c.p=(people.getD c.at_ 0).toNat∧c.s=(low.getD c.at_ 0).toNat
structure Seats (people low W:List Int) (cs:List Claim) (s:Nat→Nat):Prop where
 at_ : ∀i,i<cs.length→W.getD (cs.getD i noClaim).at_ 0=s i
 z : ∀j,people.getD j 0≤0→W.getD j 0=low.getD j 0
theorem ClaimsOf.find {people low:List Int} {cs:List Claim} (C:ClaimsOf people low cs) {j:Nat} (hj:j<people.length) (hp:0<people.getD j 0) : ∃i,i<cs.length∧(cs.getD i noClaim).at_=j:=by
 have h:j∈cs.map Claim.at_:=by
  rw[C.at_,List.mem_filter,List.mem_range]
  exact⟨hj,decide_eq_true hp⟩
 obtain⟨c,hc,rfl⟩:=List.mem_map.1 h
 obtain⟨i,hi⟩:=List.getElem?_of_mem hc
 exact⟨i,(List.getElem?_eq_some_iff.1 hi).1,by rw[List.getD_eq_getElem?_getD,hi];rfl⟩
theorem last_claim {m:Nat} {people low W:List Int} {cs:List Claim} {s:Nat→Nat} (C:ClaimsOf people low cs) (S:Seats people low W cs s) (l0 : ∀x∈low,0≤x) {x:Seat} (hx:x∈lastS (regsOf people W low people.length)) :
  ∃i,i<cs.length∧(cs.getD i noClaim).s<s i∧keyS m x=keyC m (cs.getD i noClaim).p (s i - 1):=by
 obtain⟨r,hr,⟨r1,r2⟩,rfl⟩:=lastS_mem.1 hx
 obtain⟨j,hj,rfl⟩:=List.mem_map.1 hr
 obtain⟨i,hi,rfl⟩:=C.find (List.mem_range.1 hj) r1
 obtain⟨n1,n2⟩:=C.num _ (claim_mem hi)
 have a:=S.at_ i hi
 have g:=getD_nonneg l0 (cs.getD i noClaim).at_
 dsimp only at r1 r2
 rw[a] at r2
 refine⟨i,hi,by omega,?_⟩
 unfold keyS keyC
 dsimp only
 rw[a,←n1,show((s i:Int) - 1).toNat=s i - 1 from by omega,Int.toNat_natCast]
theorem next_claim {m:Nat} {people low W:List Int} {cs:List Claim} {s:Nat→Nat} (C:ClaimsOf people low cs) (S:Seats people low W cs s) {x:Seat} (hx:x∈nextS (regsOf people W low people.length)) :
  ∃i,i<cs.length∧keyS m x=keyC m (cs.getD i noClaim).p (s i):=by
 obtain⟨r,hr,r1,rfl⟩:=nextS_mem.1 hx
 obtain⟨j,hj,rfl⟩:=List.mem_map.1 hr
 obtain⟨i,hi,rfl⟩:=C.find (List.mem_range.1 hj) r1
 obtain⟨n1,n2⟩:=C.num _ (claim_mem hi)
 have a:=S.at_ i hi
 refine⟨i,hi,?_⟩
 unfold keyS keyC
 dsimp only
 rw[a,←n1,Int.toNat_natCast,Int.toNat_natCast]
theorem fair_strict {m:Nat} {people low W:List Int} {cs:List Claim} {s:Nat→Nat} (C:ClaimsOf people low cs) (S:Seats people low W cs s) (l0 : ∀x∈low,0≤x)
  (F:Fair m cs.length (fun i=>(cs.getD i noClaim).p) (fun i=>(cs.getD i noClaim).s) s) {x y:Seat} (hx:x∈lastS (regsOf people W low people.length)) (hy:y∈nextS (regsOf people W low people.length)):ltK (keyS m y) (keyS m x):=by
 obtain⟨i,hi,h1,e1⟩:=last_claim (m:=m) C S l0 hx
 obtain⟨j,hj,e2⟩:=next_claim (m:=m) C S hy
 rw[e1,e2]
 exact F.2 i j hi hj h1
theorem seats_settled {people low W:List Int} {cs:List Claim} {s:Nat→Nat} (S:Seats people low W cs s) : ∀r∈regsOf people W low people.length,0<r.1∨r.2.1=r.2.2:=by
 intro r hr
 obtain⟨j,hj,rfl⟩:=List.mem_map.1 hr
 by_cases c:0<people.getD j 0
 ·exact .inl c
 ·exact .inr (S.z j (by omega))
theorem fair_cert {m:Nat} {people low W:List Int} {cs:List Claim} {s:Nat→Nat} (R:RegsOK (regsOf people W low people.length)) (hm:11≤m∧m≤15) (C:ClaimsOf people low cs) (S:Seats people low W cs s) (l0 : ∀x∈low,0≤x)
  (F:Fair m cs.length (fun i=>(cs.getD i noClaim).p) (fun i=>(cs.getD i noClaim).s) s):certB m (regsOf people W low people.length)=true :=
 (certB_iff R (by omega)).2 ⟨seats_settled S,fun _ hx _ hy=>ltK_asymm (fair_strict C S l0 F hx hy)⟩
theorem pos_low {n:Nat} {least:List Int} (h : ∀x∈least,0≤x) : ∀x∈leastOr n least,0≤x:=by
 unfold leastOr
 split
 ·intro x hx;have:=List.eq_of_mem_replicate hx;omega
 ·exact h
theorem low_len {n:Nat} {least:List Int} (h:least = []∨least.length=n):(leastOr n least).length=n:=by
 unfold leastOr
 split
 ·exact List.length_replicate
 ·rcases h with h|h
  ·contradiction
  ·exact h
theorem openErr_fine {people won least:List Int} {m:Nat} (q:quotaOK people=true) (lw:won.length=people.length) (rw' : ∀x∈won,0≤x∧x≤1000) (hm:11≤m∧m≤15) (ll:(leastOr people.length least).length=people.length)
  (lo:lowOK won (leastOr people.length least) people.length) (sm:1≤won.sum∧won.sum≤1000):openErr people won m least=0:=by
 unfold openErr
 have r1:inR 0 1000 won=true:=inR_iff.2 rw'
 have r2:inR 11 15 [(m:Int)]=true:=inR_iff.2 fun n hn=>by simp at hn;omega
 have r3:inR 1 1000 [won.sum]=true:=inR_iff.2 fun n hn=>by simp at hn;omega
 rw[if_neg (by simp[q]),if_neg (by simp[lw,r1]),if_neg (by simp[r2,ll]),if_neg (by simpa using lo),if_neg (by simp[r3])]
end Go.Id

namespace Go.Id
open Go
theorem rkE_seat {m:Nat} {x:Seat} (hm:11≤m∧m≤15) (h:SeatOK x):(rkE m x=0↔postZ m x.2.toNat=false):=by
 unfold rkE rankErr
 obtain⟨⟨p1,p2⟩,s1,s2⟩:=h
 have r1:inR 11 15 [(m:Int)]=true:=inR_iff.2 fun n hn=>by simp at hn;omega
 have r2:inR 0 1000 [x.2]=true:=inR_iff.2 fun n hn=>by simp at hn;omega
 have r3:inR 0 1000000000 [x.1.1]=true:=inR_iff.2 fun n hn=>by simp at hn;omega
 rw[r1,r2,r3,Int.toNat_natCast]
 cases postZ m x.2.toNat<;>simp
theorem nextF_fold (m:Int) : ∀(l:List Seat) (st:Rat×Bool),((l.foldl (nextF m) st).2=true↔st.2=true ∨ ∃x∈l,rkE m x≠0)∧(∀x∈l,rkE m x=0→rkQ m x≤(l.foldl (nextF m) st).1)∧st.1≤(l.foldl (nextF m) st).1 ∧
  ((l.foldl (nextF m) st).1=st.1 ∨ ∃x∈l,rkE m x=0∧(l.foldl (nextF m) st).1=rkQ m x)
 | [],st=>⟨by simp,by simp,Rat.le_refl,.inl rfl⟩
 | a :: l,st=>by
  obtain⟨h1,h2,h3,h4⟩:=nextF_fold m l (nextF m st a)
  rw[List.foldl_cons]
  by_cases c:rkE m a=0
  ·have e:nextF m st a=(qmax st.1 (rkQ m a),st.2):=by unfold nextF;rw[if_pos c]
   rw[e] at h1 h2 h3 h4 ⊢
   dsimp only at h1 h3 h4
   have m1:st.1≤qmax st.1 (rkQ m a)∧rkQ m a≤qmax st.1 (rkQ m a)∧(qmax st.1 (rkQ m a)=st.1∨qmax st.1 (rkQ m a)=rkQ m a):=by
    unfold qmax;split<;>grind
   refine⟨h1.trans ?_,fun x hx hz=>?_,by grind,?_⟩
   ·constructor
    ·rintro(h|⟨x,hx,hz⟩)
     ·exact .inl h
     ·exact .inr ⟨x,List.mem_cons_of_mem _ hx,hz⟩
    ·rintro(h|⟨x,hx,hz⟩)
     ·exact .inl h
     ·rcases List.mem_cons.1 hx with rfl|hx
      ·exact absurd c hz
      ·exact .inr ⟨x,hx,hz⟩
   ·rcases List.mem_cons.1 hx with rfl|hx
    ·grind
    ·exact h2 x hx hz
   ·rcases h4 with h4|⟨x,hx,hz,h4⟩
    ·rcases m1.2.2 with e2|e2
     ·exact .inl (h4.trans e2)
     ·exact .inr ⟨a,List.mem_cons_self,c,h4.trans e2⟩
    ·exact .inr ⟨x,List.mem_cons_of_mem _ hx,hz,h4⟩
  ·have e:nextF m st a=(st.1,true):=by unfold nextF;rw[if_neg c]
   rw[e] at h1 h2 h3 h4 ⊢
   dsimp only at h1 h3 h4
   refine⟨⟨fun _=>.inr ⟨a,List.mem_cons_self,c⟩,fun _=>h1.2 (.inl rfl)⟩,fun x hx hz=>?_,h3,?_⟩
   ·rcases List.mem_cons.1 hx with rfl|hx
    ·exact absurd hz c
    ·exact h2 x hx hz
   ·rcases h4 with h4|⟨x,hx,hz,h4⟩
    ·exact .inl h4
    ·exact .inr ⟨x,List.mem_cons_of_mem _ hx,hz,h4⟩
theorem lastF_fold (m:Int) : ∀(l:List Seat) (st:Rat×Bool),((l.foldl (lastF m) st).2=true↔st.2=true ∧ ∀x∈l,rkE m x≠0)∧(∀x∈l,rkE m x=0→(l.foldl (lastF m) st).1≤rkQ m x)∧(st.2=false→(l.foldl (lastF m) st).1≤st.1) ∧
  (((l.foldl (lastF m) st).1=st.1∧(l.foldl (lastF m) st).2=st.2) ∨ ∃x∈l,rkE m x=0∧(l.foldl (lastF m) st).1=rkQ m x)
 | [],st=>⟨by simp,by simp,fun _=>Rat.le_refl,.inl ⟨rfl,rfl⟩⟩
 | a :: l,st=>by
  obtain⟨h1,h2,h3,h4⟩:=lastF_fold m l (lastF m st a)
  rw[List.foldl_cons]
  by_cases c:rkE m a=0
  ·have e:lastF m st a=(if st.2=true∨rkQ m a<st.1 then rkQ m a else st.1,false):=by unfold lastF;rw[if_pos c]
   rw[e] at h1 h2 h3 h4 ⊢
   obtain⟨y,hy⟩ : ∃y,y=(if st.2=true∨rkQ m a<st.1 then rkQ m a else st.1):=⟨_,rfl⟩
   rw[←hy] at h1 h2 h3 h4 ⊢
   have m1:y≤rkQ m a∧(st.2=false→y≤st.1)∧(y=rkQ m a∨(y=st.1∧st.2=false)):=by
    rw[hy]
    cases hst:st.2
    ·by_cases c2:rkQ m a<st.1
     ·rw[if_pos (.inr c2)];exact⟨Rat.le_refl,fun _=>by grind,.inl rfl⟩
     ·rw[if_neg (by simp[c2])];exact⟨by grind,fun _=>Rat.le_refl,.inr ⟨rfl,rfl⟩⟩
    ·rw[if_pos (.inl rfl)];exact⟨Rat.le_refl,fun h=>absurd h (by simp),.inl rfl⟩
   clear hy
   dsimp only at h1 h3 h4
   have h3:=h3 rfl
   refine⟨?_,fun x hx hz=>?_,fun hs=>by have:=m1.2.1 hs;grind,?_⟩
   ·constructor
    ·intro h;exact absurd (h1.1 h).1 (by simp)
    ·rintro⟨_,h⟩;exact absurd c (h a List.mem_cons_self)
   ·rcases List.mem_cons.1 hx with rfl|hx
    ·grind
    ·exact h2 x hx hz
   ·rcases h4 with⟨h4,h5⟩|⟨x,hx,hz,h4⟩
    ·rcases m1.2.2 with e2|⟨e2,e3⟩
     ·exact .inr ⟨a,List.mem_cons_self,c,h4.trans e2⟩
     ·exact .inl ⟨h4.trans e2,h5.trans e3.symm⟩
    ·exact .inr ⟨x,List.mem_cons_of_mem _ hx,hz,h4⟩
  ·have e:lastF m st a=st:=by unfold lastF;rw[if_neg c]
   rw[e] at h1 h2 h3 h4 ⊢
   refine⟨h1.trans ⟨fun h=>⟨h.1,fun x hx=>?_⟩,fun h=>⟨h.1,fun x hx=>h.2 x (List.mem_cons_of_mem _ hx)⟩⟩,fun x hx hz=>?_,h3,?_⟩
   ·rcases List.mem_cons.1 hx with rfl|hx
    ·exact c
    ·exact h.2 x hx
   ·rcases List.mem_cons.1 hx with rfl|hx
    ·exact absurd hz c
    ·exact h2 x hx hz
   ·rcases h4 with h4|⟨x,hx,hz,h4⟩
    ·exact .inl h4
    ·exact .inr ⟨x,List.mem_cons_of_mem _ hx,hz,h4⟩
theorem rank_post {m p s:Nat} (hm:m≠13) (h:postZ m s=false):rankQ m p s=(p:Rat) / postQ m s:=by
 have hn:postN m s≠0:=by intro e;unfold postZ at h;rw[e] at h;simp at h
 have hd:=postD_pos m s
 unfold rankQ postQ
 rw[if_neg hm,Rat.divInt_eq_div,Rat.divInt_eq_div,Rat.divInt_eq_div]
 have h1:(0:Rat)<((postN m s:Int):Rat):=by exact_mod_cast (by omega:0<postN m s)
 have h2:(0:Rat)<((postD m s:Int):Rat):=by exact_mod_cast hd
 have h3:(((p:Nat):Int):Rat)=(p:Rat):=rfl
 rw[h3]
 grind
theorem post_pos {m s:Nat} (h:postZ m s=false):0<postQ m s:=by
 have hn:postN m s≠0:=by intro e;unfold postZ at h;rw[e] at h;simp at h
 have hd:=postD_pos m s
 have h1:(0:Rat)<((postN m s:Int):Rat):=by exact_mod_cast (by omega:0<postN m s)
 have h2:(0:Rat)<((postD m s:Int):Rat):=by exact_mod_cast hd
 unfold postQ
 rw[Rat.divInt_eq_div,Rat.lt_div_iff h2]
 grind
theorem post_zero {m s:Nat} (h:postZ m s=true):postQ m s=0:=by
 have hn:postN m s=0:=by unfold postZ at h;simpa using h
 unfold postQ
 rw[hn];simp
end Go.Id

namespace Go.Id
open Go
theorem at_between {m:Nat} (hm:11≤m∧m≤15) {t:Rat} {w:Nat} (hw:w≤1000) (h1:t<postQ m w) (h2:w≠0→postQ m (w - 1)<t):atLow m t=w∧atHigh m t=w:=by
 have lo : ∀s,s<w→postQ m s<t:=fun s hs=>by
  have a:=postQ_le hm (s:=s) (t:=w - 1) (by omega)
  have b:=h2 (by omega)
  grind
 constructor
 ·refine firstT_eq (by omega) (fun s hs=>?_) (fun _=>step_zero.2 (by grind))
  cases c:stepP 0 m t s with
  | false=>rfl
  | true=>exact absurd (step_zero.1 c) (by have:=lo s hs;grind)
 ·refine firstT_eq (by omega) (fun s hs=>?_) (fun _=>step_one.2 h1)
  cases c:stepP 1 m t s with
  | false=>rfl
  | true=>exact absurd (step_one.1 c) (by have:=lo s hs;grind)
theorem rank_qb {m p s:Nat} (hm:m≠13) (hp:p≤1000000000) (hs:s≤1000) (h:postZ m s=false):QB 41 (rankQ m p s):=by
 have hn:postN m s≠0:=by intro e;unfold postZ at h;rw[e] at h;simp at h
 have b1:=postN_le (m:=m) hs
 have b2:=postD_le (m:=m) hs
 unfold rankQ
 rw[if_neg hm]
 refine QB.mul (a:=30) (b:=11) (QB.divInt (by omega) ?_ ?_) (QB.divInt (by decide) ?_ (by decide))
 ·rw[Int.natAbs_natCast];exact Nat.le_trans hp (by decide)
 ·rw[Int.natAbs_natCast];exact Nat.le_trans b1 (by decide)
 ·rw[Int.natAbs_natCast];exact Nat.le_trans b2 (by decide)
noncomputable def loB (m:Nat) (rs:List Reg):Rat:=(brN m rs).1
noncomputable def hiB (m:Nat) (rs:List Reg):Rat:=if (brL m rs).2=true then (brN m rs).1+7 else (brL m rs).1
structure BrIn (m:Nat) (rs:List Reg):Prop where
 R:RegsOK rs
 m1:11≤m∧m≤15
 m3:m≠13
 z : ∀r∈rs,r.2.2=0
 st : ∀x∈lastS rs,∀y∈nextS rs,ltK (keyS m y) (keyS m x)
theorem BrIn.scarce {m:Nat} {rs:List Reg} (B:BrIn m rs) (h:(brN m rs).2=true):brL m rs=(0,true):=by
 obtain⟨R,m1,m3,z,st⟩:=B
 obtain⟨a1,_⟩:=nextF_fold m (nextS rs) (0,false)
 obtain⟨b1,_,_,b4⟩:=lastF_fold m (lastS rs) (0,true)
 have h:((nextS rs).foldl (nextF m) (0,false)).2=true:=h
 rcases a1.1 h with h|⟨y,hy,hz⟩
 ·cases h
 have ey:=rkE_seat m1 (next_seat R hy)
 have zy:postZ m y.2.toNat=true:=by
  cases c:postZ m y.2.toNat with
  | true=>rfl
  | false=>exact absurd (ey.2 c) hz
 have all : ∀x∈lastS rs,rkE m x≠0:=by
  intro x hx e
  have ex:=(rkE_seat m1 (last_seat R hx)).1 e
  have l:=st x hx y hy
  unfold ltK keyS at l
  dsimp only at l
  rw[Int.toNat_natCast,zy,ex] at l
  rcases l with⟨l,_⟩|⟨l,_⟩
  ·cases l
  ·cases l
 have e:((lastS rs).foldl (lastF m) (0,true)).2=true:=b1.2 ⟨rfl,all⟩
 rcases b4 with⟨b4,b5⟩|⟨x,hx,e2,_⟩
 ·exact Prod.ext b4 b5
 ·exact absurd e2 (all x hx)
theorem fin_next {m:Nat} {rs:List Reg} (R:RegsOK rs) (m1:11≤m∧m≤15) (h:(brN m rs).2=false) {y:Seat} (hy:y∈nextS rs):postZ m y.2.toNat=false:=by
 obtain⟨a1,_⟩:=nextF_fold m (nextS rs) (0,false)
 have h:((nextS rs).foldl (nextF m) (0,false)).2=false:=h
 cases c:postZ m y.2.toNat with
 | false=>rfl
 | true =>
  have ne:rkE m y≠0:=fun e=>by have:=(rkE_seat m1 (next_seat R hy)).1 e;rw[c] at this;cases this
  rw[a1.2 (.inr ⟨y,hy,ne⟩)] at h;cases h
theorem BrIn.bounds {m:Nat} {rs:List Reg} (B:BrIn m rs) (h:(brN m rs).2=false):0≤loB m rs∧loB m rs<hiB m rs∧QB 41 (loB m rs)∧QB 45 (hiB m rs):=by
 obtain⟨R,m1,m3,z,st⟩:=B
 obtain⟨a1,a2,a3,a4⟩:=nextF_fold m (nextS rs) (0,false)
 obtain⟨b1,b2,_,b4⟩:=lastF_fold m (lastS rs) (0,true)
 have q1:QB 41 (loB m rs):=by
  rcases a4 with a4|⟨y,hy,_,a4⟩
  ·show QB 41 ((nextS rs).foldl (nextF m) (0,false)).1
   rw[a4];exact QB.mono QB.zero (by omega)
  ·show QB 41 ((nextS rs).foldl (nextF m) (0,false)).1
   have so:=next_seat R hy
   rw[a4];exact rank_qb (by rw[Int.toNat_natCast];exact m3) (by have:=so.1;omega) (by have:=so.2;omega) (by rw[Int.toNat_natCast];exact fin_next R m1 h hy)
 by_cases c:(brL m rs).2=true
 ·have e:hiB m rs=loB m rs+7:=if_pos c
  refine⟨a3,by rw[e];grind,q1,?_⟩
  rw[e]
  exact QB.add (a:=41) (b:=3) q1 ⟨by decide,by decide⟩
 ·have e:hiB m rs=((lastS rs).foldl (lastF m) (0,true)).1:=if_neg c
  rcases b4 with⟨_,b5⟩|⟨x,hx,e2,b4⟩
  ·exact absurd b5 c
  have so:=last_seat R hx
  have zx:=(rkE_seat m1 so).1 e2
  have rx:rkQ m x=((x.1.1.toNat:Nat):Rat) / postQ m x.2.toNat:=by
   show rankQ (m:Int).toNat x.1.1.toNat x.2.toNat=_
   rw[Int.toNat_natCast];exact rank_post m3 zx
  have px:=post_pos zx
  have p1:(0:Rat)<((x.1.1.toNat:Nat):Rat):=by exact_mod_cast (by have:=so.1;omega:0<x.1.1.toNat)
  have rpos:0<rkQ m x:=by rw[rx,Rat.lt_div_iff px];grind
  rw[b4] at e
  refine⟨a3,?_,q1,?_⟩
  ·rw[e]
   rcases a4 with a4|⟨y,hy,_,a4⟩
   ·show((nextS rs).foldl (nextF m) (0,false)).1<_
    rw[a4];exact rpos
   ·show((nextS rs).foldl (nextF m) (0,false)).1<_
    rw[a4]
    have zy:=fin_next R m1 h hy
    have l:=st x hx y hy
    unfold ltK keyS rankX at l
    dsimp only at l
    rw[Int.toNat_natCast,zx,zy] at l
    rcases l with⟨_,l⟩|⟨_,l⟩
    ·cases l
    ·show rankQ (m:Int).toNat y.1.1.toNat y.2.toNat<rankQ (m:Int).toNat x.1.1.toNat x.2.toNat
     rw[Int.toNat_natCast]
     simpa using l
  ·rw[e]
   exact QB.mono (rank_qb (by rw[Int.toNat_natCast];exact m3) (by have:=so.1;omega) (by have:=so.2;omega) (by rw[Int.toNat_natCast];exact zx)) (by omega)
theorem BrIn.seat {m:Nat} {rs:List Reg} (B:BrIn m rs) (h:(brN m rs).2=false) {x:Rat} (h1:loB m rs<x) (h2:x<hiB m rs) {r:Reg} (hr:r∈rs) (hp:0<r.1) :
  ((r.1.toNat:Nat):Rat) / x<postQ m r.2.1.toNat∧(r.2.1.toNat≠0→postQ m (r.2.1.toNat - 1)<((r.1.toNat:Nat):Rat) / x):=by
 have lo0:=(B.bounds h).1
 obtain⟨R,m1,m3,z,st⟩:=B
 obtain⟨a1,a2,a3,a4⟩:=nextF_fold m (nextS rs) (0,false)
 obtain⟨b1,b2,_,b4⟩:=lastF_fold m (lastS rs) (0,true)
 have x0:0<x:=by grind
 have rb:=R.b r hr
 have p0:(0:Rat)<((r.1.toNat:Nat):Rat):=by exact_mod_cast (by omega:0<r.1.toNat)
 constructor
 ·have hy:(r,r.2.1)∈nextS rs:=nextS_mem.2 ⟨r,hr,hp,rfl⟩
  have zy:=fin_next R m1 h hy
  have py:=post_pos zy
  have le:=a2 _ hy ((rkE_seat m1 (next_seat R hy)).2 zy)
  have ey:rkQ m (r,r.2.1)=((r.1.toNat:Nat):Rat) / postQ m r.2.1.toNat:=by
   show rankQ (m:Int).toNat r.1.toNat r.2.1.toNat=_
   rw[Int.toNat_natCast];exact rank_post m3 zy
  rw[ey] at le
  have lt:((r.1.toNat:Nat):Rat) / postQ m r.2.1.toNat<x:=Std.lt_of_le_of_lt le h1
  rw[Rat.div_lt_iff py] at lt
  rw[Rat.div_lt_iff x0]
  grind
 ·intro hw
  have zr:=z r hr
  have hx:(r,r.2.1 - 1)∈lastS rs:=lastS_mem.2 ⟨r,hr,⟨hp,by omega⟩,rfl⟩
  have e1:(r.2.1 - 1).toNat=r.2.1.toNat - 1:=by omega
  cases c:postZ m (r.2.1.toNat - 1) with
  | true =>
   rw[post_zero c,Rat.lt_div_iff x0]
   grind
  | false =>
   have px:=post_pos c
   have e0:rkE m (r,r.2.1 - 1)=0:=(rkE_seat m1 (last_seat R hx)).2 (by dsimp only;rw[e1];exact c)
   have le:=b2 _ hx e0
   have cl : ¬(brL m rs).2=true:=fun e=>(b1.1 e).2 _ hx e0
   have eh:hiB m rs=((lastS rs).foldl (lastF m) (0,true)).1:=if_neg cl
   rw[eh] at h2
   have ex:rkQ m (r,r.2.1 - 1)=((r.1.toNat:Nat):Rat) / postQ m (r.2.1.toNat - 1):=by
    show rankQ (m:Int).toNat r.1.toNat (r.2.1 - 1).toNat=_
    rw[Int.toNat_natCast,e1];exact rank_post m3 c
   rw[ex] at le
   have lt:x<((r.1.toNat:Nat):Rat) / postQ m (r.2.1.toNat - 1):=Std.lt_of_lt_of_le h2 le
   rw[Rat.lt_div_iff px] at lt
   rw[Rat.lt_div_iff x0]
   grind
theorem at_seats {m:Nat} {c A:List Int} {x:Rat} (m1:11≤m∧m≤15) (m3:m≠13) (la:A.length=c.length) (hx:0<x) (qx:QB 200 x) (hc : ∀n∈c,0≤n∧n≤1000000000) (hA : ∀i,i<c.length→0≤A.getD i 0∧A.getD i 0≤1000)
  (hz : ∀i,i<c.length→c.getD i 0=0→A.getD i 0=0)
  (hb : ∀i,i<c.length→0<c.getD i 0→(((c.getD i 0).toNat:Nat):Rat) / x<postQ m (A.getD i 0).toNat∧((A.getD i 0).toNat≠0→postQ m ((A.getD i 0).toNat - 1)<(((c.getD i 0).toNat:Nat):Rat) / x)) :
  atE m x c=0∧atA m x c=A.map KI∧atB m x c=A.map KI:=by
 have reg : ∀i,i<c.length→atReg m x (c.getD i 0)=(0,A.getD i 0,A.getD i 0):=by
  intro i hi
  have hn:=hc _ (List.mem_of_getElem? (at_getD hi))
  have ha:=hA i hi
  obtain⟨n,hnn⟩ : ∃n,n=c.getD i 0:=⟨_,rfl⟩
  have q:QW ((n:Rat) / x):=qw_bits (QB.div (QB.int (k:=30) (by rw[hnn];exact Nat.le_trans (by omega:(c.getD i 0).natAbs≤1000000000) (by decide))) qx (by grind)) (by omega)
  have e:atT m x n=some ((n:Rat) / x):=by unfold atT;rw[if_pos q,if_neg m3]
  rw[←hnn] at hn ⊢
  unfold atReg
  rw[e]
  dsimp only
  by_cases c0:n=0
  ·rw[if_pos c0,hz i hi (by omega)]
  ·rw[if_neg c0]
   obtain⟨b1,b2⟩:=hb i hi (by omega)
   have en:(((c.getD i 0).toNat:Nat):Rat)=(n:Rat):=by
    have:((n.toNat:Nat):Int)=n:=by omega
    rw[←hnn,←Rat.intCast_natCast,this]
   rw[en] at b1 b2
   obtain⟨e1,e2⟩:=at_between m1 (by omega) b1 b2
   rw[e1,e2,if_neg (by omega)]
   have:(((A.getD i 0).toNat:Nat):Int)=A.getD i 0:=by omega
   rw[this]
 refine⟨atE_none fun y hy=>?_,?_,?_⟩
 ·obtain⟨i,hi⟩:=List.getElem?_of_mem hy
  have il:=(List.getElem?_eq_some_iff.1 hi).1
  have e:=reg i il
  rw[show c.getD i 0=y from by rw[List.getD_eq_getElem?_getD,hi];rfl] at e
  rw[e]
 ·unfold atA
  refine List.ext_getElem? fun i=>?_
  rw[List.getElem?_map,List.getElem?_map]
  by_cases hi:i<c.length
  ·rw[at_getD hi,at_getD (by omega)]
   show some (KI (atReg m x (c.getD i 0)).2.1)=_
   rw[reg i hi];rfl
  ·rw[List.getElem?_eq_none (by omega),List.getElem?_eq_none (by omega)];rfl
 ·unfold atB
  refine List.ext_getElem? fun i=>?_
  rw[List.getElem?_map,List.getElem?_map]
  by_cases hi:i<c.length
  ·rw[at_getD hi,at_getD (by omega)]
   show some (KI (atReg m x (c.getD i 0)).2.2)=_
   rw[reg i hi];rfl
  ·rw[List.getElem?_eq_none (by omega),List.getElem?_eq_none (by omega)];rfl
end Go.Id

namespace Go.Id
open Go
set_option maxHeartbeats 16000000
structure Award (m seats:Nat) (people low:List Int) (cs:List Claim) (s:Nat→Nat) (A:List Int) (B:List Nat) (left:Nat):Prop where
 C:ClaimsOf people low cs
 S:Seats people low A cs s
 len:A.length=people.length
 F:Fair m cs.length (fun i=>(cs.getD i noClaim).p) (fun i=>(cs.getD i noClaim).s) s
 T:(left=0∧B = [])∨(0<left∧left<B.length∧B=bestN (fun i=>keyC m (cs.getD i noClaim).p (s i)) cs.length)
 sum:A.sum+left=seats
def tiedL (cs:List Claim) (B:List Nat):List Int:=B.map fun i=>((cs.getD i noClaim).at_:Int)
theorem award_ok {h:IH} {vp vl:Value} {seats m:Nat} {people least:List Int} (hp:SlOf h 1 vp people.length (people.map KI)) (hl:SlOf h 1 vl least.length (least.map KI)) (c1:quotaOK people=true) (c2:1≤seats∧seats≤1000) (c3:11≤m∧m≤15)
  (c4:least = []∨(least.length=people.length∧(∀x∈least,0≤x)∧least.sum≤seats)) :
  WV Proofs.Tryz.prog (.func (.func 23) #[] #[]) [vp,KI seats,KN m,vl] h fun r h'=>Ext h h' ∧ ∃(cs:List Claim) (s:Nat→Nat) (A:List Int) (B:List Nat) (left:Nat) (v w:Value),r=.tuple #[.agg #[v,w,KI left],KI 0]∧SlOf h' 1 v people.length (A.map KI)∧SlOf h' 1 w B.length ((tiedL cs B).map KI) ∧
   Award m seats people (leastOr people.length least) cs s A B left:=by
 refine enter (nt:=24) (rs:=[.cell 8 33,.tmp 9]) Proofs.Tryz.func23 rfl rfl rfl (by simp) ?_
 simp -dsimp (maxSteps:=1000000) (disch:=try exact dx) only[wpS,Nat.reduceEqDiff,Nat.reduceAdd,zc33]
 obtain⟨H0,hH0,n0,E0,g0⟩:=boxed1 h [.slice none 0 0,.slice none 0 0,KI 0]
 rw[←hH0]
 clear hH0
 refine call (run_walk (hp.keep E0.keep) (hl.keep E0.keep) c1 c2 c3 c4) ?_
 rintro _ h1 ⟨X1,cs,s,c,left,A,B,ks,w,ov,rfl,s1,s2,q1,q2,q3,q4,q5,q6,q7,q8,q9⟩
 have m1:=X1.n
 have kg:=X1.kept (by omega) g0
 have b1:=s1.cells
 have b2:=s1.cok
 have b3:=s2.cells
 have b4:=s2.cok
 obtain⟨H2,hH2,n2,E2,g2⟩:=boxed h1 [.slice none 0 0,.slice none 0 0,KI 0] [blkV ks people.length,w,KI left]
 simp -dsimp (maxSteps:=1000000) (disch:=try exact dx) only[wpS,wpT,Nat.reduceEqDiff,Nat.reduceLeDiff,Nat.reduceAdd,zc33,st33,ld33,b2,b4]
 rw[←hH2]
 clear hH2
 have kg2:=E2.kept (by omega) kg
 simp -dsimp (maxSteps:=1000000) (disch:=try exact dx) only[wpS,wpT,Nat.reduceEqDiff,Nat.reduceLeDiff,Nat.reduceAdd,ld33,b2,b4,kg,tk3r]
 refine⟨(E0.trans (X1.trans E2)).put (by omega) _,cs,s,A,B,left,_,_,rfl,(s1.keep E2.keep).keep ((Ext.refl H2).keep.put kg2 _),?_,⟨⟨q5,q6⟩,⟨q3,q4⟩,q1,q7,q8,by omega⟩⟩
 have e:(tiedL cs B).map KI=B.map fun i=>KN (cs.getD i noClaim).at_:=by unfold tiedL;rw[List.map_map];rfl
 rw[e]
 exact(s2.keep E2.keep).keep ((Ext.refl H2).keep.put kg2 _)
theorem sum_getD_le : ∀(l:List Int),(∀x∈l,0≤x) → ∀i,l.getD i 0≤l.sum
 | [],_,i=>by simp
 | a :: l,h,i=>by
  have h1:=h a List.mem_cons_self
  have h2:=sum_nonneg l fun y hy=>h y (List.mem_cons_of_mem _ hy)
  cases i with
  | zero=>rw[List.getD_cons_zero,List.sum_cons];omega
  | succ i =>
   have:=sum_getD_le l (fun y hy=>h y (List.mem_cons_of_mem _ hy)) i
   rw[List.getD_cons_succ,List.sum_cons];omega
theorem Award.get {m seats:Nat} {people low:List Int} {cs:List Claim} {s:Nat→Nat} {A:List Int} {B:List Nat} {left:Nat} (a:Award m seats people low cs s A B left) (l0 : ∀x∈low,0≤x) {j:Nat} (hj:j<people.length):0≤low.getD j 0∧low.getD j 0≤A.getD j 0:=by
 have g:=getD_nonneg l0 j
 by_cases c:0<people.getD j 0
 ·obtain⟨i,hi,rfl⟩:=a.C.find hj c
  have h1:=(a.C.num _ (claim_mem hi)).2
  have h2:=a.S.at_ i hi
  have h3:=a.F.1 i hi
  dsimp only at h3
  omega
 ·rw[a.S.z j (by omega)];omega
theorem Award.pos {m seats:Nat} {people low:List Int} {cs:List Claim} {s:Nat→Nat} {A:List Int} {B:List Nat} {left:Nat} (a:Award m seats people low cs s A B left) (l0 : ∀x∈low,0≤x) : ∀x∈A,0≤x:=by
 intro x hx
 obtain⟨i,hi⟩:=List.getElem?_of_mem hx
 have il:=(List.getElem?_eq_some_iff.1 hi).1
 have:=a.get l0 (j:=i) (by rw[←a.len];exact il)
 rw[show A.getD i 0=x from by rw[List.getD_eq_getElem?_getD,hi];rfl] at this
 omega
theorem Award.le {m seats:Nat} {people low:List Int} {cs:List Claim} {s:Nat→Nat} {A:List Int} {B:List Nat} {left:Nat} (a:Award m seats people low cs s A B left) (l0 : ∀x∈low,0≤x) : ∀x∈A,0≤x∧x≤seats:=by
 intro x hx
 have p:=a.pos l0
 obtain⟨i,hi⟩:=List.getElem?_of_mem hx
 have h1:=sum_getD_le A p i
 rw[show A.getD i 0=x from by rw[List.getD_eq_getElem?_getD,hi];rfl] at h1
 have:=a.sum
 exact⟨p x hx,by omega⟩
end Go.Id

namespace Go.Id
open Go
theorem equalI_ok {h:IH} {v w:Value} {a b:List Int} (ha:SlNow h 1 v a.length (a.map KI)) (hb:SlNow h 1 w b.length (b.map KI)) (la:a.length≤1000000000) :
  WV Proofs.Tryz.prog (.func (.func 28) #[] #[]) [v,w] h fun r h'=>h'=h∧r=.bool (decide (a=b)):=by
 have hln:a.length=b.length∨a.length≠b.length:=by omega
 refine enter (nt:=26) (rs:=[.tmp 4]) Proofs.Tryz.func28 rfl rfl rfl (by simp) ?_
 simp -dsimp (maxSteps:=1000000) (disch:=try exact dx) only[wpS,Nat.reduceEqDiff,Nat.reduceAdd,ha.len sl29,hb.len sl29]
 refine bq_intro ?_ ?_<;>intro hc<;>simp only[bne_iff_ne,bne_eq_false_iff_eq,ne_eq] at hc
 ·simp -dsimp (maxSteps:=1000000) (disch:=try exact dx) only[wpS,wpT,Nat.reduceEqDiff]
  rw[decide_eq_false]
  rintro rfl;exact hc rfl
 ·have hl:a.length=b.length:=by omega
  simp -dsimp (maxSteps:=1000000) (disch:=try exact dx) only[wpS,wpT,Nat.reduceEqDiff,ha.len sl29]
  refine loop (fun m fr h1=>h1=h ∧ ∃i:Nat,i+m=a.length∧fget fr 0=some v∧fget fr 1=some w∧fget fr 12=some (KI a.length)∧fget fr 13=some (KI i) ∧ ∀j,j<i→a[j]?=b[j]?) a.length ⟨rfl,0,by simp,by simp,by simp,by simp,by simp,by simp⟩ ?_
  rintro m fr h1 ⟨rfl,i,him,f0,f1,f12,f13,hz⟩
  simp -dsimp (maxSteps:=1000000) (disch:=try exact dx) only[wpS,f12,f13]
  refine bq_intro ?_ ?_<;>intro hc2<;>simp only[decide_eq_true_eq,decide_eq_false_iff_not] at hc2
  ·have hi:i<a.length:=by omega
   obtain⟨x,hx⟩ : ∃x,a[i]?=some x:=⟨a[i],List.getElem?_eq_getElem hi⟩
   obtain⟨y,hy⟩ : ∃y,b[i]?=some y:=⟨b[i]'(by omega),List.getElem?_eq_getElem (by omega)⟩
   simp -dsimp (maxSteps:=1000000) (disch:=try exact dx) only[wpS,wpT,Nat.reduceEqDiff,f0,f1,f13,ha.idx es29 hi,ha.ld (P:=Proofs.Tryz.prog) (t:=3) (c:=i) (by simpa using hi) ag3,hb.idx es29 (show i<b.length by omega),hb.ld (P:=Proofs.Tryz.prog) (t:=3) (c:=i) (by simp;omega) ag3,List.getElem?_map,hx,hy]
   refine bq_intro ?_ ?_<;>intro hc3<;>simp only[bne_iff_ne,bne_eq_false_iff_eq,ne_eq] at hc3
   ·simp -dsimp (maxSteps:=1000000) (disch:=try exact dx) only[wpS,wpT,Nat.reduceEqDiff]
    rw[decide_eq_false]
    rintro rfl
    rw[hx] at hy;cases hy;exact hc3 rfl
   ·simp -dsimp (maxSteps:=1000000) (disch:=try exact dx) only[wpS,wpT,Nat.reduceEqDiff,f13]
    refine⟨m - 1,by omega,rfl,i+1,by omega,by simp[f0],by simp[f1],by simp[f12],by simp,fun j hj=>?_⟩
    by_cases hji:j=i
    ·subst hji;rw[hx,hy];congr 1
    ·exact hz j (by omega)
  ·simp -dsimp (maxSteps:=1000000) (disch:=try exact dx) only[wpS,wpT]
   rw[decide_eq_true]
   apply List.ext_getElem?
   intro j
   by_cases hj:j<i
   ·exact hz j hj
   ·rw[List.getElem?_eq_none (by omega),List.getElem?_eq_none (by omega)]
end Go.Id
