/-
  Contracts: the program's long integers told; integers as long ones. Contracts: the program's long integers: divisors, quotients with remainders.
-/
import Derived.Test.YtnanhedgenokpaaGreatTemperDetailedAt
import Derived.Test.YtnanhedgenokpaaGreatTemperDetailedBb
import Derived.Test.YtnanhedgenokpaaGreatTemperDetailedBa
set_option linter.unusedVariables false
set_option linter.unusedSimpArgs false
set_option linter.defProp false
set_option linter.deprecated false
namespace Go.Id
open Go
open Go.Proofs.Tryz (prog)
open Nat (reduceMul)
open Nat renaming reduceAdd→zA,reduceEqDiff→zE,reduceLeDiff→zL
set_option maxHeartbeats 16000000
theorem copy_zero {P:Program} {t e:TypeId} {sz:Nat} (hu:P.underlying t=some (.slice e)) (hS:sizeT P e=some sz) (h:IH) (b o n c:Nat) {s:Value} {ss:List Value} (hs:SlNow h sz s 0 ss) (ts:Array TypeId) (ht:ts[0]?=some t) :
  builtin P h .copy ts [.slice (some ⟨b,o,none⟩) n c,s]=some (.int .i64 0,h):=by
 have hf:firstOf h sz 0 s=some []:=by
  obtain⟨hz,hl,⟨rfl,_⟩|⟨b,o,k,rfl,s⟩⟩:=hs
  ·rfl
  ·simp[firstOf];rfl
 obtain⟨a',k,rfl⟩:=hs.form
 simp only[builtin,ht,copyOp,hu,lenOf,hS,show Nat.min 0 n=0 from Nat.zero_min _,hf]
 rfl
theorem pad_wd {ds:List Nat} (hl:ds.length≤8) (hd:B.Digs ds):IH.splice [ZW,ZW,ZW,ZW,ZW,ZW,ZW,ZW] 0 (ds.map K64)=wdC (B.valD ds):=by
 have hv : ∀k,B.valD (ds ++ List.replicate k 0)=B.valD ds:=by
  intro k
  rw[show B.valD ds=B.valT (ds ++ List.replicate k 0) ds.length from B.valT_congr fun j hj=>by
   rw[List.getD_eq_getElem?_getD,List.getD_eq_getElem?_getD,List.getElem?_append_left hj]]
  rw[B.valD]
  have:(ds ++ List.replicate k 0).length=ds.length+k:=by simp
  rw[this]
  apply B.valT_split
  intro j h1 h2
  rw[List.getD_eq_getElem?_getD,List.getElem?_append_right h1]
  rw[←List.getD_eq_getElem?_getD];exact B.getD_repl _ _
 have hD:B.Digs (ds ++ List.replicate (8 - ds.length) 0):=fun d h=>by
  rcases List.mem_append.1 h with h|h
  ·exact hd d h
  ·simp at h;omega
 have h8:(ds ++ List.replicate (8 - ds.length) 0).length=8:=by simp;omega
 have:=wds_of h8 hD
 rw[hv] at this
 rw[wdC_wds,this,List.map_append,List.map_replicate]
 have hz : [ZW,ZW,ZW,ZW,ZW,ZW,ZW,ZW]=List.replicate 8 ZW:=rfl
 rw[hz,IH.splice,List.take_zero,List.nil_append,List.length_map,List.drop_replicate,Nat.zero_add]
 rfl
theorem len_gt8 {ds:List Nat} (n:B.Norm ds) (h:8<ds.length):W8≤B.valD ds:=by
 have h1:=n.ge (by intro h0;rw[h0] at h;simp at h)
 rw[W8_pw]
 exact Nat.le_trans (Nat.pow_le_pow_right (by omega) (by omega)) h1
theorem ptold_ok {h:IH} {v:Value} {z:Int} (hv:PLong h v z):WV prog (.func (.func 88) #[] #[]) [v] h fun r h'=>Ext h h'∧r=if InW z then .tuple #[wideV z,KI 0] else .tuple #[wdV 0,KI 6]:=by
 obtain⟨s,rfl,ds,hD,hN,hx⟩:=hv
 have hb:=hD.2.2
 have h2:=H8_two
 have hp:=H8_pos
 refine enter (nt:=22) (rs:=[.cell 2 30,.tmp 3]) Proofs.Tryz.func88 rfl rfl rfl (by simp) ?_
 simp -dsimp (disch:=try exact dx) only[wpS,zE,zc30,fa137_1,ld135,hD.1.len sl135]
 refine bq_intro ?_ ?_<;>intro hc<;>simp only[decide_eq_true_eq,decide_eq_false_iff_not] at hc
 ·have hgt:=len_gt8 hN (by omega)
  have hin : ¬InW z:=by rintro⟨h3,h4⟩;omega
  rw[if_neg hin]
  simp -dsimp (disch:=try exact dx) only[wpS,wpT,zE,zL,zA,bv30,st30,ld30,wd_tz]
  exact⟨(((Ext.refl h).new _).new _).put (by omega) _,by rw[wd_zero]⟩
 ·have hl:ds.length≤8:=by omega
  have hlt:B.valD ds<W8:=by
   have:=B.valD_lt hD.2.1
   rw[W8_pw]
   exact Nat.lt_of_lt_of_le this (Nat.pow_le_pow_right (by omega) hl)
  simp -dsimp (disch:=try exact dx) only[wpS,wpT,zE,zL,zA,fa137_0,ld4,bv236,pl236_0,zc236,st236,fa236_1]
  obtain⟨H2,hH2⟩ : ∃H2,H2=((((h.new (.cells [.bool (decide (z<0)),s] 0 none)).new (.cells [ZW,ZW,ZW,ZW,ZW,ZW,ZW,ZW] 0 none)).new (.cells [.bool false,ZW,ZW,ZW,ZW,ZW,ZW,ZW,ZW] 0 none)).put (h.n+1+1) (.cells [.bool (decide (z<0)),ZW,ZW,ZW,ZW,ZW,ZW,ZW,ZW] 0 none)):=⟨_,rfl⟩
  have n2:H2.n=h.n+3:=by rw[hH2];rfl
  have g0:H2.ext.get h.n=some (.cells [.bool (decide (z<0)),s] 0 none):=by rw[hH2];simp (disch:=try exact dx) only[get_new_same,get_new_old,get_put_old]
  have g1:H2.ext.get (h.n+1)=some (.cells [ZW,ZW,ZW,ZW,ZW,ZW,ZW,ZW] 0 none):=by rw[hH2];simp (disch:=try exact dx) only[get_new_same,get_new_old,get_put_old]
  have g2:H2.ext.get (h.n+1+1)=some (.cells [.bool (decide (z<0)),ZW,ZW,ZW,ZW,ZW,ZW,ZW,ZW] 0 none):=by rw[hH2];simp (disch:=try exact dx) only[get_put_same]
  have E2:Ext h H2:=by rw[hH2];exact((((Ext.refl h).new _).new _).new _).put (by omega) _
  rw[←hH2]
  have r0:=row_kn g0
  have sa:=slice_arr (P:=prog) u234 sz28 (by omega)
  have hs2:=(hD.keep E2.keep).1.now
  have hcp : ∃H3,builtin prog H2 .copy #[135,135] [.slice (some ⟨2*(h.n+1+1),1,none⟩) 8 17,s]=some (.int .i64 (ds.length:Int),H3)∧Ext h H3∧H3.n=h.n+3∧H3.ext.get (h.n+1)=some (.cells [ZW,ZW,ZW,ZW,ZW,ZW,ZW,ZW] 0 none)∧H3.ext.get (h.n+1+1)=some (.cells (.bool (decide (z<0)) :: wdC z.natAbs) 0 none):=by
   rcases Nat.eq_zero_or_pos ds.length with h0|h0
   ·have hd0:ds = []:=List.length_eq_zero_iff.1 h0
    subst hd0
    have hz0:z.natAbs=0:=by rw[←hx];rfl
    refine⟨H2,copy_zero u135 sz28 H2 _ _ _ _ hs2 _ rfl,E2,n2,g1,?_⟩
    rw[hz0,wdC_zero];exact g2
   ·have hm:min ds.length 8=ds.length:=by omega
    have:=copy_eq (P:=prog) u135 sz28 g2 (o:=1) (dn:=8) (c:=17) hs2 (k64_all _) (by omega) (by simp;omega) #[135,135] rfl
    rw[hm,Nat.mul_one,List.take_of_length_le (by simp),splice_succ,pad_wd hl hD.2.1,hx] at this
    exact⟨_,this,E2.put (by omega) _,n2,by simp (disch:=try exact dx) only[get_put_old];exact g1,get_put_same _ _ rfl⟩
  obtain⟨H3,hcp,E3,n3,g3,g4⟩:=hcp
  have r4:=row_kn g4
  simp -dsimp (disch:=try exact dx) only[wpS,wpT,zE,zL,zA,reduceMul,fa137_1,ld135,ld236,r0,sa,hcp,r4,num_take9,wdC_len]
  refine call (numTold_ok (decide (z<0)) z.natAbs (by omega)) ?_
  rintro _ h4 ⟨hE4,rfl⟩
  have g5:=(hE4.get _ (by omega)).trans g3
  by_cases hin:InW z
  ·have e1 : ¬(H8<z.natAbs∨z.natAbs=H8∧decide (z<0)=false):=by
    obtain⟨i1,i2⟩:=hin
    rintro(h5|⟨h5,h6⟩)
    ·omega
    ·have : ¬z<0:=by simpa using h6
     omega
   have e2:(if decide (z<0)=true then (W8 - z.natAbs) % W8 else z.natAbs)=wideN z:=by
    obtain⟨i1,i2⟩:=hin
    unfold wideN
    by_cases h6:z<0
    ·rw[if_pos (by simpa using h6),if_neg (by omega),Nat.mod_eq_of_lt (by omega)]
    ·rw[if_neg (by simpa using h6),if_pos (by omega)];omega
   rw[if_neg e1,if_pos hin,e2]
   simp -dsimp (disch:=try exact dx) only[wpS,wpT,zE,zL,zA,st30,ld30,g5,cells8,wdC_len,wdC_all,wd_spl,wd_take]
   exact⟨(E3.trans hE4).put (by omega) _,rfl⟩
  ·have e1:H8<z.natAbs∨z.natAbs=H8∧decide (z<0)=false:=by
    unfold InW at hin
    by_cases h6:z<0
    ·left;omega
    ·by_cases h7:z.natAbs=H8
     ·right;exact⟨h7,by simpa using h6⟩
     ·left;omega
   rw[if_pos e1,if_neg hin]
   simp -dsimp (disch:=try exact dx) only[wpS,wpT,zE,zL,zA,st30,ld30,g5,cells8,wdC_len,wdC_all,wd_spl,wd_take]
   exact⟨(E3.trans hE4).put (by omega) _,rfl⟩
theorem pfrom_ok {h:IH} (n:Int) (hn:In64 n):WV prog (.func (.func 84) #[] #[]) [KI n] h fun r h'=>Ext h h'∧PLong h' r n:=by
 have hw:InW n:=by
  have:=H8_big
  constructor
  ·have:=hn.1;omega
  ·have:=hn.2;omega
 refine enter (nt:=6) (rs:=[.cell 2 137]) Proofs.Tryz.func84 rfl rfl rfl (by simp) ?_
 simp -dsimp (disch:=try exact dx) only[wpS,zE,zc137]
 refine call (wideOf_ok n hn) ?_
 rintro _ h1 ⟨hE,rfl⟩
 simp -dsimp (disch:=try exact dx) only[wpS,zE]
 refine call (longer_ok _ (wideN_lt hw)) ?_
 rintro _ h2 ⟨hE2,hr⟩
 rw[wdI_wideN hw] at hr
 obtain⟨s1,n3,rfl,c3,o3,l3,z3⟩:=hr.form
 have m1:=(hE).n;try simp only[new_n] at m1
 have m2:=(hE2).n;try simp only[new_n,put_n] at m2
 have hg:h2.ext.get h.n=some (.cells ZL 0 none):=by rw[hE2.get _ (by omega),hE.get _ (by simp)];simp (disch:=try exact dx) only[get_new_same]
 simp -dsimp (disch:=try exact dx) only[wpS,wpT,zE,zL,zA,st137,ld137,hg,o3]
 exact⟨((((Ext.refl h).new _).trans hE).trans hE2).put (by omega) _,hr.keep ((Keep.refl _).put hg _)⟩
end Go.Id

namespace Go.Id
open Go
open Go.Proofs.Tryz (prog)
open Nat renaming reduceAdd→zA,reduceEqDiff→zE,reduceLeDiff→zL
set_option maxHeartbeats 16000000
theorem pcommon_ok {h:IH} {v w:Value} {x y:Int} (hv:PLong h v x) (hw:PLong h w y) (sx:SmallI x) (sy:SmallI y) :
  WV prog (.func (.func 185) #[] #[]) [v,w] h fun r h'=>Ext h h'∧PLong h' r (Int.gcd x y):=by
 obtain⟨s,rfl,hS⟩:=hv
 obtain⟨t,rfl,hT⟩:=hw
 obtain⟨ds,hD,hN,hx⟩:=id hS
 obtain⟨es,hE,hM,hy⟩:=id hT
 refine enter (nt:=26) (rs:=[.cell 4 137]) Proofs.Tryz.func185 rfl rfl rfl (by simp) ?_
 simp -dsimp (disch:=try exact dx) only[wpS,zE,zA,zc137,fa137_1,ld135]
 have kk : ∀o1 o2 o3,Ext h (((h.new o1).new o2).new o3):=fun o1 o2 o3=>(((Ext.refl h).new _).new _).new _
 refine loop (fun m fr h1 => ∃(xv yv:Value) (a:Nat),Ext (((h.new (.cells [.bool (decide (x<0)),s] 0 none)).new (.cells [.bool (decide (y<0)),t] 0 none)).new (.cells ZL 0 none)) h1∧Wrd h1 xv a∧Wrd h1 yv m∧Small a∧Small m∧Nat.gcd a m=Int.gcd x y∧fget fr 4=some (ptr (2*(h.n+1+1)) 0)∧fget fr 5=some xv∧fget fr 6=some yv) y.natAbs
  ⟨s,t,x.natAbs,Ext.refl _,hS.keep (kk _ _ _).keep,hT.keep (kk _ _ _).keep,sx,sy,rfl,by simp,by simp,by simp⟩ ?_
 clear hS hT hD hN hx hE hM hy ds es
 rintro m fr h1 ⟨xv,yv,a,hE1,hA,hB,sa,sb,hgcd,f4,f5,f6⟩
 obtain⟨ds,hD,hN,hx⟩:=id hA
 obtain⟨es,hE,hM,hy⟩:=id hB
 have hz:=hM.nil_iff
 rw[hy] at hz
 have l1:ds.length≤1000000:=small64' hN (by rw[hx];exact sa)
 have l2:es.length≤1000000:=small64' hM (by rw[hy];exact sb)
 by_cases hm:m=0
 ·have hes:es = []:=hz.1 hm
  have len0:lenB prog h1 135 yv=some (.int .i64 ((0:Nat):Int)):=by have:=hE.1.len (P:=prog) sl135 h1;rw[hes] at this;exact this
  have hg:h1.ext.get (h.n+1+1)=some (.cells ZL 0 none):=by rw[hE1.get _ (by simp)];exact get_new_same _ _ rfl
  simp -dsimp (disch:=try exact dx) only[wpS,wpT,zE,zL,zA,bv137,pl137_1,st137,ld137,f4,f5,f6,len0,hD.1.cells,hD.1.cok,hg]
  refine⟨((kk _ _ _).trans hE1).put (by omega) _,xv,?_,?_⟩
  ·simp
  ·subst hm
   rw[Nat.gcd_zero_right] at hgcd
   rw[Int.natAbs_natCast,←hgcd]
   exact hA.keep ((Keep.refl _).put hg _)
 ·have hl:0<es.length:=by
   apply Nat.pos_of_ne_zero;intro h0
   exact hm (hz.2 (List.length_eq_zero_iff.1 h0))
  simp -dsimp (disch:=try exact dx) only[wpS,wpT,zE,f5,f6,hE.1.len sl135]
  refine call (divided_ok hD hE hN hM (by rw[hy];exact hm) l1 l2) ?_
  rintro _ h2 ⟨hE2,q,r,rfl,hq,hr⟩
  rw[hx,hy] at hr
  have hlt:=Nat.mod_lt a (Nat.pos_of_ne_zero hm)
  simp -dsimp (disch:=try exact dx) only[wpS,zE,f6]
  refine⟨a % m,hlt,yv,r,m,hE1.trans hE2,hB.keep hE2.keep,hr,sb,sb.le (Nat.le_of_lt hlt),?_,by simp[f4],by simp,by simp⟩
  rw[←hgcd,Nat.gcd_comm a m,Nat.gcd_rec m a,Nat.gcd_comm]
theorem wrd_one {h:IH}:Wrd (h.new (.cells [.int .u64 1] 1 none)) (.slice (some ⟨2*h.n,0,none⟩) 1 3) 1 :=
 ⟨[1],⟨built_sl (h:=h) (sz:=1) (m:=1) (cs:=[K64 1]) (by omega) rfl (by omega),fun x hx=>by simp at hx;omega,by simp⟩,.inr (by simp),by simp[B.valD,B.valT]⟩
theorem pparts_ok {h:IH} {v w:Value} {x y:Int} (hv:PLong h v x) (hw:PLong h w y) (sx:SmallI x) (sy:SmallI y) (y0:y≠0) :
  WV prog (.func (.func 186) #[] #[]) [v,w] h fun r h'=>Ext h h' ∧ ∃q t,r=.tuple #[q,t]∧PLong h' q (x / y)∧PLong h' t (x % y):=by
 obtain⟨s,rfl,hS⟩:=hv
 obtain⟨t,rfl,hT⟩:=hw
 obtain⟨ds,hD,hN,hx⟩:=id hS
 obtain⟨es,hE,hM,hy⟩:=id hT
 have l1:ds.length≤1000000:=small64' hN (by rw[hx];exact sx)
 have l2:es.length≤1000000:=small64' hM (by rw[hy];exact sy)
 refine enter (nt:=47) (rs:=[.cell 4 137,.cell 5 137]) Proofs.Tryz.func186 rfl rfl rfl (by simp) ?_
 simp -dsimp (disch:=try exact dx) only[wpS,zE,zA,zc137,fa137_1,ld135]
 have kk : ∀o1 o2 o3 o4,Ext h ((((h.new o1).new o2).new o3).new o4):=fun o1 o2 o3 o4=>((((Ext.refl h).new _).new _).new _).new _
 refine call (divided_ok (hD.keep (kk _ _ _ _).keep) (hE.keep (kk _ _ _ _).keep) hN hM (by rw[hy];omega) l1 l2) ?_
 rintro _ h1 ⟨hE1,q,r,rfl,⟨qs,hq,hqv⟩,⟨rs,hr,hrn,hrv⟩⟩
 rw[hx,hy] at hqv hrv
 have n1:h.n+4≤h1.n:=hE1.n
 have g0:h1.ext.get h.n=some (.cells [.bool (decide (x<0)),s] 0 none):=by rw[hE1.get _ (by simp<;>omega)];simp (disch:=try exact dx) only[get_new_same,get_new_old]
 have g1:h1.ext.get (h.n+1)=some (.cells [.bool (decide (y<0)),t] 0 none):=by rw[hE1.get _ (by simp<;>omega)];simp (disch:=try exact dx) only[get_new_same,get_new_old]
 have g2:h1.ext.get (h.n+1+1)=some (.cells ZL 0 none):=by rw[hE1.get _ (by simp<;>omega)];simp (disch:=try exact dx) only[get_new_same,get_new_old]
 have g3:h1.ext.get (h.n+1+1+1)=some (.cells ZL 0 none):=by rw[hE1.get _ (by simp<;>omega)];simp (disch:=try exact dx) only[get_new_same]
 have x1:Ext h h1:=(kk _ _ _ _).trans hE1
 have eT1:=hE.keep x1.keep
 clear hE1 kk
 have r0:=row_kn g0
 have r1:=row_kn g1
 simp -dsimp (disch:=try exact dx) only[wpS,zE]
 refine drawn [(8,[6])] (by kernel_rfl) (by kernel_rfl) rfl ?_
 simp -dsimp (disch:=try exact dx) only[wpS,zE,fa137_0,ld4,bn4,r0,r1,bne_bool]
 refine call (trimmed_ok hq _) ?_
 rintro q2 h2 ⟨hE2,hq2⟩
 have r02:h2.row (2*h.n)=some [.bool (decide (x<0)),s]:=by rw[hE2.row (.inr (by omega))];exact r0
 simp -dsimp (disch:=try exact dx) only[wpS,zE,fa137_0,ld4,r02]
 refine call (trimmed_ok (hr.keep hE2.keep) _) ?_
 rintro t2 h3 ⟨hE3,ht2⟩
 rw[hqv] at hq2
 rw[hrv] at ht2
 have pa:=parts_a (x:=x) y0
 have pb:=parts_b (x:=x) y0
 have aQ:=sgn_abs (decide (x<0) != decide (y<0)) (x.natAbs / y.natAbs)
 have aR:=sgn_abs (decide (x<0)) (x.natAbs % y.natAbs)
 generalize (if (decide (x<0) != decide (y<0))=true then -((x.natAbs / y.natAbs:Nat):Int) else ((x.natAbs / y.natAbs:Nat):Int))=Q at *
 generalize (if decide (x<0)=true then -((x.natAbs % y.natAbs:Nat):Int) else ((x.natAbs % y.natAbs:Nat):Int))=R at *
 have sQ:SmallI Q:=Small.le sx (by rw[aQ];exact Nat.div_le_self _ _)
 have sR:SmallI R:=Small.le sy (by rw[aR];exact Nat.le_of_lt (Nat.mod_lt _ (by omega)))
 obtain⟨sq,n3,rfl,c3,o3,_,_⟩:=hq2.form
 obtain⟨st,n4,rfl,c4,o4,_,_⟩:=ht2.form
 have x3:Ext h h3:=(x1.trans hE2).trans hE3
 have n2:=hE2.n
 have n3':=hE3.n
 have g2':=(hE3.get _ (by omega)).trans ((hE2.get _ (by omega)).trans g2)
 have g3':=(hE3.get _ (by omega)).trans ((hE2.get _ (by omega)).trans g3)
 have g1':=(hE3.get _ (by omega)).trans ((hE2.get _ (by omega)).trans g1)
 simp -dsimp (disch:=try exact dx) only[wpS,wpT,zE,zL,zA,st137,o3,o4,g2',g3']
 refine⟨wpSteady_one rfl rfl rfl rfl (steady_load (av:=ptr (2*h.n) 0) (v:=.bool (decide (x<0))) rfl ?_ ?_),?_⟩
 ·simp -dsimp (disch:=try exact dx) only[wpS,ld4,r02]
 ·simp -dsimp (disch:=try exact dx) only[wpS,ld4,r0]
 simp -dsimp (disch:=try exact dx) only[wpS,wpT,zE,zA,fa137_0,ld4]
 obtain⟨h4,hh4⟩ : ∃h4,h4=(h3.put (h.n+1+1) (.cells [.bool (decide (Q<0)),sq] 0 none)).put (h.n+1+1+1) (.cells [.bool (decide (R<0)),st] 0 none):=⟨_,rfl⟩
 have g8:h4.ext.get (h.n+1+1)=some (.cells [.bool (decide (Q<0)),sq] 0 none):=by rw[hh4];simp (disch:=try exact dx) only[get_put_same,get_put_old]
 have g9:h4.ext.get (h.n+1+1+1)=some (.cells [.bool (decide (R<0)),st] 0 none):=by rw[hh4];simp (disch:=try exact dx) only[get_put_same]
 have g7:h4.ext.get (h.n+1)=some (.cells [.bool (decide (y<0)),t] 0 none):=by rw[hh4];simp (disch:=try exact dx) only[get_put_old];exact g1'
 have n5:h4.n=h3.n:=by rw[hh4];rfl
 have k4:Keep h3 h4:=by rw[hh4];exact((Keep.refl h3).put g2' _).put (by rw[get_put_old _ _ (by omega)];exact g3') _
 have x4:Ext h h4:=by rw[hh4];exact(x3.put (by omega) _).put (by omega) _
 have hQ0:=hq2.keep (hE3.keep.trans k4)
 have hR0:=ht2.keep k4
 have eT4:=eT1.keep ((hE2.trans hE3).keep.trans k4)
 rw[←hh4]
 clear hh4 g2' g3' g1' r0 r1 g0 g1 g2 g3
 have r9:=row_kn g9
 have r8:=row_kn g8
 have r7:=row_kn g7
 refine bq_cut (fun fr2 h5 => ∃sq st,Ext h h5∧h5.ext.get (h.n+1+1)=some (.cells [.bool (decide (x / y<0)),sq] 0 none)∧h5.ext.get (h.n+1+1+1)=some (.cells [.bool (decide (x % y<0)),st] 0 none)∧PLong h5 (.agg #[.bool (decide (x / y<0)),sq]) (x / y)∧PLong h5 (.agg #[.bool (decide (x % y<0)),st]) (x % y) ∧
  fget fr2 4=some (ptr (2*(h.n+1+1)) 0)∧fget fr2 5=some (ptr (2*(h.n+1+1+1)) 0)) (fun hb=>?_) (fun hb=>?_) ?_
 ·have hb':R<0:=by simpa using hb
  obtain⟨b1,b2⟩:=pb hb'
  rw[decide_eq_true hb'] at hR0 r9 g9
  simp -dsimp (disch:=try exact dx) only[wpS,wpT,zE,zL,zA,zc137,fa137_1,ld135,st137,bv137,pl137_1,ld137,r7,r9,List.drop_zero,tk_two,hE.1.cells,hE.1.cok]
  have xA:Ext h ((h4.new (.cells ZL 0 none)).put h4.n (.cells [.bool false,t] 0 none)):=(x4.new _).put (by omega) _
  have xB:Ext h4 ((h4.new (.cells ZL 0 none)).put h4.n (.cells [.bool false,t] 0 none)):=((Ext.refl h4).new _).put (by omega) _
  have hY:PLong ((h4.new (.cells ZL 0 none)).put h4.n (.cells [.bool false,t] 0 none)) (.agg #[.bool false,t]) (y.natAbs:Int):=⟨t,by simp,by rw[Int.natAbs_natCast];exact⟨es,eT4.keep xB.keep,hM,hy⟩⟩
  refine call (pplus_ok (hR0.keep xB.keep) hY sR (small_nat sy)) ?_
  rintro t5 h5 ⟨hE5,ht5⟩
  rw[b2] at ht5
  obtain⟨s5,_,rfl,c5,o5,_,_⟩:=ht5.form
  have n6:=(hE5).n;try simp only[new_n,put_n] at n6
  have x5:=xB.trans hE5
  have k9:=(x5.get _ (by omega)).trans g9
  have k8:=(x5.get _ (by omega)).trans g8
  have k7:=(x5.get _ (by omega)).trans g7
  have rr7:=row_kn k7
  have rr8:=row_kn k8
  simp -dsimp (disch:=try exact dx) only[wpS,wpT,zE,zL,zA,zc137,fa137_0,ld4,st137,bv137,pl137_1,ld137,bs135,pl137_0,k9,o5,rr7,rr8,List.drop_zero,tk_two]
  obtain⟨h6,hh6⟩ : ∃h6,h6=((((h5.put (h.n+1+1+1) (.cells [.bool (decide (x % y<0)),s5] 0 none)).new (.cells [.int .u64 1] 1 none)).new (.cells ZL 0 none)).put (h5.n+1) (.cells [.bool (!decide (y<0)),.slice (some ⟨2*h5.n,0,none⟩) 1 3] 0 none)):=⟨_,rfl⟩
  have k5:Keep h5 h6:=by rw[hh6];exact((((Keep.refl h5).put k9 _).new _).new _).put (cs:=ZL) (f:=none) (by simp (disch:=try exact dx) only[get_new_same]) _
  have y6:Ext h h6:=by rw[hh6];exact(((((xA.trans hE5).put (by omega) _).new _).new _).put (by first|omega|(simp only[new_n,put_n];omega)) _)
  have j9:h6.ext.get (h.n+1+1+1)=some (.cells [.bool (decide (x % y<0)),s5] 0 none):=by rw[hh6];simp (disch:=try exact dx) only[get_new_old,get_put_same,get_put_old]
  have j8:h6.ext.get (h.n+1+1)=some (.cells [.bool (decide (Q<0)),sq] 0 none):=by rw[hh6];simp (disch:=try exact dx) only[get_new_old,get_put_old];exact k8
  have n7:h6.n=h5.n+2:=by rw[hh6];rfl
  have hOne:PLong h6 (.agg #[.bool (!decide (y<0)),.slice (some ⟨2*h5.n,0,none⟩) 1 3]) (if y<0 then 1 else -1):=by
   refine⟨.slice (some ⟨2*h5.n,0,none⟩) 1 3,?_,?_⟩
   ·by_cases hy0:y<0<;>simp[hy0]<;>rfl
   ·rw[show(if y<0 then (1:Int) else -1).natAbs=1 by split<;>rfl,hh6]
    have w1:=wrd_one (h:=h5.put (h.n+1+1+1) (.cells [.bool (decide (x % y<0)),s5] 0 none))
    exact w1.keep (((Keep.refl _).new _).put (cs:=ZL) (f:=none) (by simp (disch:=try exact dx) only[get_new_same]) _)
  have jr8:=row_kn j8
  rw[←hh6]
  have sOne:SmallI (if y<0 then (1:Int) else -1):=by split<;>exact small1
  refine call (pplus_ok (hQ0.keep (x5.keep.trans k5)) hOne sQ sOne) ?_
  rintro t7 h7 ⟨hE7,ht7⟩
  have hqq:Q+(if y<0 then (1:Int) else -1)=x / y:=by
   rw[←b1]
  rw[hqq] at ht7
  obtain⟨s7,_,rfl,c7,o7,_,_⟩:=ht7.form
  have n8:=(hE7).n;try simp only[new_n,put_n] at n8
  have i8:=(hE7.get _ (by omega)).trans j8
  have i9:=(hE7.get _ (by omega)).trans j9
  simp -dsimp (disch:=try exact dx) only[wpS,wpT,zE,zL,zA,st137,i8,o7]
  have k7':=(Keep.refl h7).put i8 (.cells [.bool (decide (x / y<0)),s7] 0 none)
  refine⟨s7,s5,(y6.trans hE7).put (by omega) _,get_put_same _ _ rfl,by simp (disch:=try exact dx) only[get_put_old];exact i9,ht7.keep k7',ht5.keep ((k5.trans hE7.keep).trans k7'),by simp,by simp⟩
 ·have hb' : ¬R<0:=by simpa using hb
  obtain⟨b1,b2⟩:=pa hb'
  simp -dsimp (disch:=try exact dx) only[wpS,wpT]
  subst b1;subst b2
  exact⟨sq,st,x4,g8,g9,hQ0,hR0,by simp,by simp⟩
 rintro fr2 h5 ⟨sq,st,x5,k8,k9,hQ,hR,f4,f5⟩
 have q8:=row_kn k8
 have q9:=row_kn k9
 obtain⟨s8,n8,e8,c8,o8,_,_⟩:=hQ.form
 obtain⟨s9,n9,e9,c9,o9,_,_⟩:=hR.form
 cases e8
 cases e9
 rw[d_seq]
 refine drawn [(1,[3])] (by kernel_rfl) (by kernel_rfl) rfl ?_
 simp -dsimp (disch:=try exact dx) only[wpS,wpT,zE,zL,zA,st137,ld137,f4,f5,q8,q9,k8,k9,o8,o9,List.drop_zero,tk_two]
 have k5:=(Keep.refl h5).put k8 (.cells [.bool (decide (x / y<0)),sq] 0 none)
 have k3':(h5.put (h.n+1+1) (.cells [.bool (decide (x / y<0)),sq] 0 none)).ext.get (h.n+1+1+1)=some (.cells [.bool (decide (x % y<0)),st] 0 none):=by rw[get_put_old _ _ (by omega)];exact k9
 have k6:=k5.put k3' (.cells [.bool (decide (x % y<0)),st] 0 none)
 refine⟨wpSteady_one rfl rfl rfl rfl (steady_load (av:=ptr (2*(h.n+1+1+1)) 0) (v:=.agg #[.bool (decide (x % y<0)),st]) ?_ ?_ ?_),?_⟩
 ·simp -dsimp (disch:=try exact dx) only[wpS,zE,f5]
 ·simp -dsimp (disch:=try exact dx) only[wpS,wpT,zL,zA,ld137,q9,List.drop_zero,tk_two]
 ·simp -dsimp (disch:=try exact dx) only[wpS,wpT,zL,zA,ld137,q9,List.drop_zero,tk_two]
 simp -dsimp (disch:=try exact dx) only[wpS,wpT,zE,zL,zA,ld137,f4,f5,List.drop_zero,tk_two]
 exact⟨(x5.put (by omega) _).put (by omega) _,_,_,rfl,hQ.keep k6,hR.keep k6⟩
end Go.Id

namespace Go.Id
open Go
open Nat renaming reduceAdd→zA,reduceEqDiff→zE,reduceLeDiff→zL
set_option maxHeartbeats 16000000
abbrev ZR:List Value:=[.bool false,.slice none 0 0,.bool false,.slice none 0 0]
def PPair (h:IH) (v:Value) (n d:Int):Prop:=∃a s b t,v=.agg #[a,s,b,t]∧PLong h (.agg #[a,s]) n∧PLong h (.agg #[b,t]) d
theorem PPair.keep {h h':IH} {v:Value} {n d:Int} (p:PPair h v n d) (e:Keep h h'):PPair h' v n d:=let ⟨a,s,b,t,h1,h2,h3⟩:=p;⟨a,s,b,t,h1,h2.keep e,h3.keep e⟩
def PRat (h:IH) (v:Value) (q:Rat):Prop:=PPair h v q.num q.den
theorem PRat.keep {h h':IH} {v:Value} {q:Rat} (p:PRat h v q) (e:Keep h h'):PRat h' v q:=PPair.keep p e
theorem PLong.cells2 {h:IH} {v:Value} {z:Int} (d:PLong h v z) : ∃s,v=.agg #[.bool (decide (z<0)),s]∧s.cells = #[s]∧cellOK s=true:=let ⟨s,n,a,b,c,_⟩:=d.form;⟨s,a,b,c⟩
theorem PLong.co {h:IH} {a s:Value} {z:Int} (d:PLong h (.agg #[a,s]) z):a=.bool (decide (z<0))∧s.cells = #[s]∧cellOK s=true:=by
 obtain⟨s',h1,h2,h3⟩:=d.cells2
 cases h1
 exact⟨rfl,h2,h3⟩
theorem half_bits {x k:Nat} (h:x≤2 ^ k) (hk:k<16000000):Half x:=by
 refine .mk (Nat.lt_of_le_of_lt h ?_)
 rw[pow_conv 4294967296 2 500000 32 16000000 (by decide) (by decide)]
 exact pow_lt2 2 k 16000000 (by decide) hk
theorem small_bits {x k:Nat} (h:x≤2 ^ k) (hk:k<16000000):Small x:=(half_bits h hk).small
theorem lowest_ok {h:IH} {v w:Value} {n d:Int} (hv:PLong h v n) (hw:PLong h w d) (sn:SmallI n) (sd:SmallI d) (d0:d≠0) :
  WV Proofs.Tryz.prog (.func (.func 105) #[] #[]) [v,w] h fun r h'=>Ext h h'∧PRat h' r (Rat.divInt n d):=by
 obtain⟨s,rfl,c1,o1⟩:=hv.cells2
 obtain⟨t,rfl,c2,o2⟩:=hw.cells2
 have sg:SmallI (Int.gcd n d:Int):=by
  have h1:Int.gcd n d≤d.natAbs:=Nat.le_of_dvd (by omega) (Nat.gcd_dvd_right _ _)
  exact small_nat (sd.le h1)
 refine enter (nt:=34) (rs:=[.cell 4 139]) Proofs.Tryz.func105 rfl rfl rfl (by simp) ?_
 simp -dsimp (disch:=try exact dx) only[wpS,wpT,zE,zL,zA,zc139,ld137]
 obtain⟨H0,hH0,n0,E0,g0,g1,g2⟩:=boxes3 h [.bool (decide (n<0)),s] [.bool (decide (d<0)),t] ZR
 rw[←hH0]
 refine call (pcommon_ok (hv.keep E0.keep) (hw.keep E0.keep) sn sd) ?_
 rintro _ h1 ⟨hE1,hg⟩
 obtain⟨sg1,rfl,c3,o3⟩:=hg.cells2
 have hng:decide ((Int.gcd n d:Int)<0)=false:=decide_eq_false (by omega)
 rw[hng] at hg
 have x1:=E0.trans hE1
 have n1:=(hE1).n;try simp only[new_n,put_n] at n1
 have r0:=row_of (hE1.kept (by omega) g0)
 simp -dsimp (disch:=try exact dx) only[wpS,wpT,zE,zL,zA,ld137,zc137,st137,o3,r0,tk2']
 obtain⟨H2,hH2⟩ : ∃H2,H2=(h1.new (.cells ZL 0 none)).put h1.n (.cells [.bool false,sg1] 0 none):=⟨_,rfl⟩
 have e2:Ext h1 H2:=by rw[hH2];exact((Ext.refl _).new _).put (Nat.le_refl _) _
 have n2:H2.n=h1.n+1:=by rw[hH2];rfl
 have gg:H2.ext.get h1.n=some (.cells [.bool false,sg1] 0 none):=by rw[hH2];simp (disch:=try exact dx) only[get_put_same]
 rw[←hH2]
 have x2:=x1.trans e2
 refine call (pparts_ok (hv.keep x2.keep) (hg.keep e2.keep) sn sg (gcd_ne d0)) ?_
 rintro _ h3 ⟨hE3,q,u,rfl,hq,hu⟩
 obtain⟨sq,rfl,c4,o4⟩:=hq.cells2
 obtain⟨su,rfl,c5,o5⟩:=hu.cells2
 have n3:=(hE3).n;try simp only[new_n,put_n] at n3
 have x3:=x2.trans hE3
 have r1:=row_of (hE3.kept (by omega) (e2.kept (by omega) (hE1.kept (by omega) g1)))
 have r3:=row_of (hE3.kept (by omega) gg)
 simp -dsimp (disch:=try exact dx) only[wpS,wpT,zE,zL,zA,ld137,zc137,st137,o4,o5,r1,r3,tk2']
 obtain⟨H4,hH4⟩ : ∃H4,H4=((((h3.new (.cells ZL 0 none)).new (.cells ZL 0 none)).put h3.n (.cells [.bool (decide (n / (Int.gcd n d:Int)<0)),sq] 0 none)).put (h3.n+1) (.cells [.bool (decide (n % (Int.gcd n d:Int)<0)),su] 0 none)):=⟨_,rfl⟩
 have e4:Ext h3 H4:=by rw[hH4];exact((((Ext.refl _).new _).new _).put (Nat.le_refl _) _).put (by omega) _
 have n4:H4.n=h3.n+2:=by rw[hH4];rfl
 have gq:H4.ext.get h3.n=some (.cells [.bool (decide (n / (Int.gcd n d:Int)<0)),sq] 0 none):=by rw[hH4];simp (disch:=try exact dx) only[get_put_same,get_put_old]
 rw[←hH4]
 have x4:=x3.trans e4
 refine call (pparts_ok (hw.keep x4.keep) (hg.keep ((e2.trans hE3).trans e4).keep) sd sg (gcd_ne d0)) ?_
 rintro _ h5 ⟨hE5,q2,u2,rfl,hq2,hu2⟩
 obtain⟨sq2,rfl,c6,o6⟩:=hq2.cells2
 obtain⟨su2,rfl,c7,o7⟩:=hu2.cells2
 have n5:=(hE5).n;try simp only[new_n,put_n] at n5
 have x5:=x4.trans hE5
 simp -dsimp (disch:=try exact dx) only[wpS,wpT,zE,zL,zA,zc137,st137,fa137_0,ld4,o6,o7]
 obtain⟨H6,hH6⟩ : ∃H6,H6=((((h5.new (.cells ZL 0 none)).new (.cells ZL 0 none)).put h5.n (.cells [.bool (decide (d / (Int.gcd n d:Int)<0)),sq2] 0 none)).put (h5.n+1) (.cells [.bool (decide (d % (Int.gcd n d:Int)<0)),su2] 0 none)):=⟨_,rfl⟩
 have e6:Ext h5 H6:=by rw[hH6];exact((((Ext.refl _).new _).new _).put (Nat.le_refl _) _).put (by omega) _
 have n6:H6.n=h5.n+2:=by rw[hH6];rfl
 have gd:H6.ext.get h5.n=some (.cells [.bool (decide (d / (Int.gcd n d:Int)<0)),sq2] 0 none):=by rw[hH6];simp (disch:=try exact dx) only[get_put_same,get_put_old]
 have x6:=x5.trans e6
 have gn:=e6.kept (by omega) (hE5.kept (by omega) gq)
 have gr:=e6.kept (by omega) (hE5.kept (by omega) (e4.kept (by omega) (hE3.kept (by omega) (e2.kept (by omega) (hE1.kept (by omega) g2)))))
 have hqA:=hq.keep ((e4.trans hE5).trans e6).keep
 have hqB:=hq2.keep e6.keep
 rw[←hH6]
 clear hH0 hH2 hH4 hH6
 have rn:=row_of gn
 have rd:=row_of gd
 have hls:=low_sign (n:=n) d0
 refine bq_cut (fun fr2 h7 => ∃sa sb,Ext h h7∧h7.ext.get h3.n=some (.cells [.bool (decide ((Rat.divInt n d).num<0)),sa] 0 none)∧h7.ext.get h5.n=some (.cells [.bool (decide (((Rat.divInt n d).den:Int)<0)),sb] 0 none)∧h7.ext.get (h.n+1+1)=some (.cells ZR 0 none)∧PLong h7 (.agg #[.bool (decide ((Rat.divInt n d).num<0)),sa]) (Rat.divInt n d).num∧PLong h7 (.agg #[.bool (decide (((Rat.divInt n d).den:Int)<0)),sb]) (Rat.divInt n d).den ∧
  fget fr2 4=some (ptr (2*(h.n+1+1)) 0)∧fget fr2 6=some (ptr (2*h3.n) 0)∧fget fr2 8=some (ptr (2*h5.n) 0)) (fun hb=>?_) (fun hb=>?_) ?_
 ·have hd:d<0:=hls.1 (by simpa using hb)
  obtain⟨b1,b2⟩:=low_neg (n:=n) hd
  rw[hb] at hqB gd rd
  refine drawn [(2,[1])] (by kernel_rfl) (by kernel_rfl) rfl ?_
  simp -dsimp (disch:=try exact dx) only[wpS,wpT,zE,zL,zA,ld137,rn,List.drop_zero,tk_two]
  refine call (pturned_ok hqA) ?_
  rintro _ h7 ⟨hE7,hA⟩
  rw[b1] at hA
  obtain⟨sa,rfl,c8,o8⟩:=hA.cells2
  have n7:=(hE7).n;try simp only[new_n,put_n] at n7
  have kd:=hE7.kept (by omega) gd
  have rd7:=row_of kd
  simp -dsimp (disch:=try exact dx) only[wpS,wpT,zE,zL,zA,ld137,rd7,List.drop_zero,tk_two]
  refine call (pturned_ok (hqB.keep hE7.keep)) ?_
  rintro _ h8 ⟨hE8,hB⟩
  rw[b2] at hB
  obtain⟨sb,rfl,c9,o9⟩:=hB.cells2
  have n8:=(hE8).n;try simp only[new_n,put_n] at n8
  have kn8:=hE8.kept (by omega) (hE7.kept (by omega) gn)
  have kd8:=hE8.kept (by omega) kd
  have kr8:=hE8.kept (by omega) (hE7.kept (by omega) gr)
  simp -dsimp (disch:=try exact dx) only[wpS,wpT,zE,zL,zA,st137,kn8,kd8,o8,o9]
  refine⟨wpSteady_one rfl rfl rfl rfl (steady_load (av:=ptr (2*h5.n) 0) (v:=.agg #[.bool true,sq2]) rfl ?_ ?_),?_⟩
  ·simp -dsimp (disch:=try exact dx) only[wpS,wpT,zL,zA,ld137,rd7,List.drop_zero,tk_two]
   try rfl
  ·simp -dsimp (disch:=try exact dx) only[wpS,wpT,zL,zA,ld137,rd,List.drop_zero,tk_two]
   try rfl
  simp -dsimp (disch:=try exact dx) only[wpS,wpT,zA]
  have kpA:=(Keep.refl h8).put kn8 (.cells [.bool (decide ((Rat.divInt n d).num<0)),sa] 0 none)
  have gB:(h8.put h3.n (.cells [.bool (decide ((Rat.divInt n d).num<0)),sa] 0 none)).ext.get h5.n=some (.cells [.bool true,sq2] 0 none):=by rw[get_put_old _ _ (by omega)];exact kd8
  have kpB:=kpA.put gB (.cells [.bool (decide (((Rat.divInt n d).den:Int)<0)),sb] 0 none)
  have hdf:decide (((Rat.divInt n d).den:Int)<0)=false:=decide_eq_false (by omega)
  rw[hdf] at kpB hB ⊢
  refine⟨sa,sb,(((x6.trans hE7).trans hE8).put (by omega) _).put (by omega) _,by simp (disch:=try exact dx) only[get_put_same,get_put_old],get_put_same _ _ rfl,by simp (disch:=try exact dx) only[get_put_old];exact kr8,hA.keep (hE8.keep.trans kpB),hB.keep kpB,by simp,by simp,by simp⟩
 ·have hd:0<d:=by
   have : ¬d<0:=fun h=>by have:=hls.2 h;simp at hb;omega
   omega
  obtain⟨b1,b2⟩:=low_pos (n:=n) hd
  simp -dsimp (disch:=try exact dx) only[wpS,wpT]
  rw[b1] at gn hqA
  rw[b2] at gd hqB
  exact⟨sq,sq2,x6,gn,gd,gr,hqA,hqB,by simp,by simp,by simp⟩
 rintro fr2 h7 ⟨sa,sb,x7,k1,k2,k3,hA,hB,f4,f6,f8⟩
 have q1:=row_of k1
 have q2:=row_of k2
 obtain⟨_,c8,o8⟩:=hA.co
 obtain⟨_,c9,o9⟩:=hB.co
 rw[d_seq]
 simp -dsimp (disch:=try exact dx) only[wpS,wpT,zE,zL,zA,ld137,bv139,pl139_0,pl139_1,st139,ld139,f4,f6,f8,q1,q2,k3,o8,o9,List.drop_zero,tk_two]
 have hdf:decide (((Rat.divInt n d).den:Int)<0)=false:=decide_eq_false (by omega)
 rw[hdf] at hB
 have kp:=(Keep.refl h7).put k3 (.cells [.bool (decide ((Rat.divInt n d).num<0)),sa,.bool false,sb] 0 none)
 exact⟨x7.put (by omega) _,_,_,_,_,rfl,hA.keep kp,hB.keep kp⟩
end Go.Id
