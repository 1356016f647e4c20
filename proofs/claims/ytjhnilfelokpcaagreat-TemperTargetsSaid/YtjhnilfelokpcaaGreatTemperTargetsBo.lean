/-
  Contracts: reference 34: Chance; slices.Equal over wide numbers; law 34's drafts: lists, weights. Contracts: law 34's drafts: lists, weights.
-/
import Derived.Test.YtjhnilfelokpcaaGreatTemperTargetsAt
import Derived.Test.YtjhnilfelokpcaaGreatTemperTargetsBn
import Derived.Test.YtjhnilfelokpcaaGreatTemperTargetsBl
set_option linter.unusedVariables false
set_option linter.unusedSimpArgs false
set_option linter.defProp false
set_option linter.deprecated false
namespace Go.Id
open Go
open Go.Proofs.Tryz (prog)
open Nat (reduceAdd reduceEqDiff reduceLeDiff reduceMul)
set_option maxHeartbeats 16000000
theorem rfChance34_ok {h:IH} {v:Value} {s:List Int} {a b x y:Int} (hv:InSl h v s) (ha:In64 a) (hb:In64 b) (hx:In64 x) (hy:In64 y) :
  WV prog (.func (.func 19) #[] #[]) [v,KI a,KI b,KI x,KI y] h fun r h'=>Ext h h'∧r=chanceRes s a b x y:=by
 unfold chanceRes
 have E0:Ext h (h.new (.cells Z16 0 none)):=(Ext.refl h).new _
 have k10:(h.new (.cells Z16 0 none)).ext.get h.n=some (.cells Z16 0 none):=by simp (disch:=try exact dx) only[get_new_same]
 have el:=hv.1.len (P:=prog) sl25
 have lb:=hv.2.1
 refine enter (nt:=75) (rs:=[.cell 10 48,.tmp 11]) Proofs.Tryz.func19 rfl rfl rfl (by simp) ?_
 simp -dsimp (maxSteps:=1000000) (disch:=try exact dx) only[wpS,wpT,reduceEqDiff,reduceLeDiff,reduceAdd,reduceMul,zc48,bs25]
 obtain⟨H0,hH0⟩ : ∃H0,H0=h.new (.cells Z16 0 none):=⟨_,rfl⟩
 have n0:H0.n=h.n+1:=by rw[hH0];rfl
 rw[←hH0] at E0 k10 ⊢
 rw[show h.n+1=H0.n by omega]
 clear hH0
 have E1:Ext H0 (H0.new (.cells [KI a,KI b] 1 none)):=(Ext.refl H0).new _
 refine call (rfCheck34_ok (hv.keep (E0.trans E1).keep) (teTwo_sl H0 a b ha hb)) ?_
 rintro _ _ ⟨rfl,rfl⟩
 obtain⟨h1,hh1⟩ : ∃H,H=H0.new (.cells [KI a,KI b] 1 none):=⟨_,rfl⟩
 have EE:Ext h h1:=by rw[hh1];exact E0.trans E1
 have m1:h1.n=H0.n+1:=by rw[hh1];rfl
 have q10:h1.ext.get h.n=some (.cells Z16 0 none):=by rw[hh1];exact E1.kept (by omega) k10
 rw[←hh1]
 clear hh1
 rcases ladErr_or s [a,b] with c0|c0
 case inr =>
  rw[c0,if_pos (by decide)]
  simp -dsimp (maxSteps:=1000000) (disch:=try exact dx) only[wpS,wpT,reduceEqDiff,reduceLeDiff,reduceAdd,bv48,st48,ld48,q10]
  exact⟨EE.put (by omega) _,rfl⟩
 obtain⟨⟨s1,s2,s3⟩,_,_,l3⟩:=ladErr_zero c0
 rw[c0,if_neg (by decide)]
 by_cases c1:x<0
 ·rw[if_pos (.inl c1)]
  simp -dsimp (maxSteps:=1000000) (disch:=try exact dx) only[wpS,wpT,reduceEqDiff,reduceLeDiff,reduceAdd,bv48,st48,ld48,q10]
  exact⟨EE.put (by omega) _,rfl⟩
 by_cases c2:(s.length:Int)≤x
 ·rw[if_pos (.inr (.inl c2))]
  simp -dsimp (maxSteps:=1000000) (disch:=try exact dx) only[wpS,wpT,reduceEqDiff,reduceLeDiff,reduceAdd,bv48,st48,ld48,el,q10]
  exact⟨EE.put (by omega) _,rfl⟩
 by_cases c3:y<0
 ·rw[if_pos (.inr (.inr (.inl c3)))]
  simp -dsimp (maxSteps:=1000000) (disch:=try exact dx) only[wpS,wpT,reduceEqDiff,reduceLeDiff,reduceAdd,bv48,st48,ld48,el,q10]
  exact⟨EE.put (by omega) _,rfl⟩
 by_cases c4:(s.length:Int)≤y
 ·rw[if_pos (.inr (.inr (.inr c4)))]
  simp -dsimp (maxSteps:=1000000) (disch:=try exact dx) only[wpS,wpT,reduceEqDiff,reduceLeDiff,reduceAdd,bv48,st48,ld48,el,q10]
  exact⟨EE.put (by omega) _,rfl⟩
 rw[if_neg (by omega)]
 obtain⟨i,rfl⟩ : ∃i:Nat,x=(i:Int):=⟨x.toNat,by omega⟩
 obtain⟨j,rfl⟩ : ∃j:Nat,y=(j:Int):=⟨y.toNat,by omega⟩
 rw[Int.toNat_natCast,Int.toNat_natCast]
 have hi:i<s.length:=by omega
 have hj:j<s.length:=by omega
 have la:=l3 a (by simp)
 have lb2:=l3 b (by simp)
 obtain⟨u,hu⟩ : ∃u,s[i]?=some u:=⟨_,List.getElem?_eq_getElem hi⟩
 obtain⟨t,ht⟩ : ∃t,s[j]?=some t:=⟨_,List.getElem?_eq_getElem hj⟩
 have u1:=s3 u (List.mem_of_getElem? hu)
 have t1:=s3 t (List.mem_of_getElem? ht)
 have kb:=chK_le la lb2 s3 hi hj
 have ek:chK s a b i j=(-((a - b)*(u - t))).toNat:=by
  unfold chK
  rw[List.getD_eq_getElem?_getD,List.getD_eq_getElem?_getD,hu,ht,Option.getD_some,Option.getD_some]
 obtain⟨k,hk⟩ : ∃k,k=chK s a b i j:=⟨_,rfl⟩
 rw[←hk] at kb ek ⊢
 have db:=mul_240 (p:=a - b) (q:=u - t) (by omega) (by omega)
 obtain⟨d,hd⟩ : ∃d,(a - b)*(u - t)=d:=⟨_,rfl⟩
 rw[hd] at db ek
 by_cases c:0≤d
 ·obtain rfl:k=0:=by omega
  have dd:decide (0≤d)=true:=decide_eq_true c
  simp -dsimp (maxSteps:=1000000) (disch:=try exact dx) only[wpS,wpT,reduceEqDiff,el,hv.1.idx es25 hi,hv.1.idx es25 hj,inSl_ld hv EE.keep hu,inSl_ld hv EE.keep ht,hd,dd]
  refine call (ref02Of_ok 1 1 ⟨by omega,by omega⟩ ⟨by omega,by omega⟩ (by omega)) ?_
  rintro _ h2 ⟨X2,rfl⟩
  rw[shareV_shq,show exq 0=Rat.divInt 1 1 from rfl]
  have z10:=X2.kept (by omega) q10
  have m2:=X2.n
  simp -dsimp (maxSteps:=1000000) (disch:=try exact dx) only[wpS,wpT,reduceEqDiff,reduceLeDiff,reduceAdd,st48,ld48,z10,shV_cells,shC_len,shC_all,sh_sp3,sh_take]
  exact⟨(EE.trans X2).put (by omega) _,rfl⟩
 ·have dd:decide (0≤d)=false:=decide_eq_false c
  have kd : -d=(k:Int):=by omega
  simp -dsimp (maxSteps:=1000000) (disch:=try exact dx) only[wpS,wpT,reduceEqDiff,el,hv.1.idx es25 hi,hv.1.idx es25 hj,inSl_ld hv EE.keep hu,inSl_ld hv EE.keep ht,hd,dd]
  refine call (long1_ok 2 ⟨by omega,by omega⟩) ?_
  rintro r2 h2 ⟨X2,p2⟩
  simp -dsimp (maxSteps:=1000000) (disch:=try exact dx) only[wpS,reduceEqDiff,kd]
  refine call (rraised_ok (k:=k) p2 (by omega)) ?_
  rintro r3 h3 ⟨X3,p3⟩
  simp -dsimp (maxSteps:=1000000) (disch:=try exact dx) only[wpS,reduceEqDiff]
  refine call (out_ok p3) ?_
  rintro _ h4 ⟨X4,rfl⟩
  have X24:=(X2.trans X3).trans X4
  have m4:=X24.n
  have iw:InW ((2 ^ k:Nat):Int):=by
   have:=(exq_qw (k:=k) (by omega)).2
   rwa [(exq_parts k).2] at this
  rw[if_pos iw]
  have wz:=wideN_lt iw
  simp -dsimp (maxSteps:=1000000) (disch:=try exact dx) only[wpS,wpT,reduceEqDiff,reduceLeDiff,reduceAdd,zc44,st44,cells8,wdC_len,wdC_all,wd_spl]
  obtain⟨H5,hH5⟩ : ∃H,H=(h4.new (.cells [ZW,ZW,ZW,ZW,ZW,ZW,ZW,ZW] 0 none)).put h4.n (.cells (wdC (wideN ((2 ^ k:Nat):Int))) 0 none):=⟨_,rfl⟩
  have e5:Ext h4 H5:=by rw[hH5];exact((Ext.refl _).new _).put (Nat.le_refl _) _
  have n5:H5.n=h4.n+1:=by rw[hH5];rfl
  have g5:H5.ext.get h4.n=some (.cells (wdC (wideN ((2 ^ k:Nat):Int))) 0 none):=by rw[hH5];simp (disch:=try exact dx) only[get_put_same]
  rw[←hH5]
  clear hH5
  have X5:=X24.trans e5
  have Y0:=Ext.refl H5
  have L5:load prog H5 44 (ptr (2*h4.n) 0)=some (wdV (wideN ((2 ^ k:Nat):Int))):=by
   have r:=row_of g5
   simp -dsimp (maxSteps:=1000000) (disch:=try exact dx) only[wpS,reduceLeDiff,ld44,r,wdC_len,wd_take0]
   rfl
  refine drawn [(1,[0])] (by kernel_rfl) (by kernel_rfl) rfl ?_
  simp -dsimp (maxSteps:=1000000) (disch:=try exact dx) only[wpS]
  refine call (refOf_ok 1 ⟨by omega,by omega⟩) ?_
  rintro _ h6 ⟨X6,rfl⟩
  have m6:=X6.n
  simp -dsimp (maxSteps:=1000000) (disch:=try exact dx) only[wpS,reduceEqDiff,reduceLeDiff,ld44,row_of (X6.kept (by omega) g5),wdC_len,wd_take0]
  have i1:InW 1:=inW64 ⟨by omega,by omega⟩
  have p2:=Nat.two_pow_pos k
  refine call (refmake_ok (wideN 1) (wideN ((2 ^ k:Nat):Int)) (wideN_lt i1) wz ?_) ?_
  ·intro h0
   have a0:=(wdI_zero_iff wz).2 h0
   rw[wdI_wideN iw] at a0
   omega
  rintro _ h7 ⟨X7,rfl⟩
  have m7:=X7.n
  rw[wdI_wideN i1,wdI_wideN iw,show Rat.divInt 1 ((2 ^ k:Nat):Int)=exq k from rfl,if_pos (exq_qw (by omega)),shareV_shq]
  generalize shq (exq k)=p
  have X57:=X5.trans (X6.trans X7)
  have z10:=X57.kept (by omega) q10
  simp -dsimp (maxSteps:=1000000) (disch:=try exact dx) only[wpS,wpT,reduceEqDiff,reduceLeDiff,reduceAdd,st48,z10,shV_cells,shC_len,shC_all,sh_sp3]
  refine⟨wpSteady_one rfl rfl rfl rfl (steady_ext (H0:=H5) rfl (by omega) X6 Y0 L5),?_⟩
  simp -dsimp (maxSteps:=1000000) (disch:=try exact dx) only[wpS,wpT,reduceEqDiff,reduceLeDiff,reduceAdd,ld48,shC_len,sh_take]
  exact⟨(EE.trans X57).put (by omega) _,rfl⟩
theorem wiequal_ok {h:IH} {v v2:Value} {l:List Nat} (hv:WiSl h v l) (hv2:WiSl h v2 l) :
  WV prog (.func (.func 17) #[] #[]) [v,v2] h fun r h'=>h'=h∧r=.bool true:=by
 have hlb:=hv.2.1
 refine enter (nt:=26) (rs:=[.tmp 4]) Proofs.Tryz.func17 rfl rfl rfl (by simp) ?_
 have c1:((l.length:Int) != (l.length:Int))=false:=by simp
 simp -dsimp (maxSteps:=1000000) (disch:=try exact dx) only[wpS,wpT,reduceEqDiff,reduceAdd,hv.1.len sl28,hv2.1.len sl28,c1]
 refine loop (fun m fr hh => ∃i:Nat,i+m=l.length∧hh=h∧fget fr 0=some v∧fget fr 1=some v2∧fget fr 12=some (KN l.length)∧fget fr 13=some (KN i)) l.length
  ⟨0,by omega,rfl,by simp,by simp,by simp,by simp⟩ ?_
 rintro m fr hh ⟨i,him,rfl,f0,f1,f12,f13⟩
 simp -dsimp (maxSteps:=1000000) (disch:=try exact dx) only[wpS,wpT,f12,f13]
 refine bq_intro ?_ ?_<;>intro hc<;>simp only[decide_eq_true_eq,decide_eq_false_iff_not] at hc
 ·have hi:i<l.length:=by omega
  obtain⟨p,hp⟩ : ∃p,l[i]?=some p:=⟨_,List.getElem?_eq_getElem hi⟩
  have pw:=hv.2.2 p (List.mem_of_getElem? hp)
  have hne : ∀ox oy,binop prog .neq 44 ox oy (wdV p) (wdV p)=some (.bool false):=fun ox oy=>(wd_neq pw pw ox oy).trans (by rw[decide_eq_true rfl];rfl)
  simp -dsimp (maxSteps:=1000000) (disch:=try exact dx) only[wpS,wpT,reduceEqDiff,f0,f1,f13,hv.1.idx es28 hi,hv2.1.idx es28 hi,hv.ld (Keep.refl _) hp,hv2.ld (Keep.refl _) hp,hne]
  exact⟨m - 1,by omega,i+1,by omega,rfl,by simp[f0],by simp[f1],by simp[f12],by simp⟩
 ·simp -dsimp (maxSteps:=1000000) (disch:=try exact dx) only[wpS,wpT]
end Go.Id

namespace Go.Id
open Go
open Go.Proofs.Tryz (prog)
open Nat (reduceAdd reduceEqDiff reduceLeDiff)
set_option maxHeartbeats 16000000
def BySl (h:IH) (v:Value) (l:List Nat):Prop:=SlOf h 1 v l.length (l.map B8)∧l.length<9223372036854775808 ∧ ∀x∈l,x<256
theorem BySl.keep {h h':IH} {v:Value} {l:List Nat} (s:BySl h v l) (e:Keep h h'):BySl h' v l:=⟨s.1.keep e,s.2⟩
theorem BySl.ld {h h':IH} {v:Value} {l:List Nat} (s:BySl h v l) (e:Keep h h') {i:Nat} {x:Nat} (hi:l[i]?=some x):load prog h' 5 (elemAddr v i)=some (B8 x):=by
 have hil:=(List.getElem?_eq_some_iff.1 hi).1
 rw[s.1.ld e (by simpa using hil) ag5,List.getElem?_map,hi];rfl
theorem wiL_take (m:Nat) : ∀l:List Nat,wiL (l.take m)=(wiL l).take (m*8):=by
 induction m with
 | zero=>intro l;simp[wiL]
 | succ m ih =>
  intro l
  cases l with
  | nil=>simp[wiL]
  | cons a l =>
   have e : ∀(x:Nat) (y:List Nat),wiL (x :: y)=wdC x ++ wiL y:=fun x y=>by rw[wiL,List.flatMap_cons,←wiL]
   rw[List.take_succ_cons,e,e,ih,List.take_append,wdC_len,List.take_of_length_le (l:=wdC a) (by rw[wdC_len];omega),show(m+1)*8 - 8=m*8 by omega]
theorem BySl.first {h h':IH} {v:Value} {l:List Nat} (s:BySl h v l) (kp:Keep h h') {m:Nat} (hm:m≤l.length) : ∃w,sliceOp prog h' 22 v none (some (KN m)) none=some w∧BySl h w (l.take m):=by
 have lb:=s.2.1
 obtain⟨w,hw,hs⟩:=s.1.slice kp (P:=prog) (t:=22) u22 sz5 (l:=0) (m:=m) (Nat.zero_le _) hm (lo:=none) (hi:=some (KN m)) rfl (fun c hc=>natOf_nat (k:=.i64) (by omega))
 refine⟨w,hw,?_,by rw[List.length_take];omega,fun x hx=>s.2.2 x (List.mem_of_mem_take hx)⟩
 rw[List.length_take,Nat.min_eq_left hm,List.map_take]
 simpa using hs
def InAr (h:IH) (v:Value) (l:List Int):Prop:=SlOf h 1 v l.length (l.map KI)∧l.length<9223372036854775808 ∧ ∀x∈l,In64 x
theorem InAr.keep {h h':IH} {v:Value} {l:List Int} (s:InAr h v l) (e:Keep h h'):InAr h' v l:=⟨s.1.keep e,s.2⟩
def WiAr (h:IH) (v:Value) (l:List Nat):Prop:=SlOf h 8 v l.length (wiL l)∧l.length<9223372036854775808 ∧ ∀n∈l,n<W8
theorem WiAr.keep {h h':IH} {v:Value} {l:List Nat} (s:WiAr h v l) (e:Keep h h'):WiAr h' v l:=⟨s.1.keep e,s.2⟩
theorem InAr.first {h h':IH} {v:Value} {l:List Int} (s:InAr h v l) (kp:Keep h h') {m:Nat} (hm:m≤l.length) (hb:m≤1000) : ∃w,sliceOp prog h' 25 v none (some (KN m)) none=some w∧InSl h w (l.take m):=by
 have lb:=s.2.1
 obtain⟨w,hw,hs⟩:=s.1.slice kp (P:=prog) (t:=25) u25 sz3 (l:=0) (m:=m) (Nat.zero_le _) hm (lo:=none) (hi:=some (KN m)) rfl (fun c hc=>natOf_nat (k:=.i64) (by omega))
 refine⟨w,hw,?_,by rw[List.length_take];omega,fun x hx=>s.2.2 x (List.mem_of_mem_take hx)⟩
 rw[List.length_take,Nat.min_eq_left hm,List.map_take]
 simpa using hs
theorem WiAr.first {h h':IH} {v:Value} {l:List Nat} (s:WiAr h v l) (kp:Keep h h') {m:Nat} (hm:m≤l.length) (hb:m≤1000) : ∃w,sliceOp prog h' 28 v none (some (KN m)) none=some w∧WiSl h w (l.take m):=by
 have lb:=s.2.1
 obtain⟨w,hw,hs⟩:=s.1.slice kp (P:=prog) (t:=28) u28 sz44 (l:=0) (m:=m) (Nat.zero_le _) hm (lo:=none) (hi:=some (KN m)) rfl (fun c hc=>natOf_nat (k:=.i64) (by omega))
 refine⟨w,hw,?_,by rw[List.length_take];omega,fun x hx=>s.2.2 x (List.mem_of_mem_take hx)⟩
 rw[List.length_take,Nat.min_eq_left hm]
 rw[wiL_take]
 simpa using hs
theorem rem_natk (P:Program) (t:TypeId) (k:IntKind) (ox oy:Operand) (a n:Nat) (hn:0<n):binop P .rem t ox oy (.int k (a:Int)) (.int k (n:Int))=some (.int k ((a % n:Nat):Int)):=by
 rw[binop_rem P t ox oy (by omega),Int.tmod_eq_emod_of_nonneg (by omega),Int.natCast_emod]
theorem dweights_ok {h:IH} {sz:Nat} {v:Value} {l:List Nat} (hv:BySl h v l) (n:Nat) (hn:n≤100) :
  WV prog (.func (.func 14) #[] #[]) [.agg #[B8 sz,v],KN n] h fun r h'=>Ext h h' ∧ ∃out,WiSl h' r out∧out.length=n:=by
 have cv:=hv.1.cells
 have co:=hv.1.cok
 have g0:(h.new (.cells [B8 sz,v] 0 none)).ext.get h.n=some (.cells [B8 sz,v] 0 none):=by simp (disch:=try exact dx) only[get_new_same]
 have E0:Ext h (h.new (.cells [B8 sz,v] 0 none)):=(Ext.refl h).new _
 refine enter (nt:=32) (rs:=[.tmp 4]) Proofs.Tryz.func14 rfl rfl rfl (by simp) ?_
 simp -dsimp (maxSteps:=1000000) (disch:=try exact dx) only[wpS,reduceEqDiff,reduceAdd]
 obtain⟨Hb,hHb⟩ : ∃H,H=h.new (.cells [B8 sz,v] 0 none):=⟨_,rfl⟩
 have nb:Hb.n=h.n+1:=by rw[hHb];rfl
 rw[←hHb] at g0 E0 ⊢
 clear hHb
 refine loop (fun m fr hh => ∃(i:Nat) (out:Value) (l':List Nat),i+m=n∧l'.length=i∧(∀p∈l',p<W8)∧Ext Hb hh∧Acc hh Hb.n 8 out l'.length (wiL l')∧fget fr 1=some (KN n)∧fget fr 2=some (ptr (2*h.n) 0)∧fget fr 5=some out∧fget fr 6=some (KN i)) n
  ⟨0,.slice none 0 0,[],by omega,rfl,(fun p hp=>by cases hp),Ext.refl _,Acc.nil _ _ (by omega),by simp,by simp,by simp,by simp⟩ ?_
 rintro m fr hh ⟨i,out,l',him,hil,hlt,hE,hA,f1,f2,f5,f6⟩
 have hg:=hE.kept (by omega) g0
 have hnn:=hE.n
 have lv:=hv.2.1
 have hEh:=E0.trans hE
 simp -dsimp (maxSteps:=1000000) (disch:=try exact dx) only[wpS,reduceEqDiff,f1,f6]
 refine bq_intro ?_ ?_<;>intro hc<;>simp only[decide_eq_true_eq,decide_eq_false_iff_not] at hc
 ·by_cases c:i<l.length
  ·obtain⟨x,hx⟩ : ∃x,l[i]?=some x:=⟨_,List.getElem?_eq_getElem c⟩
   have xb:=hv.2.2 x (List.mem_of_getElem? hx)
   have hr : ∀ox oy,binop prog .rem 5 ox oy (B8 x) (.int .u8 9)=some (.int .u8 ((x % 9:Nat):Int)):=fun ox oy=>rem_natk _ _ .u8 ox oy x 9 (by omega)
   simp -dsimp (maxSteps:=1000000) (disch:=try exact dx) only[wpS,wpT,reduceEqDiff,fa24_1,ld22,cv5_3,f2,f5,f6,row_of hg,hv.1.len sl22,hv.1.idx es22 c,hv.ld hEh.keep hx,hr]
   refine call (refOf_ok (1+((x % 9:Nat):Int)) ⟨by omega,by omega⟩) ?_
   rintro _ h1 ⟨X1,rfl⟩
   have wz:=wideN_lt (inW64 (n:=1+((x % 9:Nat):Int)) ⟨by omega,by omega⟩)
   have m1:=X1.n
   obtain⟨out',h8,hap,hA8,hG8,hE8⟩:=(hA.ext X1).appN (P:=prog) (t:=28) ap28 (m:=1) (new:=wdC (wideN (1+((x % 9:Nat):Int)))) (by omega) (by rw[wdC_len]) (wdC_all _) (by omega) (by omega) (hE.trans X1) (by omega)
   have hap':append prog (h1.new (.cells (wdC (wideN (1+((x % 9:Nat):Int)))) 8 none)) 28 out (.slice (some ⟨2*h1.n,0,none⟩) 1 3)=some (out',h8):=hap
   simp -dsimp (maxSteps:=1000000) (disch:=try exact dx) only[wpS,wpT,reduceEqDiff,reduceLeDiff,reduceAdd,bs28,ba28_28,f6,cells8,wdC_len,wd_spl,hap']
   refine⟨m - 1,by omega,i+1,out',l' ++ [wideN (1+((x % 9:Nat):Int))],by omega,by simp[hil],?_,hE8,?_,by simp[f1],by simp[f2],by simp,by simp⟩
   ·intro q hq
    rcases List.mem_append.1 hq with hq|hq
    ·exact hlt q hq
    ·rw[List.mem_singleton.1 hq];exact wz
   ·rw[wiL_snoc,List.length_append]
    exact hA8
  ·simp -dsimp (maxSteps:=1000000) (disch:=try exact dx) only[wpS,wpT,reduceEqDiff,fa24_1,ld22,f2,f5,f6,row_of hg,hv.1.len sl22]
   refine call (refOf_ok 1 ⟨by omega,by omega⟩) ?_
   rintro _ h1 ⟨X1,rfl⟩
   have wz:=wideN_lt (inW64 (n:=1) ⟨by omega,by omega⟩)
   have m1:=X1.n
   obtain⟨out',h8,hap,hA8,hG8,hE8⟩:=(hA.ext X1).appN (P:=prog) (t:=28) ap28 (m:=1) (new:=wdC (wideN 1)) (by omega) (by rw[wdC_len]) (wdC_all _) (by omega) (by omega) (hE.trans X1) (by omega)
   have hap':append prog (h1.new (.cells (wdC (wideN 1)) 8 none)) 28 out (.slice (some ⟨2*h1.n,0,none⟩) 1 3)=some (out',h8):=hap
   simp -dsimp (maxSteps:=1000000) (disch:=try exact dx) only[wpS,wpT,reduceEqDiff,reduceLeDiff,reduceAdd,bs28,ba28_28,f6,cells8,wdC_len,wd_spl,hap']
   refine⟨m - 1,by omega,i+1,out',l' ++ [wideN 1],by omega,by simp[hil],?_,hE8,?_,by simp[f1],by simp[f2],by simp,by simp⟩
   ·intro q hq
    rcases List.mem_append.1 hq with hq|hq
    ·exact hlt q hq
    ·rw[List.mem_singleton.1 hq];exact wz
   ·rw[wiL_snoc,List.length_append]
    exact hA8
 ·simp -dsimp (maxSteps:=1000000) (disch:=try exact dx) only[wpS,wpT,reduceEqDiff,f5]
  exact⟨hEh,l',⟨hA.sl,by omega,hlt⟩,by omega⟩
theorem lists_ok {h:IH} {sz n:Nat} {vN vS vL vA vR vQ:Value} {lS lL lA:List Nat} (hS:BySl h vS lS) (hL:BySl h vL lL) (hA:BySl h vA lA) (n0:0<n) (hn:n≤100)
  (cN:cellOK vN=true) (cR:cellOK vR=true) (cQ:cellOK vQ=true) :
  WV prog (.func (.func 11) #[] #[]) [.agg #[B8 sz,vN,vS,vL,vA,vR,vQ],KN n] h fun r h'=>Ext h h' ∧ ∃(a b c:Value) (s l t:List Int),r=.tuple #[a,b,c]∧InSl h' a s∧InSl h' b l∧InSl h' c t∧s.length=n:=by
 have cS:=hS.1.cok
 have cL:=hL.1.cok
 have cA:=hA.1.cok
 have g0:(h.new (.cells [B8 sz,vN,vS,vL,vA,vR,vQ] 0 none)).ext.get h.n=some (.cells [B8 sz,vN,vS,vL,vA,vR,vQ] 0 none):=by simp (disch:=try exact dx) only[get_new_same]
 have E0:Ext h (h.new (.cells [B8 sz,vN,vS,vL,vA,vR,vQ] 0 none)):=(Ext.refl h).new _
 obtain⟨Hb,hHb⟩ : ∃H,H=h.new (.cells [B8 sz,vN,vS,vL,vA,vR,vQ] 0 none):=⟨_,rfl⟩
 have nb:Hb.n=h.n+1:=by rw[hHb];rfl
 refine enter (nt:=79) (rs:=[.tmp 4,.tmp 5,.tmp 6]) Proofs.Tryz.func11 rfl rfl rfl (by simp) ?_
 simp -dsimp (maxSteps:=1000000) (disch:=try exact dx) only[wpS,reduceEqDiff,reduceAdd]
 rw[←hHb] at g0 E0 ⊢
 clear hHb
 have lvS:=hS.2.1
 have lvL:=hL.2.1
 have lvA:=hA.2.1
 refine loop (fun m fr hh => ∃(i:Nat) (out:Value) (s:List Int),i+m=n∧s.length=i∧(∀x∈s,In64 x)∧Ext Hb hh∧Acc hh Hb.n 1 out s.length (s.map KI)∧fget fr 1=some (KN n)∧fget fr 2=some (ptr (2*h.n) 0)∧fget fr 4=some out∧fget fr 5=some (.slice none 0 0)∧fget fr 6=some (.slice none 0 0)∧fget fr 13=some (KN n)∧fget fr 14=some (KN i)) n
  ⟨0,.slice none 0 0,[],by omega,rfl,(fun p hp=>by cases hp),Ext.refl _,Acc.nil _ _ (by omega),by simp,by simp,by simp,by simp,by simp,by simp,by simp⟩ ?_
 rintro m fr hh ⟨i,out,s,him,hil,hlt,hE,hAc,f1,f2,f4,f5,f6,f13,f14⟩
 have hg:=hE.kept (by omega) g0
 have hnn:=hE.n
 have hEh:=E0.trans hE
 simp -dsimp (maxSteps:=1000000) (disch:=try exact dx) only[wpS,f13,f14]
 refine bq_intro ?_ ?_<;>intro hc<;>simp only[decide_eq_true_eq,decide_eq_false_iff_not] at hc
 ·by_cases c:i<lS.length
  ·obtain⟨x,hx⟩ : ∃x,lS[i]?=some x:=⟨_,List.getElem?_eq_getElem c⟩
   have xb:=hS.2.2 x (List.mem_of_getElem? hx)
   have hr : ∀ox oy,binop prog .rem 5 ox oy (B8 x) (.int .u8 31)=some (.int .u8 ((x % 31:Nat):Int)):=fun ox oy=>rem_natk _ _ .u8 ox oy x 31 (by omega)
   obtain⟨out',h8,hap,hA8,hG8,hE8⟩:=hAc.app1 (P:=prog) (t:=25) ap25 (x:=KI ((x % 31:Nat):Int)) rfl (by omega) (by omega) hE (by omega)
   simp -dsimp (maxSteps:=1000000) (disch:=try exact dx) only[wpS,wpT,reduceEqDiff,reduceLeDiff,reduceAdd,fa27_1,ld22,cv5_3,bs25,ba25_25,f2,f4,f14,row_of hg,hS.1.len sl22,hS.1.idx es22 c,hS.ld hEh.keep hx,hr,hap]
   refine⟨m - 1,by omega,i+1,out',s ++ [((x % 31:Nat):Int)],by omega,by simp[hil],?_,hE8,?_,by simp[f1],by simp[f2],by simp,by simp[f5],by simp[f6],by simp[f13],by simp⟩
   ·intro q hq
    rcases List.mem_append.1 hq with hq|hq
    ·exact hlt q hq
    ·rw[List.mem_singleton.1 hq];constructor<;>omega
   ·rw[List.map_append,List.length_append]
    exact hA8
  ·obtain⟨out',h8,hap,hA8,hG8,hE8⟩:=hAc.app1 (P:=prog) (t:=25) ap25 (x:=KI 0) rfl (by omega) (by omega) hE (by omega)
   simp -dsimp (maxSteps:=1000000) (disch:=try exact dx) only[wpS,wpT,reduceEqDiff,reduceLeDiff,reduceAdd,fa27_1,ld22,bs25,ba25_25,f2,f4,f14,row_of hg,hS.1.len sl22,hap]
   refine⟨m - 1,by omega,i+1,out',s ++ [0],by omega,by simp[hil],?_,hE8,?_,by simp[f1],by simp[f2],by simp,by simp[f5],by simp[f6],by simp[f13],by simp⟩
   ·intro q hq
    rcases List.mem_append.1 hq with hq|hq
    ·exact hlt q hq
    ·rw[List.mem_singleton.1 hq];constructor<;>omega
   ·rw[List.map_append,List.length_append]
    exact hA8
 have sS:InSl hh out s:=⟨hAc.sl,by omega,hlt⟩
 have hsn:s.length=n:=by omega
 clear hAc hlt him hc
 obtain⟨M,hM⟩ : ∃M,M=min lL.length 6:=⟨_,rfl⟩
 have hmin:(if (6:Int)<(lL.length:Int) then (6:Int) else (lL.length:Int))=(M:Int):=by split<;>omega
 obtain⟨w,hw,hs2⟩:=hL.first hEh.keep (m:=M) (by omega)
 obtain⟨ls,hls⟩ : ∃l,l=lL.take M:=⟨_,rfl⟩
 rw[←hls] at hs2
 have hlsl:ls.length=M:=by rw[hls,List.length_take];omega
 clear hls
 have lv2:=hs2.2.1
 simp -dsimp (maxSteps:=1000000) (disch:=try exact dx) only[wpS,wpT,reduceEqDiff,ld22,fa27_2,f2,row_of hg,hL.1.len sl22,min_ii,hmin,hw,hs2.1.len sl22]
 refine loop (fun m fr h4 => ∃(i:Nat) (out2:Value) (s:List Int),i+m=ls.length∧s.length=i∧(∀x∈s,In64 x)∧Ext hh h4∧Acc h4 hh.n 1 out2 s.length (s.map KI)∧fget fr 1=some (KN n)∧fget fr 2=some (ptr (2*h.n) 0)∧fget fr 4=some out∧fget fr 5=some out2∧fget fr 6=some (.slice none 0 0)∧fget fr 40=some w∧fget fr 41=some (KN ls.length)∧fget fr 42=some (KN i)) ls.length
  ⟨0,.slice none 0 0,[],by omega,rfl,(fun p hp=>by cases hp),Ext.refl _,Acc.nil _ _ (by omega),by simp[f1],by simp[f2],by simp[f4],by simp[f5],by simp[f6],by simp,by simp,by simp⟩ ?_
 rintro m fr h4 ⟨i,out2,t,him,hil,hlt,hE2,hAc,f1,f2,f4,f5,f6,f40,f41,f42⟩
 have hg2:=hE2.kept (by omega) hg
 have hnn2:=hE2.n
 have hEh2:=hEh.trans hE2
 simp -dsimp (maxSteps:=1000000) (disch:=try exact dx) only[wpS,f41,f42]
 refine bq_intro ?_ ?_<;>intro hc<;>simp only[decide_eq_true_eq,decide_eq_false_iff_not] at hc
 ·have c:i<ls.length:=by omega
  obtain⟨x,hx⟩ : ∃x,ls[i]?=some x:=⟨_,List.getElem?_eq_getElem c⟩
  have xb:=hs2.2.2 x (List.mem_of_getElem? hx)
  have hr : ∀ox oy,binop prog .rem 5 ox oy (B8 x) (.int .u8 9)=some (.int .u8 ((x % 9:Nat):Int)):=fun ox oy=>rem_natk _ _ .u8 ox oy x 9 (by omega)
  obtain⟨out',h8,hap,hA8,hG8,hE8⟩:=hAc.app1 (P:=prog) (t:=25) ap25 (x:=KI ((x % 9:Nat):Int)) rfl (by omega) (by omega) hE2 (by omega)
  simp -dsimp (maxSteps:=1000000) (disch:=try exact dx) only[wpS,wpT,reduceEqDiff,reduceLeDiff,reduceAdd,cv5_3,bs25,ba25_25,f5,f40,f42,hs2.1.idx es22 c,hs2.ld hEh2.keep hx,hr,hap]
  refine⟨m - 1,by omega,i+1,out',t ++ [((x % 9:Nat):Int)],by omega,by simp[hil],?_,hE8,?_,by simp[f1],by simp[f2],by simp[f4],by simp,by simp[f6],by simp[f40],by simp[f41],by simp⟩
  ·intro q hq
   rcases List.mem_append.1 hq with hq|hq
   ·exact hlt q hq
   ·rw[List.mem_singleton.1 hq];constructor<;>omega
  ·rw[List.map_append,List.length_append]
   exact hA8
 have sL:InSl h4 out2 t:=⟨hAc.sl,by omega,hlt⟩
 have sS2:=sS.keep hE2.keep
 have ltl:t.length≤1000000000:=sL.2.1
 clear hAc hlt him hc sS hil
 simp -dsimp (maxSteps:=1000000) (disch:=try exact dx) only[wpS,reduceEqDiff,f5,sL.1.len sl25]
 refine loop (fun m fr h5 => ∃(i:Nat) (out3:Value) (s:List Int),i+m=t.length∧s.length=i∧(∀x∈s,In64 x)∧Ext h4 h5∧Acc h5 h4.n 1 out3 s.length (s.map KI)∧fget fr 1=some (KN n)∧fget fr 2=some (ptr (2*h.n) 0)∧fget fr 4=some out∧fget fr 5=some out2∧fget fr 6=some out3∧fget fr 54=some (KN t.length)∧fget fr 55=some (KN i)) t.length
  ⟨0,.slice none 0 0,[],by omega,rfl,(fun p hp=>by cases hp),Ext.refl _,Acc.nil _ _ (by omega),by simp[f1],by simp[f2],by simp[f4],by simp[f5],by simp[f6],by simp,by simp⟩ ?_
 rintro m fr h5 ⟨i,out3,u,him,hil,hlt,hE3,hAc,f1,f2,f4,f5,f6,f54,f55⟩
 have hg3:=hE3.kept (by omega) hg2
 have hnn3:=hE3.n
 have hEh3:=hEh2.trans hE3
 simp -dsimp (maxSteps:=1000000) (disch:=try exact dx) only[wpS,f54,f55]
 refine bq_intro ?_ ?_<;>intro hc<;>simp only[decide_eq_true_eq,decide_eq_false_iff_not] at hc
 ·by_cases c:i<lA.length
  ·obtain⟨x,hx⟩ : ∃x,lA[i]?=some x:=⟨_,List.getElem?_eq_getElem c⟩
   have xb:=hA.2.2 x (List.mem_of_getElem? hx)
   have hb:=Nat.mod_lt x n0
   have hr : ∀ox oy,binop prog .rem 3 ox oy (.int .i64 (x:Int)) (KN n)=some (.int .i64 ((x % n:Nat):Int)):=fun ox oy=>rem_natk _ _ .i64 ox oy x n n0
   obtain⟨out',h8,hap,hA8,hG8,hE8⟩:=hAc.app1 (P:=prog) (t:=25) ap25 (x:=KI ((x % n:Nat):Int)) rfl (by omega) (by omega) hE3 (by omega)
   simp -dsimp (maxSteps:=1000000) (disch:=try exact dx) only[wpS,wpT,reduceEqDiff,reduceLeDiff,reduceAdd,ld22,cv5_3,bs25,fa27_3,ba25_25,f1,f2,f6,f55,row_of hg3,hA.1.len sl22,hA.1.idx es22 c,hA.ld hEh3.keep hx,hr,hap]
   refine⟨m - 1,by omega,i+1,out',u ++ [((x % n:Nat):Int)],by omega,by simp[hil],?_,hE8,?_,by simp[f1],by simp[f2],by simp[f4],by simp[f5],by simp,by simp[f54],by simp⟩
   ·intro q hq
    rcases List.mem_append.1 hq with hq|hq
    ·exact hlt q hq
    ·rw[List.mem_singleton.1 hq];constructor<;>omega
   ·rw[List.map_append,List.length_append]
    exact hA8
  ·obtain⟨out',h8,hap,hA8,hG8,hE8⟩:=hAc.app1 (P:=prog) (t:=25) ap25 (x:=KI 0) rfl (by omega) (by omega) hE3 (by omega)
   simp -dsimp (maxSteps:=1000000) (disch:=try exact dx) only[wpS,wpT,reduceEqDiff,reduceLeDiff,reduceAdd,ld22,bs25,fa27_3,ba25_25,f2,f6,f55,row_of hg3,hA.1.len sl22,hap]
   refine⟨m - 1,by omega,i+1,out',u ++ [0],by omega,by simp[hil],?_,hE8,?_,by simp[f1],by simp[f2],by simp[f4],by simp[f5],by simp,by simp[f54],by simp⟩
   ·intro q hq
    rcases List.mem_append.1 hq with hq|hq
    ·exact hlt q hq
    ·rw[List.mem_singleton.1 hq];constructor<;>omega
   ·rw[List.map_append,List.length_append]
    exact hA8
 have sA:InSl h5 out3 u:=⟨hAc.sl,by omega,hlt⟩
 simp -dsimp (maxSteps:=1000000) (disch:=try exact dx) only[wpS,wpT,reduceEqDiff,f4,f5,f6]
 exact⟨hEh3,out,out2,out3,s,t,u,rfl,sS2.keep hE3.keep,sL.keep hE3.keep,sA,hsn⟩
end Go.Id
