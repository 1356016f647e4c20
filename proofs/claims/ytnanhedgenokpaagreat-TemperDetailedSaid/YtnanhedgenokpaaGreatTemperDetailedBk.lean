/-
  Contracts: package temper: Targets. Contracts: package temper: exchange, Chance.
-/
import Derived.Test.YtnanhedgenokpaaGreatTemperDetailedAt
import Derived.Test.YtnanhedgenokpaaGreatTemperDetailedBj
import Derived.Test.YtnanhedgenokpaaGreatTemperDetailedBe
set_option linter.unusedVariables false
set_option linter.unusedSimpArgs false
set_option linter.defProp false
set_option linter.deprecated false
namespace Go.Id
open Go
open Go.Proofs.Tryz (prog)
open Nat renaming reduceAdd→zA,reduceEqDiff→zE,reduceLeDiff→zL
set_option maxHeartbeats 16000000
theorem inSl_ld {h h':IH} {v:Value} {l:List Int} (s:InSl h v l) (e:Keep h h') {i:Nat} {x:Int} (hi:l[i]?=some x):load prog h' 3 (elemAddr v i)=some (KI x):=by
 have hil:=(List.getElem?_eq_some_iff.1 hi).1
 rw[s.1.ld e (by simpa using hil) ag3,List.getElem?_map,hi];rfl
theorem ld_int {H:IH} {k:Nat} {x:Int} (g:H.ext.get k=some (.cells [KI x] 0 none)):load prog H 3 (ptr (2*k) 0)=some (KI x):=by
 have r:=row_of g
 simp -dsimp (disch:=try exact dx) only[wpS,ld3,r]
theorem ld_sl {H:IH} {k:Nat} {v:Value} (g:H.ext.get k=some (.cells [v] 0 none)):load prog H 25 (ptr (2*k) 0)=some v:=by
 have r:=row_of g
 simp -dsimp (disch:=try exact dx) only[wpS,ld25,r]
theorem wdI_half {n:Nat} (hn:n<W8):HalfI (wdI n):=by
 have hw:W8=2 ^ 512:=by decide +kernel
 have k1:(wdI n).natAbs≤2 ^ 512:=by
  rw[←hw]
  unfold wdI
  have:=H8_two
  split<;>omega
 exact half_bits (k:=512) k1 (by omega)
def tgt (most level s:Int) (w:Nat):Int:=wdI w*((2 ^ ((most - s)*level).toNat:Nat):Int)
theorem targets2_ok {h:IH} {v:Value} {s:List Int} {most level x:Int} {w i b1 b2 b3:Nat} (hs:InSl h v s) (hw:w<W8) (hx:s[i]?=some x)
  (k1:b1<h.n) (k2:b2<h.n) (k3:b3<h.n) (g1:h.ext.get b1=some (.cells [KI most] 0 none)) (g2:h.ext.get b2=some (.cells [v] 0 none)) (g3:h.ext.get b3=some (.cells [KI level] 0 none))
  (hm:0≤most∧most≤30) (hl:0≤level∧level≤8) (hx2:0≤x∧x≤most) :
  WV prog (.func (.func 83) #[] #[ptr (2*b1) 0,ptr (2*b2) 0,ptr (2*b3) 0]) [KN i,wdV w] h fun r h'=>Ext h h'∧r=if InW (tgt most level x w) then .tuple #[wideV (tgt most level x w),KI 0] else .tuple #[wdV 0,KI 6]:=by
 have hi:=(List.getElem?_eq_some_iff.1 hx).1
 have y0:0≤most - x∧most - x≤30:=by omega
 have hp0:0≤(most - x)*level:=Int.mul_nonneg y0.1 hl.1
 have hp1:(most - x)*level≤30*8:=Int.mul_le_mul y0.2 hl.2 hl.1 (by omega)
 obtain⟨k,hk⟩ : ∃k:Nat,(most - x)*level=(k:Int):=⟨((most - x)*level).toNat,by omega⟩
 have et:tgt most level x w=wdI w*((2 ^ k:Nat):Int):=by unfold tgt;rw[hk,Int.toNat_natCast]
 rw[et]
 have kb:k≤240:=by omega
 obtain⟨H0,hH0,n0,E0,k0,k7⟩:=boxes2 h (wdC w) [ZW,ZW,ZW,ZW,ZW,ZW,ZW,ZW]
 have G1:=E0.kept k1 g1
 have G2:=E0.kept k2 g2
 have G3:=E0.kept k3 g3
 refine enter (nt:=27) (rs:=[.cell 7 30,.tmp 8]) Proofs.Tryz.func83 rfl rfl rfl (by simp) ?_
 simp -dsimp (disch:=try exact dx) only[wpS,zE,zA,zc30,cells8]
 rw[←hH0]
 clear hH0
 have X0:=Ext.refl H0
 have L1:=ld_int G1
 have L2:=ld_sl G2
 have L3:=ld_int G3
 refine drawn [(1,[0]),(2,[0]),(5,[0]),(7,[0])] (by kernel_rfl) (by kernel_rfl) rfl ?_
 simp -dsimp (disch:=try exact dx) only[wpS]
 refine call (pfrom_ok 2 ⟨by omega,by omega⟩) ?_
 rintro r1 h1 ⟨X1,p1⟩
 have m1:=X1.n
 simp -dsimp (disch:=try exact dx) only[wpS,zE,ld3,ld25,row_of (X1.kept (by omega) G1),row_of (X1.kept (by omega) G2),row_of (X1.kept (by omega) G3),hs.1.idx es25 hi,inSl_ld hs (E0.trans X1).keep hx,hk]
 refine call (raised_ok (k:=k) p1 (by omega)) ?_
 rintro r2 h2 ⟨X2,p2⟩
 have m2:=X2.n
 have X12:=X1.trans X2
 obtain⟨s2,n2,rfl,c2,o2,_,_⟩:=p2.form
 simp -dsimp (disch:=try exact dx) only[wpS,wpT,zE,zL,zA,zc137,st137,o2]
 refine⟨by repeat' first|refine wpSteady_c2 ?_ ?_|refine wpSteady_t2 ?_ ?_|exact wpSteady_one rfl rfl rfl rfl (steady_ext (H0:=H0) rfl (by omega) (by assumption) (by assumption) (by with_reducible assumption))|exact wpSteady_one rfl rfl rfl rfl (steady_load rfl (inSl_ld hs ((E0.trans (by assumption)).keep) hx) (inSl_ld hs ((E0.trans (by assumption)).keep) hx)),?_⟩
 simp -dsimp (disch:=try exact dx) only[wpS,wpT,zA]
 obtain⟨H2,hH2⟩ : ∃H,H=(h2.new (.cells [.bool false,.slice none 0 0] 0 none)).put h2.n (.cells [.bool (decide (((2 ^ k:Nat):Int)<0)),s2] 0 none):=⟨_,rfl⟩
 have e2:Ext h2 H2:=by rw[hH2];exact((Ext.refl h2).new _).put (Nat.le_refl _) _
 have n2:H2.n=h2.n+1:=by rw[hH2];rfl
 have q9:H2.ext.get h2.n=some (.cells [.bool (decide (((2 ^ k:Nat):Int)<0)),s2] 0 none):=by rw[hH2];simp (disch:=try exact dx) only[get_put_same]
 have X02:=X12.trans e2
 have q6:=X02.kept (by omega) k0
 have q7:=X02.kept (by omega) k7
 rw[←hH2]
 clear hH2
 have Y0:=Ext.refl H2
 have M1:=pl2 q9
 refine drawn [(2,[1])] (by kernel_rfl) (by kernel_rfl) rfl ?_
 simp -dsimp (disch:=try exact dx) only[wpS,zE,zL,ld30,row_of q6,wdC_len,wd_take0]
 refine call (longer_ok w hw) ?_
 rintro r3 h3 ⟨X3,p3⟩
 have m3:=X3.n
 simp -dsimp (disch:=try exact dx) only[wpS,wpT,zE,zL,zA,ld137,row_of (X3.kept (by omega) q9),tk2a]
 refine call (ptimes_ok p3 (p2.keep (e2.trans X3).keep) (wdI_half hw) (half_two (by omega))) ?_
 rintro r4 h4 ⟨X4,p4⟩
 have m4:=X4.n
 have X34:=X3.trans X4
 simp -dsimp (disch:=try exact dx) only[wpS,zE]
 refine call (ptold_ok p4) ?_
 rintro _ h5 ⟨X5,rfl⟩
 have m5:=X5.n
 have X35:=X34.trans X5
 have z7:=X35.kept (by omega) q7
 have EE:=(E0.trans X02).trans X35
 generalize wdI w*((2 ^ k:Nat):Int)=z
 by_cases ci:InW z
 ·rw[if_pos ci]
  simp -dsimp (disch:=try exact dx) only[wpS,wpT,zE,zL,zA,st30,cells8,wdC_len,wdC_all,wd_spl,z7]
  refine⟨by repeat' first|refine wpSteady_c2 ?_ ?_|refine wpSteady_t2 ?_ ?_|exact wpSteady_one rfl rfl rfl rfl (steady_ext (H0:=H2) rfl (by omega) (by assumption) (by assumption) (by with_reducible assumption)),?_⟩
  simp -dsimp (disch:=try exact dx) only[wpS,wpT,zE,zL,zA,ld30,wdC_len,wd_take0]
  exact⟨EE.put (by omega) _,rfl⟩
 ·rw[if_neg ci]
  simp -dsimp (disch:=try exact dx) only[wpS,wpT,zE,zL,zA,st30,cells8,wdC_len,wdC_all,wd_spl,z7]
  refine⟨by repeat' first|refine wpSteady_c2 ?_ ?_|refine wpSteady_t2 ?_ ?_|exact wpSteady_one rfl rfl rfl rfl (steady_ext (H0:=H2) rfl (by omega) (by assumption) (by assumption) (by with_reducible assumption)),?_⟩
  simp -dsimp (disch:=try exact dx) only[wpS,wpT,zE,zL,zA,ld30,wdC_len,wd_take0]
  exact⟨EE.put (by omega) _,rfl⟩
def mapZ (z:Nat→Nat→Int) (l:List Nat) (i:Nat):List Nat:=(List.range i).map fun j=>wideN (z j (l.getD j 0))
theorem mapZ_len (z:Nat→Nat→Int) (l:List Nat) (i:Nat):(mapZ z l i).length=i:=by simp[mapZ]
theorem mapZ_snoc (z:Nat→Nat→Int) (l:List Nat) (i:Nat):mapZ z l (i+1)=mapZ z l i ++ [wideN (z i (l.getD i 0))]:=by simp[mapZ,List.range_succ]
def fitZ (z:Nat→Nat→Int) (l:List Nat) (i:Nat):Prop:=∀j,j<i→InW (z j (l.getD j 0))
theorem temapped_ok {h:IH} {v F:Value} {l:List Nat} (hv:WiSl h v l) (z:Nat→Nat→Int) (hl:l.length≤1000)
  (hF : ∀h1 i p,Ext h h1→l[i]?=some p→WV prog F [KN i,wdV p] h1 fun r h2=>Ext h1 h2∧r=if InW (z i p) then .tuple #[wideV (z i p),KI 0] else .tuple #[wdV 0,KI 6]) :
  WV prog (.func (.func 82) #[] #[]) [v,F] h fun r h'=>Ext h h' ∧ ∃out e,r=.tuple #[out,KI e]∧(fitZ z l l.length→e=0∧WiSl h' out (mapZ z l l.length))∧(¬fitZ z l l.length→e=6∧out=.slice none 0 0):=by
 refine enter (nt:=34) (rs:=[.tmp 4,.tmp 5]) Proofs.Tryz.func82 rfl rfl rfl (by simp) ?_
 simp -dsimp (disch:=try exact dx) only[wpS,zE,zA,hv.1.len sl42]
 refine loop (fun m fr hh => ∃(i:Nat) (out:Value),i+m=l.length∧Ext h hh∧Acc hh h.n 8 out (mapZ z l i).length (wiL (mapZ z l i))∧fitZ z l i∧fget fr 1=some F∧fget fr 6=some out∧fget fr 11=some v∧fget fr 12=some (KN l.length)∧fget fr 13=some (KN i)) l.length
  ⟨0,.slice none 0 0,by omega,Ext.refl _,Acc.nil _ _ (by omega),fun j hj=>by omega,by simp,by simp,by simp,by simp,by simp⟩ ?_
 rintro m fr hh ⟨i,out,him,hE,hA,hfit,f1,f6,f11,f12,f13⟩
 have hnn:=hE.n
 simp -dsimp (disch:=try exact dx) only[wpS,f12,f13]
 refine bq_intro ?_ ?_<;>intro hc<;>simp only[decide_eq_true_eq,decide_eq_false_iff_not] at hc
 ·have hi:i<l.length:=by omega
  obtain⟨p,hp⟩ : ∃p,l[i]?=some p:=⟨_,List.getElem?_eq_getElem hi⟩
  have pw:=hv.2.2 p (List.mem_of_getElem? hp)
  have gp:l.getD i 0=p:=by rw[List.getD_eq_getElem?_getD,hp];rfl
  simp -dsimp (disch:=try exact dx) only[wpS,wpT,zE,zL,zA,ld30,zc30,st30,f1,f11,f13,hv.1.idx es42 hi,hv.ld hE.keep hp,cells8,wdC_len,wdC_all,wd_spl,wd_take0]
  obtain⟨H0,hH0⟩ : ∃H,H=(hh.new (.cells [ZW,ZW,ZW,ZW,ZW,ZW,ZW,ZW] 0 none)).put hh.n (.cells (wdC p) 0 none):=⟨_,rfl⟩
  have E0:Ext hh H0:=by rw[hH0];exact((Ext.refl hh).new _).put (Nat.le_refl _) _
  have n0:H0.n=hh.n+1:=by rw[hH0];rfl
  rw[←hH0]
  clear hH0
  refine call (hF H0 i p (hE.trans E0) hp) ?_
  rintro _ h1 ⟨X1,rfl⟩
  have m1:=X1.n
  have E1:=E0.trans X1
  by_cases ci:InW (z i p)
  ·rw[if_pos ci]
   have wz:=wideN_lt ci
   obtain⟨H1,hH1⟩ : ∃H,H=(h1.new (.cells [ZW,ZW,ZW,ZW,ZW,ZW,ZW,ZW] 0 none)).put h1.n (.cells (wdC (wideN (z i p))) 0 none):=⟨_,rfl⟩
   have E2:Ext h1 H1:=by rw[hH1];exact((Ext.refl h1).new _).put (Nat.le_refl _) _
   have n1:H1.n=h1.n+1:=by rw[hH1];rfl
   have k1:H1.ext.get h1.n=some (.cells (wdC (wideN (z i p))) 0 none):=by rw[hH1];simp (disch:=try exact dx) only[get_put_same]
   simp -dsimp (disch:=try exact dx) only[wpS,wpT,zE,zL,zA,zc30,st30,cells8,wdC_len,wdC_all,wd_spl]
   rw[←hH1]
   clear hH1
   have E12:=E1.trans E2
   obtain⟨out',h8,hap,hA8,hG8,hE8⟩:=(hA.ext E12).appN (P:=prog) (t:=42) ap42 (m:=1) (new:=wdC (wideN (z i p))) (by omega) (by rw[wdC_len]) (wdC_all _) (by rw[mapZ_len];omega) (by omega) (hE.trans E12) (Nat.le_refl _)
   have hap':append prog (H1.new (.cells (wdC (wideN (z i p))) 8 none)) 42 out (.slice (some ⟨2*H1.n,0,none⟩) 1 3)=some (out',h8):=hap
   simp -dsimp (disch:=try exact dx) only[wpS,wpT,zE,zL,zA,ld30,bs42,ba42_42,f6,f13,row_of k1,wdC_len,wd_spl,wd_take0,hap']
   refine⟨m - 1,by omega,i+1,out',by omega,hE8,?_,?_,by simp[f1],by simp,by simp[f11],by simp[f12],by simp⟩
   ·rw[mapZ_snoc,wiL_snoc,List.length_append,gp]
    exact hA8
   ·intro j hj
    by_cases hji:j=i
    ·subst hji;rw[gp];exact ci
    ·exact hfit j (by omega)
  ·rw[if_neg ci]
   simp -dsimp (disch:=try exact dx) only[wpS,wpT,zE,zL,zA,zc30,st30,cells8,wdC_len,wdC_all,wd_spl]
   refine⟨((hE.trans E1).new _).put (by omega) _,_,_,rfl,fun hf=>?_,fun _=>⟨rfl,rfl⟩⟩
   exfalso
   have:=hf i hi
   rw[gp] at this
   exact ci this
 ·obtain rfl:i=l.length:=by omega
  simp -dsimp (disch:=try exact dx) only[wpS,wpT,zE,f6]
  refine⟨hE,out,0,rfl,fun _=>⟨rfl,hA.sl,by rw[mapZ_len];omega,?_⟩,fun hn=>absurd hfit hn⟩
  intro n hn
  obtain⟨j,hj,rfl⟩:=List.mem_map.1 hn
  exact wideN_lt (hfit j (List.mem_range.1 hj))
theorem outB_false {most:Int} {l:List Int} (h:l.any (outB most)=false) : ∀x∈l,0≤x∧x≤most:=by
 intro x hx
 have:=List.any_eq_false.1 h x hx
 simp[outB] at this
 omega
theorem ladErr_zero {s l:List Int} (h:ladErr s l=0):(1≤s.length∧s.length≤60 ∧ ∀x∈s,0≤x∧x≤30)∧(1≤l.length∧l.length≤6 ∧ ∀x∈l,0≤x∧x≤8):=by
 unfold ladErr at h
 split at h
 ·cases h
 rename_i hn
 refine⟨⟨by omega,by omega,outB_false ?_⟩,by omega,by omega,outB_false ?_⟩
 ·cases c:s.any (outB 30)
  ·rfl
  ·exact absurd (.inr (.inr (.inl c))) hn
 ·cases c:l.any (outB 8)
  ·rfl
  ·exact absurd (.inr (.inr (.inr (.inr (.inr c))))) hn
theorem ladErr_or (s l:List Int):ladErr s l=0∨ladErr s l=340:=by
 unfold ladErr
 split
 ·exact .inr rfl
 ·exact .inl rfl
def tgtZ (s:List Int) (level:Int) (i p:Nat):Int:=tgt (maxL s) level (s.getD i 0) p
open Classical in
noncomputable def tgErr (ws:List Nat) (s:List Int) (level:Int):Int:=if ladErr s [level]≠0 then 340 else if ws.length≠s.length ∨ ¬allPos ws then 2 else if fitZ (tgtZ s level) ws ws.length then 0 else 6
theorem one_sl (h:IH) (x:Int) (hx:In64 x):InSl (h.new (.cells [KI x] 1 none)) (.slice (some ⟨2*h.n,0,none⟩) 1 3) [x] :=
 ⟨built_sl h (by omega) rfl (by omega),by simp,fun y hy=>by rw[List.mem_singleton.1 hy];exact hx⟩
open Classical in
theorem teTargets_ok {h:IH} {v w:Value} {ws:List Nat} {s:List Int} {level:Int} (hw:WiSl h w ws) (hv:InSl h v s) (hl:In64 level) :
  WV prog (.func (.func 23) #[] #[]) [w,v,KI level] h fun r h'=>Ext h h' ∧ ∃out,r=.tuple #[out,KI (tgErr ws s level)]∧(tgErr ws s level=0→WiSl h' out (mapZ (tgtZ s level) ws ws.length))∧(tgErr ws s level≠0→out=.slice none 0 0):=by
 unfold tgErr
 obtain⟨H0,hH0,n0,E0,k4,k5⟩:=boxes2 h [v] [KI level]
 refine enter (nt:=33) (rs:=[.tmp 6,.tmp 7]) Proofs.Tryz.func23 rfl rfl rfl (by simp) ?_
 simp -dsimp (disch:=try exact dx) only[wpS,wpT,zE,zL,zA,ld25,ld3,bs25,hv.1.cells]
 rw[←hH0,show h.n+1+1=H0.n by omega]
 clear hH0
 have E1:Ext H0 (H0.new (.cells [KI level] 1 none)):=(Ext.refl H0).new _
 refine call (teCheck_ok (hv.keep (E0.trans E1).keep) (one_sl H0 level hl)) ?_
 rintro _ h1 ⟨X1,rfl⟩
 have EE:=(E0.trans E1).trans X1
 have m1:=X1.n
 simp only[new_n] at m1
 have q4:=X1.kept (by simp;omega) (E1.kept (by omega) k4)
 have q5:=X1.kept (by simp;omega) (E1.kept (by omega) k5)
 rcases ladErr_or s [level] with c0|c0
 case inr =>
  rw[c0,if_pos (by decide)]
  simp -dsimp (disch:=try exact dx) only[wpS,wpT,zE]
  exact⟨EE,_,rfl,fun h=>absurd h (by decide),fun _=>rfl⟩
 obtain⟨⟨s1,s2,s3⟩,_,_,l3⟩:=ladErr_zero c0
 have lb:=l3 level (by simp)
 rw[c0,if_neg (by decide)]
 have lw:=hw.2.1
 have el:=hv.1.len (P:=prog) sl25
 have ew:=hw.1.len (P:=prog) sl42
 by_cases c1:ws.length≠s.length
 ·rw[if_pos (.inl c1)]
  have d:(((ws.length:Nat):Int) == ((s.length:Nat):Int))=false:=by simpa using fun h=>c1 (by omega)
  simp -dsimp (disch:=try exact dx) only[wpS,wpT,zE,ld25,row_of q4,el,ew]
  exact⟨EE,_,rfl,fun h=>absurd h (by decide),fun _=>rfl⟩
 have c1:ws.length=s.length:=by omega
 simp -dsimp (disch:=try exact dx) only[wpS,wpT,zE,ld25,row_of q4,el,ew,c1,beq_self_eq_true]
 refine call (wicontains_ok (hw.keep EE.keep)) ?_
 rintro _ h2 ⟨X2,rfl⟩
 have m2:=X2.n
 by_cases c2:allPos ws
 case neg =>
  rw[if_pos (.inr c2),decide_eq_true c2]
  simp -dsimp (disch:=try exact dx) only[wpS,zE]
  exact⟨EE.trans X2,_,rfl,fun h=>absurd h (by decide),fun _=>rfl⟩
 rw[if_neg (by rintro(h|h);exact h c1;exact h c2),decide_eq_false (fun h=>h c2)]
 have E2:=EE.trans X2
 have r4:=X2.kept (by omega) q4
 have r5:=X2.kept (by omega) q5
 simp -dsimp (disch:=try exact dx) only[wpS,zE,ld25,row_of r4]
 refine call (maxI_ok (hv.keep E2.keep).1 hv.2.1 (fun h=>by rw[h] at s1;simp at s1)) ?_
 rintro _ h3 ⟨rfl,rfl⟩
 have mx:0≤maxL s∧maxL s≤30:=s3 _ (maxL_mem s fun h=>by rw[h] at s1;simp at s1)
 simp -dsimp (disch:=try exact dx) only[wpS,wpT,zE,zL,zc3,st3]
 obtain⟨H3,hH3⟩ : ∃H,H=(h3.new (.cells [KI 0] 0 none)).put h3.n (.cells [KI (maxL s)] 0 none):=⟨_,rfl⟩
 have E3:Ext h3 H3:=by rw[hH3];exact((Ext.refl h3).new _).put (Nat.le_refl _) _
 have n3:H3.n=h3.n+1:=by rw[hH3];rfl
 have r9:H3.ext.get h3.n=some (.cells [KI (maxL s)] 0 none):=by rw[hH3];simp (disch:=try exact dx) only[get_put_same]
 rw[←hH3]
 clear hH3
 have t4:=E3.kept (by omega) r4
 have t5:=E3.kept (by omega) r5
 refine call (temapped_ok (hw.keep (E2.trans E3).keep) (tgtZ s level) (by omega) ?_) ?_
 ·intro h4 i p X4 hp
  have m4:=X4.n
  have hi:i<s.length:=by have:=(List.getElem?_eq_some_iff.1 hp).1;omega
  obtain⟨x,hx⟩ : ∃x,s[i]?=some x:=⟨_,List.getElem?_eq_getElem hi⟩
  have gx:s.getD i 0=x:=by rw[List.getD_eq_getElem?_getD,hx];rfl
  have xm:=List.mem_of_getElem? hx
  have:=targets2_ok (hv.keep ((E2.trans E3).trans X4).keep) (hw.2.2 p (List.mem_of_getElem? hp)) hx (by omega) (by omega) (by omega) (X4.kept (by omega) r9) (X4.kept (by omega) t4) (X4.kept (by omega) t5) mx lb ⟨(s3 x xm).1,le_maxL s x xm⟩
  unfold tgtZ
  rw[gx]
  exact this
 rintro _ h5 ⟨X5,out,e,rfl,a1,a2⟩
 have E5:=(E2.trans E3).trans X5
 simp -dsimp (disch:=try exact dx) only[wpS,zE]
 by_cases cf:fitZ (tgtZ s level) ws ws.length
 ·obtain⟨rfl,b⟩:=a1 cf
  rw[if_pos cf]
  exact⟨E5,_,rfl,fun _=>b,fun h=>absurd rfl h⟩
 ·obtain⟨rfl,rfl⟩:=a2 cf
  rw[if_neg cf]
  exact⟨E5,_,rfl,fun h=>absurd h (by decide),fun _=>rfl⟩
end Go.Id

namespace Go.Id
open Go
open Nat (reduceMul)
open Nat renaming reduceAdd→zA,reduceEqDiff→zE,reduceLeDiff→zL
set_option maxHeartbeats 16000000
def exq (k:Nat):Rat:=Rat.divInt 1 ((2 ^ k:Nat):Int)
theorem exq_parts (k:Nat):(exq k).num=1∧((exq k).den:Int)=((2 ^ k:Nat):Int):=by
 have h0:0<((2 ^ k:Nat):Int):=by have:=Nat.two_pow_pos k;omega
 obtain⟨l1,l2⟩:=low_pos (n:=1) (d:=((2 ^ k:Nat):Int)) h0
 have e:Int.gcd 1 ((2 ^ k:Nat):Int)=1:=Int.gcd_one_left _
 rw[e] at l1 l2
 unfold exq
 exact⟨by rw[←l1];rfl,by rw[←l2];exact Int.ediv_one _⟩
theorem exq_qw {k:Nat} (hk:k≤240):QW (exq k):=by
 obtain⟨e1,e2⟩:=exq_parts k
 unfold QW
 rw[e1,e2]
 have a:2 ^ k≤2 ^ 240:=Nat.pow_le_pow_right (by omega) hk
 have b:2 ^ 240<H8:=by unfold H8;decide +kernel
 have b0:=H8_big
 unfold InW
 generalize 2 ^ k=x at a
 generalize 2 ^ 240=y at a b
 constructor<;>constructor<;>omega
theorem exq_div (k:Nat):((1:Int):Rat) / (((2 ^ k:Nat):Int):Rat)=exq k:=by
 unfold exq
 rw[Rat.divInt_eq_div]
theorem two_ne (k:Nat):(((2 ^ k:Nat):Int):Rat)≠0:=by
 intro h0
 have:((2 ^ k:Nat):Int)=0:=Rat.intCast_inj.1 h0
 have:=Nat.two_pow_pos k
 omega
theorem two_qb {k:Nat} (hk:k≤240):QB 240 (((2 ^ k:Nat):Int):Rat):=QB.int (by rw[Int.natAbs_natCast];exact Nat.pow_le_pow_right (by omega) hk)
def chK (s:List Int) (a b:Int) (x y:Nat):Nat:=(-((a - b)*(s.getD x 0 - s.getD y 0))).toNat
theorem mul_240 {p q:Int} (hp : -8≤p∧p≤8) (hq : -30≤q∧q≤30) : -240≤p*q∧p*q≤240:=by
 have h1:p.natAbs≤8:=by omega
 have h2:q.natAbs≤30:=by omega
 have h3:(p*q).natAbs≤8*30:=by rw[Int.natAbs_mul];exact Nat.mul_le_mul h1 h2
 omega
theorem chK_le {s:List Int} {a b:Int} {x y:Nat} (ha:0≤a∧a≤8) (hb:0≤b∧b≤8) (hs : ∀n∈s,0≤n∧n≤30) (hx:x<s.length) (hy:y<s.length):chK s a b x y≤240:=by
 obtain⟨u,hu⟩ : ∃u,s[x]?=some u:=⟨_,List.getElem?_eq_getElem hx⟩
 obtain⟨w,hw⟩ : ∃w,s[y]?=some w:=⟨_,List.getElem?_eq_getElem hy⟩
 have:=hs u (List.mem_of_getElem? hu)
 have:=hs w (List.mem_of_getElem? hw)
 unfold chK
 rw[List.getD_eq_getElem?_getD,List.getD_eq_getElem?_getD,hu,hw,Option.getD_some,Option.getD_some]
 have:=mul_240 (p:=a - b) (q:=u - w) (by omega) (by omega)
 omega
theorem exchange_ok {h:IH} {v:Value} {s:List Int} {a b:Int} {x y:Nat} (hv:InSl h v s) (ha:0≤a∧a≤8) (hb:0≤b∧b≤8) (hs : ∀n∈s,0≤n∧n≤30) (hx:x<s.length) (hy:y<s.length) :
  WV Proofs.Tryz.prog (.func (.func 63) #[] #[]) [v,KI a,KI b,KN x,KN y] h fun r h'=>Ext h h'∧r=shareV (exq (chK s a b x y)):=by
 have kb:=chK_le ha hb hs hx hy
 obtain⟨u,hu⟩ : ∃u,s[x]?=some u:=⟨_,List.getElem?_eq_getElem hx⟩
 obtain⟨w,hw⟩ : ∃w,s[y]?=some w:=⟨_,List.getElem?_eq_getElem hy⟩
 have u1:=hs u (List.mem_of_getElem? hu)
 have w1:=hs w (List.mem_of_getElem? hw)
 have ek:chK s a b x y=(-((a - b)*(u - w))).toNat:=by
  unfold chK
  rw[List.getD_eq_getElem?_getD,List.getD_eq_getElem?_getD,hu,hw,Option.getD_some,Option.getD_some]
 have db:=mul_240 (p:=a - b) (q:=u - w) (by omega) (by omega)
 obtain⟨k,hk⟩ : ∃k,k=chK s a b x y:=⟨_,rfl⟩
 rw[←hk] at kb ek ⊢
 obtain⟨d,hd⟩ : ∃d,(a - b)*(u - w)=d:=⟨_,rfl⟩
 rw[hd] at db ek
 have E1:Ext h (h.new (.cells Z16 0 none)):=(Ext.refl h).new _
 have k10:(h.new (.cells Z16 0 none)).ext.get h.n=some (.cells Z16 0 none):=by simp (disch:=try exact dx) only[get_new_same]
 have f2 : ∀{h:IH},PLong h (.agg #[.bool false,.slice none 0 0]) 0→True:=fun _=>trivial
 refine enter (nt:=41) (rs:=[.cell 10 32]) Proofs.Tryz.func63 rfl rfl rfl (by simp) ?_
 simp -dsimp (disch:=try exact dx) only[wpS,zE,zA,zc32,hv.1.idx es25 hx,hv.1.idx es25 hy,inSl_ld hv E1.keep hu,inSl_ld hv E1.keep hw,hd]
 by_cases c:0<d
 ·have dd:decide (0<d)=true:=decide_eq_true c
  obtain rfl:k=0:=by omega
  simp -dsimp (disch:=try exact dx) only[wpS,dd]
  refine call (rfrom_ok 1 ⟨by omega,by omega⟩) ?_
  rintro a1 h1 ⟨X1,p1⟩
  simp -dsimp (disch:=try exact dx) only[wpS]
  refine call (pfrom_ok 2 ⟨by omega,by omega⟩) ?_
  rintro a2 h2 ⟨X2,p2⟩
  simp -dsimp (disch:=try exact dx) only[wpS,zE]
  refine call (raised_ok (k:=0) p2 (by omega)) ?_
  rintro a3 h3 ⟨X3,p3⟩
  simp -dsimp (disch:=try exact dx) only[wpS,zE]
  refine call (whole_ok p3) ?_
  rintro a4 h4 ⟨X4,p4⟩
  simp -dsimp (disch:=try exact dx) only[wpS,zE]
  have X14:=((X2.trans X3).trans X4)
  refine call (rover_ok (p1.keep X14.keep) p4 (QB.int (k:=64) (by decide)) (two_qb (k:=0) (by omega)) (by omega) (two_ne 0)) ?_
  rintro a5 h5 ⟨X5,p5⟩
  rw[exq_div] at p5
  simp -dsimp (disch:=try exact dx) only[wpS,zE]
  refine call (rtold_ok p5) ?_
  rintro _ h6 ⟨X6,rfl⟩
  rw[if_pos (exq_qw (k:=0) (by omega))]
  have X16:=((X1.trans X14).trans X5).trans X6
  have m6:=X16.n
  try simp only[new_n] at m6
  have z10:=X16.kept (by simp) k10
  simp -dsimp (disch:=try exact dx) only[wpS,wpT,zE,zL,zA,zc32,st32,ld32,shV_cells,shC_len,shC_all,sh_sp3,sh_take,z10]
  exact⟨((((E1.trans X16).new _).put (by omega) _).put (Nat.le_refl _) _),rfl⟩
 ·have dd:decide (0<d)=false:=decide_eq_false c
  have kd : -d=(k:Int):=by omega
  simp -dsimp (disch:=try exact dx) only[wpS,dd]
  refine call (rfrom_ok 1 ⟨by omega,by omega⟩) ?_
  rintro a1 h1 ⟨X1,p1⟩
  simp -dsimp (disch:=try exact dx) only[wpS]
  refine call (pfrom_ok 2 ⟨by omega,by omega⟩) ?_
  rintro a2 h2 ⟨X2,p2⟩
  simp -dsimp (disch:=try exact dx) only[wpS,zE,kd]
  refine call (raised_ok (k:=k) p2 (by omega)) ?_
  rintro a3 h3 ⟨X3,p3⟩
  simp -dsimp (disch:=try exact dx) only[wpS,zE]
  refine call (whole_ok p3) ?_
  rintro a4 h4 ⟨X4,p4⟩
  simp -dsimp (disch:=try exact dx) only[wpS,zE]
  have X14:=((X2.trans X3).trans X4)
  refine call (rover_ok (p1.keep X14.keep) p4 (QB.int (k:=64) (by decide)) (two_qb (by omega)) (by omega) (two_ne k)) ?_
  rintro a5 h5 ⟨X5,p5⟩
  rw[exq_div] at p5
  simp -dsimp (disch:=try exact dx) only[wpS,zE]
  refine call (rtold_ok p5) ?_
  rintro _ h6 ⟨X6,rfl⟩
  rw[if_pos (exq_qw (by omega))]
  have X16:=((X1.trans X14).trans X5).trans X6
  have m6:=X16.n
  try simp only[new_n] at m6
  have z10:=X16.kept (by simp) k10
  simp -dsimp (disch:=try exact dx) only[wpS,wpT,zE,zL,zA,zc32,st32,ld32,shV_cells,shC_len,shC_all,sh_sp3,sh_take,z10]
  exact⟨((((E1.trans X16).new _).put (by omega) _).put (Nat.le_refl _) _),rfl⟩
open Classical in
noncomputable def chanceRes (s:List Int) (a b x y:Int):Value:=if ladErr s [a,b]≠0 then .tuple #[shV 0 0,KI 340] else if x<0∨(s.length:Int)≤x∨y<0∨(s.length:Int)≤y then .tuple #[shV 0 0,KI 2] else .tuple #[shareV (exq (chK s a b x.toNat y.toNat)),KI 0]
theorem teTwo_sl (h:IH) (x y:Int) (hx:In64 x) (hy:In64 y):InSl (h.new (.cells [KI x,KI y] 1 none)) (.slice (some ⟨2*h.n,0,none⟩) 2 5) [x,y] :=
 ⟨built_sl h (by omega) rfl (by omega),by simp,fun z hz=>by
  rcases List.mem_cons.1 hz with rfl|hz
  ·exact hx
  ·rw[List.mem_singleton.1 hz];exact hy⟩
theorem teChance_ok {h:IH} {v:Value} {s:List Int} {a b x y:Int} (hv:InSl h v s) (ha:In64 a) (hb:In64 b) (hx:In64 x) (hy:In64 y) :
  WV Proofs.Tryz.prog (.func (.func 29) #[] #[]) [v,KI a,KI b,KI x,KI y] h fun r h'=>Ext h h'∧r=chanceRes s a b x y:=by
 unfold chanceRes
 have E0:Ext h (h.new (.cells Z16 0 none)):=(Ext.refl h).new _
 have k10:(h.new (.cells Z16 0 none)).ext.get h.n=some (.cells Z16 0 none):=by simp (disch:=try exact dx) only[get_new_same]
 have el:=hv.1.len (P:=Proofs.Tryz.prog) sl25
 have lb:=hv.2.1
 refine enter (nt:=47) (rs:=[.cell 10 32,.tmp 11]) Proofs.Tryz.func29 rfl rfl rfl (by simp) ?_
 simp -dsimp (disch:=try exact dx) only[wpS,wpT,zE,zL,zA,reduceMul,zc32,bs25]
 obtain⟨H0,hH0⟩ : ∃H0,H0=h.new (.cells Z16 0 none):=⟨_,rfl⟩
 have n0:H0.n=h.n+1:=by rw[hH0];rfl
 rw[←hH0] at E0 k10 ⊢
 rw[show h.n+1=H0.n by omega]
 clear hH0
 have E1:Ext H0 (H0.new (.cells [KI a,KI b] 1 none)):=(Ext.refl H0).new _
 refine call (teCheck_ok (hv.keep (E0.trans E1).keep) (teTwo_sl H0 a b ha hb)) ?_
 rintro _ h1 ⟨X1,rfl⟩
 have m1:=X1.n
 simp only[new_n] at m1
 have EE:=(E0.trans E1).trans X1
 have q10:=X1.kept (by simp;omega) (E1.kept (by omega) k10)
 rcases ladErr_or s [a,b] with c0|c0
 case inr =>
  rw[c0,if_pos (by decide)]
  simp -dsimp (disch:=try exact dx) only[wpS,wpT,zE,zL,zA,bv32,st32,ld32,q10]
  exact⟨EE.put (by omega) _,rfl⟩
 obtain⟨⟨s1,s2,s3⟩,_,_,l3⟩:=ladErr_zero c0
 rw[c0,if_neg (by decide)]
 by_cases c1:x<0
 ·rw[if_pos (.inl c1)]
  simp -dsimp (disch:=try exact dx) only[wpS,wpT,zE,zL,zA,bv32,st32,ld32,q10]
  exact⟨EE.put (by omega) _,rfl⟩
 by_cases c2:(s.length:Int)≤x
 ·rw[if_pos (.inr (.inl c2))]
  simp -dsimp (disch:=try exact dx) only[wpS,wpT,zE,zL,zA,bv32,st32,ld32,el,q10]
  exact⟨EE.put (by omega) _,rfl⟩
 by_cases c3:y<0
 ·rw[if_pos (.inr (.inr (.inl c3)))]
  simp -dsimp (disch:=try exact dx) only[wpS,wpT,zE,zL,zA,bv32,st32,ld32,el,q10]
  exact⟨EE.put (by omega) _,rfl⟩
 by_cases c4:(s.length:Int)≤y
 ·rw[if_pos (.inr (.inr (.inr c4)))]
  simp -dsimp (disch:=try exact dx) only[wpS,wpT,zE,zL,zA,bv32,st32,ld32,el,q10]
  exact⟨EE.put (by omega) _,rfl⟩
 rw[if_neg (by omega)]
 obtain⟨i,rfl⟩ : ∃i:Nat,x=(i:Int):=⟨x.toNat,by omega⟩
 obtain⟨j,rfl⟩ : ∃j:Nat,y=(j:Int):=⟨y.toNat,by omega⟩
 rw[Int.toNat_natCast,Int.toNat_natCast]
 simp -dsimp (maxSteps:=1000000) (disch:=first|omega|(simp only[new_n,put_n];omega)|decide +kernel|(repeat first|rw[new_n]|rw[put_n])) only[wpS,wpT,zE,el]
 refine call (exchange_ok (hv.keep EE.keep) (l3 a (by simp)) (l3 b (by simp)) s3 (by omega) (by omega)) ?_
 rintro _ h2 ⟨X2,rfl⟩
 rw[shareV_shq]
 generalize shq _=p
 have z10:=X2.kept (by omega) q10
 have m2:=X2.n
 simp -dsimp (disch:=try exact dx) only[wpS,wpT,zE,zL,zA,st32,ld32,z10,shV_cells,shC_len,shC_all,sh_sp3,sh_take]
 exact⟨(EE.trans X2).put (by omega) _,rfl⟩
end Go.Id

namespace Go.Id
open Go
end Go.Id

namespace Go.Id
open Go
end Go.Id
