/-
  BracketDivides: for every input the law returns true, and each argument reads as it did. Conditions: none but the row's own.
-/
import Derived.Test.YthpefnfbnaekaaaGreatBracketDividesAg
import Derived.Test.YthpefnfbnaekaaaGreatBracketDividesAq
import Derived.Test.YthpefnfbnaekaaaGreatBracketDividesAo
set_option linter.unusedVariables false
set_option linter.unusedSimpArgs false
set_option linter.defProp false
set_option linter.deprecated false
namespace Go.Id
open Go
open Go.Proofs.Tryz (prog)
open Nat (reduceAdd reduceEqDiff reduceLeDiff)
set_option maxHeartbeats 16000000

noncomputable abbrev bodyDi:Code:=Proofs.Tryz.f5.body.getD .skip
theorem divides0 (base:Nat→Option (List Value)) (vp vl:Value) (u s:Int) (m n:Int) :
  evC (E1 prog tbW) (callV (E1 prog tbW) 1) 5 163 none 1 (partAt bodyDi 0) (enterFr 0 [.agg #[vp,.int .u8 u,vl,.int .u16 s],.int .u8 m,.int .u8 n]) (IH.start base)=some (.normal,(6,.bool false) :: (3,ptr 0 0) :: enterFr 0 [.agg #[vp,.int .u8 u,vl,.int .u16 s],.int .u8 m,.int .u8 n],(IH.start base).new (.cells [vp,.int .u8 u,vl,.int .u16 s] 0 none)):=rfl
theorem divides1 (fr:Fr) (h:IH) :
  evC (E1 prog tbW) (callV (E1 prog tbW) 1) 5 163 none 1 (partAt bodyDi 1) fr h=some (.normal,(28,.bool false) :: (27,.bool true) :: fr,h):=rfl
theorem four_at (m:Nat) : ∃M:Nat,(11≤M∧M≤15)∧M≠13∧([KI 11,KI 12,KI 14,KI 15]:List Value)[m % 4]?=some (KN M):=by
 rcases(by omega:m % 4=0∨m % 4=1∨m % 4=2∨m % 4=3) with h|h|h|h<;>rw[h]
 ·exact⟨11,by omega,by omega,rfl⟩
 ·exact⟨12,by omega,by omega,rfl⟩
 ·exact⟨14,by omega,by omega,rfl⟩
 ·exact⟨15,by omega,by omega,rfl⟩
theorem ld_draftD {h:IH} {k:Nat} {a b c d:Value} {f:Option Nat} (g:h.ext.get k=some (.cells [a,b,c,d] 0 f)):load prog h 26 (ptr (2*k) 0)=some (.agg #[a,b,c,d]):=by
 rw[load_agg ag26 sz26,rd_of (row_of g)];rfl
theorem ld_brlo {h:IH} {k:Nat} {lo hi:Nat×Nat} {en sc sq:Bool} {f:Option Nat} (g:h.ext.get k=some (.cells (brC lo hi en sc sq) 0 f)):load prog h 47 (ptr (2*k) 0)=some (shV lo.1 lo.2)∧load prog h 47 (ptr (2*k) 16)=some (shV hi.1 hi.2):=by
 constructor
 ·rw[load_agg ag47 sz47,rd_of (row_of g),if_pos (by rw[brC_len];omega),brC_lo];rfl
 ·rw[load_agg ag47 sz47,rd_of (row_of g),if_pos (by rw[brC_len];omega),brC_hi];rfl
theorem ld_cellI {h:IH} {k o:Nat} {cs:List Value} {e:Nat} {f:Option Nat} {v:Value} (g:h.ext.get k=some (.cells cs e f)) (hv:cs[o]?=some v):load prog h 3 (ptr (2*k) o)=some v:=by
 rw[load_scal ag3,ld_of (row_of g),hv]
set_option maxRecDepth 20000 in
theorem divides_rest {h:IH} {fr:Fr} {vp vl:Value} {ps ls:List Nat} {u s b m n:Nat} (d:Dr6 h (.agg #[vp,B8 u,vl,B16 s]) ps ls u s) (g:h.ext.get b=some (.cells [vp,B8 u,vl,B16 s] 0 none)) (hb:b<h.n) (hm:m<256) (hn:n<256)
  (f1:fget fr 1=some (B8 m)) (f2:fget fr 2=some (B8 n)) (f3:fget fr 3=some (ptr (2*b) 0)) :
  Do (wpC prog 5 163 none (restAt bodyDi 2) fr h) (retK prog [.tmp 6] fun r _=>r=.bool true) nx:=by
 have e4:(m:Int) % 4=((m % 4:Nat):Int):=by omega
 have m4:m % 4<4:=by omega
 have tk:List.take 4 (List.drop 0 [vp,B8 u,vl,B16 s]) = [vp,B8 u,vl,B16 s]:=rfl
 obtain⟨M,M1,M3,hM⟩:=four_at m
 show Do (wpC _ _ _ _ (.seq _ _) fr h) _ _
 simp -dsimp (maxSteps:=1000000) (disch:=try exact dx) only[wpS,wpT,reduceEqDiff,reduceLeDiff,reduceAdd,bv62,pl62_0,pl62_1,pl62_2,pl62_3,zc62,st62]
 obtain⟨H0,hH0,n0,E0,g7⟩:=boxed h [KI 0,KI 0,KI 0,KI 0] [KI 11,KI 12,KI 14,KI 15]
 rw[←hH0]
 clear hH0
 have k3:=E0.kept hb g
 have l3:=ld_draftD k3
 have l7:load prog H0 3 (ptr (2*h.n) (m % 4))=some (KN M):=ld_cellI g7 hM
 have X0:=Ext.refl H0
 refine drawn [(5,[1,12]),(6,[1])] (by kernel_rfl) (by kernel_rfl) rfl ?_
 simp -dsimp (maxSteps:=1000000) (disch:=try exact dx) only[wpS,wpT,reduceEqDiff,reduceLeDiff,reduceAdd,ld26,f3,row_of k3,tk]
 refine call (census_ok (d.keep E0.keep)) ?_
 rintro vc h1 ⟨X1,sc⟩
 have k31:=X1.kept (by omega) k3
 have g71:=X1.kept (by omega) g7
 simp -dsimp (maxSteps:=1000000) (disch:=try exact dx) only[wpS,wpT,reduceEqDiff,reduceLeDiff,reduceAdd,ld26,ar62,ld3,f1,f3,e4,row_of k31,row_of g71,tk,hM]
 refine call (house_ok ((d.keep E0.keep).keep X1.keep)) ?_
 rintro _ h2 ⟨X2,rfl⟩
 have hs0:1≤houseN s∧houseN s≤1000:=by unfold houseN;split<;>omega
 have mn:(if (40:Int)<(houseN s:Int) then (40:Int) else (houseN s:Int))=((min (houseN s) 40:Nat):Int):=by split<;>omega
 obtain⟨S,hS⟩ : ∃S,S=min (houseN s) 40:=⟨_,rfl⟩
 rw[←hS] at mn
 have S1:1≤S∧S≤40:=by omega
 simp -dsimp (maxSteps:=1000000) (disch:=try exact dx) only[wpS,reduceEqDiff,min_kk,mn]
 have Y2:=X1.trans X2
 refine⟨wpSteady_c2 (wpSteady_t2 (wpSteady_one rfl rfl rfl rfl (steady_ext (H0:=H0) (b:=2*h.n) (o:=m % 4) rfl (by omega) X1 X0 l7)) (wpSteady_one rfl rfl rfl rfl (steady_ext (H0:=H0) (b:=2*h.n) (o:=m % 4) rfl (by omega) X1 Y2 l7))) (wpSteady_one rfl rfl rfl rfl (steady_ext (H0:=H0) (b:=2*b) (o:=0) (by simp[f3]) (by omega) X1 X0 l3)),?_⟩
 have CC:=census_cen d.bu d.bp
 obtain⟨c,hc⟩ : ∃c,c=census u ps:=⟨_,rfl⟩
 rw[←hc] at sc CC
 have lc:=CC.len
 simp -dsimp (maxSteps:=1000000) (disch:=try exact dx) only[wpS,wpT,reduceEqDiff,reduceAdd]
 refine call (award_ok (least:=[]) (sc.keep X2.keep) (SlOf.nil _ (by omega)) CC.quota ⟨S1.1,by omega⟩ M1 (.inl rfl)) ?_
 rintro _ h3 ⟨X3,cs,ss,A,B,left,v,w,rfl,sA,sB,AW⟩
 have a1:=sA.cells
 have a2:=sA.cok
 have a3:=sB.cells
 have a4:=sB.cok
 have z3:=X3.n
 have z2:=Y2.n
 obtain⟨H4,hH4,n4,E4,g11⟩:=boxed h3 [.slice none 0 0,.slice none 0 0,KI 0] [v,w,KI left]
 simp -dsimp (maxSteps:=1000000) (disch:=try exact dx) only[wpS,wpT,reduceEqDiff,reduceLeDiff,reduceAdd,ld3,zc33,st33,fa33_2,a2,a4]
 rw[←hH4]
 clear hH4
 have l0 : ∀x∈leastOr c.length [],0≤x:=pos_low (fun x hx=>by cases hx)
 by_cases cl:0<left
 ·have dl:decide ((0:Int)<(left:Int))=true:=decide_eq_true (by omega)
  simp -dsimp (maxSteps:=1000000) (disch:=try exact dx) only[wpS,reduceEqDiff,dl]
 obtain rfl:left=0:=by omega
 have la:=AW.len
 have asum:A.sum=S:=by have:=AW.sum;omega
 have ab:=AW.le l0
 have e0:openErr c A M []=0:=openErr_fine CC.quota la (fun x hx=>by have:=ab x hx;omega) M1 (low_len (.inl rfl)) (fun i hi=>AW.get l0 hi) (by omega)
 have R:=regs_ok e0
 have cert:certB M (regsV c A [])=true:=fair_cert R M1 AW.C AW.S l0 AW.F
 obtain⟨rs,hrs⟩ : ∃rs,rs=regsV c A []:=⟨_,rfl⟩
 have BI:BrIn M rs:=by
  rw[hrs]
  refine⟨R,M1,M3,fun r hr=>?_,fun x hx y hy=>fair_strict AW.C AW.S l0 AW.F hx hy⟩
  obtain⟨i,hi,rfl⟩:=List.mem_map.1 hr
  show(leastOr c.length []).getD i 0=0
  unfold leastOr
  rw[if_pos rfl]
  simp[List.getD_eq_getElem?_getD,List.getElem?_replicate]
  split<;>rfl
 have fe:findE c A M []=0:=by unfold findE;rw[if_neg (by simpa using e0),if_pos cert]
 have fv:findV c A M []=(brk M rs).v:=by unfold findV;rw[if_pos fe,hrs]
 simp -dsimp (maxSteps:=1000000) (disch:=try exact dx) only[wpS,wpT,reduceEqDiff,fa33_0,ld29,row_of g11]
 refine call (find_ok (m:=(M:Int)) (people:=c) (won:=A) (least:=[]) ((sc.keep (X2.trans X3).keep).keep E4.keep) ?_ (SlOf.nil _ (by omega)) (by omega) (by omega) (by simp)) ?_
 ·rw[la];exact sA.keep E4.keep
 rintro _ h5 ⟨X5,rfl⟩
 rw[fe,fv]
 obtain⟨lo,hlo⟩ : ∃q,q=(brk M rs).lo:=⟨_,rfl⟩
 obtain⟨hi,hhi⟩ : ∃q,q=(brk M rs).hi:=⟨_,rfl⟩
 obtain⟨en,hen⟩ : ∃q,q=(brk M rs).en:=⟨_,rfl⟩
 obtain⟨sc',hsc⟩ : ∃q,q=(brk M rs).sc:=⟨_,rfl⟩
 have hsq:(brk M rs).sq=false:=by show((M:Int) == 13)=false;simp;omega
 have qlo:QW lo:=by rw[hlo];exact(brk_ok M rs).1
 have qhi:QW hi:=by rw[hhi];exact(brk_ok M rs).2
 rw[show(brk M rs).v=brV (shq lo) (shq hi) en sc' false from by unfold Brk.v;rw[hsq,←hlo,←hhi,←hen,←hsc]]
 obtain⟨H6,hH6,n6,E6,g13⟩:=boxed h5 Z35 (brC (shq lo) (shq hi) en sc' false)
 simp -dsimp (maxSteps:=1000000) (disch:=try exact dx) only[wpS,wpT,reduceEqDiff,reduceLeDiff,reduceAdd,zc49,st49,fa49_4,ld4,brC_len,brC_all,brC_all0]
 rw[←hH6]
 clear hH6
 have y5:=X5.n
 have g116:=E6.kept (by omega) (X5.kept (by omega) g11)
 have q0:QW (0:Rat):=qw_zero
 have o01:shareV (Rat.divInt 0 1)=shV (shq 0).1 (shq 0).2:=by rw[shareV_shq,Rat.zero_divInt]
 have esc:(brk M rs).sc=(brN M rs).2:=rfl
 have een:(brk M rs).en=(brL M rs).2:=rfl
 have ehi:(brk M rs).hi=(brL M rs).1:=rfl
 have elo:(brk M rs).lo=if (brN M rs).2=true then 0 else (brN M rs).1:=rfl
 cases sc' with
 | true =>
  have b1:=BI.scarce (by rw[←esc,←hsc])
  have e1:en=true:=by rw[hen,een,b1]
  have e2:hi=0:=by rw[hhi,ehi,b1]
  have e3:lo=0:=by rw[hlo,elo,if_pos (by rw[←esc,←hsc])]
  subst e1
  subst e2
  subst e3
  simp -dsimp (maxSteps:=1000000) (disch:=try exact dx) only[wpS,reduceEqDiff,ld4,fa49_3,row_of g13,brC_34,brC_33]
  have l13:=(ld_brlo g13).1
  have l14:=(ld_brlo g13).2
  have X6:=Ext.refl H6
  refine drawn [(4,[11]),(10,[15])] (by kernel_rfl) (by kernel_rfl) rfl ?_
  simp -dsimp (maxSteps:=1000000) (disch:=try exact dx) only[wpS,wpT,reduceEqDiff,reduceLeDiff,ld4,fa49_2,fa49_0,ld47,row_of g13,brC_32,brC_lo,brC_len]
  refine call (lof_ok 0 1 ⟨by omega,by omega⟩ ⟨by omega,by omega⟩ (by omega)) ?_
  rintro _ j1 ⟨W1,rfl⟩
  rw[o01]
  have eq0 : ∀ox oy,binop prog .eql 47 ox oy (.agg (shC (shq 0).1 (shq 0).2).toArray) (shV (shq 0).1 (shq 0).2)=some (.bool true):=fun ox oy=>(sh_eql (shq_lt q0).1 (shq_lt q0).2 (shq_lt q0).1 (shq_lt q0).2 ox oy).trans (by rw[decide_eq_true ⟨rfl,rfl⟩])
  have k13:=W1.kept (by omega) g13
  simp -dsimp (maxSteps:=1000000) (disch:=try exact dx) only[wpS,wpT,reduceEqDiff,reduceLeDiff,reduceAdd,ld47,fa49_1,row_of k13,brC_hi,brC_len,eq0]
  refine call (lof_ok 0 1 ⟨by omega,by omega⟩ ⟨by omega,by omega⟩ (by omega)) ?_
  rintro _ j2 ⟨W2,rfl⟩
  rw[o01]
  simp -dsimp (maxSteps:=1000000) (disch:=try exact dx) only[wpS,wpT,reduceEqDiff,eq0]
  have W:=W1.trans W2
  refine⟨by repeat' first|refine wpSteady_c2 ?_ ?_|refine wpSteady_t2 ?_ ?_|exact wpSteady_one rfl rfl rfl rfl (steady_ext (H0:=H6) rfl (by omega) (by assumption) (by assumption) (by with_reducible assumption)),?_⟩
  simp -dsimp (maxSteps:=1000000) (disch:=try exact dx) only[wpS,wpT,reduceEqDiff,reduceAdd]
 | false =>
  simp -dsimp (maxSteps:=1000000) (disch:=try exact dx) only[wpS,wpT,reduceEqDiff,reduceLeDiff,reduceAdd,ld4,fa49_3,ld47,fa49_1,zc47,st47,row_of g13,brC_34,brC_33,brC_hi,brC_len]
  obtain⟨H7,hH7,n7,E7,g15⟩:=boxed H6 Z16 (shC (shq hi).1 (shq hi).2)
  simp -dsimp (maxSteps:=1000000) (disch:=try exact dx) only[wpS,wpT,reduceEqDiff,ld4,fa49_2,shC_len,shC_all,sh_sp3]
  rw[←hH7]
  clear hH7
  have k13:=E7.kept (by omega) g13
  have z6:=E6.n
  have nsc:(brN M rs).2=false:=by rw[←esc,←hsc]
  have elo2:lo=loB M rs:=by rw[hlo,elo,if_neg (by rw[nsc];simp)];rfl
  obtain⟨b0,b1,b2,b3⟩:=BI.bounds nsc
  simp -dsimp (maxSteps:=1000000) (disch:=try exact dx) only[wpS,reduceEqDiff,row_of g13,brC_32]
  have q7:QW (7:Rat):=by
   have:=qw_small (n:=7) (d:=1) (by decide) (by decide) (by decide)
   rwa [divInt_one] at this
  have o71:shareV (Rat.divInt 7 1)=shV (shq 7).1 (shq 7).2:=by rw[shareV_shq,divInt_one];rfl
  have qHI:QW (hiB M rs):=qw_bits b3 (by omega)
  refine bq_cut (fun fr8 h8=>Ext H6 h8∧H6.n<h8.n∧h8.ext.get H6.n=some (.cells (shC (shq (hiB M rs)).1 (shq (hiB M rs)).2) 0 none)∧fget fr8 2=some (B8 n)∧fget fr8 8=some vc∧fget fr8 9=some (KN M)∧fget fr8 11=some (ptr (2*h3.n) 0)∧fget fr8 12=some (KI 0)∧fget fr8 13=some (ptr (2*h5.n) 0)∧fget fr8 15=some (ptr (2*H6.n) 0)) (fun hc=>?_) (fun hc=>?_) ?_
  ·have eh:hiB M rs=lo+7:=by rw[elo2];exact if_pos (by rw[←een,←hen];exact hc)
   have l13:=(ld_brlo k13).1
   have X7:=Ext.refl H7
   refine drawn [(1,[3])] (by kernel_rfl) (by kernel_rfl) rfl ?_
   simp -dsimp (maxSteps:=1000000) (disch:=try exact dx) only[wpS,reduceEqDiff,reduceLeDiff,fa49_0,ld47,row_of k13,brC_lo,brC_len]
   refine call (lof_ok 7 1 ⟨by omega,by omega⟩ ⟨by omega,by omega⟩ (by omega)) ?_
   rintro _ j1 ⟨W1,rfl⟩
   rw[o71]
   simp -dsimp (maxSteps:=1000000) (disch:=try exact dx) only[wpS,reduceEqDiff]
   refine call (shadd_ok (p1:=shq lo) (p2:=shq 7) (shq_lt qlo) (shq_lt q7) (shq_rOf qlo).2 (shq_rOf q7).2) ?_
   rintro _ j2 ⟨W2,rfl⟩
   rw[(shq_rOf qlo).1,(shq_rOf q7).1,←eh,toldV_qw qHI]
   have W:=W1.trans W2
   have wn:=W.n
   have g15j:=W.kept (by omega) g15
   simp -dsimp (maxSteps:=1000000) (disch:=try exact dx) only[wpS,wpT,reduceEqDiff,reduceLeDiff,st47,shV_cells,shC_len,shC_all,sh_spA,g15j]
   refine⟨by repeat' first|refine wpSteady_c2 ?_ ?_|refine wpSteady_t2 ?_ ?_|exact wpSteady_one rfl rfl rfl rfl (steady_ext (H0:=H7) rfl (by omega) (by assumption) (by assumption) (by with_reducible assumption)),?_⟩
   simp -dsimp (maxSteps:=1000000) (disch:=try exact dx) only[wpS,wpT,reduceAdd]
   exact⟨(E7.trans W).put (by omega) _,by simp;omega,get_put_same _ _ rfl,by simp[f2],by simp,by simp,by simp,by simp,by simp,by simp⟩
  ·have eh:hiB M rs=hi:=by rw[hhi,ehi];exact if_neg (by rw[←een,←hen];simpa using hc)
   simp -dsimp (maxSteps:=1000000) (disch:=try exact dx) only[wpS]
   rw[eh]
   exact⟨E7,by omega,g15,by simp[f2],by simp,by simp,by simp,by simp,by simp,by simp⟩
  ·rintro fr8 h8 ⟨E8,n8,g15,f2,f8,f9,f11,f12,f13,f15⟩
   obtain⟨HI,hHI⟩ : ∃q,q=hiB M rs:=⟨_,rfl⟩
   rw[←hHI] at b1 b3 qHI g15
   rw[←elo2] at b0 b1 b2
   have k13:=E8.kept (by omega) g13
   have k11:=E8.kept (by omega) g116
   have way0:QB 87 (HI - lo):=QB.sub b3 b2
   have qway:QW (HI - lo):=qw_bits way0 (by omega)
   have e9:(n:Int) % 9=((n % 9:Nat):Int):=by omega
   have w9:IntKind.i64.wrap (1+((n % 9:Nat):Int))=((1+n % 9:Nat):Int):=by rw[wrap_i64 (by omega)];omega
   simp -dsimp (maxSteps:=1000000) (disch:=try exact dx) only[wpS,reduceEqDiff,reduceLeDiff,fa49_0,ld47,f13,f15,row_of g15,row_of k13,brC_lo,brC_len,shC_len,sh_take]
   refine call (shsub_ok (p1:=shq HI) (p2:=shq lo) (shq_lt qHI) (shq_lt qlo) (shq_rOf qHI).2 (shq_rOf qlo).2) ?_
   rintro _ h9 ⟨X9,rfl⟩
   rw[(shq_rOf qHI).1,(shq_rOf qlo).1,toldV_qw qway]
   have z8:=E8.n
   have z9:=X9.n
   obtain⟨H10,hH10,n10,E10,g16⟩:=boxed h9 Z16 (shC (shq (HI - lo)).1 (shq (HI - lo)).2)
   simp -dsimp (maxSteps:=1000000) (disch:=try exact dx) only[wpS,wpT,reduceEqDiff,reduceLeDiff,reduceAdd,zc47,st47,shV_cells,shC_len,shC_all,sh_sp3]
   rw[←hH10]
   clear hH10
   obtain⟨kk,hkk⟩ : ∃q:Rat,q=Rat.divInt ((1+n % 9:Nat):Int) 10:=⟨_,rfl⟩
   have bkk:QB 4 kk:=by rw[hkk];exact QB.divInt (by decide) (by rw[Int.natAbs_natCast];exact Nat.le_trans (by omega:1+n % 9≤9) (by decide)) (by decide)
   have qkk:QW kk:=qw_bits bkk (by omega)
   have okk:shareV (Rat.divInt ((1+n % 9:Nat):Int) 10)=shV (shq kk).1 (shq kk).2:=by rw[shareV_shq,←hkk]
   have step0:QB 91 ((HI - lo)*kk):=QB.mul way0 bkk
   have qstep:QW ((HI - lo)*kk):=qw_bits step0 (by omega)
   have x0:QB 133 (lo+(HI - lo)*kk):=QB.add b2 step0
   have qx:QW (lo+(HI - lo)*kk):=qw_bits x0 (by omega)
   have l16:load prog H10 47 (ptr (2*h9.n) 0)=some (shV (shq (HI - lo)).1 (shq (HI - lo)).2):=(psh g16).2.2
   have X10:=Ext.refl H10
   refine drawn [(0,[6])] (by kernel_rfl) (by kernel_rfl) rfl ?_
   simp -dsimp (maxSteps:=1000000) (disch:=try exact dx) only[wpS,reduceEqDiff,reduceLeDiff,ld47,cv5_3,f2,e9,w9,row_of g16,shC_len,sh_take]
   refine call (lof_ok ((1+n % 9:Nat):Int) 10 ⟨by omega,by omega⟩ ⟨by omega,by omega⟩ (by omega)) ?_
   rintro _ h11 ⟨X11,rfl⟩
   rw[okk]
   simp -dsimp (maxSteps:=1000000) (disch:=try exact dx) only[wpS,reduceEqDiff]
   refine call (shmul_ok (p1:=shq (HI - lo)) (p2:=shq kk) (shq_lt qway) (shq_lt qkk) (shq_rOf qway).2 (shq_rOf qkk).2) ?_
   rintro _ h12 ⟨X12,rfl⟩
   rw[(shq_rOf qway).1,(shq_rOf qkk).1,toldV_qw qstep]
   have W12:=X11.trans X12
   have z12:=W12.n
   obtain⟨H13,hH13,n13,E13,g18⟩:=boxed h12 Z16 (shC (shq ((HI - lo)*kk)).1 (shq ((HI - lo)*kk)).2)
   simp -dsimp (maxSteps:=1000000) (disch:=try exact dx) only[wpS,wpT,reduceEqDiff,reduceLeDiff,reduceAdd,zc47,st47,shV_cells,shC_len,shC_all,sh_sp3]
   rw[←hH13]
   clear hH13
   refine⟨by repeat' first|refine wpSteady_c2 ?_ ?_|refine wpSteady_t2 ?_ ?_|exact wpSteady_one rfl rfl rfl rfl (steady_ext (H0:=H10) rfl (by omega) (by assumption) (by assumption) (by with_reducible assumption)),?_⟩
   have W13:=X9.trans (E10.trans (W12.trans E13))
   have z13:=W13.n
   have k13':=W13.kept (by omega) k13
   simp -dsimp (maxSteps:=1000000) (disch:=try exact dx) only[wpS,wpT,reduceEqDiff,reduceLeDiff,reduceAdd,fa49_0,ld47,f13,row_of g18,row_of k13',brC_lo,brC_len,shC_len,sh_take]
   refine call (shadd_ok (p1:=shq lo) (p2:=shq ((HI - lo)*kk)) (shq_lt qlo) (shq_lt qstep) (shq_rOf qlo).2 (shq_rOf qstep).2) ?_
   rintro _ h14 ⟨X14,rfl⟩
   rw[(shq_rOf qlo).1,(shq_rOf qstep).1,toldV_qw qx]
   obtain⟨x,hx⟩ : ∃q:Rat,q=lo+(HI - lo)*kk:=⟨_,rfl⟩
   rw[←hx] at x0 qx ⊢
   have z14:=X14.n
   obtain⟨H15,hH15,n15,E15,g20⟩:=boxed h14 Z16 (shC (shq x).1 (shq x).2)
   have W14:=E10.trans (W12.trans E13)
   have z15:=W14.n
   have k16:=X14.kept (by omega) ((W12.trans E13).kept (by omega) g16)
   simp -dsimp (maxSteps:=1000000) (disch:=try exact dx) only[wpS,wpT,reduceEqDiff,reduceLeDiff,reduceAdd,ld47,zc47,st47,shV_cells,shC_len,shC_all,sh_sp3,f12]
   rw[←hH15]
   clear hH15
   simp -dsimp (maxSteps:=1000000) (disch:=try exact dx) only[wpS,reduceEqDiff,reduceLeDiff,row_of k16,shC_len,sh_take]
   refine call (shsign_ok (p1:=shq (HI - lo)) (shq_lt qway) (shq_rOf qway).2) ?_
   rintro _ h16 ⟨X16,rfl⟩
   have sg:(if rOf (shq (HI - lo))<0 then (-1:Int) else if rOf (shq (HI - lo))=0 then 0 else 1)=1:=by
    rw[(shq_rOf qway).1,if_neg (by grind),if_neg (by grind)]
   rw[sg]
   simp -dsimp (maxSteps:=1000000) (disch:=try exact dx) only[wpS,wpT,reduceEqDiff]
   have W16:=W13.trans (X14.trans (E15.trans X16))
   have Z16':=E6.trans (E8.trans W16)
   have scL:=(((sc.keep (X2.trans X3).keep).keep E4.keep).keep X5.keep).keep Z16'.keep
   have x1:lo<x:=by
    have k1:(0:Rat)<kk:=by
     rw[hkk,Rat.divInt_eq_div,Rat.lt_div_iff (by decide)]
     have:(0:Rat)<(((1+n % 9:Nat):Int):Rat):=by exact_mod_cast (by omega:0<1+n % 9)
     grind
    have:=Rat.mul_pos (show(0:Rat)<HI - lo by grind) k1
    grind
   have x2:x<HI:=by
    have k1:kk<1:=by
     rw[hkk,Rat.divInt_eq_div,Rat.div_lt_iff (by decide)]
     have:(((1+n % 9:Nat):Int):Rat)<((10:Int):Rat):=Rat.intCast_lt_intCast.2 (by omega)
     have h10:((10:Int):Rat)=10:=rfl
     grind
    have:=Rat.mul_lt_mul_of_pos_left k1 (show(0:Rat)<HI - lo by grind)
    grind
   have x3:0<x:=by grind
   have seat:=fun {r:Reg} (hr:r∈rs) (hp:0<r.1)=>BI.seat nsc (x:=x) (by rw[←elo2];exact x1) (by rw[←hHI];exact x2) hr hp
   have lowz : ∀i,i<c.length→(leastOr c.length []).getD i 0=0:=by
    intro i hi
    exact BI.z (c.getD i 0,A.getD i 0,(leastOr c.length []).getD i 0) (by rw[hrs];exact List.mem_map.2 ⟨i,List.mem_range.2 hi,rfl⟩)
   obtain⟨at1,at2,at3⟩:=at_seats (c:=c) (A:=A) (x:=x) M1 M3 la x3 (QB.mono x0 (by omega)) (fun y hy=>by have:=CC.b y hy;omega) (fun i hi=>by have:=ab _ (List.mem_of_getElem? (at_getD (by omega:i<A.length)));omega)
    (fun i hi hz=>by rw[AW.S.z i (by omega)];exact lowz i hi) (fun i hi hp=>seat (r:=(c.getD i 0,A.getD i 0,(leastOr c.length []).getD i 0)) (by rw[hrs];exact List.mem_map.2 ⟨i,List.mem_range.2 hi,rfl⟩) hp)
   have ea:atErr c (shq x) (M:Int)=0:=by
    unfold atErr
    rw[if_neg (by rw[CC.quota];simp),if_neg (by simpa using (shq_rOf qx).2),if_neg,(shq_rOf qx).1,Int.toNat_natCast,at1]
    rw[(shq_rOf qx).1,inR_iff.2 fun y hy=>by simp at hy;omega]
    simp[x3]
   simp -dsimp (maxSteps:=1000000) (disch:=try exact dx) only[wpS,reduceEqDiff,reduceLeDiff,ld47,f8,f9,row_of (X16.kept (by omega) g20),shC_len,sh_take]
   refine call (at_ok (p:=shq x) scL (by omega) (shq_lt qx)) ?_
   rintro r17 h17 ⟨X17,av⟩
   obtain⟨va,vb,rfl,sa,sb⟩:=av.fine ea
   rw[Int.toNat_natCast,(shq_rOf qx).1] at sa sb
   rw[at2,←la] at sa
   rw[at3,←la] at sb
   rw[←la] at sA
   have k11':=(W16.trans X17).kept (by omega) k11
   have sA':=((sA.keep E4.keep).keep X5.keep).keep (Z16'.trans X17).keep
   simp -dsimp (maxSteps:=1000000) (disch:=try exact dx) only[wpS,wpT,reduceEqDiff,fa33_0,ld29,f11,row_of k11']
   refine call (equalI_ok sa.now sA'.now (by omega)) ?_
   rintro _ _ ⟨rfl,rfl⟩
   rw[decide_eq_true rfl]
   simp -dsimp (maxSteps:=1000000) (disch:=try exact dx) only[wpS,wpT,reduceEqDiff,fa33_0,ld29,f11,row_of k11']
   refine call (equalI_ok sb.now sA'.now (by omega)) ?_
   rintro _ _ ⟨rfl,rfl⟩
   rw[decide_eq_true rfl]
   simp -dsimp (maxSteps:=1000000) (disch:=try exact dx) only[wpS,reduceEqDiff]
end Go.Id

namespace Go.Proofs.YthpefnfbnaekaaaGreat
open Go.ChangeShapes Go.WideShapes Go.ChangeAt Go.RowKit Go.Id
set_option maxRecDepth 100000 in
theorem bracketDivides_lifted (os:Os) (started:os.Started) (H:Type) (enc:TypeId×Value→H) :
  ReturnsInHanded {} Tryz.checked os 5 .any (Rows.bracketDividesSpec.pre6 enc Tryz.prog Tryz.f5 Rows.bracketDividesRow.domain false) (Rows.bracketDividesSpec.post enc Tryz.prog Tryz.f5 false true false false):=by
 refine returnsInHanded_of_change (C:=Tryz.checked) Tryz.own started (by kernel_rfl) Tryz.func5
  (ChangeSpec.witness6 (enc:=enc) (C:=Tryz.checked) false ⟨#[],#[.agg #[.slice none 0 0,.int .u8 0,.slice none 0 0,.int .u16 0],.int .u8 0,.int .u8 0],[]⟩ 8 (by kernel_rfl) (by kernel_rfl) (by kernel_rfl) (by kernel_rfl)) ?_
 intro W base args ds gs before hval0 hW hcnd _
 have hval : ∀(j:Nat) t v,Tryz.f5.params[j]?=some t→args[j]?=some v→Value.okWide Tryz.prog W .any base t v:=hval0
 have hW':=hW
 obtain⟨p,q,hA0,hV,rfl,hfz,hnd⟩:=hW
 have hA:DataW.TrodAll enc Tryz.prog W 0 (fun _=>true) true Tryz.f5.params.toList args.toList ds p:=hA0
 have hA1:=hA
 rw[Tryz.params5] at hA hval
 obtain⟨a0,r0,d0,ds0,p0,q0,e0,rfl,rfl,t0,h0A⟩:=trodAll_cons hA
 obtain⟨a1,r1,d1,ds1,p1,q1,rfl,rfl,rfl,t1,h1A⟩:=trodAll_cons h0A
 obtain⟨a2,r2,d2,ds2,p2,q2,rfl,rfl,rfl,t2,h2A⟩:=trodAll_cons h1A
 obtain⟨rfl,rfl,rfl⟩:=trodAll_nil h2A
 obtain⟨rfl,rfl⟩:=trodVars_none hV
 obtain rfl:args = #[a0,a1,a2]:=by cases args;simpa using e0
 obtain⟨z0,rfl,_⟩:=okWide_struct u_draft6 (hval 0 _ _ rfl rfl)
 obtain⟨fu0,t0⟩:=t0
 obtain⟨ya0,u0,yb0,s0,ps0,ls0,g0,m0,dr0⟩:=draft6_of (fun _=>none) t0
 obtain rfl:z0 = #[ya0,B8 u0,yb0,B16 s0]:=by cases z0;simpa using g0
 obtain⟨x1,rfl,_,_,w1⟩:=open_int u_u8 (hval 1 _ _ rfl rfl) t1
 have i1:0≤x1∧x1<256:=wf_u8 w1
 obtain⟨k1,rfl⟩ : ∃k:Nat,x1=k:=⟨x1.toNat,by omega⟩
 obtain⟨x2,rfl,_,_,w2⟩:=open_int u_u8 (hval 2 _ _ rfl rfl) t2
 have i2:0≤x2∧x2<256:=wf_u8 w2
 obtain⟨k2,rfl⟩ : ∃k:Nat,x2=k:=⟨x2.toNat,by omega⟩
 have hb:=tell_ok (W:=W) (G:=fun _=>none) (fun b cs h=>by cases h)
 refine(parts_true (tb:=tbW) (nt:=163) (rs:=[.tmp 6]) Tryz.sound sound_W Tryz.func5 rfl rfl rfl (by simp) (divides0 _ _ _ _ _ _ _) (divides1 _ _) (divides_rest (b:=0) (dr0.keep ((Ext.refl _).new _).keep) (get_new_same _ _ rfl) (by simp) (by omega) (by omega) rfl rfl rfl) hb (args':=#[.agg #[ya0,B8 u0,yb0,B16 s0],.int .u8 (k1:Int),.int .u8 (k2:Int)]) (.cons (.agg_iff (.cons (trV_rel m0.1) (.cons (.scal rfl) (.cons (trV_rel m0.2) (.cons (.scal rfl) (.nil _)))))) (.cons (.scal rfl) (.cons (.scal rfl) (.nil _))))).mono fun e W' ⟨he,hk⟩=>?_
 subst he
 refine⟨_,rfl,post_of_below (pa:=p0 ++ (p1 ++ (p2 ++ []))) (pv:=[]) hW' (fun _ _ _=>trodAll_mk1 (shut_bool Tryz.underlying4 _)) (fun sp hs=>?_) (fun _ _=>rfl) hk⟩
 exact trodAll_stays Tryz.kids Tryz.pos hk hA1 (fun t ht=>by
  rw[Tryz.params5] at ht
  simp at ht
  rcases ht with rfl|rfl|rfl<;>exact of_decide_eq_true (by kernel_rfl)) (fun x hx=>hs x (by simpa using hx))
theorem bracketDivides_row:Rows.BracketDividesSaid :=
 OpenClaim.holds_of_wide 5 Tryz.f5 rfl rfl rfl rfl rfl rfl rfl ⟨rfl,rfl,rfl,rfl,rfl⟩ rfl rfl rfl rfl rfl (by kernel_rfl) Tryz.func5 (by kernel_rfl)
  (of_decide_eq_true (by kernel_rfl)) (by unfold Func.isWrapper;first|(rw[if_pos (by decide +kernel)];kernel_rfl)|(rw[if_neg (by decide +kernel)];exact⟨rfl,rfl⟩))
  (fun os started H enc _=>bracketDivides_lifted os started H enc)
#print axioms bracketDivides_row
end Go.Proofs.YthpefnfbnaekaaaGreat
