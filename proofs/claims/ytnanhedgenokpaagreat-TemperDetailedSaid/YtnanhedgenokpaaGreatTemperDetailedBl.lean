/-
  Contracts: law 34's drafts: lists, weights. The rows' common part: wide numbers, bytes, integers, drafted kernels that came in.
-/
import Derived.Test.YtnanhedgenokpaaGreatTemperDetailedAt
import Derived.Test.YtnanhedgenokpaaGreatTemperDetailedBk
import Derived.Test.YtnanhedgenokpaaGreatTemperDetailedBj
import Derived.Test.YtnanhedgenokpaaGreatTemperDetailedBe
set_option linter.unusedVariables false
set_option linter.unusedSimpArgs false
set_option linter.defProp false
set_option linter.deprecated false
namespace Go.Id
open Go
open Go.Proofs.Tryz (prog)
open Nat renaming reduceAdd→zA,reduceEqDiff→zE,reduceLeDiff→zL
set_option maxHeartbeats 16000000
def BySl (h:IH) (v:Value) (l:List Nat):Prop:=SlOf h 1 v l.length (l.map B8)∧l.length<9223372036854775808 ∧ ∀x∈l,x<256
theorem BySl.keep {h h':IH} {v:Value} {l:List Nat} (s:BySl h v l) (e:Keep h h'):BySl h' v l:=⟨s.1.keep e,s.2⟩
theorem BySl.ld {h h':IH} {v:Value} {l:List Nat} (s:BySl h v l) (e:Keep h h') {i:Nat} {x:Nat} (hi:l[i]?=some x):load prog h' 5 (elemAddr v i)=some (B8 x):=by
 have hil:=(List.getElem?_eq_some_iff.1 hi).1
 rw[s.1.ld e (by simpa using hil) ag5,List.getElem?_map,hi];rfl
theorem BySl.first {h h':IH} {v:Value} {l:List Nat} (s:BySl h v l) (kp:Keep h h') {m:Nat} (hm:m≤l.length) : ∃w,sliceOp prog h' 22 v none (some (KN m)) none=some w∧BySl h w (l.take m):=by
 have lb:=s.2.1
 obtain⟨w,hw,hs⟩:=s.1.slice kp (P:=prog) (t:=22) u22 sz5 (l:=0) (m:=m) (Nat.zero_le _) hm (lo:=none) (hi:=some (KN m)) rfl (fun c hc=>natOf_nat (k:=.i64) (by omega))
 refine⟨w,hw,?_,by rw[List.length_take];omega,fun x hx=>s.2.2 x (List.mem_of_mem_take hx)⟩
 rw[List.length_take,Nat.min_eq_left hm,List.map_take]
 simpa using hs
def InAr (h:IH) (v:Value) (l:List Int):Prop:=SlOf h 1 v l.length (l.map KI)∧l.length<9223372036854775808 ∧ ∀x∈l,In64 x
theorem rem_natk (P:Program) (t:TypeId) (k:IntKind) (ox oy:Operand) (a n:Nat) (hn:0<n):binop P .rem t ox oy (.int k (a:Int)) (.int k (n:Int))=some (.int k ((a % n:Nat):Int)):=by
 rw[binop_rem P t ox oy (by omega),Int.tmod_eq_emod_of_nonneg (by omega),Int.natCast_emod]
theorem dweights_ok2 {h:IH} {sz:Nat} {v:Value} {l:List Nat} (hv:BySl h v l) (n:Nat) (hn:n≤100) :
  WV prog (.func (.func 13) #[] #[]) [.agg #[B8 sz,v],KN n] h fun r h'=>Ext h h' ∧ ∃out,WiSl h' r out∧out.length=n ∧ ∀p∈out,1≤wdI p∧wdI p≤9:=by
 have cv:=hv.1.cells
 have co:=hv.1.cok
 have g0:(h.new (.cells [B8 sz,v] 0 none)).ext.get h.n=some (.cells [B8 sz,v] 0 none):=by simp (disch:=try exact dx) only[get_new_same]
 have E0:Ext h (h.new (.cells [B8 sz,v] 0 none)):=(Ext.refl h).new _
 refine enter (nt:=32) (rs:=[.tmp 4]) Proofs.Tryz.func13 rfl rfl rfl (by simp) ?_
 simp -dsimp (disch:=try exact dx) only[wpS,zE,zA]
 obtain⟨Hb,hHb⟩ : ∃H,H=h.new (.cells [B8 sz,v] 0 none):=⟨_,rfl⟩
 have nb:Hb.n=h.n+1:=by rw[hHb];rfl
 rw[←hHb] at g0 E0 ⊢
 clear hHb
 refine loop (fun m fr hh => ∃(i:Nat) (out:Value) (l':List Nat),i+m=n∧l'.length=i∧(∀p∈l',p<W8∧1≤wdI p∧wdI p≤9)∧Ext Hb hh∧Acc hh Hb.n 8 out l'.length (wiL l')∧fget fr 1=some (KN n)∧fget fr 2=some (ptr (2*h.n) 0)∧fget fr 5=some out∧fget fr 6=some (KN i)) n
  ⟨0,.slice none 0 0,[],by omega,rfl,(fun p hp=>by cases hp),Ext.refl _,Acc.nil _ _ (by omega),by simp,by simp,by simp,by simp⟩ ?_
 rintro m fr hh ⟨i,out,l',him,hil,hlt,hE,hA,f1,f2,f5,f6⟩
 have hg:=hE.kept (by omega) g0
 have hnn:=hE.n
 have lv:=hv.2.1
 have hEh:=E0.trans hE
 simp -dsimp (disch:=try exact dx) only[wpS,zE,f1,f6]
 refine bq_intro ?_ ?_<;>intro hc<;>simp only[decide_eq_true_eq,decide_eq_false_iff_not] at hc
 ·by_cases c:i<l.length
  ·obtain⟨x,hx⟩ : ∃x,l[i]?=some x:=⟨_,List.getElem?_eq_getElem c⟩
   have xb:=hv.2.2 x (List.mem_of_getElem? hx)
   have hr : ∀ox oy,binop prog .rem 5 ox oy (B8 x) (.int .u8 9)=some (.int .u8 ((x % 9:Nat):Int)):=fun ox oy=>rem_natk _ _ .u8 ox oy x 9 (by omega)
   simp -dsimp (disch:=try exact dx) only[wpS,wpT,zE,fa24_1,ld22,cv5_3,f2,f5,f6,row_of hg,hv.1.len sl22,hv.1.idx es22 c,hv.ld hEh.keep hx,hr]
   refine call (refOf_ok (1+((x % 9:Nat):Int)) ⟨by omega,by omega⟩) ?_
   rintro _ h1 ⟨X1,rfl⟩
   have wi:=inW64 (n:=1+((x % 9:Nat):Int)) ⟨by omega,by omega⟩
   have wz:wideN (1+((x % 9:Nat):Int))<W8∧1≤wdI (wideN (1+((x % 9:Nat):Int)))∧wdI (wideN (1+((x % 9:Nat):Int)))≤9:=⟨wideN_lt wi,by rw[wdI_wideN wi];omega,by rw[wdI_wideN wi];omega⟩
   have m1:=X1.n
   obtain⟨out',h8,hap,hA8,hG8,hE8⟩:=(hA.ext X1).appN (P:=prog) (t:=42) ap42 (m:=1) (new:=wdC (wideN (1+((x % 9:Nat):Int)))) (by omega) (by rw[wdC_len]) (wdC_all _) (by omega) (by omega) (hE.trans X1) (by omega)
   have hap':append prog (h1.new (.cells (wdC (wideN (1+((x % 9:Nat):Int)))) 8 none)) 42 out (.slice (some ⟨2*h1.n,0,none⟩) 1 3)=some (out',h8):=hap
   simp -dsimp (disch:=try exact dx) only[wpS,wpT,zE,zL,zA,bs42,ba42_42,f6,cells8,wdC_len,wd_spl,hap']
   refine⟨m - 1,by omega,i+1,out',l' ++ [wideN (1+((x % 9:Nat):Int))],by omega,by simp[hil],?_,hE8,?_,by simp[f1],by simp[f2],by simp,by simp⟩
   ·intro q hq
    rcases List.mem_append.1 hq with hq|hq
    ·exact hlt q hq
    ·rw[List.mem_singleton.1 hq];exact wz
   ·rw[wiL_snoc,List.length_append]
    exact hA8
  ·simp -dsimp (disch:=try exact dx) only[wpS,wpT,zE,fa24_1,ld22,f2,f5,f6,row_of hg,hv.1.len sl22]
   refine call (refOf_ok 1 ⟨by omega,by omega⟩) ?_
   rintro _ h1 ⟨X1,rfl⟩
   have wi:=inW64 (n:=1) ⟨by omega,by omega⟩
   have wz:wideN 1<W8∧1≤wdI (wideN 1)∧wdI (wideN 1)≤9:=⟨wideN_lt wi,by rw[wdI_wideN wi];omega,by rw[wdI_wideN wi];omega⟩
   have m1:=X1.n
   obtain⟨out',h8,hap,hA8,hG8,hE8⟩:=(hA.ext X1).appN (P:=prog) (t:=42) ap42 (m:=1) (new:=wdC (wideN 1)) (by omega) (by rw[wdC_len]) (wdC_all _) (by omega) (by omega) (hE.trans X1) (by omega)
   have hap':append prog (h1.new (.cells (wdC (wideN 1)) 8 none)) 42 out (.slice (some ⟨2*h1.n,0,none⟩) 1 3)=some (out',h8):=hap
   simp -dsimp (disch:=try exact dx) only[wpS,wpT,zE,zL,zA,bs42,ba42_42,f6,cells8,wdC_len,wd_spl,hap']
   refine⟨m - 1,by omega,i+1,out',l' ++ [wideN 1],by omega,by simp[hil],?_,hE8,?_,by simp[f1],by simp[f2],by simp,by simp⟩
   ·intro q hq
    rcases List.mem_append.1 hq with hq|hq
    ·exact hlt q hq
    ·rw[List.mem_singleton.1 hq];exact wz
   ·rw[wiL_snoc,List.length_append]
    exact hA8
 ·simp -dsimp (disch:=try exact dx) only[wpS,wpT,zE,f5]
  exact⟨hEh,l',⟨hA.sl,by omega,fun p hp=>(hlt p hp).1⟩,by omega,fun p hp=>(hlt p hp).2⟩
theorem lists_ok2 {h:IH} {sz n:Nat} {vN vS vL vA vR vQ:Value} {lS lL lA:List Nat} (hS:BySl h vS lS) (hL:BySl h vL lL) (hA:BySl h vA lA) (n0:0<n) (hn:n≤100)
  (cN:cellOK vN=true) (cR:cellOK vR=true) (cQ:cellOK vQ=true) :
  WV prog (.func (.func 12) #[] #[]) [.agg #[B8 sz,vN,vS,vL,vA,vR,vQ],KN n] h fun r h'=>Ext h h' ∧ ∃(a b c:Value) (s l t:List Int),r=.tuple #[a,b,c]∧InSl h' a s∧InSl h' b l∧InSl h' c t∧s.length=n∧(∀x∈s,0≤x∧x≤30)∧l.length≤6∧(∀x∈l,0≤x∧x≤8)∧t.length=l.length∧(∀x∈t,0≤x∧x<n):=by
 have cS:=hS.1.cok
 have cL:=hL.1.cok
 have cA:=hA.1.cok
 have g0:(h.new (.cells [B8 sz,vN,vS,vL,vA,vR,vQ] 0 none)).ext.get h.n=some (.cells [B8 sz,vN,vS,vL,vA,vR,vQ] 0 none):=by simp (disch:=try exact dx) only[get_new_same]
 have E0:Ext h (h.new (.cells [B8 sz,vN,vS,vL,vA,vR,vQ] 0 none)):=(Ext.refl h).new _
 obtain⟨Hb,hHb⟩ : ∃H,H=h.new (.cells [B8 sz,vN,vS,vL,vA,vR,vQ] 0 none):=⟨_,rfl⟩
 have nb:Hb.n=h.n+1:=by rw[hHb];rfl
 refine enter (nt:=79) (rs:=[.tmp 4,.tmp 5,.tmp 6]) Proofs.Tryz.func12 rfl rfl rfl (by simp) ?_
 simp -dsimp (disch:=try exact dx) only[wpS,zE,zA]
 rw[←hHb] at g0 E0 ⊢
 clear hHb
 have lvS:=hS.2.1
 have lvL:=hL.2.1
 have lvA:=hA.2.1
 refine loop (fun m fr hh => ∃(i:Nat) (out:Value) (s:List Int),i+m=n∧s.length=i∧(∀x∈s,0≤x∧x≤30)∧Ext Hb hh∧Acc hh Hb.n 1 out s.length (s.map KI)∧fget fr 1=some (KN n)∧fget fr 2=some (ptr (2*h.n) 0)∧fget fr 4=some out∧fget fr 5=some (.slice none 0 0)∧fget fr 6=some (.slice none 0 0)∧fget fr 13=some (KN n)∧fget fr 14=some (KN i)) n
  ⟨0,.slice none 0 0,[],by omega,rfl,(fun p hp=>by cases hp),Ext.refl _,Acc.nil _ _ (by omega),by simp,by simp,by simp,by simp,by simp,by simp,by simp⟩ ?_
 rintro m fr hh ⟨i,out,s,him,hil,hlt,hE,hAc,f1,f2,f4,f5,f6,f13,f14⟩
 have hg:=hE.kept (by omega) g0
 have hnn:=hE.n
 have hEh:=E0.trans hE
 simp -dsimp (disch:=try exact dx) only[wpS,f13,f14]
 refine bq_intro ?_ ?_<;>intro hc<;>simp only[decide_eq_true_eq,decide_eq_false_iff_not] at hc
 ·by_cases c:i<lS.length
  ·obtain⟨x,hx⟩ : ∃x,lS[i]?=some x:=⟨_,List.getElem?_eq_getElem c⟩
   have xb:=hS.2.2 x (List.mem_of_getElem? hx)
   have hr : ∀ox oy,binop prog .rem 5 ox oy (B8 x) (.int .u8 31)=some (.int .u8 ((x % 31:Nat):Int)):=fun ox oy=>rem_natk _ _ .u8 ox oy x 31 (by omega)
   obtain⟨out',h8,hap,hA8,hG8,hE8⟩:=hAc.app1 (P:=prog) (t:=25) ap25 (x:=KI ((x % 31:Nat):Int)) rfl (by omega) (by omega) hE (by omega)
   simp -dsimp (disch:=try exact dx) only[wpS,wpT,zE,zL,zA,fa27_1,ld22,cv5_3,bs25,ba25_25,f2,f4,f14,row_of hg,hS.1.len sl22,hS.1.idx es22 c,hS.ld hEh.keep hx,hr,hap]
   refine⟨m - 1,by omega,i+1,out',s ++ [((x % 31:Nat):Int)],by omega,by simp[hil],?_,hE8,?_,by simp[f1],by simp[f2],by simp,by simp[f5],by simp[f6],by simp[f13],by simp⟩
   ·intro q hq
    rcases List.mem_append.1 hq with hq|hq
    ·exact hlt q hq
    ·rw[List.mem_singleton.1 hq];constructor<;>omega
   ·rw[List.map_append,List.length_append]
    exact hA8
  ·obtain⟨out',h8,hap,hA8,hG8,hE8⟩:=hAc.app1 (P:=prog) (t:=25) ap25 (x:=KI 0) rfl (by omega) (by omega) hE (by omega)
   simp -dsimp (disch:=try exact dx) only[wpS,wpT,zE,zL,zA,fa27_1,ld22,bs25,ba25_25,f2,f4,f14,row_of hg,hS.1.len sl22,hap]
   refine⟨m - 1,by omega,i+1,out',s ++ [0],by omega,by simp[hil],?_,hE8,?_,by simp[f1],by simp[f2],by simp,by simp[f5],by simp[f6],by simp[f13],by simp⟩
   ·intro q hq
    rcases List.mem_append.1 hq with hq|hq
    ·exact hlt q hq
    ·rw[List.mem_singleton.1 hq];constructor<;>omega
   ·rw[List.map_append,List.length_append]
    exact hA8
 have sS:InSl hh out s:=⟨hAc.sl,by omega,fun x hx=>by have:=hlt x hx;exact⟨by omega,by omega⟩⟩
 have hsn:s.length=n:=by omega
 have bS:=hlt
 clear hAc hlt him hc
 obtain⟨M,hM⟩ : ∃M,M=min lL.length 6:=⟨_,rfl⟩
 have hmin:(if (6:Int)<(lL.length:Int) then (6:Int) else (lL.length:Int))=(M:Int):=by split<;>omega
 obtain⟨w,hw,hs2⟩:=hL.first hEh.keep (m:=M) (by omega)
 obtain⟨ls,hls⟩ : ∃l,l=lL.take M:=⟨_,rfl⟩
 rw[←hls] at hs2
 have hlsl:ls.length=M:=by rw[hls,List.length_take];omega
 clear hls
 have lv2:=hs2.2.1
 simp -dsimp (disch:=try exact dx) only[wpS,wpT,zE,ld22,fa27_2,f2,row_of hg,hL.1.len sl22,min_ii,hmin,hw,hs2.1.len sl22]
 refine loop (fun m fr h4 => ∃(i:Nat) (out2:Value) (s:List Int),i+m=ls.length∧s.length=i∧(∀x∈s,0≤x∧x≤8)∧Ext hh h4∧Acc h4 hh.n 1 out2 s.length (s.map KI)∧fget fr 1=some (KN n)∧fget fr 2=some (ptr (2*h.n) 0)∧fget fr 4=some out∧fget fr 5=some out2∧fget fr 6=some (.slice none 0 0)∧fget fr 40=some w∧fget fr 41=some (KN ls.length)∧fget fr 42=some (KN i)) ls.length
  ⟨0,.slice none 0 0,[],by omega,rfl,(fun p hp=>by cases hp),Ext.refl _,Acc.nil _ _ (by omega),by simp[f1],by simp[f2],by simp[f4],by simp[f5],by simp[f6],by simp,by simp,by simp⟩ ?_
 rintro m fr h4 ⟨i,out2,t,him,hil,hlt,hE2,hAc,f1,f2,f4,f5,f6,f40,f41,f42⟩
 have hg2:=hE2.kept (by omega) hg
 have hnn2:=hE2.n
 have hEh2:=hEh.trans hE2
 simp -dsimp (disch:=try exact dx) only[wpS,f41,f42]
 refine bq_intro ?_ ?_<;>intro hc<;>simp only[decide_eq_true_eq,decide_eq_false_iff_not] at hc
 ·have c:i<ls.length:=by omega
  obtain⟨x,hx⟩ : ∃x,ls[i]?=some x:=⟨_,List.getElem?_eq_getElem c⟩
  have xb:=hs2.2.2 x (List.mem_of_getElem? hx)
  have hr : ∀ox oy,binop prog .rem 5 ox oy (B8 x) (.int .u8 9)=some (.int .u8 ((x % 9:Nat):Int)):=fun ox oy=>rem_natk _ _ .u8 ox oy x 9 (by omega)
  obtain⟨out',h8,hap,hA8,hG8,hE8⟩:=hAc.app1 (P:=prog) (t:=25) ap25 (x:=KI ((x % 9:Nat):Int)) rfl (by omega) (by omega) hE2 (by omega)
  simp -dsimp (disch:=try exact dx) only[wpS,wpT,zE,zL,zA,cv5_3,bs25,ba25_25,f5,f40,f42,hs2.1.idx es22 c,hs2.ld hEh2.keep hx,hr,hap]
  refine⟨m - 1,by omega,i+1,out',t ++ [((x % 9:Nat):Int)],by omega,by simp[hil],?_,hE8,?_,by simp[f1],by simp[f2],by simp[f4],by simp,by simp[f6],by simp[f40],by simp[f41],by simp⟩
  ·intro q hq
   rcases List.mem_append.1 hq with hq|hq
   ·exact hlt q hq
   ·rw[List.mem_singleton.1 hq];constructor<;>omega
  ·rw[List.map_append,List.length_append]
   exact hA8
 have sL:InSl h4 out2 t:=⟨hAc.sl,by omega,fun x hx=>by have:=hlt x hx;exact⟨by omega,by omega⟩⟩
 have bL:=hlt
 have lL6:t.length≤6:=by omega
 have sS2:=sS.keep hE2.keep
 have ltl:t.length≤1000000000:=sL.2.1
 clear hAc hlt him hc sS hil
 simp -dsimp (disch:=try exact dx) only[wpS,zE,f5,sL.1.len sl25]
 refine loop (fun m fr h5 => ∃(i:Nat) (out3:Value) (s:List Int),i+m=t.length∧s.length=i∧(∀x∈s,0≤x∧x<n)∧Ext h4 h5∧Acc h5 h4.n 1 out3 s.length (s.map KI)∧fget fr 1=some (KN n)∧fget fr 2=some (ptr (2*h.n) 0)∧fget fr 4=some out∧fget fr 5=some out2∧fget fr 6=some out3∧fget fr 54=some (KN t.length)∧fget fr 55=some (KN i)) t.length
  ⟨0,.slice none 0 0,[],by omega,rfl,(fun p hp=>by cases hp),Ext.refl _,Acc.nil _ _ (by omega),by simp[f1],by simp[f2],by simp[f4],by simp[f5],by simp[f6],by simp,by simp⟩ ?_
 rintro m fr h5 ⟨i,out3,u,him,hil,hlt,hE3,hAc,f1,f2,f4,f5,f6,f54,f55⟩
 have hg3:=hE3.kept (by omega) hg2
 have hnn3:=hE3.n
 have hEh3:=hEh2.trans hE3
 simp -dsimp (disch:=try exact dx) only[wpS,f54,f55]
 refine bq_intro ?_ ?_<;>intro hc<;>simp only[decide_eq_true_eq,decide_eq_false_iff_not] at hc
 ·by_cases c:i<lA.length
  ·obtain⟨x,hx⟩ : ∃x,lA[i]?=some x:=⟨_,List.getElem?_eq_getElem c⟩
   have xb:=hA.2.2 x (List.mem_of_getElem? hx)
   have hb:=Nat.mod_lt x n0
   have hr : ∀ox oy,binop prog .rem 3 ox oy (.int .i64 (x:Int)) (KN n)=some (.int .i64 ((x % n:Nat):Int)):=fun ox oy=>rem_natk _ _ .i64 ox oy x n n0
   obtain⟨out',h8,hap,hA8,hG8,hE8⟩:=hAc.app1 (P:=prog) (t:=25) ap25 (x:=KI ((x % n:Nat):Int)) rfl (by omega) (by omega) hE3 (by omega)
   simp -dsimp (disch:=try exact dx) only[wpS,wpT,zE,zL,zA,ld22,cv5_3,bs25,fa27_3,ba25_25,f1,f2,f6,f55,row_of hg3,hA.1.len sl22,hA.1.idx es22 c,hA.ld hEh3.keep hx,hr,hap]
   refine⟨m - 1,by omega,i+1,out',u ++ [((x % n:Nat):Int)],by omega,by simp[hil],?_,hE8,?_,by simp[f1],by simp[f2],by simp[f4],by simp[f5],by simp,by simp[f54],by simp⟩
   ·intro q hq
    rcases List.mem_append.1 hq with hq|hq
    ·exact hlt q hq
    ·rw[List.mem_singleton.1 hq];constructor<;>omega
   ·rw[List.map_append,List.length_append]
    exact hA8
  ·obtain⟨out',h8,hap,hA8,hG8,hE8⟩:=hAc.app1 (P:=prog) (t:=25) ap25 (x:=KI 0) rfl (by omega) (by omega) hE3 (by omega)
   simp -dsimp (disch:=try exact dx) only[wpS,wpT,zE,zL,zA,ld22,bs25,fa27_3,ba25_25,f2,f6,f55,row_of hg3,hA.1.len sl22,hap]
   refine⟨m - 1,by omega,i+1,out',u ++ [0],by omega,by simp[hil],?_,hE8,?_,by simp[f1],by simp[f2],by simp[f4],by simp[f5],by simp,by simp[f54],by simp⟩
   ·intro q hq
    rcases List.mem_append.1 hq with hq|hq
    ·exact hlt q hq
    ·rw[List.mem_singleton.1 hq];constructor<;>omega
   ·rw[List.map_append,List.length_append]
    exact hA8
 have sA:InSl h5 out3 u:=⟨hAc.sl,by omega,fun x hx=>by have:=hlt x hx;exact⟨by omega,by omega⟩⟩
 have lA:u.length=t.length:=by omega
 simp -dsimp (disch:=try exact dx) only[wpS,wpT,zE,f4,f5,f6]
 exact⟨hEh3,out,out2,out3,s,t,u,rfl,sS2.keep hE3.keep,sL.keep hE3.keep,sA,hsn,bS,lL6,bL,lA,hlt⟩
end Go.Id

namespace Go.Proofs.YtnanhedgenokpaaGreat
open Go.ChangeShapes Go.WideShapes Go.ChangeAt Go.RowKit Go.Id
theorem u_ints:Tryz.prog.underlying 25=some (.slice 3):=by kernel_rfl
theorem u_u8s:Tryz.prog.underlying 22=some (.slice 5):=by kernel_rfl
theorem u_kdraft:Tryz.prog.underlying 24=some (.struct { toList:=[{ name := "Size",type:=5,offset:=0,embedded:=false,tag := "",pkgPath := "",byteOffset:=0 },{ name := "N",type:=22,offset:=1,embedded:=false,tag := "",pkgPath := "",byteOffset:=8 }] }):=by kernel_rfl
theorem c_int:Tryz.prog.cellsOf 3=1:=by kernel_rfl
theorem c_ints:Tryz.prog.cellsOf 25=1:=by kernel_rfl
theorem c_u8:Tryz.prog.cellsOf 5=1:=by kernel_rfl
theorem c_u8s:Tryz.prog.cellsOf 22=1:=by kernel_rfl
theorem c_kdraft:Tryz.prog.cellsOf 24=2:=by kernel_rfl
theorem nums1_of {f:Nat→Value} {m:Nat} : ∀(n:Nat) (cs:List Value),cs.length=n*1→(∀i,i<n → ∃p,p<m∧(cs.drop (i*1)).take 1 = [f p]) → ∃ps:List Nat,ps.length=n∧cs=ps.map f ∧ ∀p∈ps,p<m
 | 0,cs,h,_=>⟨[],rfl,by simpa using h,fun p hp=>by cases hp⟩
 | n+1,[],h,_=>by simp at h
 | n+1,c :: cs,h,k=>by
  obtain⟨p,h1,h2⟩:=k 0 (by omega)
  obtain⟨ps,h3,h4,h5⟩:=nums1_of n cs (by simp at h ⊢;omega) fun i hi=>by
   obtain⟨q,h6,h7⟩:=k (i+1) (by omega)
   exact⟨q,h6,by simpa using h7⟩
  refine⟨p :: ps,by simp[h3],?_,fun q hq=>?_⟩
  ·simp at h2;rw[List.map_cons,h2,h4]
  ·rcases List.mem_cons.1 hq with rfl|hq
   ·exact h1
   ·exact h5 q hq
theorem ints1_of : ∀(n:Nat) (cs:List Value),cs.length=n*1→(∀i,i<n → ∃p:Int,In64 p∧(cs.drop (i*1)).take 1 = [KI p]) → ∃l:List Int,l.length=n∧cs=l.map KI ∧ ∀x∈l,In64 x
 | 0,cs,h,_=>⟨[],rfl,by simpa using h,fun p hp=>by cases hp⟩
 | n+1,[],h,_=>by simp at h
 | n+1,c :: cs,h,k=>by
  obtain⟨p,h1,h2⟩:=k 0 (by omega)
  obtain⟨l,h3,h4,h5⟩:=ints1_of n cs (by simp at h ⊢;omega) fun i hi=>by
   obtain⟨q,h6,h7⟩:=k (i+1) (by omega)
   exact⟨q,h6,by simpa using h7⟩
  refine⟨p :: l,by simp[h3],?_,fun q hq=>?_⟩
  ·simp at h2;rw[List.map_cons,h2,h4]
  ·rcases List.mem_cons.1 hq with rfl|hq
   ·exact h1
   ·exact h5 q hq
section
variable {H:Type} {enc:TypeId×Value→H} {W:World} {held:Bool}
theorem tell_bytes (G:Nat→Option (List Value)) {fuel:Nat} {cs0:List Value} {x:DataW H×List MemPlace} (h:DataW.trod enc Tryz.prog W 0 (fun _=>true) held fuel 22 cs0=some x) :
  ∃v l,cs0 = [v]∧tellable v=true∧BySl (IH.start (tellB G W)) (trV v) l:=by
 obtain⟨v,n,cs,e1,ht,hn,hs,hR⟩:=tell_slice (R:=fun cs => ∃p:Nat,p<256∧cs.map trV = [B8 p]) u_u8s c_u8 (by omega) (fun n cs x hx=>by
  obtain⟨i,rfl,hi⟩:=trod_nat (m:=255) rfl rfl u_u8 hx
  exact⟨⟨i,by omega,rfl⟩,fun y hy=>by rw[List.mem_singleton.1 hy];rfl⟩) G h
 obtain⟨ps,h1,h2,h3⟩:=nums1_of (f:=B8) (m:=256) n (cs.map trV) hs.2.1 fun i hi=>by
  obtain⟨p,hp,e⟩:=hR i hi
  exact⟨p,hp,by rw[←List.map_drop,←List.map_take];exact e⟩
 subst h1
 exact⟨v,ps,e1,ht,h2▸hs,Nat.lt_of_le_of_lt hn (by decide),h3⟩
theorem tell_ints (G:Nat→Option (List Value)) {fuel:Nat} {cs0:List Value} {x:DataW H×List MemPlace} (h:DataW.trod enc Tryz.prog W 0 (fun _=>true) held fuel 25 cs0=some x) :
  ∃v l,cs0 = [v]∧tellable v=true∧InAr (IH.start (tellB G W)) (trV v) l:=by
 obtain⟨v,n,cs,e1,ht,hn,hs,hR⟩:=tell_slice (R:=fun cs => ∃p:Int,In64 p∧cs.map trV = [KI p]) u_ints c_int (by omega) (fun n cs x hx=>by
  obtain⟨i,rfl,_,hw⟩:=DataW.trod_int u_int hx
  exact⟨⟨i,wf_i64 hw,rfl⟩,fun y hy=>by rw[List.mem_singleton.1 hy];rfl⟩) G h
 obtain⟨l,h1,h2,h3⟩:=ints1_of n (cs.map trV) hs.2.1 fun i hi=>by
  obtain⟨p,hp,e⟩:=hR i hi
  exact⟨p,hp,by rw[←List.map_drop,←List.map_take];exact e⟩
 subst h1
 exact⟨v,l,e1,ht,h2▸hs,Nat.lt_of_le_of_lt hn (by decide),h3⟩
theorem len2 {α:Type} : ∀{l:List α},l.length=2 → ∃a b,l = [a,b]
 | [a,b],_=>⟨a,b,rfl⟩
theorem len7 {α:Type} : ∀{l:List α},l.length=7 → ∃a b c d e f g,l = [a,b,c,d,e,f,g]
 | [a,b,c,d,e,f,g],_=>⟨a,b,c,d,e,f,g,rfl⟩
theorem kdraft_of (G:Nat→Option (List Value)) {fuel:Nat} {cs:List Value} {x:DataW H×List MemPlace} (h:DataW.trod enc Tryz.prog W 0 (fun _=>true) held fuel 24 cs=some x) :
  ∃k y l,cs = [B8 k,y]∧k<256∧tellable y=true∧BySl (IH.start (tellB G W)) (trV y) l:=by
 obtain⟨xs,m,_,_,hl,hn,hf⟩:=DataW.trod_struct u_kdraft h
 rw[c_kdraft] at hl
 have hn2:xs.length=2:=hn
 obtain⟨x0,hx0⟩ : ∃y,xs[0]?=some y:=⟨_,List.getElem?_eq_getElem (by omega)⟩
 have f0:DataW.trod enc Tryz.prog W 0 (fun _=>true) held m 5 ((cs.drop 0).take (Tryz.prog.cellsOf 5))=some x0:=(hf 0 { name := "Size",type:=5,offset:=0,embedded:=false,tag := "",pkgPath := "",byteOffset:=0 } rfl).trans hx0
 obtain⟨x1,hx1⟩ : ∃y,xs[1]?=some y:=⟨_,List.getElem?_eq_getElem (by omega)⟩
 have f1:DataW.trod enc Tryz.prog W 0 (fun _=>true) held m 22 ((cs.drop 1).take (Tryz.prog.cellsOf 22))=some x1:=(hf 1 { name := "N",type:=22,offset:=1,embedded:=false,tag := "",pkgPath := "",byteOffset:=8 } rfl).trans hx1
 rw[c_u8] at f0
 rw[c_u8s] at f1
 obtain⟨a,b,rfl⟩:=len2 hl
 obtain⟨k,e0,hk⟩:=trod_nat (m:=255) rfl rfl u_u8 f0
 obtain⟨v,l,e1,t1,s1⟩:=tell_bytes G f1
 cases e0;cases e1
 exact⟨k,_,l,rfl,by omega,t1,s1⟩
theorem u_case:Tryz.prog.underlying 27=some (.struct { toList:=[{ name := "D",type:=24,offset:=0,embedded:=false,tag := "",pkgPath := "",byteOffset:=0 },{ name := "Scores",type:=22,offset:=2,embedded:=false,tag := "",pkgPath := "",byteOffset:=32 },{ name := "Levels",type:=22,offset:=3,embedded:=false,tag := "",pkgPath := "",byteOffset:=56 },{ name := "At",type:=22,offset:=4,embedded:=false,tag := "",pkgPath := "",byteOffset:=80 },{ name := "RawScores",type:=25,offset:=5,embedded:=false,tag := "",pkgPath := "",byteOffset:=104 },{ name := "RawLevel",type:=25,offset:=6,embedded:=false,tag := "",pkgPath := "",byteOffset:=128 }] }):=by kernel_rfl
theorem c_case:Tryz.prog.cellsOf 27=7:=by kernel_rfl
theorem case_of (G:Nat→Option (List Value)) {fuel:Nat} {cs:List Value} {x:DataW H×List MemPlace} (h:DataW.trod enc Tryz.prog W 0 (fun _=>true) held fuel 27 cs=some x) :
  ∃k yN yS yL yA yR yQ lN lS lL lA lR lQ,cs = [B8 k,yN,yS,yL,yA,yR,yQ]∧k<256∧(tellable yN=true∧tellable yS=true∧tellable yL=true∧tellable yA=true∧tellable yR=true∧tellable yQ=true)∧BySl (IH.start (tellB G W)) (trV yN) lN∧BySl (IH.start (tellB G W)) (trV yS) lS∧BySl (IH.start (tellB G W)) (trV yL) lL∧BySl (IH.start (tellB G W)) (trV yA) lA∧InAr (IH.start (tellB G W)) (trV yR) lR∧InAr (IH.start (tellB G W)) (trV yQ) lQ:=by
 obtain⟨xs,m,_,_,hl,hn,hf⟩:=DataW.trod_struct u_case h
 rw[c_case] at hl
 have hn2:xs.length=6:=hn
 obtain⟨x0,hx0⟩ : ∃y,xs[0]?=some y:=⟨_,List.getElem?_eq_getElem (by omega)⟩
 have f0:DataW.trod enc Tryz.prog W 0 (fun _=>true) held m 24 ((cs.drop 0).take (Tryz.prog.cellsOf 24))=some x0:=(hf 0 { name := "D",type:=24,offset:=0,embedded:=false,tag := "",pkgPath := "",byteOffset:=0 } rfl).trans hx0
 obtain⟨x1,hx1⟩ : ∃y,xs[1]?=some y:=⟨_,List.getElem?_eq_getElem (by omega)⟩
 have f1:DataW.trod enc Tryz.prog W 0 (fun _=>true) held m 22 ((cs.drop 2).take (Tryz.prog.cellsOf 22))=some x1:=(hf 1 { name := "Scores",type:=22,offset:=2,embedded:=false,tag := "",pkgPath := "",byteOffset:=32 } rfl).trans hx1
 obtain⟨x2,hx2⟩ : ∃y,xs[2]?=some y:=⟨_,List.getElem?_eq_getElem (by omega)⟩
 have f2:DataW.trod enc Tryz.prog W 0 (fun _=>true) held m 22 ((cs.drop 3).take (Tryz.prog.cellsOf 22))=some x2:=(hf 2 { name := "Levels",type:=22,offset:=3,embedded:=false,tag := "",pkgPath := "",byteOffset:=56 } rfl).trans hx2
 obtain⟨x3,hx3⟩ : ∃y,xs[3]?=some y:=⟨_,List.getElem?_eq_getElem (by omega)⟩
 have f3:DataW.trod enc Tryz.prog W 0 (fun _=>true) held m 22 ((cs.drop 4).take (Tryz.prog.cellsOf 22))=some x3:=(hf 3 { name := "At",type:=22,offset:=4,embedded:=false,tag := "",pkgPath := "",byteOffset:=80 } rfl).trans hx3
 obtain⟨x4,hx4⟩ : ∃y,xs[4]?=some y:=⟨_,List.getElem?_eq_getElem (by omega)⟩
 have f4:DataW.trod enc Tryz.prog W 0 (fun _=>true) held m 25 ((cs.drop 5).take (Tryz.prog.cellsOf 25))=some x4:=(hf 4 { name := "RawScores",type:=25,offset:=5,embedded:=false,tag := "",pkgPath := "",byteOffset:=104 } rfl).trans hx4
 obtain⟨x5,hx5⟩ : ∃y,xs[5]?=some y:=⟨_,List.getElem?_eq_getElem (by omega)⟩
 have f5:DataW.trod enc Tryz.prog W 0 (fun _=>true) held m 25 ((cs.drop 6).take (Tryz.prog.cellsOf 25))=some x5:=(hf 5 { name := "RawLevel",type:=25,offset:=6,embedded:=false,tag := "",pkgPath := "",byteOffset:=128 } rfl).trans hx5
 rw[c_kdraft] at f0
 rw[c_u8s] at f1 f2 f3
 rw[c_ints] at f4 f5
 obtain⟨a,b,c,d,e,f,g,rfl⟩:=len7 hl
 obtain⟨k,y,lN,e0,hk,t0,s0⟩:=kdraft_of G f0
 obtain⟨v1,lS,e1,t1,s1⟩:=tell_bytes G f1
 obtain⟨v2,lL,e2,t2,s2⟩:=tell_bytes G f2
 obtain⟨v3,lA,e3,t3,s3⟩:=tell_bytes G f3
 obtain⟨v4,lR,e4,t4,s4⟩:=tell_ints G f4
 obtain⟨v5,lQ,e5,t5,s5⟩:=tell_ints G f5
 cases e0;cases e1;cases e2;cases e3;cases e4;cases e5
 exact⟨k,_,_,_,_,_,_,lN,lS,lL,lA,lR,lQ,rfl,hk,⟨t0,t1,t2,t3,t4,t5⟩,s0,s1,s2,s3,s4,s5⟩
end
end Go.Proofs.YtnanhedgenokpaaGreat
