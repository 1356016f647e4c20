/-
  Contracts: law 34's drafts: lists, weights. The rows' common part: wide numbers, bytes, integers, drafted kernels that came in.
-/
import Derived.Test.YtnanhedgenokpaaGreatTemperMovesAt
import Derived.Test.YtnanhedgenokpaaGreatTemperMovesBh
import Derived.Test.YtnanhedgenokpaaGreatTemperMovesBg
import Derived.Test.YtnanhedgenokpaaGreatTemperMovesBf
import Derived.Test.YtnanhedgenokpaaGreatTemperMovesAv
set_option linter.unusedVariables false
set_option linter.unusedSimpArgs false
set_option linter.defProp false
set_option linter.deprecated false
namespace Go.Id
open Go
open Go.Proofs.Tryz (prog)
open Nat renaming reduceAdd→zA,reduceEqDiff→zE,reduceLeDiff→zL
set_option maxHeartbeats 16000000
def jF (h:IH) (v:Value) (l:List Nat):Prop:=bI h 1 v l.length (l.map B8)∧l.length<9223372036854775808 ∧ ∀x∈l,x<256
theorem jF.ab {h h':IH} {v:Value} {l:List Nat} (s:jF h v l) (e:aF h h'):jF h' v l:=⟨s.1.ab e,s.2⟩
theorem jF.ld {h h':IH} {v:Value} {l:List Nat} (s:jF h v l) (e:aF h h') {i:Nat} {x:Nat} (hi:l[i]?=some x):load prog h' 5 (aK v i)=some (B8 x):=by
 have hil:=(List.getElem?_eq_some_iff.1 hi).1
 rw[s.1.ld e (by simpa using hil) ag5,List.getElem?_map,hi];rfl
theorem jF.first {h h':IH} {v:Value} {l:List Nat} (s:jF h v l) (kp:aF h h') {m:Nat} (hm:m≤l.length) : ∃w,di prog h' 22 v none (some (KN m)) none=some w∧jF h w (l.take m):=by
 have lb:=s.2.1
 obtain⟨w,hw,hs⟩:=s.1.slice kp (P:=prog) (t:=22) u22 sz5 (l:=0) (m:=m) (Nat.zero_le _) hm (lo:=none) (hi:=some (KN m)) rfl (fun c hc=>ju (k:=.i64) (by omega))
 refine⟨w,hw,?_,by rw[List.length_take];omega,fun x hx=>s.2.2 x (List.mem_of_mem_take hx)⟩
 rw[List.length_take,Nat.min_eq_left hm,List.map_take]
 simpa using hs
def Q8 (h:IH) (v:Value) (l:List Int):Prop:=bI h 1 v l.length (l.map KI)∧l.length<9223372036854775808 ∧ ∀x∈l,dH x
theorem my (P:Program) (t:TypeId) (k:IntKind) (ox oy:Operand) (a n:Nat) (hn:0<n):binop P .rem t ox oy (.int k (a:Int)) (.int k (n:Int))=some (.int k ((a % n:Nat):Int)):=by
 rw[tY P t ox oy (by omega),Int.tmod_eq_emod_of_nonneg (by omega),Int.natCast_emod]
theorem BI {h:IH} {sz:Nat} {v:Value} {l:List Nat} (hv:jF h v l) (n:Nat) (hn:n≤100) :
  WV prog (.func (.func 13) #[] #[]) [.agg #[B8 sz,v],KN n] h fun r h'=>Ext h h' ∧ ∃out,iA h' r out∧out.length=n ∧ ∀p∈out,1≤wdI p∧wdI p≤9:=by
 have cv:=hv.1.cells
 have co:=hv.1.cok
 have g0:(h.new (.cells [B8 sz,v] 0 none)).ext.get h.n=some (.cells [B8 sz,v] 0 none):=by simp (disch:=try exact dx) only[aa]
 have E0:Ext h (h.new (.cells [B8 sz,v] 0 none)):=(Ext.refl h).new _
 refine enter (nt:=32) (rs:=[.tmp 4]) Proofs.Tryz.func13 rfl rfl rfl (by simp) ?_
 simp -dsimp (disch:=try exact dx) only[wpS,zE,zA]
 obtain⟨Hb,hHb⟩ : ∃H,H=h.new (.cells [B8 sz,v] 0 none):=⟨_,rfl⟩
 have nb:Hb.n=h.n+1:=by rw[hHb];rfl
 rw[←hHb] at g0 E0 ⊢
 clear hHb
 refine loop (fun m fr hh => ∃(i:Nat) (out:Value) (l':List Nat),i+m=n∧l'.length=i∧(∀p∈l',p<W8∧1≤wdI p∧wdI p≤9)∧Ext Hb hh∧Acc hh Hb.n 8 out l'.length (wiL l')∧ah fr 1=some (KN n)∧ah fr 2=some (ptr (2*h.n) 0)∧ah fr 5=some out∧ah fr 6=some (KN i)) n
  ⟨0,.slice none 0 0,[],by omega,rfl,(fun p hp=>by cases hp),Ext.refl _,Acc.nil _ _ (by omega),by simp,by simp,by simp,by simp⟩ ?_
 rintro m fr hh ⟨i,out,l',him,hil,hlt,hE,hA,f1,f2,f5,f6⟩
 have hg:=hE.kept (by omega) g0
 have hnn:=hE.n
 have lv:=hv.2.1
 have hEh:=E0.trans hE
 simp -dsimp (disch:=try exact dx) only[wpS,zE,f1,f6]
 refine ax ?_ ?_<;>intro hc<;>simp only[decide_eq_true_eq,decide_eq_false_iff_not] at hc
 ·by_cases c:i<l.length
  ·obtain⟨x,hx⟩ : ∃x,l[i]?=some x:=⟨_,List.getElem?_eq_getElem c⟩
   have xb:=hv.2.2 x (List.mem_of_getElem? hx)
   have hr : ∀ox oy,binop prog .rem 5 ox oy (B8 x) (.int .u8 9)=some (.int .u8 ((x % 9:Nat):Int)):=fun ox oy=>my _ _ .u8 ox oy x 9 (by omega)
   simp -dsimp (disch:=try exact dx) only[wpS,wpT,zE,BD,Bh,xY,f2,f5,f6,ai hg,hv.1.len yC,hv.1.idx LF c,hv.ld hEh.ab hx,hr]
   refine call (CO (1+((x % 9:Nat):Int)) ⟨by omega,by omega⟩) ?_
   rintro _ h1 ⟨X1,rfl⟩
   have wi:=qn (n:=1+((x % 9:Nat):Int)) ⟨by omega,by omega⟩
   have wz:aU (1+((x % 9:Nat):Int))<W8∧1≤wdI (aU (1+((x % 9:Nat):Int)))∧wdI (aU (1+((x % 9:Nat):Int)))≤9:=⟨fk wi,by rw[cK wi];omega,by rw[cK wi];omega⟩
   have m1:=X1.n
   obtain⟨bR,h8,hap,hA8,hG8,hE8⟩:=(hA.ext X1).pU (P:=prog) (t:=42) FX (m:=1) (new:=wdC (aU (1+((x % 9:Nat):Int)))) (by omega) (by rw[aj]) (ay _) (by omega) (by omega) (hE.trans X1) (by omega)
   have jA:append prog (h1.new (.cells (wdC (aU (1+((x % 9:Nat):Int)))) 8 none)) 42 out (.slice (some ⟨2*h1.n,0,none⟩) 1 3)=some (bR,h8):=hap
   simp -dsimp (disch:=try exact dx) only[wpS,wpT,zE,zL,zA,FP,nA,f6,aM,aj,aO,jA]
   refine⟨m - 1,by omega,i+1,bR,l' ++ [aU (1+((x % 9:Nat):Int))],by omega,by simp[hil],?_,hE8,?_,by simp[f1],by simp[f2],by simp,by simp⟩
   ·intro q hq
    rcases List.mem_append.1 hq with hq|hq
    ·exact hlt q hq
    ·rw[List.mem_singleton.1 hq];exact wz
   ·rw[lf,List.length_append]
    exact hA8
  ·simp -dsimp (disch:=try exact dx) only[wpS,wpT,zE,BD,Bh,f2,f5,f6,ai hg,hv.1.len yC]
   refine call (CO 1 ⟨by omega,by omega⟩) ?_
   rintro _ h1 ⟨X1,rfl⟩
   have wi:=qn (n:=1) ⟨by omega,by omega⟩
   have wz:aU 1<W8∧1≤wdI (aU 1)∧wdI (aU 1)≤9:=⟨fk wi,by rw[cK wi];omega,by rw[cK wi];omega⟩
   have m1:=X1.n
   obtain⟨bR,h8,hap,hA8,hG8,hE8⟩:=(hA.ext X1).pU (P:=prog) (t:=42) FX (m:=1) (new:=wdC (aU 1)) (by omega) (by rw[aj]) (ay _) (by omega) (by omega) (hE.trans X1) (by omega)
   have jA:append prog (h1.new (.cells (wdC (aU 1)) 8 none)) 42 out (.slice (some ⟨2*h1.n,0,none⟩) 1 3)=some (bR,h8):=hap
   simp -dsimp (disch:=try exact dx) only[wpS,wpT,zE,zL,zA,FP,nA,f6,aM,aj,aO,jA]
   refine⟨m - 1,by omega,i+1,bR,l' ++ [aU 1],by omega,by simp[hil],?_,hE8,?_,by simp[f1],by simp[f2],by simp,by simp⟩
   ·intro q hq
    rcases List.mem_append.1 hq with hq|hq
    ·exact hlt q hq
    ·rw[List.mem_singleton.1 hq];exact wz
   ·rw[lf,List.length_append]
    exact hA8
 ·simp -dsimp (disch:=try exact dx) only[wpS,wpT,zE,f5]
  exact⟨hEh,l',⟨hA.sl,by omega,fun p hp=>(hlt p hp).1⟩,by omega,fun p hp=>(hlt p hp).2⟩
theorem ID {h:IH} {sz n:Nat} {vN vS vL vA vR vQ:Value} {lS lL lA:List Nat} (hS:jF h vS lS) (hL:jF h vL lL) (hA:jF h vA lA) (n0:0<n) (hn:n≤100)
  (cN:aG vN=true) (cR:aG vR=true) (cQ:aG vQ=true) :
  WV prog (.func (.func 12) #[] #[]) [.agg #[B8 sz,vN,vS,vL,vA,vR,vQ],KN n] h fun r h'=>Ext h h' ∧ ∃(a b c:Value) (s l t:List Int),r=.tuple #[a,b,c]∧fI h' a s∧fI h' b l∧fI h' c t∧s.length=n∧(∀x∈s,0≤x∧x≤30)∧l.length≤6∧(∀x∈l,0≤x∧x≤8)∧t.length=l.length∧(∀x∈t,0≤x∧x<n):=by
 have cS:=hS.1.cok
 have cL:=hL.1.cok
 have cA:=hA.1.cok
 have g0:(h.new (.cells [B8 sz,vN,vS,vL,vA,vR,vQ] 0 none)).ext.get h.n=some (.cells [B8 sz,vN,vS,vL,vA,vR,vQ] 0 none):=by simp (disch:=try exact dx) only[aa]
 have E0:Ext h (h.new (.cells [B8 sz,vN,vS,vL,vA,vR,vQ] 0 none)):=(Ext.refl h).new _
 obtain⟨Hb,hHb⟩ : ∃H,H=h.new (.cells [B8 sz,vN,vS,vL,vA,vR,vQ] 0 none):=⟨_,rfl⟩
 have nb:Hb.n=h.n+1:=by rw[hHb];rfl
 refine enter (nt:=79) (rs:=[.tmp 4,.tmp 5,.tmp 6]) Proofs.Tryz.func12 rfl rfl rfl (by simp) ?_
 simp -dsimp (disch:=try exact dx) only[wpS,zE,zA]
 rw[←hHb] at g0 E0 ⊢
 clear hHb
 have lvS:=hS.2.1
 have lvL:=hL.2.1
 have lvA:=hA.2.1
 refine loop (fun m fr hh => ∃(i:Nat) (out:Value) (s:List Int),i+m=n∧s.length=i∧(∀x∈s,0≤x∧x≤30)∧Ext Hb hh∧Acc hh Hb.n 1 out s.length (s.map KI)∧ah fr 1=some (KN n)∧ah fr 2=some (ptr (2*h.n) 0)∧ah fr 4=some out∧ah fr 5=some (.slice none 0 0)∧ah fr 6=some (.slice none 0 0)∧ah fr 13=some (KN n)∧ah fr 14=some (KN i)) n
  ⟨0,.slice none 0 0,[],by omega,rfl,(fun p hp=>by cases hp),Ext.refl _,Acc.nil _ _ (by omega),by simp,by simp,by simp,by simp,by simp,by simp,by simp⟩ ?_
 rintro m fr hh ⟨i,out,s,him,hil,hlt,hE,hAc,f1,f2,f4,f5,f6,f13,f14⟩
 have hg:=hE.kept (by omega) g0
 have hnn:=hE.n
 have hEh:=E0.trans hE
 simp -dsimp (disch:=try exact dx) only[wpS,f13,f14]
 refine ax ?_ ?_<;>intro hc<;>simp only[decide_eq_true_eq,decide_eq_false_iff_not] at hc
 ·by_cases c:i<lS.length
  ·obtain⟨x,hx⟩ : ∃x,lS[i]?=some x:=⟨_,List.getElem?_eq_getElem c⟩
   have xb:=hS.2.2 x (List.mem_of_getElem? hx)
   have hr : ∀ox oy,binop prog .rem 5 ox oy (B8 x) (.int .u8 31)=some (.int .u8 ((x % 31:Nat):Int)):=fun ox oy=>my _ _ .u8 ox oy x 31 (by omega)
   obtain⟨bR,h8,hap,hA8,hG8,hE8⟩:=hAc.tj (P:=prog) (t:=25) pV (x:=KI ((x % 31:Nat):Int)) rfl (by omega) (by omega) hE (by omega)
   simp -dsimp (disch:=try exact dx) only[wpS,wpT,zE,zL,zA,Lz,Bh,xY,gO,fj,f2,f4,f14,ai hg,hS.1.len yC,hS.1.idx LF c,hS.ld hEh.ab hx,hr,hap]
   refine⟨m - 1,by omega,i+1,bR,s ++ [((x % 31:Nat):Int)],by omega,by simp[hil],?_,hE8,?_,by simp[f1],by simp[f2],by simp,by simp[f5],by simp[f6],by simp[f13],by simp⟩
   ·intro q hq
    rcases List.mem_append.1 hq with hq|hq
    ·exact hlt q hq
    ·rw[List.mem_singleton.1 hq];constructor<;>omega
   ·rw[List.map_append,List.length_append]
    exact hA8
  ·obtain⟨bR,h8,hap,hA8,hG8,hE8⟩:=hAc.tj (P:=prog) (t:=25) pV (x:=KI 0) rfl (by omega) (by omega) hE (by omega)
   simp -dsimp (disch:=try exact dx) only[wpS,wpT,zE,zL,zA,Lz,Bh,gO,fj,f2,f4,f14,ai hg,hS.1.len yC,hap]
   refine⟨m - 1,by omega,i+1,bR,s ++ [0],by omega,by simp[hil],?_,hE8,?_,by simp[f1],by simp[f2],by simp,by simp[f5],by simp[f6],by simp[f13],by simp⟩
   ·intro q hq
    rcases List.mem_append.1 hq with hq|hq
    ·exact hlt q hq
    ·rw[List.mem_singleton.1 hq];constructor<;>omega
   ·rw[List.map_append,List.length_append]
    exact hA8
 have sS:fI hh out s:=⟨hAc.sl,by omega,fun x hx=>by have:=hlt x hx;exact⟨by omega,by omega⟩⟩
 have hsn:s.length=n:=by omega
 have bS:=hlt
 clear hAc hlt him hc
 obtain⟨M,hM⟩ : ∃M,M=min lL.length 6:=⟨_,rfl⟩
 have Bs:(if (6:Int)<(lL.length:Int) then (6:Int) else (lL.length:Int))=(M:Int):=by split<;>omega
 obtain⟨w,hw,hs2⟩:=hL.first hEh.ab (m:=M) (by omega)
 obtain⟨ls,hls⟩ : ∃l,l=lL.take M:=⟨_,rfl⟩
 rw[←hls] at hs2
 have hlsl:ls.length=M:=by rw[hls,List.length_take];omega
 clear hls
 have lv2:=hs2.2.1
 simp -dsimp (disch:=try exact dx) only[wpS,wpT,zE,Bh,QE,f2,ai hg,hL.1.len yC,KE,Bs,hw,hs2.1.len yC]
 refine loop (fun m fr h4 => ∃(i:Nat) (Iu:Value) (s:List Int),i+m=ls.length∧s.length=i∧(∀x∈s,0≤x∧x≤8)∧Ext hh h4∧Acc h4 hh.n 1 Iu s.length (s.map KI)∧ah fr 1=some (KN n)∧ah fr 2=some (ptr (2*h.n) 0)∧ah fr 4=some out∧ah fr 5=some Iu∧ah fr 6=some (.slice none 0 0)∧ah fr 40=some w∧ah fr 41=some (KN ls.length)∧ah fr 42=some (KN i)) ls.length
  ⟨0,.slice none 0 0,[],by omega,rfl,(fun p hp=>by cases hp),Ext.refl _,Acc.nil _ _ (by omega),by simp[f1],by simp[f2],by simp[f4],by simp[f5],by simp[f6],by simp,by simp,by simp⟩ ?_
 rintro m fr h4 ⟨i,Iu,t,him,hil,hlt,hE2,hAc,f1,f2,f4,f5,f6,f40,f41,f42⟩
 have hg2:=hE2.kept (by omega) hg
 have hnn2:=hE2.n
 have Od:=hEh.trans hE2
 simp -dsimp (disch:=try exact dx) only[wpS,f41,f42]
 refine ax ?_ ?_<;>intro hc<;>simp only[decide_eq_true_eq,decide_eq_false_iff_not] at hc
 ·have c:i<ls.length:=by omega
  obtain⟨x,hx⟩ : ∃x,ls[i]?=some x:=⟨_,List.getElem?_eq_getElem c⟩
  have xb:=hs2.2.2 x (List.mem_of_getElem? hx)
  have hr : ∀ox oy,binop prog .rem 5 ox oy (B8 x) (.int .u8 9)=some (.int .u8 ((x % 9:Nat):Int)):=fun ox oy=>my _ _ .u8 ox oy x 9 (by omega)
  obtain⟨bR,h8,hap,hA8,hG8,hE8⟩:=hAc.tj (P:=prog) (t:=25) pV (x:=KI ((x % 9:Nat):Int)) rfl (by omega) (by omega) hE2 (by omega)
  simp -dsimp (disch:=try exact dx) only[wpS,wpT,zE,zL,zA,xY,gO,fj,f5,f40,f42,hs2.1.idx LF c,hs2.ld Od.ab hx,hr,hap]
  refine⟨m - 1,by omega,i+1,bR,t ++ [((x % 9:Nat):Int)],by omega,by simp[hil],?_,hE8,?_,by simp[f1],by simp[f2],by simp[f4],by simp,by simp[f6],by simp[f40],by simp[f41],by simp⟩
  ·intro q hq
   rcases List.mem_append.1 hq with hq|hq
   ·exact hlt q hq
   ·rw[List.mem_singleton.1 hq];constructor<;>omega
  ·rw[List.map_append,List.length_append]
   exact hA8
 have sL:fI h4 Iu t:=⟨hAc.sl,by omega,fun x hx=>by have:=hlt x hx;exact⟨by omega,by omega⟩⟩
 have bL:=hlt
 have lL6:t.length≤6:=by omega
 have sS2:=sS.ab hE2.ab
 have ltl:t.length≤1000000000:=sL.2.1
 clear hAc hlt him hc sS hil
 simp -dsimp (disch:=try exact dx) only[wpS,zE,f5,sL.1.len cW]
 refine loop (fun m fr h5 => ∃(i:Nat) (Ku:Value) (s:List Int),i+m=t.length∧s.length=i∧(∀x∈s,0≤x∧x<n)∧Ext h4 h5∧Acc h5 h4.n 1 Ku s.length (s.map KI)∧ah fr 1=some (KN n)∧ah fr 2=some (ptr (2*h.n) 0)∧ah fr 4=some out∧ah fr 5=some Iu∧ah fr 6=some Ku∧ah fr 54=some (KN t.length)∧ah fr 55=some (KN i)) t.length
  ⟨0,.slice none 0 0,[],by omega,rfl,(fun p hp=>by cases hp),Ext.refl _,Acc.nil _ _ (by omega),by simp[f1],by simp[f2],by simp[f4],by simp[f5],by simp[f6],by simp,by simp⟩ ?_
 rintro m fr h5 ⟨i,Ku,u,him,hil,hlt,hE3,hAc,f1,f2,f4,f5,f6,f54,f55⟩
 have hg3:=hE3.kept (by omega) hg2
 have hnn3:=hE3.n
 have SI:=Od.trans hE3
 simp -dsimp (disch:=try exact dx) only[wpS,f54,f55]
 refine ax ?_ ?_<;>intro hc<;>simp only[decide_eq_true_eq,decide_eq_false_iff_not] at hc
 ·by_cases c:i<lA.length
  ·obtain⟨x,hx⟩ : ∃x,lA[i]?=some x:=⟨_,List.getElem?_eq_getElem c⟩
   have xb:=hA.2.2 x (List.mem_of_getElem? hx)
   have hb:=Nat.mod_lt x n0
   have hr : ∀ox oy,binop prog .rem 3 ox oy (.int .i64 (x:Int)) (KN n)=some (.int .i64 ((x % n:Nat):Int)):=fun ox oy=>my _ _ .i64 ox oy x n n0
   obtain⟨bR,h8,hap,hA8,hG8,hE8⟩:=hAc.tj (P:=prog) (t:=25) pV (x:=KI ((x % n:Nat):Int)) rfl (by omega) (by omega) hE3 (by omega)
   simp -dsimp (disch:=try exact dx) only[wpS,wpT,zE,zL,zA,Bh,xY,gO,Ly,fj,f1,f2,f6,f55,ai hg3,hA.1.len yC,hA.1.idx LF c,hA.ld SI.ab hx,hr,hap]
   refine⟨m - 1,by omega,i+1,bR,u ++ [((x % n:Nat):Int)],by omega,by simp[hil],?_,hE8,?_,by simp[f1],by simp[f2],by simp[f4],by simp[f5],by simp,by simp[f54],by simp⟩
   ·intro q hq
    rcases List.mem_append.1 hq with hq|hq
    ·exact hlt q hq
    ·rw[List.mem_singleton.1 hq];constructor<;>omega
   ·rw[List.map_append,List.length_append]
    exact hA8
  ·obtain⟨bR,h8,hap,hA8,hG8,hE8⟩:=hAc.tj (P:=prog) (t:=25) pV (x:=KI 0) rfl (by omega) (by omega) hE3 (by omega)
   simp -dsimp (disch:=try exact dx) only[wpS,wpT,zE,zL,zA,Bh,gO,Ly,fj,f2,f6,f55,ai hg3,hA.1.len yC,hap]
   refine⟨m - 1,by omega,i+1,bR,u ++ [0],by omega,by simp[hil],?_,hE8,?_,by simp[f1],by simp[f2],by simp[f4],by simp[f5],by simp,by simp[f54],by simp⟩
   ·intro q hq
    rcases List.mem_append.1 hq with hq|hq
    ·exact hlt q hq
    ·rw[List.mem_singleton.1 hq];constructor<;>omega
   ·rw[List.map_append,List.length_append]
    exact hA8
 have sA:fI h5 Ku u:=⟨hAc.sl,by omega,fun x hx=>by have:=hlt x hx;exact⟨by omega,by omega⟩⟩
 have lA:u.length=t.length:=by omega
 simp -dsimp (disch:=try exact dx) only[wpS,wpT,zE,f4,f5,f6]
 exact⟨SI,out,Iu,Ku,s,t,u,rfl,sS2.ab hE3.ab,sL.ab hE3.ab,sA,hsn,bS,lL6,bL,lA,hlt⟩
end Go.Id

namespace Go.Proofs.YtnanhedgenokpaaGreat
open Go.ChangeShapes Go.WideShapes Go.ChangeAt Go.RowKit Go.Id
theorem PR:Tryz.prog.underlying 25=some (.slice 3):=by kernel_rfl
theorem Ri:Tryz.prog.underlying 22=some (.slice 5):=by kernel_rfl
theorem JH:Tryz.prog.underlying 24=some (.struct { toList:=[{ name := "Size",type:=5,offset:=0,embedded:=false,tag := "",pkgPath := "",byteOffset:=0 },{ name := "N",type:=22,offset:=1,embedded:=false,tag := "",pkgPath := "",byteOffset:=8 }] }):=by kernel_rfl
theorem SW:Tryz.prog.cellsOf 3=1:=by kernel_rfl
theorem QQ:Tryz.prog.cellsOf 25=1:=by kernel_rfl
theorem SU:Tryz.prog.cellsOf 5=1:=by kernel_rfl
theorem Pu:Tryz.prog.cellsOf 22=1:=by kernel_rfl
theorem DT:Tryz.prog.cellsOf 24=2:=by kernel_rfl
theorem CV {f:Nat→Value} {m:Nat} : ∀(n:Nat) (cs:List Value),cs.length=n*1→(∀i,i<n → ∃p,p<m∧(cs.drop (i*1)).take 1 = [f p]) → ∃ps:List Nat,ps.length=n∧cs=ps.map f ∧ ∀p∈ps,p<m
 | 0,cs,h,_=>⟨[],rfl,by simpa using h,fun p hp=>by cases hp⟩
 | n+1,[],h,_=>by simp at h
 | n+1,c :: cs,h,k=>by
  obtain⟨p,h1,h2⟩:=k 0 (by omega)
  obtain⟨ps,h3,h4,h5⟩:=CV n cs (by simp at h ⊢;omega) fun i hi=>by
   obtain⟨q,h6,h7⟩:=k (i+1) (by omega)
   exact⟨q,h6,by simpa using h7⟩
  refine⟨p :: ps,by simp[h3],?_,fun q hq=>?_⟩
  ·simp at h2;rw[List.map_cons,h2,h4]
  ·rcases List.mem_cons.1 hq with rfl|hq
   ·exact h1
   ·exact h5 q hq
theorem Dn : ∀(n:Nat) (cs:List Value),cs.length=n*1→(∀i,i<n → ∃p:Int,dH p∧(cs.drop (i*1)).take 1 = [KI p]) → ∃l:List Int,l.length=n∧cs=l.map KI ∧ ∀x∈l,dH x
 | 0,cs,h,_=>⟨[],rfl,by simpa using h,fun p hp=>by cases hp⟩
 | n+1,[],h,_=>by simp at h
 | n+1,c :: cs,h,k=>by
  obtain⟨p,h1,h2⟩:=k 0 (by omega)
  obtain⟨l,h3,h4,h5⟩:=Dn n cs (by simp at h ⊢;omega) fun i hi=>by
   obtain⟨q,h6,h7⟩:=k (i+1) (by omega)
   exact⟨q,h6,by simpa using h7⟩
  refine⟨p :: l,by simp[h3],?_,fun q hq=>?_⟩
  ·simp at h2;rw[List.map_cons,h2,h4]
  ·rcases List.mem_cons.1 hq with rfl|hq
   ·exact h1
   ·exact h5 q hq
section
variable {H:Type} {enc:TypeId×Value→H} {W:World} {held:Bool}
theorem mT (G:Nat→Option (List Value)) {fuel:Nat} {cs0:List Value} {x:DataW H×List MemPlace} (h:DataW.trod enc Tryz.prog W 0 (fun _=>true) held fuel 22 cs0=some x) :
  ∃v l,cs0 = [v]∧ch v=true∧jF (IH.start (mo G W)) (trV v) l:=by
 obtain⟨v,n,cs,e1,ht,hn,hs,hR⟩:=vX (R:=fun cs => ∃p:Nat,p<256∧cs.map trV = [B8 p]) Ri SU (by omega) (fun n cs x hx=>by
  obtain⟨i,rfl,hi⟩:=vV (m:=255) rfl rfl Rj hx
  exact⟨⟨i,by omega,rfl⟩,fun y hy=>by rw[List.mem_singleton.1 hy];rfl⟩) G h
 obtain⟨ps,h1,h2,h3⟩:=CV (f:=B8) (m:=256) n (cs.map trV) hs.2.1 fun i hi=>by
  obtain⟨p,hp,e⟩:=hR i hi
  exact⟨p,hp,by rw[←List.map_drop,←List.map_take];exact e⟩
 subst h1
 exact⟨v,ps,e1,ht,h2▸hs,Nat.lt_of_le_of_lt hn (by decide),h3⟩
theorem zg (G:Nat→Option (List Value)) {fuel:Nat} {cs0:List Value} {x:DataW H×List MemPlace} (h:DataW.trod enc Tryz.prog W 0 (fun _=>true) held fuel 25 cs0=some x) :
  ∃v l,cs0 = [v]∧ch v=true∧Q8 (IH.start (mo G W)) (trV v) l:=by
 obtain⟨v,n,cs,e1,ht,hn,hs,hR⟩:=vX (R:=fun cs => ∃p:Int,dH p∧cs.map trV = [KI p]) PR SW (by omega) (fun n cs x hx=>by
  obtain⟨i,rfl,_,hw⟩:=DataW.trod_int Rl hx
  exact⟨⟨i,wf_i64 hw,rfl⟩,fun y hy=>by rw[List.mem_singleton.1 hy];rfl⟩) G h
 obtain⟨l,h1,h2,h3⟩:=Dn n (cs.map trV) hs.2.1 fun i hi=>by
  obtain⟨p,hp,e⟩:=hR i hi
  exact⟨p,hp,by rw[←List.map_drop,←List.map_take];exact e⟩
 subst h1
 exact⟨v,l,e1,ht,h2▸hs,Nat.lt_of_le_of_lt hn (by decide),h3⟩
theorem RN {α:Type} : ∀{l:List α},l.length=2 → ∃a b,l = [a,b]
 | [a,b],_=>⟨a,b,rfl⟩
theorem Ud {α:Type} : ∀{l:List α},l.length=7 → ∃a b c d e f g,l = [a,b,c,d,e,f,g]
 | [a,b,c,d,e,f,g],_=>⟨a,b,c,d,e,f,g,rfl⟩
theorem IM (G:Nat→Option (List Value)) {fuel:Nat} {cs:List Value} {x:DataW H×List MemPlace} (h:DataW.trod enc Tryz.prog W 0 (fun _=>true) held fuel 24 cs=some x) :
  ∃k y l,cs = [B8 k,y]∧k<256∧ch y=true∧jF (IH.start (mo G W)) (trV y) l:=by
 obtain⟨xs,m,_,_,hl,hn,hf⟩:=DataW.trod_struct JH h
 rw[DT] at hl
 have hn2:xs.length=2:=hn
 obtain⟨x0,hx0⟩ : ∃y,xs[0]?=some y:=⟨_,List.getElem?_eq_getElem (by omega)⟩
 have f0:DataW.trod enc Tryz.prog W 0 (fun _=>true) held m 5 ((cs.drop 0).take (Tryz.prog.cellsOf 5))=some x0:=(hf 0 { name := "Size",type:=5,offset:=0,embedded:=false,tag := "",pkgPath := "",byteOffset:=0 } rfl).trans hx0
 obtain⟨x1,hx1⟩ : ∃y,xs[1]?=some y:=⟨_,List.getElem?_eq_getElem (by omega)⟩
 have f1:DataW.trod enc Tryz.prog W 0 (fun _=>true) held m 22 ((cs.drop 1).take (Tryz.prog.cellsOf 22))=some x1:=(hf 1 { name := "N",type:=22,offset:=1,embedded:=false,tag := "",pkgPath := "",byteOffset:=8 } rfl).trans hx1
 rw[SU] at f0
 rw[Pu] at f1
 obtain⟨a,b,rfl⟩:=RN hl
 obtain⟨k,e0,hk⟩:=vV (m:=255) rfl rfl Rj f0
 obtain⟨v,l,e1,t1,s1⟩:=mT G f1
 cases e0;cases e1
 exact⟨k,_,l,rfl,by omega,t1,s1⟩
theorem JI:Tryz.prog.underlying 27=some (.struct { toList:=[{ name := "D",type:=24,offset:=0,embedded:=false,tag := "",pkgPath := "",byteOffset:=0 },{ name := "Scores",type:=22,offset:=2,embedded:=false,tag := "",pkgPath := "",byteOffset:=32 },{ name := "Levels",type:=22,offset:=3,embedded:=false,tag := "",pkgPath := "",byteOffset:=56 },{ name := "At",type:=22,offset:=4,embedded:=false,tag := "",pkgPath := "",byteOffset:=80 },{ name := "RawScores",type:=25,offset:=5,embedded:=false,tag := "",pkgPath := "",byteOffset:=104 },{ name := "RawLevel",type:=25,offset:=6,embedded:=false,tag := "",pkgPath := "",byteOffset:=128 }] }):=by kernel_rfl
theorem QR:Tryz.prog.cellsOf 27=7:=by kernel_rfl
theorem Ot (G:Nat→Option (List Value)) {fuel:Nat} {cs:List Value} {x:DataW H×List MemPlace} (h:DataW.trod enc Tryz.prog W 0 (fun _=>true) held fuel 27 cs=some x) :
  ∃k yN yS yL yA yR yQ lN lS lL lA lR lQ,cs = [B8 k,yN,yS,yL,yA,yR,yQ]∧k<256∧(ch yN=true∧ch yS=true∧ch yL=true∧ch yA=true∧ch yR=true∧ch yQ=true)∧jF (IH.start (mo G W)) (trV yN) lN∧jF (IH.start (mo G W)) (trV yS) lS∧jF (IH.start (mo G W)) (trV yL) lL∧jF (IH.start (mo G W)) (trV yA) lA∧Q8 (IH.start (mo G W)) (trV yR) lR∧Q8 (IH.start (mo G W)) (trV yQ) lQ:=by
 obtain⟨xs,m,_,_,hl,hn,hf⟩:=DataW.trod_struct JI h
 rw[QR] at hl
 have hn2:xs.length=6:=hn
 obtain⟨x0,hx0⟩ : ∃y,xs[0]?=some y:=⟨_,List.getElem?_eq_getElem (by omega)⟩
 have f0:DataW.trod enc Tryz.prog W 0 (fun _=>true) held m 24 ((cs.drop 0).take (Tryz.prog.cellsOf 24))=some x0:=(hf 0 { name := "D",type:=24,offset:=0,embedded:=false,tag := "",pkgPath := "",byteOffset:=0 } rfl).trans hx0
 obtain⟨x1,hx1⟩ : ∃y,xs[1]?=some y:=⟨_,List.getElem?_eq_getElem (by omega)⟩
 have f1:DataW.trod enc Tryz.prog W 0 (fun _=>true) held m 22 ((cs.drop 2).take (Tryz.prog.cellsOf 22))=some x1:=(hf 1 { name := "Scores",type:=22,offset:=2,embedded:=false,tag := "",pkgPath := "",byteOffset:=32 } rfl).trans hx1
 obtain⟨x2,hx2⟩ : ∃y,xs[2]?=some y:=⟨_,List.getElem?_eq_getElem (by omega)⟩
 have f2:DataW.trod enc Tryz.prog W 0 (fun _=>true) held m 22 ((cs.drop 3).take (Tryz.prog.cellsOf 22))=some x2:=(hf 2 { name := "Levels",type:=22,offset:=3,embedded:=false,tag := "",pkgPath := "",byteOffset:=56 } rfl).trans hx2
 obtain⟨x3,hx3⟩ : ∃y,xs[3]?=some y:=⟨_,List.getElem?_eq_getElem (by omega)⟩
 have f3:DataW.trod enc Tryz.prog W 0 (fun _=>true) held m 22 ((cs.drop 4).take (Tryz.prog.cellsOf 22))=some x3:=(hf 3 { name := "At",type:=22,offset:=4,embedded:=false,tag := "",pkgPath := "",byteOffset:=80 } rfl).trans hx3
 obtain⟨x4,hx4⟩ : ∃y,xs[4]?=some y:=⟨_,List.getElem?_eq_getElem (by omega)⟩
 have f4:DataW.trod enc Tryz.prog W 0 (fun _=>true) held m 25 ((cs.drop 5).take (Tryz.prog.cellsOf 25))=some x4:=(hf 4 { name := "RawScores",type:=25,offset:=5,embedded:=false,tag := "",pkgPath := "",byteOffset:=104 } rfl).trans hx4
 obtain⟨x5,hx5⟩ : ∃y,xs[5]?=some y:=⟨_,List.getElem?_eq_getElem (by omega)⟩
 have f5:DataW.trod enc Tryz.prog W 0 (fun _=>true) held m 25 ((cs.drop 6).take (Tryz.prog.cellsOf 25))=some x5:=(hf 5 { name := "RawLevel",type:=25,offset:=6,embedded:=false,tag := "",pkgPath := "",byteOffset:=128 } rfl).trans hx5
 rw[DT] at f0
 rw[Pu] at f1 f2 f3
 rw[QQ] at f4 f5
 obtain⟨a,b,c,d,e,f,g,rfl⟩:=Ud hl
 obtain⟨k,y,lN,e0,hk,t0,s0⟩:=IM G f0
 obtain⟨v1,lS,e1,t1,s1⟩:=mT G f1
 obtain⟨v2,lL,e2,t2,s2⟩:=mT G f2
 obtain⟨v3,lA,e3,t3,s3⟩:=mT G f3
 obtain⟨v4,lR,e4,t4,s4⟩:=zg G f4
 obtain⟨v5,lQ,e5,t5,s5⟩:=zg G f5
 cases e0;cases e1;cases e2;cases e3;cases e4;cases e5
 exact⟨k,_,_,_,_,_,_,lN,lS,lL,lA,lR,lQ,rfl,hk,⟨t0,t1,t2,t3,t4,t5⟩,s0,s1,s2,s3,s4,s5⟩
theorem Cf:Tryz.prog.underlying 36=some (.struct { toList:=[{ name := "State",type:=28,offset:=0,embedded:=false,tag := "",pkgPath := "",byteOffset:=0 }] }):=by kernel_rfl
theorem Mn:Tryz.prog.cellsOf 36=1:=by kernel_rfl
theorem Ue {α:Type} : ∀{l:List α},l.length=1 → ∃a,l = [a]
 | [a],_=>⟨a,rfl⟩
theorem Ja {fuel:Nat} {cs:List Value} {x:DataW H×List MemPlace} (h:DataW.trod enc Tryz.prog W 0 (fun _=>true) held fuel 36 cs=some x) : ∃s:Nat,cs = [K64 s]∧s<18446744073709551616:=by
 obtain⟨xs,m,_,_,hl,hn,hf⟩:=DataW.trod_struct Cf h
 rw[Mn] at hl
 have hn2:xs.length=1:=hn
 obtain⟨x0,hx0⟩ : ∃y,xs[0]?=some y:=⟨_,List.getElem?_eq_getElem (by omega)⟩
 have f0:DataW.trod enc Tryz.prog W 0 (fun _=>true) held m 28 ((cs.drop 0).take (Tryz.prog.cellsOf 28))=some x0:=(hf 0 { name := "State",type:=28,offset:=0,embedded:=false,tag := "",pkgPath := "",byteOffset:=0 } rfl).trans hx0
 rw[SV] at f0
 obtain⟨a,rfl⟩:=Ue hl
 obtain⟨k,e0,hk⟩:=vV (m:=18446744073709551615) rfl rfl Rk f0
 cases e0
 exact⟨k,rfl,by omega⟩
end
end Go.Proofs.YtnanhedgenokpaaGreat

namespace Go.Id
def nxS (s : Nat) : Nat := (s + 11400714819323198485) % 18446744073709551616
def yM (z : Nat) : Nat := (z ^^^ z / 1073741824) * 13787848793156543929 % 18446744073709551616
def Fa (z : Nat) : Nat := (z ^^^ z / 134217728) * 10723151780598845931 % 18446744073709551616
def P8 (z : Nat) : Nat := z ^^^ z / 2147483648
def nxO (s : Nat) : Nat := P8 (Fa (yM (nxS s)))
theorem EV (s : Nat) : nxS s < 18446744073709551616 := Nat.mod_lt _ (by omega)
theorem NI (s : Nat) : yM s < 18446744073709551616 := Nat.mod_lt _ (by omega)
theorem GO (s : Nat) : Fa s < 18446744073709551616 := Nat.mod_lt _ (by omega)
theorem NH {s : Nat} (h : s < 18446744073709551616) : P8 s < 18446744073709551616 :=
  Nat.xor_lt_two_pow (n := 64) h (Nat.lt_of_le_of_lt (Nat.div_le_self _ _) h)
theorem EW (s : Nat) : nxO s < 18446744073709551616 := NH (GO _)
def uZ (n : Nat) : Nat := 18446744073709551616 / n * n
theorem KM {n : Nat} (h0 : 0 < n) (hn : n < 18446744073709551616) : (18446744073709551616 - n) % n = 18446744073709551616 - uZ n ∧ uZ n ≤ 18446744073709551616 ∧ n ≤ uZ n := by
  unfold uZ
  have h1 := Nat.div_add_mod 18446744073709551616 n
  have h2 : 18446744073709551616 % n = (18446744073709551616 - n) % n := by
    rw [Nat.mod_eq_sub_mod (Nat.le_of_lt hn)]
  have h3 : 1 ≤ 18446744073709551616 / n := (Nat.one_le_div_iff h0).2 (Nat.le_of_lt hn)
  have h4 : 1 * n ≤ 18446744073709551616 / n * n := Nat.mul_le_mul_right _ h3
  rw [Nat.mul_comm] at h1
  generalize 18446744073709551616 / n * n = m at *
  omega
theorem PF : ∃ T : Nat, T = 200 := ⟨200, rfl⟩
noncomputable def TR : Nat := Classical.choose PF
theorem HB : TR = 200 := Classical.choose_spec PF
def jd (n : Nat) : Nat → Nat → Option (Nat × Nat)
  | 0, _ => none
  | k + 1, s => if nxO s < uZ n then some (nxO s % n, nxS s) else jd n k (nxS s)
theorem ub {n k s x t : Nat} (h0 : 0 < n) (h : jd n k s = some (x, t)) : x < n ∧ t < 18446744073709551616 := by
  induction k generalizing s with
  | zero => cases h
  | succ k ih =>
    rw [jd] at h
    split at h
    · cases h; exact ⟨Nat.mod_lt _ h0, EV _⟩
    · exact ih h
def fw : Nat → Nat → Nat × Nat
  | 0, s => (0, s)
  | m + 1, s => ((fw m s).1 + nxO (fw m s).2 * 18446744073709551616 ^ m, nxS (fw m s).2)
theorem DF (m s : Nat) : (fw m s).1 < 18446744073709551616 ^ m := by
  induction m with
  | zero => exact Nat.one_pos
  | succ m ih =>
    have h1 := EW (fw m s).2
    have h2 : (nxO (fw m s).2 + 1) * 18446744073709551616 ^ m ≤ 18446744073709551616 * 18446744073709551616 ^ m := Nat.mul_le_mul_right _ h1
    rw [fw, Nat.pow_succ, Nat.mul_comm (18446744073709551616 ^ m)]
    rw [Nat.add_mul, Nat.one_mul] at h2
    generalize 18446744073709551616 ^ m = p at *
    show (fw m s).1 + nxO (fw m s).2 * p < _
    omega
theorem xO {m s : Nat} (h : s < 18446744073709551616) : (fw m s).2 < 18446744073709551616 := by
  cases m with
  | zero => exact h
  | succ m => exact EV _
def vf (n : Nat) : Nat := if n = 0 then 0 else Nat.log2 n + 1
theorem yk (n N : Nat) : N < vf n ↔ 2 ^ N ≤ n := by
  unfold vf
  by_cases h : n = 0
  · subst h
    have := Nat.two_pow_pos N
    rw [if_pos rfl]; omega
  · rw [if_neg h, Nat.lt_succ_iff, Nat.le_log2 h]
theorem Ht {n k : Nat} (h : ∀ N, N < k ↔ 2 ^ N ≤ n) : k = vf n := by
  have h1 : ∀ N, N < k ↔ N < vf n := fun N => (h N).trans (yk n N).symm
  have a := h1 k
  have b := h1 (vf n)
  omega
def qa (n k : Nat) : Nat → Nat → Option (Nat × Nat)
  | 0, _ => none
  | t + 1, s => if (fw ((k + 63) / 64) s).1 % 2 ^ k < n then some ((fw ((k + 63) / 64) s).1 % 2 ^ k, (fw ((k + 63) / 64) s).2) else qa n k t (fw ((k + 63) / 64) s).2
theorem Jz {n k t s x u : Nat} (hs : s < 18446744073709551616) (h : qa n k t s = some (x, u)) : x < n ∧ u < 18446744073709551616 := by
  induction t generalizing s with
  | zero => cases h
  | succ t ih =>
    rw [qa] at h
    split at h
    · rename_i hx; cases h; exact ⟨hx, xO hs⟩
    · exact ih (xO hs) h
noncomputable def jj (n s : Nat) : Option (Nat × Nat) := if vf (n - 1) = 0 then some (0, s) else qa n (vf (n - 1)) TR s
theorem oV {n s x u : Nat} (h0 : 0 < n) (hs : s < 18446744073709551616) (h : jj n s = some (x, u)) : x < n ∧ u < 18446744073709551616 := by
  unfold jj at h
  split at h
  · cases h; exact ⟨h0, hs⟩
  · exact Jz hs h
def cE (l : List Nat) : Nat → Nat
  | 0 => 0
  | i + 1 => cE l i + l.getD i 0
theorem mr (l : List Nat) {i j : Nat} (h : i ≤ j) : cE l i ≤ cE l j := by
  induction j with
  | zero => obtain rfl : i = 0 := by omega
            exact Nat.le_refl _
  | succ j ih =>
    by_cases c : i = j + 1
    · subst c; exact Nat.le_refl _
    · have := ih (by omega)
      rw [cE]; omega
def kE (l : List Nat) (x : Nat) : Nat → Nat → Nat
  | 0, k => k
  | f + 1, k => if cE l (k + 1) ≤ x then kE l x f (k + 1) else k
theorem Kt {l : List Nat} {x f k : Nat} (h : x < cE l (k + f)) (h0 : k ≤ 0 ∨ cE l k ≤ x) : k ≤ kE l x f k ∧ kE l x f k < k + f ∧ cE l (kE l x f k) ≤ x ∧ x < cE l (kE l x f k + 1) := by
  have z : cE l k ≤ x := by
    rcases h0 with h0 | h0
    · obtain rfl : k = 0 := by omega
      exact Nat.zero_le _
    · exact h0
  induction f generalizing k with
  | zero => rw [Nat.add_zero] at h; omega
  | succ f ih =>
    rw [kE]
    split
    · rename_i hle
      have := ih (k := k + 1) (by rw [show k + 1 + f = k + (f + 1) by omega]; exact h) (.inr hle) hle
      omega
    · rename_i hn
      omega
theorem zC {l : List Nat} {x : Nat} (h : x < cE l l.length) : kE l x l.length 0 < l.length ∧ 0 < l.getD (kE l x l.length 0) 0 := by
  obtain ⟨_, h1, h2, h3⟩ := Kt (l := l) (x := x) (f := l.length) (k := 0) (by rw [Nat.zero_add]; exact h) (.inl (Nat.le_refl _))
  rw [cE] at h3
  omega
end Go.Id
