/-
  OutlierWays: for every input the law returns true, and each argument reads as it did. Conditions: none but the row's own.
-/
import Derived.Test.YtjhnilfelokpcaaGreatOutlierWaysAt
import Derived.Test.YtjhnilfelokpcaaGreatOutlierWaysBw
import Derived.Test.YtjhnilfelokpcaaGreatOutlierWaysBg
import Derived.Test.YtjhnilfelokpcaaGreatOutlierWaysBh
import Init
import Derived.Test.YtjhnilfelokpcaaGreatOutlierWaysBc
import Derived.Test.YtjhnilfelokpcaaGreatOutlierWaysBs
import Derived.Test.YtjhnilfelokpcaaGreatOutlierWaysBl
import Derived.Test.YtjhnilfelokpcaaGreatOutlierWaysBp
import Derived.Test.YtjhnilfelokpcaaGreatOutlierWaysBm
set_option linter.unusedVariables false
set_option linter.unusedSimpArgs false
set_option linter.defProp false
set_option linter.deprecated false
namespace Go.Id
open Go
open Go.Proofs.Tryz (prog)
open Nat (reduceAdd reduceEqDiff reduceLeDiff reduceMul)
set_option maxHeartbeats 16000000
theorem ShLs.atAll {h:IH} {v:Value} {ll:List (List (Nat×Nat))} (s:ShLs h v ll) {i:Nat} {x:List (Nat×Nat)} (hx:ll[i]?=some x) :
  ∃w,(∀h',Keep h h'→load prog h' 82 (elemAddr v i)=some w)∧ShSl h w x ∧ ∀k:IntKind,indexAddr prog 54 v (.int k (i:Int))=some (elemAddr v i):=by
 obtain⟨vs,a,b,c⟩:=s
 obtain⟨w,h1,h2⟩:=c i x hx
 have hi:=(List.getElem?_eq_some_iff.1 hx).1
 refine⟨w,fun h' e=>?_,h2,fun k=>by rw[a.idx es54 hi,Nat.mul_one]⟩
 rw[a.ld e (by rw[a.2.1];omega) ag82]
 exact h1
section
variable {h:IH} {fr:Fr} {m v12 v18:Value} {X N kn:Nat} {ll:List (List (Nat×Nat))} {p t:List Nat}
theorem ow10 (w:WX h fr m v12 v18 ll N kn p t) (gp:goodP ll X N p) (gt:goodT ll X N kn t) (hN:N≤20) (hL:ll.length≤60) :
  Do (wpC prog 8 220 none (partAt bodyOw 10) fr h) (seqK (fun fr h'=>Pst (WX h' fr m v12 v18 ll N kn p t) nx) QOw) nx:=by
 show Do (wpC _ _ _ _ (.seq _ _) fr h) _ _
 obtain⟨_,_,hlen⟩:=w.hm.co
 obtain⟨H1,hH1⟩ : ∃H,H=h.new (.cells [v12,v18] 1 none):=⟨_,rfl⟩
 have E1:Ext h H1:=by rw[hH1];exact(Ext.refl h).new _
 have s1:SlOf H1 1 (.slice (some ⟨2*h.n,0,none⟩) 2 5) 2 [v12,v18]:=by rw[hH1];exact built_sl h (by decide) rfl (by decide)
 simp -dsimp (maxSteps:=1000000) (disch:=try exact dx) only[wpS,wpT,reduceEqDiff,reduceLeDiff,reduceAdd,reduceMul,bs182,w.f12,w.f18,w.sp.cells,w.st.cells]
 rw[←hH1]
 clear hH1
 have lp:(pI p).length=N+1:=by rw[pI_len];exact gp.2.1
 have lt:(pI t).length=N+1:=by rw[pI_len];exact gt.2.1
 refine call (concatI_ok (l1:=pI p) (l2:=pI t) s1 (by rw[lp];exact w.sp.keep E1.keep) (by rw[lt];exact w.st.keep E1.keep) (by omega) (by omega) (by omega)) ?_
 rintro out h2 ⟨X2,so⟩
 rw[lp,lt,show pI p ++ pI t=pI (p ++ t) by rw[pI,pI,pI,List.map_append]] at so
 have K2:=(E1.trans X2).keep
 have hall : ∀i,i<N+1+(N+1)→(p ++ t).getD i 0<ll.length:=fun i hi=>by
  have hil:i<(p ++ t).length:=by rw[List.length_append,gp.2.1,gt.2.1];exact hi
  have hm:(p ++ t).getD i 0∈p ++ t:=by
   rw[List.getD_eq_getElem?_getD,List.getElem?_eq_getElem hil];exact List.getElem_mem hil
  rcases List.mem_append.1 hm with hm|hm
  ·exact gp.1.1 _ hm
  ·exact gt.2.2.2.1 _ hm
 simp -dsimp (maxSteps:=1000000) (disch:=try exact dx) only[wpS,reduceEqDiff,so.len sl25 (P:=prog)]
 refine loop (fun mm fr hh=>hh=h2 ∧ ∃i:Nat,i+mm=N+1+(N+1)∧fget fr 9=some m∧fget fr 11=some (KN N)∧fget fr 12=some v12∧fget fr 18=some v18∧fget fr 19=some (KN kn)∧fget fr 135=some out∧fget fr 136=some (KN (N+1+(N+1)))∧fget fr 137=some (KN i)) (N+1+(N+1))
  ⟨rfl,0,by omega,by simp[w.f9],by simp[w.f11],by simp[w.f12],by simp[w.f18],by simp[w.f19],by simp,by simp,by simp⟩ ?_
 rintro mm fr hh ⟨rfl,i,him,f9,f11,f12,f18,f19,f135,f136,f137⟩
 simp -dsimp (maxSteps:=1000000) (disch:=try exact dx) only[wpS,f136,f137]
 refine bq_intro ?_ ?_<;>intro hc<;>simp only[decide_eq_true_eq,decide_eq_false_iff_not] at hc
 ·have hi:i<N+1+(N+1):=by omega
  have hy:=hall i hi
  obtain⟨y,ey⟩ : ∃y,y=(p ++ t).getD i 0:=⟨_,rfl⟩
  have ld:=pI_ld so (Keep.refl hh) hi
  rw[←ey] at ld hy
  simp -dsimp (maxSteps:=1000000) (disch:=try exact dx) only[wpS,wpT,reduceEqDiff,f9,f135,f137,so.idx es25 (P:=prog) (k:=.i64) hi,ld,hlen]
  exact⟨mm - 1,by omega,rfl,i+1,by omega,by simp[f9],by simp[f11],by simp[f12],by simp[f18],by simp[f19],by simp[f135],by simp[f136],by simp⟩
 ·simp -dsimp (maxSteps:=1000000) (disch:=try exact dx) only[wpS,wpT]
  exact⟨by simp[f9],by simp[f11],by simp[f12],by simp[f18],by simp[f19],w.hm.keep K2,w.sp.keep K2,w.st.keep K2⟩
theorem ow11 (w:WX h fr m v12 v18 ll N kn p t) :
  Do (wpC prog 8 220 none (partAt bodyOw 11) fr h) (seqK (fun fr h'=>Pst (WX h' fr m v12 v18 ll N kn p t ∧ ∃z,fget fr 24=some (ptr (2*z) 0)∧z<h'.n∧h'.ext.get z=some (.cells (shC 0 1) 0 none)) nx) QOw) nx:=by
 show Do (wpC _ _ _ _ (.region _ _ _) fr h) _ _
 simp -dsimp (maxSteps:=1000000) (disch:=try exact dx) only[wpS]
 refine call (olq_ok 0 1 ⟨by omega,by omega⟩ ⟨by omega,by omega⟩ (by omega)) ?_
 rintro _ h1 ⟨X1,rfl⟩
 rw[shareV_shq,show shq (Rat.divInt 0 1)=(0,1) from rfl]
 simp -dsimp (maxSteps:=1000000) (disch:=try exact dx) only[wpS,wpT,reduceEqDiff,reduceLeDiff,reduceAdd,zc48,st48,shV_cells,shC_len,shC_all,sh_sp3]
 have K:=(X1.trans (((Ext.refl h1).new (.cells Z16 0 none)).put (Nat.le_refl _) (.cells (shC 0 1) 0 none))).keep
 exact⟨⟨by simp[w.f9],by simp[w.f11],by simp[w.f12],by simp[w.f18],by simp[w.f19],w.hm.keep K,w.sp.keep K,w.st.keep K⟩,h1.n,by simp,by simp,by simp (disch:=try exact dx) only[get_put_same]⟩
theorem WX.keep {h':IH} (w:WX h fr m v12 v18 ll N kn p t) (K:Keep h h') {fr':Fr} (g9:fget fr' 9=some m) (g11:fget fr' 11=some (KN N)) (g12:fget fr' 12=some v12) (g18:fget fr' 18=some v18) (g19:fget fr' 19=some (KN kn)):WX h' fr' m v12 v18 ll N kn p t :=
 ⟨g9,g11,g12,g18,g19,w.hm.keep K,w.sp.keep K,w.st.keep K⟩
theorem ow12 (w:WX h fr m v12 v18 ll N kn p t) (kS:kerS ll) (gp:goodP ll X N p) (gt:goodT ll X N kn t) (hN:N≤20) {z:Nat} (f24:fget fr 24=some (ptr (2*z) 0)) (hz:z<h.n) (gz:h.ext.get z=some (.cells (shC 0 1) 0 none)) :
  Do (wpC prog 8 220 none (restAt bodyOw 12) fr h) QOw nx:=by
 show Do (wpC _ _ _ _ (.seq (.seq _ _) _) fr h) _ _
 have w8:1<W8:=by have:=H8_two;have:=H8_pos;omega
 have hL:=kS.2.1
 simp -dsimp (maxSteps:=1000000) (disch:=try exact dx) only[wpS,w.f11]
 refine loop (fun mm fr hh => ∃i:Nat,i+mm=N∧WX hh fr m v12 v18 ll N kn p t∧fget fr 24=some (ptr (2*z) 0)∧z<hh.n∧hh.ext.get z=some (.cells (shC 0 1) 0 none)∧fget fr 151=some (KN N)∧fget fr 152=some (KN i)) N
  ⟨0,by omega,w.keep (Keep.refl h) (by simp[w.f9]) (by simp[w.f11]) (by simp[w.f12]) (by simp[w.f18]) (by simp[w.f19]),by simp[f24],hz,gz,by simp,by simp⟩ ?_
 clear w f24 hz gz
 rintro mm fr hh ⟨i,him,w,f24,hz,gz,f151,f152⟩
 simp -dsimp (maxSteps:=1000000) (disch:=try exact dx) only[wpS,f151,f152]
 refine bq_intro ?_ ?_<;>intro hc<;>simp only[decide_eq_true_eq,decide_eq_false_iff_not] at hc
 ·have hi:i<N:=by omega
  have row : ∀a,a<ll.length → ∃r,ll[a]?=some r∧r.length=ll.length:=fun a ha=>⟨_,List.getElem?_eq_getElem ha,(kS.2.2 _ (List.getElem_mem ha)).1⟩
  have mt : ∀j,j≤N→t.getD j 0<ll.length:=fun j hj=>gt.2.2.2.1 _ (by
   have hl:j<t.length:=by have:=gt.2.1;omega
   rw[List.getD_eq_getElem?_getD,List.getElem?_eq_getElem hl];exact List.getElem_mem hl)
  have la:=mt i (by omega)
  have lb:=mt (i+1) (by omega)
  have pos1:=gt.2.2.2.2.1 i
  have pos2:=gt.2.2.2.2.2 i
  have hpp:=gp.1.2 i (by rw[gp.2.1];omega)
  obtain⟨rc,qc,e3,e4,qc0⟩:=hpp
  have La:=fun h' (K:Keep hh h')=>pI_ld w.st K (i:=i) (by omega)
  have Lb:=fun h' (K:Keep hh h')=>pI_ld w.st K (i:=i+1) (by omega)
  have Pa:=fun h' (K:Keep hh h')=>pI_ld w.sp K (i:=i) (by omega)
  have Pb:=fun h' (K:Keep hh h')=>pI_ld w.sp K (i:=i+1) (by omega)
  have ia:=w.st.idx es25 (P:=prog) (k:=.i64) (j:=i) (by omega)
  have ib:=w.st.idx es25 (P:=prog) (k:=.i64) (j:=i+1) (by omega)
  have ja:=w.sp.idx es25 (P:=prog) (k:=.i64) (j:=i) (by omega)
  have jb:=w.sp.idx es25 (P:=prog) (k:=.i64) (j:=i+1) (by omega)
  generalize t.getD i 0=a at la pos1 pos2 La
  generalize t.getD (i+1) 0=b at lb pos1 pos2 Lb
  generalize p.getD i 0=c at e3 Pa
  generalize p.getD (i+1) 0=d at e4 Pb
  obtain⟨ra,era,lra⟩:=row a la
  obtain⟨rb,erb,lrb⟩:=row b lb
  obtain⟨qt,eqt⟩ : ∃q,ra[b]?=some q:=⟨_,List.getElem?_eq_getElem (by omega)⟩
  obtain⟨qk,eqk⟩ : ∃q,rb[a]?=some q:=⟨_,List.getElem?_eq_getElem (by omega)⟩
  obtain⟨wa,A1,A2,A3⟩:=w.hm.atAll era
  obtain⟨wb,B1,B2,B3⟩:=w.hm.atAll erb
  obtain⟨wc,C1,C2,C3⟩:=w.hm.atAll e3
  have ldc:=(List.getElem?_eq_some_iff.1 e4).1
  have Lt:=fun h' (K:Keep hh h')=>A2.ld K eqt
  have Lk:=fun h' (K:Keep hh h')=>B2.ld K eqk
  have Lc:=fun h' (K:Keep hh h')=>C2.ld K e4
  have it:=A2.1.idx es82 (P:=prog) (k:=.i64) (j:=b) (by omega)
  have ik:=B2.1.idx es82 (P:=prog) (k:=.i64) (j:=a) (by omega)
  have ic:=C2.1.idx es82 (P:=prog) (k:=.i64) (j:=d) ldc
  have K0:=Keep.refl hh
  have ei:(i:Int)+1=((i+1:Nat):Int):=by omega
  have wt:=A2.2.2 qt (List.mem_of_getElem? eqt)
  have wk:=B2.2.2 qk (List.mem_of_getElem? eqk)
  have wc':=C2.2.2 qc (List.mem_of_getElem? e4)
  simp -dsimp (maxSteps:=1000000) (disch:=try exact dx) only[wpS,wpT,reduceEqDiff,f152]
  refine drawn [(4,[30]),(6,[30]),(11,[30]),(13,[30]),(19,[30,31]),(21,[30,31]),(25,[30,31]),(27,[30,31])] (by kernel_rfl) (by kernel_rfl) rfl ?_
  simp -dsimp (maxSteps:=1000000) (disch:=try exact dx) only[wpS,wpT,reduceEqDiff,reduceLeDiff,reduceAdd,zc48,st48,w.f9,w.f18,ei,ia,ib,La hh K0,Lb hh K0,A3,B3,A1 hh K0,B1 hh K0,it,ik,Lt hh K0,Lk hh K0,shV_cells,shC_len,shC_all,sh_sp3]
  have X3:Ext hh (((hh.new (.cells Z16 0 none)).new (.cells Z16 0 none)).put hh.n (.cells (shC qt.1 qt.2) 0 none)):=(((Ext.refl hh).new _).new _).put (Nat.le_refl _) _
  have K2:Keep hh ((hh.new (.cells Z16 0 none)).new (.cells Z16 0 none)):=((Keep.refl hh).new _).new _
  have K3:=X3.keep
  refine⟨by repeat' first|refine wpSteady_c2 ?_ ?_|refine wpSteady_t2 ?_ ?_|exact wpSteady_one rfl rfl rfl rfl (steady_load rfl (La _ K0) (La _ K2))|exact wpSteady_one rfl rfl rfl rfl (steady_load rfl (A1 _ K0) (A1 _ K2))|exact wpSteady_one rfl rfl rfl rfl (steady_load rfl (Lb _ K0) (Lb _ K2))|exact wpSteady_one rfl rfl rfl rfl (steady_load rfl (Lt _ K0) (Lt _ K2))|exact wpSteady_one rfl rfl rfl rfl (steady_load rfl (B1 _ K0) (B1 _ K2))|exact wpSteady_one rfl rfl rfl rfl (steady_load rfl (Lk _ K0) (Lk _ K2))|exact wpSteady_one rfl rfl rfl rfl (steady_load rfl (Lb _ K0) (Lb _ K3))|exact wpSteady_one rfl rfl rfl rfl (steady_load rfl (B1 _ K0) (B1 _ K3))|exact wpSteady_one rfl rfl rfl rfl (steady_load rfl (La _ K0) (La _ K3))|exact wpSteady_one rfl rfl rfl rfl (steady_load rfl (Lk _ K0) (Lk _ K3)),?_⟩
  obtain⟨H4,hH4⟩ : ∃H,H=(((hh.new (.cells Z16 0 none)).new (.cells Z16 0 none)).put hh.n (.cells (shC qt.1 qt.2) 0 none)).put (hh.n+1) (.cells (shC qk.1 qk.2) 0 none):=⟨_,rfl⟩
  have E4:Ext hh H4:=by rw[hH4];exact X3.put (Nat.le_succ _) _
  have n4:H4.n=hh.n+2:=by rw[hH4];rfl
  have g26:H4.ext.get hh.n=some (.cells (shC qt.1 qt.2) 0 none):=by rw[hH4];simp (disch:=try exact dx) only[get_put_same,get_put_old]
  have g27:H4.ext.get (hh.n+1)=some (.cells (shC qk.1 qk.2) 0 none):=by rw[hH4];simp (disch:=try exact dx) only[get_put_same]
  have g24:=E4.kept hz gz
  have K4:=E4.keep
  rw[←hH4]
  clear hH4 X3
  have Lc':load prog H4 48 (elemAddr wc (d*16))=some (.agg (shC qc.1 qc.2).toArray):=Lc H4 K4
  have zc : ∀ox oy,binop prog .eql 48 ox oy (.agg (shC qc.1 qc.2).toArray) (.agg (shC 0 1).toArray)=some (.bool false):=fun ox oy=>by
   rw[sh_eql wc'.1 wc'.2 (by omega) w8,decide_eq_false (by omega)]
  by_cases hik:i<kn
  ·obtain⟨r',q',e5,e6,q0⟩:=pos1 hik
   rw[erb] at e5;cases e5
   rw[eqk] at e6;cases e6
   have zk : ∀ox oy,binop prog .eql 48 ox oy (.agg (shC qk.1 qk.2).toArray) (.agg (shC 0 1).toArray)=some (.bool false):=fun ox oy=>by
    rw[sh_eql wk.1 wk.2 (by omega) w8,decide_eq_false (by omega)]
   simp -dsimp (maxSteps:=1000000) (disch:=try exact dx) only[wpS,wpT,reduceEqDiff,reduceLeDiff,reduceAdd,ld48,w.f9,w.f12,w.f19,f24,f152,ei,ja,jb,Pa H4 K4,Pb H4 K4,C3,C1 H4 K4,ic,Lc',zc,zk,row_of g24,row_of g27,shC_len,sh_take]
   exact⟨mm - 1,by omega,i+1,by omega,w.keep K4 (by simp[w.f9]) (by simp[w.f11]) (by simp[w.f12]) (by simp[w.f18]) (by simp[w.f19]),by simp[f24],by omega,g24,by simp[f151],by simp⟩
  ·obtain⟨r',q',e5,e6,q0⟩:=pos2 (by omega) hi
   rw[era] at e5;cases e5
   rw[eqt] at e6;cases e6
   have zt : ∀ox oy,binop prog .eql 48 ox oy (.agg (shC qt.1 qt.2).toArray) (.agg (shC 0 1).toArray)=some (.bool false):=fun ox oy=>by
    rw[sh_eql wt.1 wt.2 (by omega) w8,decide_eq_false (by omega)]
   simp -dsimp (maxSteps:=1000000) (disch:=try exact dx) only[wpS,wpT,reduceEqDiff,reduceLeDiff,reduceAdd,ld48,w.f9,w.f12,w.f19,f24,f152,ei,ja,jb,Pa H4 K4,Pb H4 K4,C3,C1 H4 K4,ic,Lc',zc,zt,row_of g24,row_of g26,shC_len,sh_take]
   exact⟨mm - 1,by omega,i+1,by omega,w.keep K4 (by simp[w.f9]) (by simp[w.f11]) (by simp[w.f12]) (by simp[w.f18]) (by simp[w.f19]),by simp[f24],by omega,g24,by simp[f151],by simp⟩
 ·simp -dsimp (maxSteps:=1000000) (disch:=try exact dx) only[wpS,wpT]
end
end Go.Id

namespace Go.Id
open Go
end Go.Id

namespace Go.Id
open Go
end Go.Id

namespace Go.Id
open Go
end Go.Id

namespace Go.Id
open Go
end Go.Id

namespace Go.Id
open Go
end Go.Id

namespace Go.Id
open Go
end Go.Id

namespace Go.Id
open Go
end Go.Id

namespace Go.Id
open Go
end Go.Id

namespace Go.Id
open Go
end Go.Id

namespace Go.Id
open Go
end Go.Id

namespace Go.Id
end Go.Id

namespace Go.Id
open Go
end Go.Id

namespace Go.Id
open Go
end Go.Id

namespace Go.Id
open Go
end Go.Id

namespace Go.Id
open Go
noncomputable def tb38:FuncId→Option (List Value→Option Value):=tbOf [(28,okT)]
noncomputable abbrev bodyOl:Code:=Proofs.Tryz.f9.body.getD .skip
structure LX (h hh:IH) (fr:Fr) (a b:Nat) (mid:Bool) (at_ long:Int):Prop where
 e:Ext h hh
 f4:fget fr 4=some (.bool mid)
 f5:fget fr 5=some (KI at_)
 f6:fget fr 6=some (.int .u16 long)
 f9:fget fr 9=some (ptr (2*a) 0)
 f10:fget fr 10=some (ptr (2*b) 0)
section
variable {h hh:IH} {fr:Fr} {Q:IExit→Fr→IH→Prop} {v w:Value} {nd a b:Nat} {mid:Bool} {at_ long:Int} {l0:List (Nat×Nat)}
end
end Go.Id

namespace Go.Id
open Go
open Go.Proofs.Tryz (prog)
set_option maxHeartbeats 16000000
theorem ow0 (base:Nat→Option (List Value)) (kz:Nat) (v:Value) (x y s:Int) :
  evC (E1 prog tb38) (callV (E1 prog tb38) 1) 8 220 none 1 (partAt bodyOw 0) (enterFr 0 [.agg #[B8 kz,v],.int .u8 x,.int .u8 y,.agg #[.int .u64 s]]) (IH.start base)=some (.normal,(8,.bool false) :: (7,ptr 2 0) :: (4,ptr 0 0) :: enterFr 0 [.agg #[B8 kz,v],.int .u8 x,.int .u8 y,.agg #[.int .u64 s]],((IH.start base).new (.cells [B8 kz,v] 0 none)).new (.cells [.int .u64 s] 0 none)):=rfl
theorem ow1 (fr:Fr) (h:IH) :
  evC (E1 prog tb38) (callV (E1 prog tb38) 1) 8 220 none 1 (partAt bodyOw 1) fr h=some (.normal,(29,.bool false) :: (28,.bool true) :: fr,h):=rfl
theorem olways_rest {h:IH} {fr:Fr} {vN:Value} {lN:List Nat} {sz a b s x y:Nat} (hN:BySl h vN lN) (hsz:sz<256) (hx:x<256) (hy:y<256) (hs:s<18446744073709551616) (ga:h.ext.get a=some (.cells [B8 sz,vN] 0 none)) (gb:h.ext.get b=some (.cells [K64 s] 0 none)) (lb:b<h.n)
  (f1:fget fr 1=some (B8 x)) (f2:fget fr 2=some (B8 y)) (f4:fget fr 4=some (ptr (2*a) 0)) (f7:fget fr 7=some (ptr (2*b) 0)) :
  Do (wpC prog 8 220 none (restAt bodyOw 2) fr h) QOw nx:=by
 show Do (wpC _ _ _ _ (.seq (partAt bodyOw 2) (restAt bodyOw 3)) fr h) QOw _
 rw[d_seq];refine cut _ (ow2 (cx:=b) (from_:=x) (steps:=y) hN hsz ga f4 f1 f2 f7) ?_;rintro fr2 h2 ⟨E2,m,ll,hm,kS,kO,hl,f9,f1,f2,f7⟩
 show Do (wpC _ _ _ _ (.seq (partAt bodyOw 3) (restAt bodyOw 4)) fr2 h2) QOw _
 rw[d_seq];refine cut _ (ow3 hm (by omega) (by omega) hx hy f9 f1 f2 f7) ?_;rintro fr3 h3 ⟨e3,f9,f7,f10,f11⟩;rw[e3];clear e3 h3
 have hX:x % ll.length<ll.length:=Nat.mod_lt _ (by omega)
 have hN:y % 21≤20:=by omega
 generalize x % ll.length=X at f10 hX
 generalize y % 21=N at f11 hN
 have g2:=E2.kept lb gb
 have n2:=E2.n
 show Do (wpC _ _ _ _ (.seq (partAt bodyOw 4) (restAt bodyOw 5)) fr3 h2) QOw _
 rw[d_seq];refine cut _ (ow4 hm kS kO hX hN hs g2 f9 f7 f10 f11) ?_;rintro fr4 h4 ⟨E4,v12,b13,e14,p1,l13,u13,f12,f13,f14,f9,f7,f10,f11⟩
 have n4:=E4.n
 show Do (wpC _ _ _ _ (.seq (partAt bodyOw 5) (restAt bodyOw 6)) fr4 h4) QOw _
 rw[d_seq];refine cut _ (ow5 (hm.keep E4.keep) kS kO hX hN hs (E4.kept (by omega) g2) f9 f7 f10 f11 f12 f13 f14) ?_;rintro fr5 h5 ⟨E5,v15,b16,e17,p2,l16,u16,f15,f16,f17,f9,f7,f10,f11,f12,f13,f14⟩
 have n5:=E5.n
 have E45:=E4.trans E5
 show Do (wpC _ _ _ _ (.seq (partAt bodyOw 6) (restAt bodyOw 7)) fr5 h5) QOw _
 rw[d_seq];refine cut _ (ow6 (hm.keep E45.keep) kS kO hX hN hs (E45.kept (by omega) g2) f9 f7 f10 f11 f12 f13 f14 f15 f16 f17) ?_;rintro fr6 h6 ⟨E6,v18,k,e3,p3,f18,f19,f21,f9,f10,f11,f12,f13,f14,f15,f16,f17⟩
 have n6:=E6.n
 have p1:=p1.ext (E5.trans E6) u13
 have p2:=p2.ext E6 u16
 have hm:=hm.keep (E45.trans E6).keep
 show Do (wpC _ _ _ _ (.seq (partAt bodyOw 7) (restAt bodyOw 8)) fr6 h6) QOw _
 rw[d_seq];refine cut _ (ow7 p1 p2 (fun q hq=>by have:=(path_good kS hX hs hq).2.1;omega) f9 f10 f11 f12 f13 f14 f15 f16 f17 f18 f19 f21) ?_;rintro fr7 h7 ⟨e7,f9,f10,f11,f12,f14,f18,f19,f21⟩;rw[e7];clear e7 h7
 show Do (wpC _ _ _ _ (.seq (partAt bodyOw 8) (restAt bodyOw 9)) fr7 h6) QOw _
 rw[d_seq];refine cut _ (ow8 hm kS hX hs p1 p3 f9 f10 f11 f12 f14 f18 f19 f21) ?_;rintro fr8 h8 ⟨kn,p,t,w,gp,gt,f10,f14,f21⟩
 show Do (wpC _ _ _ _ (.seq (partAt bodyOw 9) (restAt bodyOw 10)) fr8 h8) QOw _
 rw[d_seq];refine cut _ (ow9 w gp gt hN f10 f14 f21) ?_;clear w;rintro fr9 h9 w
 show Do (wpC _ _ _ _ (.seq (partAt bodyOw 10) (restAt bodyOw 11)) fr9 h9) QOw _
 rw[d_seq];refine cut _ (ow10 w gp gt hN (by omega)) ?_;clear w;rintro fr10 h10 w
 show Do (wpC _ _ _ _ (.seq (partAt bodyOw 11) (restAt bodyOw 12)) fr10 h10) QOw _
 rw[d_seq];refine cut _ (ow11 w) ?_;clear w;rintro fr11 h11 ⟨w,z,f24,hz,gz⟩
 exact ow12 w kS gp gt hN f24 hz gz
end Go.Id

namespace Go.Proofs.YtjhnilfelokpcaaGreat
open Go.ChangeShapes Go.WideShapes Go.ChangeAt Go.RowKit Go.Id
theorem wf_u16 {x:Int} (h:(Lit.int .u16 x).wf=true):0≤x∧x<65536:=by
 simp only[Lit.wf,Bool.and_eq_true,decide_eq_true_eq] at h
 have h1:(0:Int)≤x:=h.1
 have h2:x≤(65535:Int):=h.2
 exact⟨h1,by omega⟩
theorem shV_rel {m:Mp} (n d:Nat):VRel m (shV n d) (.agg (shC n d).toArray):=.plain_mk (plain_shV n d)
set_option maxRecDepth 100000 in
theorem outlierWays_lifted (os:Os) (started:os.Started) (H:Type) (enc:TypeId×Value→H) :
  ReturnsInHanded {} Tryz.checked os 8 .any (Rows.outlierWaysSpec.pre6 enc Tryz.prog Tryz.f8 Rows.outlierWaysRow.domain false) (Rows.outlierWaysSpec.post enc Tryz.prog Tryz.f8 false true false false):=by
 refine returnsInHanded_of_change (C:=Tryz.checked) Tryz.own started (by kernel_rfl) Tryz.func8
  (ChangeSpec.witness6 (enc:=enc) (C:=Tryz.checked) false ⟨#[],#[.agg #[.int .u8 0,.slice none 0 0],.int .u8 0,.int .u8 0,.agg #[.int .u64 0]],[]⟩ 8 (by kernel_rfl) (by kernel_rfl) (by kernel_rfl) (by kernel_rfl)) ?_
 intro W base args ds gs before hval0 hW hcnd _
 have hval : ∀(j:Nat) t v,Tryz.f8.params[j]?=some t→args[j]?=some v→Value.okWide Tryz.prog W .any base t v:=hval0
 have hW':=hW
 obtain⟨p,q,hA0,hV,rfl,hfz,hnd⟩:=hW
 have hA:DataW.TrodAll enc Tryz.prog W 0 (fun _=>true) true Tryz.f8.params.toList args.toList ds p:=hA0
 have hA1:=hA
 rw[Tryz.params8] at hA hval
 obtain⟨a0,r0,d0,ds0,p0,q0,e0,rfl,rfl,t0,h0A⟩:=trodAll_cons hA
 obtain⟨a1,r1,d1,ds1,p1,q1,rfl,rfl,rfl,t1,h1A⟩:=trodAll_cons h0A
 obtain⟨a2,r2,d2,ds2,p2,q2,rfl,rfl,rfl,t2,h2A⟩:=trodAll_cons h1A
 obtain⟨a3,r3,d3,ds3,p3,q3,rfl,rfl,rfl,t3,h3A⟩:=trodAll_cons h2A
 obtain⟨rfl,rfl,rfl⟩:=trodAll_nil h3A
 obtain⟨rfl,rfl⟩:=trodVars_none hV
 obtain rfl:args = #[a0,a1,a2,a3]:=by cases args;simpa using e0
 obtain⟨z0,rfl,_⟩:=okWide_struct u_kdraft (hval 0 _ _ rfl rfl)
 obtain⟨fu0,t0⟩:=t0
 obtain⟨k0,yN0,lN0,g0,kb0,m0,sN0⟩:=kdraft_of (fun _=>none) t0
 obtain rfl:z0 = #[B8 k0,yN0]:=by cases z0;simpa using g0
 obtain⟨xi1,rfl,_,_,w1⟩:=open_int u_u8 (hval 1 _ _ rfl rfl) t1
 have j1:0≤xi1∧xi1<256:=wf_u8 w1
 obtain⟨x1,rfl⟩:=Int.eq_ofNat_of_zero_le j1.1
 have i1:x1<256:=by omega
 obtain⟨xi2,rfl,_,_,w2⟩:=open_int u_u8 (hval 2 _ _ rfl rfl) t2
 have j2:0≤xi2∧xi2<256:=wf_u8 w2
 obtain⟨x2,rfl⟩:=Int.eq_ofNat_of_zero_le j2.1
 have i2:x2<256:=by omega
 obtain⟨z3,rfl,_⟩:=okWide_struct u_chance (hval 3 _ _ rfl rfl)
 obtain⟨fu3,t3⟩:=t3
 obtain⟨k3,g3,kb3⟩:=chance_of t3
 obtain rfl:z3 = #[K64 k3]:=by cases z3;simpa using g3
 have hb:=tell_ok (W:=W) (G:=fun _=>none) (fun b cs h=>by cases h)
 refine(parts_true (tb:=tb38) (nt:=220) (rs:=[.tmp 8]) Tryz.sound (show Sound (E1 Tryz.prog tb38) from sound_O) Tryz.func8 rfl rfl rfl (by simp) (ow0 _ _ _ _ _ _) (ow1 _ _) (olways_rest (a:=0) (b:=1) (sN0.keep (((Ext.refl _).new _).new _).keep) kb0 i1 i2 kb3 ((get_new_old _ _ (by simp)).trans (get_new_same _ _ rfl)) (get_new_same _ _ rfl) (by simp) rfl rfl rfl rfl) hb (args':=#[.agg #[B8 k0,yN0],B8 x1,B8 x2,.agg #[K64 k3]]) (.cons (.agg_iff (.cons (.scal rfl) (.cons (trV_rel m0) (.nil _)))) (.cons (.scal rfl) (.cons (.scal rfl) (.cons (.agg_iff (.cons (.scal rfl) (.nil _))) (.nil _)))))).mono fun e W' ⟨he,hk⟩=>?_
 subst he
 refine⟨_,rfl,post_of_below (pa:=p0 ++ (p1 ++ (p2 ++ (p3 ++ [])))) (pv:=[]) hW' (fun _ _ _=>trodAll_mk1 (shut_bool Tryz.underlying4 _)) (fun sp hs=>?_) (fun _ _=>rfl) hk⟩
 exact trodAll_stays Tryz.kids Tryz.pos hk hA1 (fun t ht=>by
  rw[Tryz.params8] at ht
  simp at ht
  rcases ht with rfl|rfl|rfl|rfl<;>exact of_decide_eq_true (by kernel_rfl)) (fun x hx=>hs x (by simpa using hx))
theorem outlierWays_row:Rows.OutlierWaysSaid :=
 OpenClaim.holds_of_wide 8 Tryz.f8 rfl rfl rfl rfl rfl rfl rfl ⟨rfl,rfl,rfl,rfl,rfl⟩ rfl rfl rfl rfl rfl (by kernel_rfl) Tryz.func8 (by kernel_rfl)
  (of_decide_eq_true (by kernel_rfl)) (by unfold Func.isWrapper;first|(rw[if_pos (by decide +kernel)];kernel_rfl)|(rw[if_neg (by decide +kernel)];exact⟨rfl,rfl⟩))
  (fun os started H enc _=>outlierWays_lifted os started H enc)
#print axioms outlierWays_row
end Go.Proofs.YtjhnilfelokpcaaGreat
