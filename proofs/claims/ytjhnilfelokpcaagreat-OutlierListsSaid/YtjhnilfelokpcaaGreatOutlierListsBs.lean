/-
  OutlierLists: for every input the law returns true, and each argument reads as it did. Conditions: none but the row's own.
-/
import Derived.Test.YtjhnilfelokpcaaGreatOutlierListsAr
import Derived.Test.YtjhnilfelokpcaaGreatOutlierListsBq
import Derived.Test.YtjhnilfelokpcaaGreatOutlierListsBr
import Derived.Test.YtjhnilfelokpcaaGreatOutlierListsBh
import Derived.Test.YtjhnilfelokpcaaGreatOutlierListsBi
import Derived.Test.YtjhnilfelokpcaaGreatOutlierListsBp
set_option linter.unusedVariables false
set_option linter.unusedSimpArgs false
set_option linter.defProp false
set_option linter.deprecated false
namespace Go.Id
open Go
open Go.Proofs.Tryz (prog)
open Nat (reduceAdd reduceEqDiff reduceLeDiff reduceMul)
set_option maxHeartbeats 16000000
theorem oShLs_mk {h:IH} {v:Value} {ll:List (List (Nat×Nat))} (vs:List Value) (s:SlOf h 1 v ll.length vs) (hl:ll.length<1000) (k : ∀(i:Nat) (x:List (Nat×Nat)),ll[i]?=some x → ∃w,vs[i]?=some w∧ShSl h w x):ShLs h v ll:=⟨vs,s,by omega,k⟩
theorem oShLs_two {h:IH} {w1 w2:Value} {x1 x2:List (Nat×Nat)} (s1:ShSl h w1 x1) (s2:ShSl h w2 x2):ShLs (h.new (.cells [w1,w2] 1 none)) (.slice (some ⟨2*h.n,0,none⟩) 2 5) [x1,x2]:=by
 have E:Ext h (h.new (.cells [w1,w2] 1 none)):=(Ext.refl h).new _
 refine⟨[w1,w2],sl_block (k:=h.n) (f:=none) (get_new_same _ _ rfl) (by simp) (by decide) (by simp) (by omega) (by omega),by simp,?_⟩
 intro i x hx
 match i,hx with
 | 0,hx=>simp at hx;subst hx;exact⟨w1,rfl,s1.keep E.keep⟩
 | 1,hx=>simp at hx;subst hx;exact⟨w2,rfl,s2.keep E.keep⟩
 | i+2,hx=>simp at hx
theorem oShLs_three {h:IH} {w1 w2 w3:Value} {x1 x2 x3:List (Nat×Nat)} (s1:ShSl h w1 x1) (s2:ShSl h w2 x2) (s3:ShSl h w3 x3):ShLs (h.new (.cells [w1,w2,w3] 1 none)) (.slice (some ⟨2*h.n,0,none⟩) 3 6) [x1,x2,x3]:=by
 have E:Ext h (h.new (.cells [w1,w2,w3] 1 none)):=(Ext.refl h).new _
 refine oShLs_mk [w1,w2,w3] (sl_block (k:=h.n) (f:=none) (get_new_same _ _ rfl) (by simp) (by decide) (by simp) (by omega) (by simp)) (by simp) ?_
 intro i x hx
 match i,hx with
 | 0,hx=>simp at hx;subst hx;exact⟨w1,rfl,s1.keep E.keep⟩
 | 1,hx=>simp at hx;subst hx;exact⟨w2,rfl,s2.keep E.keep⟩
 | 2,hx=>simp at hx;subst hx;exact⟨w3,rfl,s3.keep E.keep⟩
 | i+3,hx=>simp at hx
theorem oAppend_third {h0 h:IH} {w1 w2 w3:Value} {x1 x2 x3:List (Nat×Nat)} (s1:ShSl h0 w1 x1) (s2:ShSl h0 w2 x2) (E:Ext (h0.new (.cells [w1,w2] 1 none)) h) (s3:ShSl h w3 x3) :
  append prog (h.new (.cells [w3] 1 none)) 54 (.slice (some ⟨2*h0.n,0,none⟩) 2 5) (.slice (some ⟨2*h.n,0,none⟩) 1 3)=some (.slice (some ⟨2*(h.n+1),0,none⟩) 3 6,(h.new (.cells [w3] 1 none)).new (.cells [w1,w2,w3] 1 none)):=by
 have e1:Ext h (h.new (.cells [w3] 1 none)):=(Ext.refl h).new _
 have a:SlOf (h0.new (.cells [w1,w2] 1 none)) 1 (.slice (some ⟨2*h0.n,0,none⟩) 2 5) 2 [w1,w2]:=sl_block (k:=h0.n) (f:=none) (get_new_same _ _ rfl) (by simp) (by decide) (by simp) (by omega) (by omega)
 have b:SlOf (h.new (.cells [w3] 1 none)) 1 (.slice (some ⟨2*h.n,0,none⟩) 1 3) 1 [w3]:=sl_block (k:=h.n) (f:=none) (get_new_same _ _ rfl) (by simp) (by decide) (by simp) (by omega) (by omega)
 exact append_full ap54 ((a.ext E).ext e1).now b.now (by omega) (by omega) (by simp[s3.1.cok]) (by omega)
noncomputable def tb38:FuncId→Option (List Value→Option Value):=tbOf [(28,okT)]
noncomputable abbrev bodyOl:Code:=Proofs.Tryz.f9.body.getD .skip
theorem ol0 (base:Nat→Option (List Value)) (v w:Value) (n d:Nat) (b1 b2:Bool) (y1 y2:Value) (n1 n2:Int) (mid:Bool) (at_ long:Int) :
  evC (E1 prog tb38) (callV (E1 prog tb38) 1) 9 133 none 1 (partAt bodyOl 0) (enterFr 0 [v,w,shV n d,.agg #[.bool b1,y1,.int .u32 n1,.bool b2,y2,.int .u32 n2],.bool mid,.int .i64 at_,.int .u16 long]) (IH.start base)=some (.normal,(14,.bool false) :: (10,ptr 2 0) :: (9,ptr 0 0) :: enterFr 0 [v,w,shV n d,.agg #[.bool b1,y1,.int .u32 n1,.bool b2,y2,.int .u32 n2],.bool mid,.int .i64 at_,.int .u16 long],((IH.start base).new (.cells (shC n d) 0 none)).new (.cells [.bool b1,y1,.int .u32 n1,.bool b2,y2,.int .u32 n2] 0 none)):=rfl
theorem ol1 (fr:Fr) (h:IH) :
  evC (E1 prog tb38) (callV (E1 prog tb38) 1) 9 133 none 1 (partAt bodyOl 1) fr h=some (.normal,(33,.bool false) :: (32,.bool true) :: fr,h):=rfl
structure LX (h hh:IH) (fr:Fr) (a b:Nat) (mid:Bool) (at_ long:Int):Prop where
 e:Ext h hh
 f4:fget fr 4=some (.bool mid)
 f5:fget fr 5=some (KI at_)
 f6:fget fr 6=some (.int .u16 long)
 f9:fget fr 9=some (ptr (2*a) 0)
 f10:fget fr 10=some (ptr (2*b) 0)
section
variable {h hh:IH} {fr:Fr} {Q:IExit→Fr→IH→Prop} {v w:Value} {nd a b:Nat} {mid:Bool} {at_ long:Int} {l0:List (Nat×Nat)}
theorem ol2 (hv:ShArg h v l0) (hw:DrSl h w nd) (s:LX h hh fr a b mid at_ long) (f0:fget fr 0=some v) (f1:fget fr 1=some w):Do (wpC prog 9 133 none (partAt bodyOl 2) fr hh) (seqK (fun fr h'=>Pst (LX h h' fr a b mid at_ long ∧ ∃hb w1 w2 x1 x2,ShSl hb w1 x1∧ShSl hb w2 x2∧h'=hb.new (.cells [w1,w2] 1 none)∧fget fr 15=some (.slice (some ⟨2*hb.n,0,none⟩) 2 5)) nx) Q) nx:=by
 show Do (wpC _ _ _ _ (.region _ _ _) fr hh) _ _
 obtain⟨M,hM⟩ : ∃M,M=min l0.length 5:=⟨_,rfl⟩
 have hmin:(if (5:Int)<(l0.length:Int) then (5:Int) else (l0.length:Int))=(M:Int):=by split<;>omega
 have hv1:=hv.keep s.e.keep
 obtain⟨v1,e1,s1⟩:=hv1.first (Keep.refl hh) (m:=M) (by omega) (by omega)
 refine drawn [(2,[9]),(4,[9])] (by kernel_rfl) (by kernel_rfl) rfl ?_
 simp -dsimp (maxSteps:=1000000) (disch:=try exact dx) only[wpS,reduceEqDiff,f0,f1,hv1.1.len sl82,min_ii,hmin,e1]
 refine call (olShorts_ok (hw.keep s.e.keep)) ?_
 rintro w2 h2 ⟨X2,l2,s2,hl2,hsh2,hn2⟩
 simp -dsimp (maxSteps:=1000000) (disch:=try exact dx) only[wpS,wpT,reduceEqDiff,reduceLeDiff,reduceAdd,reduceMul,bs54,s1.1.cells,s2.1.cells]
 have e3:=(hv1.1.slice_same (Keep.refl hh) (X2.keep.new (.cells [v1,w2] 1 none)) (P:=prog) u82 sz48).symm.trans e1
 refine⟨wpSteady_c2 (wpSteady_one rfl rfl rfl rfl (steady_len rfl rfl rfl (hv1.1.len sl82 _) (hv1.1.len sl82 _))) (wpSteady_one rfl rfl rfl rfl (steady_slice rfl rfl rfl e1 e3)),?_⟩
 simp -dsimp (maxSteps:=1000000) (disch:=try exact dx) only[wpS,wpT,reduceAdd]
 exact⟨⟨(s.e.trans X2).new _,by simp[s.f4],by simp[s.f5],by simp[s.f6],by simp[s.f9],by simp[s.f10]⟩,h2,v1,w2,_,l2,s1.keep X2.keep,s2,rfl,rfl⟩
theorem ol3 (hl:0≤long∧long<65536) (s:LX h hh fr a b mid at_ long) {hb:IH} {w1 w2:Value} {x1 x2:List (Nat×Nat)} (s1:ShSl hb w1 x1) (s2:ShSl hb w2 x2) (he:hh=hb.new (.cells [w1,w2] 1 none)) (f15:fget fr 15=some (.slice (some ⟨2*hb.n,0,none⟩) 2 5)):Do (wpC prog 9 133 none (partAt bodyOl 3) fr hh) (seqK (fun fr h'=>Pst (LX h h' fr a b mid at_ long ∧ ∃v ll,ShLs h' v ll∧fget fr 15=some v) nx) Q) nx:=by
 show Do (wpC _ _ _ _ (.seq _ _) fr hh) _ _
 subst he
 by_cases c:long % 32=0
 case neg =>
  have d:(long % 32 == 0)=false:=by simpa using c
  simp -dsimp (maxSteps:=1000000) (disch:=try exact dx) only[wpS,reduceEqDiff,s.f6,d]
  exact⟨⟨s.e,by simp[s.f4],by simp[s.f5],by simp[s.f6],by simp[s.f9],by simp[s.f10]⟩,_,_,oShLs_two s1 s2,by simp[f15]⟩
 have d:(long % 32 == 0)=true:=by simpa using c
 simp -dsimp (maxSteps:=1000000) (disch:=try exact dx) only[wpS,reduceEqDiff,s.f6,d]
 refine call (ref02Of_ok 1 1 ⟨by omega,by omega⟩ ⟨by omega,by omega⟩ (by omega)) ?_
 rintro _ h2 ⟨X2,rfl⟩
 rw[one_shV]
 have m2:=X2.n
 simp only[new_n] at m2
 obtain⟨H0,hH0⟩ : ∃H0,H0=(h2.new (.cells Z16 0 none)).put h2.n (.cells (shC oneS.1 oneS.2) 0 none):=⟨_,rfl⟩
 have n0:H0.n=h2.n+1:=by rw[hH0];rfl
 have k0:H0.ext.get h2.n=some (.cells (shC oneS.1 oneS.2) 0 none):=by rw[hH0];simp (disch:=try exact dx) only[get_put_same]
 have E0:Ext h2 H0:=by rw[hH0];exact((Ext.refl h2).new _).put (by omega) _
 have hq : ∀ox oy,binop prog .quo 100 ox oy (.int .u16 long) (.int .u16 32)=some (.int .u16 (long / 32)):=by
  intro ox oy
  rw[binop_quo _ _ _ _ (by decide),Int.tdiv_eq_ediv_of_nonneg hl.1,wrap_u16 (by omega)]
 obtain⟨k,hk⟩ : ∃k:Nat,195+long / 32 % 10=(k:Int):=⟨(195+long / 32 % 10).toNat,by omega⟩
 simp -dsimp (maxSteps:=1000000) (disch:=try exact dx) only[wpS,wpT,reduceEqDiff,reduceLeDiff,reduceAdd,zc48,st48,shV_cells,shC_len,shC_all,sh_sp3]
 rw[←hH0]
 clear hH0
 simp -dsimp (maxSteps:=1000000) (disch:=try exact dx) only[wpS,wpT,reduceEqDiff,reduceLeDiff,reduceAdd,ld48,bs82,cv100_3,f15,s.f6,hq,hk,row_of k0,shC_len,sh_take,sh_sp3]
 have e1:Ext H0 (H0.new (.cells (shC oneS.1 oneS.2) 16 none)):=(Ext.refl H0).new _
 have l1:shL [oneS]=shC oneS.1 oneS.2:=by simp[shL]
 have so:ShSl (H0.new (.cells (shC oneS.1 oneS.2) 16 none)) (.slice (some ⟨2*H0.n,0,none⟩) 1 3) [oneS]:=by
  refine⟨?_,by simp,fun p hp=>by rw[List.mem_singleton.1 hp];exact oneS_lt⟩
  rw[l1]
  exact built_sl H0 (by omega) (by rw[shC_len]) (by omega)
 refine call (shrepeat_ok so k (by omega) (by omega)) ?_
 rintro v4 h4 ⟨X4,s4⟩
 have X34:=(X2.trans (E0.trans e1)).trans X4
 simp -dsimp (maxSteps:=1000000) (disch:=try exact dx) only[wpS,wpT,reduceEqDiff,reduceLeDiff,reduceAdd,bs54,ba54_54,s4.1.cells,oAppend_third s1 s2 X34 s4]
 have Y:=((Ext.refl hb).new (.cells [w1,w2] 1 none)).trans (X34.new (.cells [v4] 1 none))
 exact⟨⟨((s.e.trans X34).new _).new _,by simp[s.f4],by simp[s.f5],by simp[s.f6],by simp[s.f9],by simp[s.f10]⟩,_,_,oShLs_three (s1.keep Y.keep) (s2.keep Y.keep) (s4.keep ((Ext.refl h4).new _).keep),rfl⟩
theorem told_form (q:Rat) : ∃(p:Nat×Nat) (e:Int),(p.1<W8∧p.2<W8)∧toldV q=.tuple #[shV p.1 p.2,KI e]:=by
 have w0:0<W8:=by have:=H8_two;have:=H8_pos;omega
 unfold toldV
 split
 ·rename_i h
  exact⟨shq q,0,shq_lt h,rfl⟩
 ·exact⟨(0,0),6,⟨w0,w0⟩,rfl⟩
theorem res_form (l:List (Nat×Nat)) (j:Int) : ∃(p:Nat×Nat) (e:Int),(p.1<W8∧p.2<W8)∧extRes l j=.tuple #[shV p.1 p.2,KI e]:=by
 have w0:0<W8:=by have:=H8_two;have:=H8_pos;omega
 unfold extRes
 split
 ·exact told_form _
 ·exact⟨(0,0),_,⟨w0,w0⟩,rfl⟩
theorem tk6 (a b c d e f:Value):List.take 6 (List.drop 0 [a,b,c,d,e,f]) = [a,b,c,d,e,f]:=rfl
theorem u64w (x:Int) : ∃y:Nat,IntKind.u64.wrap x=(y:Int):=by
 have h:0≤IntKind.u64.wrap x:=by
  show 0≤x % 18446744073709551616
  omega
 exact⟨_,(Int.toNat_of_nonneg h).symm⟩
theorem pas_form (l:List (Nat×Nat)) (p:Nat×Nat) (m:Bool) (j:Int) : ∃(b:Bool) (e:Int),passRes l p m j=.tuple #[.bool b,KI e]:=by
 unfold passRes
 split
 ·exact⟨_,_,rfl⟩
 ·split
  ·exact⟨_,_,rfl⟩
  ·split<;>exact⟨_,_,rfl⟩
theorem ol4 (s:LX h hh fr a b mid at_ long) (hat:In64 at_) {n d:Nat} (hn:n<W8) (hd:d<W8) {b1 b2:Bool} {y1 y2:Value} {n1 n2:Int} (ga:h.ext.get a=some (.cells (shC n d) 0 none)) (gb:h.ext.get b=some (.cells [.bool b1,y1,.int .u32 n1,.bool b2,y2,.int .u32 n2] 0 none)) (la:a<h.n) (lb:b<h.n)
  (q1:([y1]:List Value).all cellOK=true) (q2:([y2]:List Value).all cellOK=true) (q3:0≤n1) (q4:n1<4294967296) (q5:0≤n2) (q6:n2<4294967296)
  {v15:Value} {ll:List (List (Nat×Nat))} (sl:ShLs hh v15 ll) (f15:fget fr 15=some v15):Do (wpC prog 9 133 none (partAt bodyOl 4) fr hh) (seqK (fun fr h'=>Pst (Ext h h') nx) Q) nx:=by
 show Do (wpC _ _ _ _ (.seq _ _) fr hh) _ _
 simp -dsimp (maxSteps:=1000000) (disch:=try exact dx) only[wpS,f15,sl.co.2.2]
 refine loop (fun m fr g => ∃i:Nat,i+m=ll.length∧Ext hh g∧fget fr 4=some (.bool mid)∧fget fr 5=some (KI at_)∧fget fr 9=some (ptr (2*a) 0)∧fget fr 10=some (ptr (2*b) 0)∧fget fr 60=some v15∧fget fr 61=some (KN ll.length)∧fget fr 62=some (KN i)) ll.length
  ⟨0,by omega,Ext.refl _,by simp[s.f4],by simp[s.f5],by simp[s.f9],by simp[s.f10],by simp,by simp,by simp⟩ ?_
 have hlen:ll.length<1152921504606846976:=by obtain⟨_,_,q,_⟩:=sl;exact q
 rintro m fr g ⟨i,him,E,f4,f5,f9,f10,f60,f61,f62⟩
 simp -dsimp (maxSteps:=1000000) (disch:=try exact dx) only[wpS,f61,f62]
 refine bq_intro ?_ ?_<;>intro hc<;>simp only[decide_eq_true_eq,decide_eq_false_iff_not] at hc
 ·have hi:i<ll.length:=by omega
  obtain⟨x,hx⟩ : ∃x,ll[i]?=some x:=⟨_,List.getElem?_eq_getElem hi⟩
  obtain⟨wv,ld,sx,ix⟩:=sl.at E.keep hx
  have lx:=sx.2.1
  obtain⟨y,hy⟩:=u64w at_
  have r0:0≤(y:Int) % ((x.length:Int)+1):=Int.emod_nonneg _ (by omega)
  have r1:(y:Int) % ((x.length:Int)+1)<(x.length:Int)+1:=Int.emod_lt_of_pos _ (by omega)
  simp -dsimp (maxSteps:=1000000) (disch:=try exact dx) only[wpS,wpT,reduceEqDiff,reduceLeDiff,reduceAdd,cv3_35,cv35_3,bv36,pl36_0,pl36_1,f5,f60,f62,ix,ld,sx.1.len sl82,hy]
  obtain⟨z,hz⟩ : ∃z,z=(y:Int) % ((x.length:Int)+1):=⟨_,rfl⟩
  rw[←hz] at r0 r1 ⊢
  have iz:In64 z:=⟨by omega,by omega⟩
  refine loop (fun m2 fr gg => ∃j:Nat,j+m2=2∧Ext g gg∧fget fr 19=some wv∧fget fr 75=some (.agg #[KI at_,KI z])∧fget fr 76=some (KN j)∧fget fr 4=some (.bool mid)∧fget fr 5=some (KI at_)∧fget fr 9=some (ptr (2*a) 0)∧fget fr 10=some (ptr (2*b) 0)∧fget fr 60=some v15∧fget fr 61=some (KN ll.length)∧fget fr 62=some (KN i)) 2
   ⟨0,by omega,Ext.refl _,by simp,by simp,by simp,by simp[f4],by simp[f5],by simp[f9],by simp[f10],by simp[f60],by simp[f61],by simp[f62]⟩ ?_
  rintro m2 fr2 gg ⟨j,hj2,EE,f19,f75,f76,f4,f5,f9,f10,f60,f61,f62⟩
  simp -dsimp (maxSteps:=1000000) (disch:=try exact dx) only[wpS,f76]
  refine bq_intro ?_ ?_<;>intro hcc<;>simp only[decide_eq_true_eq,decide_eq_false_iff_not] at hcc
  ·obtain⟨kk,hkk,ik⟩ : ∃kk,indexV prog 36 (.agg #[KI at_,KI z]) (KN j)=some (KI kk)∧In64 kk:=by
    rcases(by omega:j=0∨j=1) with rfl|rfl
    ·exact⟨at_,by kernel_rfl,hat⟩
    ·exact⟨z,by kernel_rfl,iz⟩
   have sw:=sx.keep EE.keep
   simp -dsimp (maxSteps:=1000000) (disch:=try exact dx) only[wpS,wpT,reduceEqDiff,f75,f76,hkk,f19]
   refine call (olExtremity_ok sw ik) ?_
   rintro _ g1 ⟨Y1,rfl⟩
   obtain⟨p,e,pw,hr⟩:=res_form x kk
   rw[hr]
   have o1:=Y1.n
   simp -dsimp (maxSteps:=1000000) (disch:=try exact dx) only[wpS,wpT,reduceEqDiff,reduceLeDiff,reduceAdd,zc48,st48,shV_cells,shC_len,shC_all,sh_sp3,f19]
   obtain⟨G1,hG1⟩ : ∃H,H=(g1.new (.cells Z16 0 none)).put g1.n (.cells (shC p.1 p.2) 0 none):=⟨_,rfl⟩
   have Z1:Ext g1 G1:=by rw[hG1];exact((Ext.refl g1).new _).put (Nat.le_refl _) _
   have oG1:G1.n=g1.n+1:=by rw[hG1];rfl
   have c1:G1.ext.get g1.n=some (.cells (shC p.1 p.2) 0 none):=by rw[hG1];simp (disch:=try exact dx) only[get_put_same]
   rw[←hG1]
   clear hG1
   have W1:=Y1.trans Z1
   refine call (rfExtremity_ok (sw.keep W1.keep) ik) ?_
   rintro _ g2 ⟨Y2,rfl⟩
   rw[hr]
   have o2:=Y2.n
   have c1g:=Y2.kept (by omega) c1
   have hne : ∀ox oy,binop prog .neq 48 ox oy (.agg (shC p.1 p.2).toArray) (.agg (shC p.1 p.2).toArray)=some (.bool false):=fun ox oy=>by
    rw[sh_neq pw.1 pw.2 pw.1 pw.2,decide_eq_true ⟨rfl,rfl⟩];rfl
   have ee:(e != e)=false:=by simp
   simp -dsimp (maxSteps:=1000000) (disch:=try exact dx) only[wpS,wpT,reduceEqDiff,reduceLeDiff,reduceAdd,zc48,st48,ld48,shV_cells,shC_len,shC_all,sh_sp3,row_of c1g,sh_take,hne,ee]
   obtain⟨G2,hG2⟩ : ∃H,H=(g2.new (.cells Z16 0 none)).put g2.n (.cells (shC p.1 p.2) 0 none):=⟨_,rfl⟩
   have Z2:Ext g2 G2:=by rw[hG2];exact((Ext.refl g2).new _).put (Nat.le_refl _) _
   have oG2:G2.n=g2.n+1:=by rw[hG2];rfl
   rw[←hG2]
   clear hG2
   have W2:=(W1.trans Y2).trans Z2
   have hG:=(s.e.trans E).trans (EE.trans W2)
   have ka:=hG.kept la ga
   have kb:=hG.kept lb gb
   have oo:=hG.n
   have V0:=Ext.refl G2
   obtain⟨_,_,L1⟩:=psh ka
   have q1':cellOK y1=true:=by simpa using q1
   have q2':cellOK y2=true:=by simpa using q2
   refine drawn [(0,[5])] (by kernel_rfl) (by kernel_rfl) rfl ?_
   simp -dsimp (maxSteps:=1000000) (disch:=try exact dx) only[wpS,wpT,reduceEqDiff,reduceLeDiff,reduceAdd,ld48,ld81,f9,f10,row_of ka,row_of kb,shC_len,sh_take,tk6]
   refine call (drunit_ok q1 q2 q3 q4 q5 q6) ?_
   rintro _ g3 ⟨Y3,aa,cc,a0,a1,a2,a3,rfl⟩
   have pu:=shq_lt (qw_div (n:=aa) (d:=cc) ⟨by omega,by omega⟩ ⟨by omega,by omega⟩ (by omega))
   rw[shareV_shq]
   generalize shq (Rat.divInt aa cc)=u at pu ⊢
   have o3:=Y3.n
   have hb2:buildV prog 103 [(0,.agg (shC n d).toArray),(1,shV u.1 u.2)]=some (.agg (shL [(n,d),(u.1,u.2)]).toArray):=build_sh2 n d u.1 u.2
   simp -dsimp (maxSteps:=1000000) (disch:=try exact dx) only[wpS,reduceEqDiff,hb2]
   refine⟨wpSteady_one rfl rfl rfl rfl (steady_ext (H0:=G2) f9 (by omega) V0 Y3 L1),?_⟩
   simp -dsimp (maxSteps:=1000000) (disch:=try exact dx) only[wpS,wpT,reduceAdd]
   have W3:=W2.trans Y3
   refine loop (fun m3 fr gg3 => ∃o:Nat,o+m3=2∧Ext g3 gg3∧fget fr 102=some (.agg (shL [(n,d),(u.1,u.2)]).toArray)∧fget fr 103=some (KN o)∧fget fr 21=some (KI kk)∧fget fr 76=some (KN j)∧fget fr 19=some wv∧fget fr 75=some (.agg #[KI at_,KI z])∧fget fr 4=some (.bool mid)∧fget fr 5=some (KI at_)∧fget fr 9=some (ptr (2*a) 0)∧fget fr 10=some (ptr (2*b) 0)∧fget fr 60=some v15∧fget fr 61=some (KN ll.length)∧fget fr 62=some (KN i)) 2
    ⟨0,by omega,Ext.refl _,by simp,by simp,by simp,by simp[f76],by simp[f19],by simp[f75],by simp[f4],by simp[f5],by simp[f9],by simp[f10],by simp[f60],by simp[f61],by simp[f62]⟩ ?_
   rintro m3 fr3 gg3 ⟨o,ho2,E3,f102,f103,f21,f76,f19,f75,f4,f5,f9,f10,f60,f61,f62⟩
   simp -dsimp (maxSteps:=1000000) (disch:=try exact dx) only[wpS,f103]
   refine bq_intro ?_ ?_<;>intro hccc<;>simp only[decide_eq_true_eq,decide_eq_false_iff_not] at hccc
   ·obtain⟨t,tw,ht⟩ : ∃t:Nat×Nat,(t.1<W8∧t.2<W8)∧indexV prog 103 (.agg (shL [(n,d),(u.1,u.2)]).toArray) (KN o)=some (shV t.1 t.2):=by
     rcases(by omega:o=0∨o=1) with rfl|rfl
     ·exact⟨(n,d),⟨hn,hd⟩,idx_sh2a n d u.1 u.2⟩
     ·exact⟨u,pu,idx_sh2b n d u.1 u.2⟩
    simp -dsimp (maxSteps:=1000000) (disch:=try exact dx) only[wpS,wpT,reduceEqDiff,reduceLeDiff,reduceAdd,zc48,st48,ld48,f102,f103,ht,shV_cells,shC_len,shC_all,sh_sp3,f19,f4,f21,sh_take]
    obtain⟨G4,hG4⟩ : ∃H,H=(gg3.new (.cells Z16 0 none)).put gg3.n (.cells (shC t.1 t.2) 0 none):=⟨_,rfl⟩
    have Z4:Ext gg3 G4:=by rw[hG4];exact((Ext.refl gg3).new _).put (Nat.le_refl _) _
    have oG4:G4.n=gg3.n+1:=by rw[hG4];rfl
    have c4:G4.ext.get gg3.n=some (.cells (shC t.1 t.2) 0 none):=by rw[hG4];simp (disch:=try exact dx) only[get_put_same]
    rw[←hG4]
    clear hG4
    have sw4:=sw.keep (W3.trans (E3.trans Z4)).keep
    obtain⟨rb,re,hpr⟩:=pas_form x t mid kk
    refine call (olPasses_ok sw4 tw ik) ?_
    rintro _ g5 ⟨Y5,rfl⟩
    rw[hpr]
    have c5:=Y5.kept (by omega) c4
    simp -dsimp (maxSteps:=1000000) (disch:=try exact dx) only[wpS,reduceEqDiff,reduceLeDiff,ld48,f19,f4,f21,row_of c5,shC_len,sh_take]
    refine call (rfPasses_ok (sw4.keep Y5.keep) tw ik) ?_
    rintro _ g6 ⟨Y6,rfl⟩
    rw[hpr]
    have e1:(!(rb == rb))=false:=by simp
    have e2:(re != re)=false:=by simp
    simp -dsimp (maxSteps:=1000000) (disch:=try exact dx) only[wpS,wpT,reduceEqDiff,bn4,e1,e2,f103]
    exact⟨m3 - 1,by omega,o+1,by omega,((E3.trans Z4).trans Y5).trans Y6,by simp[f102],by simp,by simp[f21],by simp[f76],by simp[f19],by simp[f75],by simp[f4],by simp[f5],by simp[f9],by simp[f10],by simp[f60],by simp[f61],by simp[f62]⟩
   ·simp -dsimp (maxSteps:=1000000) (disch:=try exact dx) only[wpS,wpT,reduceEqDiff,f76]
    exact⟨m2 - 1,by omega,j+1,by omega,(EE.trans W3).trans E3,by simp[f19],by simp[f75],by simp,by simp[f4],by simp[f5],by simp[f9],by simp[f10],by simp[f60],by simp[f61],by simp[f62]⟩
  ·simp -dsimp (maxSteps:=1000000) (disch:=try exact dx) only[wpS,wpT,reduceEqDiff,f62]
   exact⟨m - 1,by omega,i+1,by omega,E.trans EE,by simp[f4],by simp[f5],by simp[f9],by simp[f10],by simp[f60],by simp[f61],by simp⟩
 ·simp -dsimp (maxSteps:=1000000) (disch:=try exact dx) only[wpS,wpT]
  exact s.e.trans E
end
end Go.Id

namespace Go.Id
open Go
theorem ollists_rest {h:IH} {fr:Fr} {v w:Value} {nd a b:Nat} {mid:Bool} {at_ long:Int} {l0:List (Nat×Nat)} (hv:ShArg h v l0) (hw:DrSl h w nd) (hat:In64 at_) (hl:0≤long∧long<65536) {n d:Nat} (hn:n<W8) (hd:d<W8) {b1 b2:Bool} {y1 y2:Value} {n1 n2:Int} (ga:h.ext.get a=some (.cells (shC n d) 0 none)) (gb:h.ext.get b=some (.cells [.bool b1,y1,.int .u32 n1,.bool b2,y2,.int .u32 n2] 0 none)) (la:a<h.n) (lb:b<h.n)
  (q:cellOK y1=true∧cellOK y2=true∧(0≤n1∧n1<4294967296)∧(0≤n2∧n2<4294967296))
  (f0:fget fr 0=some v) (f1:fget fr 1=some w) (f4:fget fr 4=some (.bool mid)) (f5:fget fr 5=some (KI at_)) (f6:fget fr 6=some (.int .u16 long)) (f9:fget fr 9=some (ptr (2*a) 0)) (f10:fget fr 10=some (ptr (2*b) 0)) :
  Do (wpC Proofs.Tryz.prog 9 133 none (restAt bodyOl 2) fr h) (retK Proofs.Tryz.prog [.tmp 14] fun r _=>r=.bool true) nx:=by
 show Do (wpC _ _ _ _ (.seq (partAt bodyOl 2) (restAt bodyOl 3)) fr h) _ _
 rw[d_seq];refine cut _ (ol2 (a:=a) (b:=b) (mid:=mid) (at_:=at_) (long:=long) hv hw ⟨Ext.refl _,f4,f5,f6,f9,f10⟩ f0 f1) ?_;rintro fr2 h2 ⟨s,hb,w1,w2,x1,x2,s1,s2,he,f15⟩
 show Do (wpC _ _ _ _ (.seq (partAt bodyOl 3) (restAt bodyOl 4)) fr2 h2) _ _
 rw[d_seq];refine cut _ (ol3 hl s s1 s2 he f15) ?_;clear s s1 s2 he f15;rintro fr3 h3 ⟨s,v15,ll,sl,f15⟩
 show Do (wpC _ _ _ _ (.seq (partAt bodyOl 4) (restAt bodyOl 5)) fr3 h3) _ _
 rw[d_seq];refine cut _ (ol4 s hat hn hd ga gb la lb (by simpa using q.1) (by simpa using q.2.1) q.2.2.1.1 q.2.2.1.2 q.2.2.2.1 q.2.2.2.2 sl f15) ?_;clear s sl f15;intro fr4 h4 e4
 show Do (wpC _ _ _ _ (.seq _ _) fr4 h4) _ _
 simp -dsimp (maxSteps:=1000000) (disch:=try exact dx) only[wpS]
end Go.Id

namespace Go.Proofs.YtjhnilfelokpcaaGreat
open Go.ChangeShapes Go.WideShapes Go.ChangeAt Go.RowKit Go.Id
theorem wf_u16 {x:Int} (h:(Lit.int .u16 x).wf=true):0≤x∧x<65536:=by
 simp only[Lit.wf,Bool.and_eq_true,decide_eq_true_eq] at h
 have h1:(0:Int)≤x:=h.1
 have h2:x≤(65535:Int):=h.2
 exact⟨h1,by omega⟩
theorem shV_rel {m:Mp} (n d:Nat):VRel m (shV n d) (.agg (shC n d).toArray):=.plain_mk (plain_shV n d)
set_option maxRecDepth 100000 in
theorem outlierLists_lifted (os:Os) (started:os.Started) (H:Type) (enc:TypeId×Value→H) :
  ReturnsInHanded {} Tryz.checked os 9 .any (Rows.outlierListsSpec.pre6 enc Tryz.prog Tryz.f9 Rows.outlierListsRow.domain false) (Rows.outlierListsSpec.post enc Tryz.prog Tryz.f9 false true false false):=by
 refine returnsInHanded_of_change (C:=Tryz.checked) Tryz.own started (by kernel_rfl) Tryz.func9
  (ChangeSpec.witness6 (enc:=enc) (C:=Tryz.checked) false ⟨#[],#[.slice none 0 0,.slice none 0 0,.agg #[.int .u64 0,.int .u64 0,.int .u64 0,.int .u64 0,.int .u64 0,.int .u64 0,.int .u64 0,.int .u64 0,.int .u64 0,.int .u64 0,.int .u64 0,.int .u64 0,.int .u64 0,.int .u64 0,.int .u64 0,.int .u64 0],.agg #[.bool false,.slice none 0 0,.int .u32 0,.bool false,.slice none 0 0,.int .u32 0],.bool false,.int .i64 0,.int .u16 0],[]⟩ 8 (by kernel_rfl) (by kernel_rfl) (by kernel_rfl) (by kernel_rfl)) ?_
 intro W base args ds gs before hval0 hW hcnd _
 have hval : ∀(j:Nat) t v,Tryz.f9.params[j]?=some t→args[j]?=some v→Value.okWide Tryz.prog W .any base t v:=hval0
 have hW':=hW
 obtain⟨p,q,hA0,hV,rfl,hfz,hnd⟩:=hW
 have hA:DataW.TrodAll enc Tryz.prog W 0 (fun _=>true) true Tryz.f9.params.toList args.toList ds p:=hA0
 have hA1:=hA
 rw[Tryz.params9] at hA hval
 obtain⟨a0,r0,d0,ds0,p0,q0,e0,rfl,rfl,t0,h0A⟩:=trodAll_cons hA
 obtain⟨a1,r1,d1,ds1,p1,q1,rfl,rfl,rfl,t1,h1A⟩:=trodAll_cons h0A
 obtain⟨a2,r2,d2,ds2,p2,q2,rfl,rfl,rfl,t2,h2A⟩:=trodAll_cons h1A
 obtain⟨a3,r3,d3,ds3,p3,q3,rfl,rfl,rfl,t3,h3A⟩:=trodAll_cons h2A
 obtain⟨a4,r4,d4,ds4,p4,q4,rfl,rfl,rfl,t4,h4A⟩:=trodAll_cons h3A
 obtain⟨a5,r5,d5,ds5,p5,q5,rfl,rfl,rfl,t5,h5A⟩:=trodAll_cons h4A
 obtain⟨a6,r6,d6,ds6,p6,q6,rfl,rfl,rfl,t6,h6A⟩:=trodAll_cons h5A
 obtain⟨rfl,rfl,rfl⟩:=trodAll_nil h6A
 obtain⟨rfl,rfl⟩:=trodVars_none hV
 obtain rfl:args = #[a0,a1,a2,a3,a4,a5,a6]:=by cases args;simpa using e0
 obtain⟨b0,n0,c0,rfl⟩:=okWide_slice u_shares (hval 0 _ _ rfl rfl)
 obtain⟨fu0,t0⟩:=t0
 obtain⟨v0,l0,g0,m0,s0⟩:=tell_shares (fun _=>none) t0
 cases g0
 obtain⟨b1,n1,c1,rfl⟩:=okWide_slice u_drafts (hval 1 _ _ rfl rfl)
 obtain⟨fu1,t1⟩:=t1
 obtain⟨v1,l1,g1,m1,s1⟩:=tell_drafts (fun _=>none) t1
 cases g1
 obtain⟨z2,rfl,_⟩:=okWide_struct u_share (hval 2 _ _ rfl rfl)
 obtain⟨fu2,t2⟩:=t2
 obtain⟨sn2,sd2,in2,id2,g2⟩:=share_of t2
 obtain rfl:z2=(shC sn2 sd2).toArray:=by cases z2;simpa using g2
 obtain⟨z3,rfl,_⟩:=okWide_struct u_draft (hval 3 _ _ rfl rfl)
 obtain⟨fu3,t3⟩:=t3
 obtain⟨ba3,ya3,na3,bb3,yb3,nb3,g3,m3,i3⟩:=draft_of (fun _=>none) t3
 obtain rfl:z3 = #[.bool ba3,ya3,.int .u32 na3,.bool bb3,yb3,.int .u32 nb3]:=by cases z3;simpa using g3
 obtain⟨x4,rfl,_,_⟩:=open_bool u_bool (hval 4 _ _ rfl rfl) t4
 obtain⟨x5,rfl,_,_,w5⟩:=open_int u_int (hval 5 _ _ rfl rfl) t5
 have i5:In64 x5:=wf_i64 w5
 obtain⟨x6,rfl,_,_,w6⟩:=open_int u_u16 (hval 6 _ _ rfl rfl) t6
 have i6:0≤x6∧x6<65536:=wf_u16 w6
 have hb:=tell_ok (W:=W) (G:=fun _=>none) (fun b cs h=>by cases h)
 refine(parts_true (tb:=tb38) (nt:=133) (rs:=[.tmp 14]) Tryz.sound (show Sound (E1 Tryz.prog tb38) from sound_O) Tryz.func9 rfl rfl rfl (by simp) (ol0 _ _ _ _ _ _ _ _ _ _ _ _ _ _) (ol1 _ _) (ollists_rest (a:=0) (b:=1) (s0.keep (((Ext.refl _).new _).new _).keep) (s1.keep (((Ext.refl _).new _).new _).keep) i5 i6 in2 id2 ((get_new_old _ _ (by simp)).trans (get_new_same _ _ rfl)) (get_new_same _ _ rfl) (by simp) (by simp) i3 rfl rfl rfl rfl rfl rfl rfl) hb (args':=#[.slice b0 n0 c0,.slice b1 n1 c1,.agg (shC sn2 sd2).toArray,.agg #[.bool ba3,ya3,.int .u32 na3,.bool bb3,yb3,.int .u32 nb3],.bool x4,.int .i64 x5,.int .u16 x6]) (.cons (trV_rel m0) (.cons (trV_rel m1) (.cons (shV_rel sn2 sd2) (.cons (.agg_iff (.cons (.scal rfl) (.cons (trV_rel m3.1) (.cons (.scal rfl) (.cons (.scal rfl) (.cons (trV_rel m3.2) (.cons (.scal rfl) (.nil _)))))))) (.cons (.scal rfl) (.cons (.scal rfl) (.cons (.scal rfl) (.nil _))))))))).mono fun e W' ⟨he,hk⟩=>?_
 subst he
 refine⟨_,rfl,post_of_below (pa:=p0 ++ (p1 ++ (p2 ++ (p3 ++ (p4 ++ (p5 ++ (p6 ++ []))))))) (pv:=[]) hW' (fun _ _ _=>trodAll_mk1 (shut_bool Tryz.underlying4 _)) (fun sp hs=>?_) (fun _ _=>rfl) hk⟩
 exact trodAll_stays Tryz.kids Tryz.pos hk hA1 (fun t ht=>by
  rw[Tryz.params9] at ht
  simp at ht
  rcases ht with rfl|rfl|rfl|rfl|rfl|rfl|rfl<;>exact of_decide_eq_true (by kernel_rfl)) (fun x hx=>hs x (by simpa using hx))
theorem outlierLists_row:Rows.OutlierListsSaid :=
 OpenClaim.holds_of_wide 9 Tryz.f9 rfl rfl rfl rfl rfl rfl rfl ⟨rfl,rfl,rfl,rfl,rfl⟩ rfl rfl rfl rfl rfl (by kernel_rfl) Tryz.func9 (by kernel_rfl)
  (of_decide_eq_true (by kernel_rfl)) (by unfold Func.isWrapper;first|(rw[if_pos (by decide +kernel)];kernel_rfl)|(rw[if_neg (by decide +kernel)];exact⟨rfl,rfl⟩))
  (fun os started H enc _=>outlierLists_lifted os started H enc)
#print axioms outlierLists_row
end Go.Proofs.YtjhnilfelokpcaaGreat
