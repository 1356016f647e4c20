/-
  Tables of functions whose values are known; what a closed function gives. Tables of functions on numbers.
-/
import Derived.Test.YtjhnilfelokpcaaGreatOutlierWaysBk
import Derived.Test.YtjhnilfelokpcaaGreatOutlierWaysBo
import Derived.Test.YtjhnilfelokpcaaGreatOutlierWaysAq
import Derived.Test.YtjhnilfelokpcaaGreatOutlierWaysBl
import Derived.Test.YtjhnilfelokpcaaGreatOutlierWaysBd
import Derived.Test.YtjhnilfelokpcaaGreatOutlierWaysAt
import Derived.Test.YtjhnilfelokpcaaGreatOutlierWaysAs
set_option linter.unusedVariables false
set_option linter.unusedSimpArgs false
set_option linter.defProp false
set_option linter.deprecated false
namespace Go.Id
open Go
noncomputable section
def tbOf (l:List (FuncId×(List Value→Option Value))) (f:FuncId):Option (List Value→Option Value):=List.rec (motive:=fun _=>Option (List Value→Option Value)) none (fun p _ ih=>iB (Nat.beq f p.1) (some p.2) ih) l
def EntryOK (P:Program) (f:FuncId) (g:List Value→Option Value):Prop :=
 (∃fn,P.funcs[f]?=some fn∧fn.body.isSome=true) ∧ ∀args v,args.all plain=true→g args=some v→plainT v=true∧Gives P f args v
theorem tbOf_mem : ∀{l:List (FuncId×(List Value→Option Value))} {f:FuncId} {g:List Value→Option Value},tbOf l f=some g→(f,g)∈l
 | [],_,_,h=>by cases h
 | p :: l,f,g,h=>by
  change iB (Nat.beq f p.1) (some p.2) (tbOf l f)=some g at h
  rw[iB_eq] at h
  cases hb:Nat.beq f p.1 with
  | true =>
   rw[hb] at h;cases h
   have:=Nat.beq_eq.mp hb
   subst this
   exact List.mem_cons_self
  | false =>
   rw[hb] at h
   exact List.mem_cons_of_mem _ (tbOf_mem h)
theorem sound_tb {P:Program} (S:Sound (E0 P)) {l:List (FuncId×(List Value→Option Value))} (h : ∀p∈l,EntryOK P p.1 p.2):Sound (E1 P (tbOf l)) :=
 sound1 S (fun f g hg=>(h _ (tbOf_mem hg)).1) (fun f g hg=>(h _ (tbOf_mem hg)).2)
theorem entry_wv {P:Program} (S:Sound (E0 P)) {f:FuncId} {fn:Func} (hf:P.funcs[f]?=some fn) (hb:fn.body.isSome=true) {g:List Value→Option Value}
  (h : ∀args v,args.all plain=true→g args=some v→plainT v=true∧WV P (.func (.func f) #[] #[]) args (IH.start fun _=>none) fun r _=>r=v):EntryOK P f g :=
 ⟨⟨fn,hf,hb⟩,fun args v hp e=>⟨(h args v hp e).1,gives_wv S ⟨fn,hf,hb⟩ hp (h args v hp e).2⟩⟩
def okT (args:List Value):Option Value:=match args with
 | []=>some (.bool true)
 | _=>none
theorem entry_true {E:Env} (S:Sound E) {n:Nat} {f:FuncId} {fn:Func} (hf:E.P.funcs[f]?=some fn) (hb:fn.body.isSome=true) (h:boolF E (n+1) f (fun _=>none)=true):EntryOK E.P f okT:=by
 refine⟨⟨fn,hf,hb⟩,fun args v hp e=>?_⟩
 unfold okT at e
 split at e
 ·cases e
  obtain⟨h',hr⟩:=boolF_true h
  exact⟨rfl,gives_run S hr ⟨fn,hf,hb⟩ hp⟩
 ·cases e
end
end Go.Id

namespace Go.Id
open Go
noncomputable section
abbrev NumE:=FuncId×(List NK×(List NV→Option NR))
def tnOf (l:List NumE) (f:FuncId):Option (List Value→IH→Option (Value×IH)):=List.rec (motive:=fun _=>Option (List Value→IH→Option (Value×IH))) none (fun p _ ih=>iB (Nat.beq f p.1) (some (nint p.2.1 p.2.2)) ih) l
theorem tnOf_mem : ∀{l:List NumE} {f:FuncId} {g:List Value→IH→Option (Value×IH)},tnOf l f=some g → ∃p∈l,p.1=f∧g=nint p.2.1 p.2.2
 | [],_,_,h=>by cases h
 | p :: l,f,g,h=>by
  change iB (Nat.beq f p.1) (some (nint p.2.1 p.2.2)) (tnOf l f)=some g at h
  rw[iB_eq] at h
  cases hb:Nat.beq f p.1 with
  | true =>
   rw[hb] at h;cases h
   exact⟨p,List.mem_cons_self,(Nat.beq_eq.mp hb).symm,rfl⟩
  | false =>
   rw[hb] at h
   obtain⟨q,h1,h2⟩:=tnOf_mem h
   exact⟨q,List.mem_cons_of_mem _ h1,h2⟩
theorem sound_tn {P:Program} (S:Sound (E0 P)) {tb:List (FuncId×(List Value→Option Value))} (h : ∀p∈tb,EntryOK P p.1 p.2) {tn:List NumE} (k : ∀p∈tn,NumFn P p.1 p.2.2):Sound (E2 P (tbOf tb) (tnOf tn)) :=
 sound2 S (sound_tb S h) fun f g hg=>by
  obtain⟨p,h1,h2,h3⟩:=tnOf_mem hg
  exact⟨p.2.1,p.2.2,h3,h2▸k p h1⟩
end
end Go.Id

namespace Go.Proofs.YtjhnilfelokpcaaGreat
open Go.ChangeShapes Go.WideShapes Go.ChangeAt Go.RowKit Go.Id
noncomputable def tn2:List NumE:=[(114,[.val],readS),(116,[.val],rfromS),(153,[.long],wholeS),(105,[.rat],rtoldS),(216,[.rat],rturnS),(117,[.rat,.rat],rplusS),(160,[.rat,.rat],rminusS),(118,[.rat,.rat],rtimesS),(152,[.rat,.rat],roverS),(107,[.rat,.rat],rcmpS),(66,[.val],wlongerS),(64,[.val],wfromS),(68,[.long],wtoldS),(246,[.long],wturnS),(115,[.long],wsideS),(201,[.long,.long],wplusS),(243,[.long,.long],wminusS),(67,[.long,.long],wtimesS),(196,[.long,.long],wcmpS),(199,[.long,.long],wcommonS),(218,[.long,.long],wpartsS)]
theorem num_2 : ∀p∈tn2,NumFn Tryz.prog p.1 p.2.2:=by
 intro p hp
 simp only[tn2,List.mem_cons,List.not_mem_nil,or_false] at hp
 rcases hp with rfl|rfl|rfl|rfl|rfl|rfl|rfl|rfl|rfl|rfl|rfl|rfl|rfl|rfl|rfl|rfl|rfl|rfl|rfl|rfl|rfl
 ·exact num_read
 ·exact num_rfrom
 ·exact num_whole
 ·exact num_rtold
 ·exact num_rturn
 ·exact num_rplus
 ·exact num_rminus
 ·exact num_rtimes
 ·exact num_rover
 ·exact num_rcmp
 ·exact num_wlonger
 ·exact num_wfrom
 ·exact num_wtold
 ·exact num_wturn
 ·exact num_wside
 ·exact num_wplus
 ·exact num_wminus
 ·exact num_wtimes
 ·exact num_wcmp
 ·exact num_wcommon
 ·exact num_wparts
noncomputable def tb2:List (FuncId×(List Value→Option Value)):=[(197,make2),(108,of2),(43,of2),(113,check1),(36,cmp2)]
theorem val_2 : ∀p∈tb2,EntryOK Tryz.prog p.1 p.2:=by
 intro p hp
 simp only[tb2,List.mem_cons,List.not_mem_nil,or_false] at hp
 rcases hp with rfl|rfl|rfl|rfl|rfl
 ·exact entry_wv Tryz.sound Tryz.func197 rfl val_make
 ·exact entry_wv Tryz.sound Tryz.func108 rfl val_of
 ·exact entry_wv Tryz.sound Tryz.func43 rfl val_of02
 ·exact entry_wv Tryz.sound Tryz.func113 rfl val_check
 ·exact entry_wv Tryz.sound Tryz.func36 rfl val_cmp
theorem sound_2:Sound (E2 Tryz.prog (tbOf tb2) (tnOf tn2)):=sound_tn Tryz.sound val_2 num_2
end Go.Proofs.YtjhnilfelokpcaaGreat

namespace Go.Proofs.YtjhnilfelokpcaaGreat
open Go.ChangeShapes Go.WideShapes Go.ChangeAt Go.RowKit Go.Id
theorem works38_true:boolF (E2 Tryz.prog (tbOf tb2) (tnOf tn2)) (4999+1) 28 (fun _=>none)=true:=by decide +kernel
noncomputable def tbO:FuncId→Option (List Value→Option Value):=tbOf [(28,okT)]
theorem sound_O:Sound (E1 Tryz.prog tbO):=sound_tb Tryz.sound fun p hp=>by
 obtain rfl:=List.mem_singleton.1 hp
 exact entry_true (E:=E2 Tryz.prog (tbOf tb2) (tnOf tn2)) sound_2 Tryz.func28 rfl works38_true
end Go.Proofs.YtjhnilfelokpcaaGreat

namespace Go.Id
open Go
set_option maxHeartbeats 2000000 in
theorem sizePlus_ok {h:IH} (a b:Nat) (ha:a<W8) (hb:b<W8):WV Proofs.Tryz.prog (.func (.func 273) #[] #[]) [wdV a,wdV b] h fun r h'=>Ext h h' ∧ ∃m bor,r=.tuple #[wdV m,K64 bor]∧m<W8∧bor≤1∧a+b=m+bor*W8:=by
 refine enter (nt:=27) (rs:=[.cell 4 199,.tmp 5]) Proofs.Tryz.func273 rfl rfl rfl (by simp) ?_
 simp -dsimp (maxSteps:=1000000) (disch:=first|omega|(simp only[new_n,put_n];omega)|decide +kernel|(repeat first|rw[new_n]|rw[put_n])) only[wpS,Nat.reduceEqDiff,Nat.reduceAdd,zc199,cells8]
 rw[wdC_wds a,wdC_wds b]
 have lA:=wds_len a
 have lB:=wds_len b
 refine loop (fun m fr h1 => ∃(i bor:Nat) (os:List Nat),i+m=8∧Ext h h1∧h.n+3≤h1.n∧h1.ext.get h.n=some (.cells (os.map K64) 0 none)∧h1.ext.get (h.n+1)=some (.cells ((wds b).map K64) 0 none)∧(∃c,h1.ext.get (h.n+1+1)=some (.cells c 0 none)∧c.length=8)∧bor≤1∧os.length=8∧B.Digs os∧(∀j,i≤j→os.getD j 0=(wds a).getD j 0) ∧
   B.valT (wds a) i+B.valT (wds b) i=B.valT os i+bor*18446744073709551616 ^ i∧fget fr 2=some (ptr (2*h.n) 0)∧fget fr 3=some (ptr (2*(h.n+1)) 0)∧fget fr 4=some (ptr (2*(h.n+1+1)) 0)∧fget fr 6=some (K64 bor)∧fget fr 8=some (KN i)) 8
  ⟨0,0,wds a,rfl,(((Ext.refl h).new _).new _).new _,by simp<;>omega,by simp (disch:=first|omega|(simp only[new_n,put_n];omega)|(repeat first|rw[new_n]|rw[put_n])) only[get_new_same,get_new_old],by simp (disch:=first|omega|(simp only[new_n,put_n];omega)|(repeat first|rw[new_n]|rw[put_n])) only[get_new_same,get_new_old],⟨[ZW,ZW,ZW,ZW,ZW,ZW,ZW,ZW],by simp (disch:=first|omega|(simp only[new_n,put_n];omega)|(repeat first|rw[new_n]|rw[put_n])) only[get_new_same],rfl⟩,by omega,lA,wds_dig a,fun _ _=>rfl,by simp[B.valT],by simp,by simp,by simp,by simp,by simp⟩ ?_
 rintro m fr h1 ⟨i,bor,os,him,hE,hn,hg,hg1,hg2,hbor,hol,hod,hoa,hv,f2,f3,f4,f6,f8⟩
 simp -dsimp (maxSteps:=1000000) (disch:=first|omega|(simp only[new_n,put_n];omega)|decide +kernel|(repeat first|rw[new_n]|rw[put_n])) only[wpS,f8]
 refine bq_intro ?_ ?_<;>intro hc<;>simp only[decide_eq_true_eq,decide_eq_false_iff_not] at hc
 ·have hi:i<8:=by omega
  have r0:=row_kn hg
  have r1:=row_kn hg1
  have go:=get_some (show i<os.length by omega)
  have gb:=get_some (show i<(wds b).length by omega)
  have hx:=hoa i (Nat.le_refl _)
  have dx:=B.getD_lt hod i
  have dy:=B.getD_lt (wds_dig b) i
  obtain⟨x,hx1⟩ : ∃x,x=os.getD i 0:=⟨_,rfl⟩
  obtain⟨y,hy1⟩ : ∃x,x=(wds b).getD i 0:=⟨_,rfl⟩
  rw[←hx1] at go dx hx
  rw[←hy1] at gb dy
  simp -dsimp (maxSteps:=1000000) (disch:=first|omega|(simp only[new_n,put_n];omega)|decide +kernel|(repeat first|rw[new_n]|rw[put_n])) only[wpS,wpT,Nat.reduceEqDiff,ar199,ld42,f2,f3,f6,f8,r0,r1,map_get,go,gb]
  refine call (add64_ok x y bor hbor) ?_
  rintro _ _ ⟨rfl,rfl⟩
  generalize hdd:(x+y+bor) % 18446744073709551616=d
  generalize hbb:(x+y+bor) / 18446744073709551616=b2
  have hb1:b2≤1:=by omega
  have hrel:x+y+bor=d+b2*18446744073709551616:=by omega
  have hd2:d<18446744073709551616:=by omega
  have spl:=spl_k64 d (show i<os.length by omega)
  rename_i h3
  simp -dsimp (maxSteps:=1000000) (disch:=first|omega|(simp only[new_n,put_n];omega)|decide +kernel|(repeat first|rw[new_n]|rw[put_n])) only[wpS,wpT,Nat.reduceEqDiff,Nat.reduceLeDiff,ar199,st42,f2,f8,hg,spl,List.length_map,hol]
  obtain⟨c,hgc,hcl⟩:=hg2
  refine⟨m - 1,by omega,i+1,b2,os.set i d,by omega,hE.put (Nat.le_refl _) _,hn,get_put_same _ _ rfl,by simp (disch:=first|omega|(simp only[new_n,put_n];omega)|(repeat first|rw[new_n]|rw[put_n])) only[get_put_old];exact hg1,⟨c,by simp (disch:=first|omega|(simp only[new_n,put_n];omega)|(repeat first|rw[new_n]|rw[put_n])) only[get_put_old];exact hgc,hcl⟩,hb1,by rw[List.length_set,hol],hod.set _ hd2,?_,?_,by simp[f2],by simp[f3],by simp[f4],by simp,by simp⟩
  ·intro j hj
   rw[B.getD_set (by omega),if_neg (by omega)]
   exact hoa j (by omega)
  ·rw[valT_set_next (by omega),B.valT,B.valT,←hx,←hy1,Nat.pow_succ]
   have e3:d*18446744073709551616 ^ i+b2*(18446744073709551616 ^ i*18446744073709551616)=(x+y+bor)*18446744073709551616 ^ i:=by rw[hrel];grind
   have e4:(x+y+bor)*18446744073709551616 ^ i=x*18446744073709551616 ^ i+y*18446744073709551616 ^ i+bor*18446744073709551616 ^ i:=by grind
   omega
 ·obtain rfl:i=8:=by omega
  have r0:=row_kn hg
  have lm:(os.map K64).length=8:=by rw[List.length_map,hol]
  have all:=k64_all os
  have tk8:List.take 8 (List.drop 0 (os.map K64))=os.map K64:=by rw[List.drop_zero,List.take_of_length_le (by omega)]
  obtain⟨c,hgc,hcl⟩:=hg2
  have hsp:IH.splice c 0 (os.map K64)=os.map K64:=splice_all (by rw[hcl,lm])
  simp -dsimp (maxSteps:=1000000) (disch:=first|omega|(simp only[new_n,put_n];omega)|decide +kernel|(repeat first|rw[new_n]|rw[put_n])) only[wpS,wpT,Nat.reduceEqDiff,Nat.reduceLeDiff,ld199,st199,f2,f4,f6,r0,lm,all,tk8,hgc,hcl,hsp]
  rw[←wds_of hol hod,←wdC_wds] 
  have e8 : ∀n,n<W8→B.valT (wds n) 8=n:=fun n hn=>by rw[wds_valT n 8 (Nat.le_refl _),←W8_pw,Nat.mod_eq_of_lt hn]
  rw[e8 a ha,e8 b hb,←W8_pw] at hv
  have hvo:B.valT os 8=B.valD os:=by rw[B.valD,hol]
  rw[hvo] at hv
  exact⟨hE.put (by omega) _,B.valD os,bor,rfl,val_lt8 hol hod,hbor,hv⟩
theorem size_eql {n m:Nat} (hn:n<W8) (hm:m<W8) (ox oy:Operand):binop Proofs.Tryz.prog .eql 199 ox oy (.agg (wdC n).toArray) (.agg (wdC m).toArray)=some (.bool (decide (n=m))):=by
 rw[wdC_map,wdC_map,binop_eql_arr u199 u42 sz42 eg199 _ _ _ _ (by simp) (by simp),wd_dec hn hm]
set_option maxHeartbeats 1000000 in
theorem sizeZero_ok {h:IH} (n:Nat) (hn:n<W8):WV Proofs.Tryz.prog (.func (.func 277) #[] #[]) [wdV n] h fun r h'=>Ext h h'∧r=.bool (decide (n=0)):=by
 have hz : ∀ox oy,binop Proofs.Tryz.prog .eql 199 ox oy (.agg (wdC n).toArray) (.agg #[ZW,ZW,ZW,ZW,ZW,ZW,ZW,ZW])=some (.bool (decide (n=0))):=fun ox oy=>by
  rw[wd_zero,wdV,size_eql hn (by have:=H8_two;have:=H8_pos;omega)]
 have E1:Ext h (h.new (.cells (wdC n) 0 none)):=(Ext.refl h).new _
 refine enter (nt:=6) (rs:=[.tmp 2]) Proofs.Tryz.func277 rfl rfl rfl (by simp) ?_
 simp -dsimp (maxSteps:=1000000) (disch:=first|omega|(simp only[new_n,put_n];omega)|decide +kernel|(repeat first|rw[new_n]|rw[put_n])) only[wpS,wpT,Nat.reduceEqDiff,Nat.reduceLeDiff,ld199,bv199,cells8,wdC_len,wd_take0,hz]
 exact E1
theorem bld_num {b:Bool} {n:Nat}:buildV Proofs.Tryz.prog 201 [(0,.bool b),(1,wdV n)]=some (numV b n):=by
 kernel_rfl
set_option maxHeartbeats 1000000 in
theorem wof_ok {h:IH} (b:Bool) (n:Nat) (hn:n<W8):WV Proofs.Tryz.prog (.func (.func 274) #[] #[]) [.bool b,wdV n] h fun r h'=>Ext h h'∧r=numV (b && !decide (n=0)) n:=by
 obtain⟨H0,hH0,n0,E0,k0,k1⟩:=boxes2 h (wdC n) [.bool false,ZW,ZW,ZW,ZW,ZW,ZW,ZW,ZW]
 refine enter (nt:=13) (rs:=[.cell 4 201]) Proofs.Tryz.func274 rfl rfl rfl (by simp) ?_
 simp -dsimp (maxSteps:=1000000) (disch:=first|omega|(simp only[new_n,put_n];omega)|decide +kernel|(repeat first|rw[new_n]|rw[put_n])) only[wpS,Nat.reduceEqDiff,Nat.reduceAdd,zc201,cells8]
 rw[←hH0]
 clear hH0
 have X0:=Ext.refl H0
 have L1:load Proofs.Tryz.prog H0 199 (ptr (2*h.n) 0)=some (wdV n):=by
  have r:=row_of k0
  simp -dsimp (maxSteps:=1000000) (disch:=first|omega|(simp only[new_n,put_n];omega)|decide +kernel|(repeat first|rw[new_n]|rw[put_n])) only[wpS,Nat.reduceLeDiff,ld199,r,wdC_len,wd_take0]
  rfl
 refine drawn [(6,[3])] (by kernel_rfl) (by kernel_rfl) rfl ?_
 cases b with
 | true =>
  simp -dsimp (maxSteps:=1000000) (disch:=first|omega|(simp only[new_n,put_n];omega)|decide +kernel|(repeat first|rw[new_n]|rw[put_n])) only[wpS,wpT,Nat.reduceEqDiff,Nat.reduceLeDiff,ld199,row_of k0,wdC_len,wd_take0]
  refine call (sizeZero_ok n hn) ?_
  rintro _ h1 ⟨X1,rfl⟩
  have m1:=X1.n
  have q0:=X1.kept (by omega) k0
  have q1:=X1.kept (by omega) k1
  simp -dsimp (maxSteps:=1000000) (disch:=first|omega|(simp only[new_n,put_n];omega)|decide +kernel|(repeat first|rw[new_n]|rw[put_n])) only[wpS,wpT,Nat.reduceEqDiff,Nat.reduceLeDiff,Nat.reduceAdd,ld199,st201,row_of q0,q1,wdC_len,wd_take0,show(.agg (wdC n).toArray:Value)=wdV n from rfl,bld_num,num_cells,wdC_all,wd_spl]
  refine⟨wpSteady_one rfl rfl rfl rfl (steady_ext (H0:=H0) rfl (by omega) X1 X0 L1),?_⟩
  simp -dsimp (maxSteps:=1000000) (disch:=first|omega|(simp only[new_n,put_n];omega)|decide +kernel|(repeat first|rw[new_n]|rw[put_n])) only[wpS,wpT,Nat.reduceEqDiff,Nat.reduceLeDiff,Nat.reduceAdd,ld201,num_take9,wdC_len]
  exact⟨(E0.trans X1).put (by omega) _,rfl⟩
 | false =>
  simp -dsimp (maxSteps:=1000000) (disch:=first|omega|(simp only[new_n,put_n];omega)|decide +kernel|(repeat first|rw[new_n]|rw[put_n])) only[wpS,wpT,Nat.reduceEqDiff,Nat.reduceLeDiff,Nat.reduceAdd,ld199,st201,row_of k0,k1,wdC_len,wd_take0,show(.agg (wdC n).toArray:Value)=wdV n from rfl,bld_num,num_cells,wdC_all,wd_spl]
  refine⟨wpSteady_one rfl rfl rfl rfl (steady_ext (H0:=H0) rfl (by omega) X0 X0 L1),?_⟩
  simp -dsimp (maxSteps:=1000000) (disch:=first|omega|(simp only[new_n,put_n];omega)|decide +kernel|(repeat first|rw[new_n]|rw[put_n])) only[wpS,wpT,Nat.reduceEqDiff,Nat.reduceLeDiff,Nat.reduceAdd,ld201,num_take9,wdC_len]
  exact⟨E0.put (by omega) _,rfl⟩
set_option maxHeartbeats 2000000 in
theorem sumPP_ok {h:IH} (a b:Nat) (hab:a+b<W8) :
  WV Proofs.Tryz.prog (.func (.func 270) #[] #[]) [numV false a,numV false b] h fun r h'=>Ext h h'∧r=.tuple #[numV false (a+b),.bool false]:=by
 have ha:a<W8:=by omega
 have hb:b<W8:=by omega
 obtain⟨H0,hH0,n0,E0,k0,k1,k2⟩:=boxes3 h (.bool false :: wdC a) (.bool false :: wdC b) [.bool false,ZW,ZW,ZW,ZW,ZW,ZW,ZW,ZW]
 have ee:((false:Bool) == false)=true:=rfl
 refine enter (nt:=61) (rs:=[.cell 4 201,.tmp 5]) Proofs.Tryz.func270 rfl rfl rfl (by simp) ?_
 simp -dsimp (maxSteps:=1000000) (disch:=first|omega|(simp only[new_n,put_n];omega)|decide +kernel|(repeat first|rw[new_n]|rw[put_n])) only[wpS,wpT,Nat.reduceEqDiff,Nat.reduceLeDiff,Nat.reduceAdd,zc201,fa201_0,ld4,be4,fa201_1,ld199,num_cells]
 rw[←hH0]
 clear hH0
 simp -dsimp (maxSteps:=1000000) (disch:=first|omega|(simp only[new_n,put_n];omega)|decide +kernel|(repeat first|rw[new_n]|rw[put_n])) only[wpS,wpT,Nat.reduceEqDiff,Nat.reduceLeDiff,Nat.reduceAdd,fa201_1,ld199,row_of k1,num_take,wdC_len]
 refine call (sizePlus_ok a b ha hb) ?_
 rintro _ h1 ⟨X1,m,c,rfl,hm,hc,hrel⟩
 have c0:c=0:=by
  apply Classical.byContradiction
  intro hn
  have:c=1:=by omega
  subst this
  omega
 subst c0
 obtain rfl:m=a+b:=by omega
 have m1:=X1.n
 have e1:Ext h1 ((h1.new (.cells [ZW,ZW,ZW,ZW,ZW,ZW,ZW,ZW] 0 none)).put h1.n (.cells (wdC (a+b)) 0 none)):=((Ext.refl _).new _).put (Nat.le_refl _) _
 have X2:=X1.trans e1
 have q0:=X1.kept (by omega) k0
 have q2:=X2.kept (by omega) k2
 simp -dsimp (maxSteps:=1000000) (disch:=first|omega|(simp only[new_n,put_n];omega)|decide +kernel|(repeat first|rw[new_n]|rw[put_n])) only[wpS,wpT,Nat.reduceEqDiff,Nat.reduceLeDiff,Nat.reduceAdd,fa201_0,ld4,ld199,zc199,st199,cells8,wdC_len,wdC_all,wd_spl,row_of q0,wd_take0]
 refine call (wof_ok false (a+b) hab) ?_
 rintro _ h3 ⟨X3,rfl⟩
 have q3:=X3.kept (by simp only[new_n,put_n];omega) q2
 rw[Bool.false_and]
 simp -dsimp (maxSteps:=1000000) (disch:=first|omega|(simp only[new_n,put_n];omega)|decide +kernel|(repeat first|rw[new_n]|rw[put_n])) only[wpS,wpT,Nat.reduceEqDiff,Nat.reduceLeDiff,Nat.reduceAdd,st201,ld201,q3,num_cells,num_take9,wdC_len,wdC_all,wd_spl]
 exact⟨((E0.trans X2).trans X3).put (by omega) _,rfl⟩
set_option maxHeartbeats 2000000 in
theorem sumPM_ok {h:IH} (a b:Nat) (ha:a<W8) (hab:b≤a) :
  WV Proofs.Tryz.prog (.func (.func 270) #[] #[]) [numV false a,numV true b] h fun r h'=>Ext h h'∧r=.tuple #[numV false (a - b),.bool false]:=by
 have hb:b<W8:=by omega
 obtain⟨H0,hH0,n0,E0,k0,k1,k2⟩:=boxes3 h (.bool false :: wdC a) (.bool true :: wdC b) [.bool false,ZW,ZW,ZW,ZW,ZW,ZW,ZW,ZW]
 have ee:((false:Bool) == true)=false:=rfl
 refine enter (nt:=61) (rs:=[.cell 4 201,.tmp 5]) Proofs.Tryz.func270 rfl rfl rfl (by simp) ?_
 simp -dsimp (maxSteps:=1000000) (disch:=first|omega|(simp only[new_n,put_n];omega)|decide +kernel|(repeat first|rw[new_n]|rw[put_n])) only[wpS,wpT,Nat.reduceEqDiff,Nat.reduceLeDiff,Nat.reduceAdd,zc201,fa201_0,ld4,be4,fa201_1,ld199,num_cells]
 rw[←hH0]
 clear hH0
 simp -dsimp (maxSteps:=1000000) (disch:=first|omega|(simp only[new_n,put_n];omega)|decide +kernel|(repeat first|rw[new_n]|rw[put_n])) only[wpS,wpT,Nat.reduceEqDiff,Nat.reduceLeDiff,Nat.reduceAdd,fa201_1,ld199,row_of k1,num_take,wdC_len]
 refine call (sizeOrder_ok a b ha hb) ?_
 rintro _ h1 ⟨X1,rfl⟩
 rw[if_neg (by omega)]
 obtain⟨z,hz,hz0⟩ : ∃z:Int,(if a=b then (0:Int) else 1)=z∧0≤z:=⟨_,rfl,by split<;>omega⟩
 rw[hz]
 have m1:=X1.n
 simp -dsimp (maxSteps:=1000000) (disch:=first|omega|(simp only[new_n,put_n];omega)|decide +kernel|(repeat first|rw[new_n]|rw[put_n])) only[wpS,wpT,Nat.reduceEqDiff,Nat.reduceLeDiff,Nat.reduceAdd,fa201_1,ld199,row_of (X1.kept (by omega) k0),row_of (X1.kept (by omega) k1),num_take,wdC_len]
 refine call (sizeMinus_ok a b ha hb) ?_
 rintro _ h2 ⟨X2,m,c,rfl,hm,hc,hrel⟩
 have c0:c=0:=by
  apply Classical.byContradiction
  intro hn
  have:c=1:=by omega
  subst this
  omega
 subst c0
 obtain rfl:m=a - b:=by omega
 have m2:=X2.n
 have e1:Ext h2 ((h2.new (.cells [ZW,ZW,ZW,ZW,ZW,ZW,ZW,ZW] 0 none)).put h2.n (.cells (wdC (a - b)) 0 none)):=((Ext.refl _).new _).put (Nat.le_refl _) _
 have X3:=(X1.trans X2).trans e1
 have q0:=(X1.trans X2).kept (by omega) k0
 have q2:=X3.kept (by omega) k2
 simp -dsimp (maxSteps:=1000000) (disch:=first|omega|(simp only[new_n,put_n];omega)|decide +kernel|(repeat first|rw[new_n]|rw[put_n])) only[wpS,wpT,Nat.reduceEqDiff,Nat.reduceLeDiff,Nat.reduceAdd,fa201_0,ld4,ld199,zc199,st199,cells8,wdC_len,wdC_all,wd_spl,row_of q0,wd_take0]
 refine call (wof_ok false (a - b) (by omega)) ?_
 rintro _ h3 ⟨X4,rfl⟩
 have q3:=X4.kept (by simp only[new_n,put_n];omega) q2
 rw[Bool.false_and]
 simp -dsimp (maxSteps:=1000000) (disch:=first|omega|(simp only[new_n,put_n];omega)|decide +kernel|(repeat first|rw[new_n]|rw[put_n])) only[wpS,wpT,Nat.reduceEqDiff,Nat.reduceLeDiff,Nat.reduceAdd,st201,ld201,q3,num_cells,num_take9,wdC_len,wdC_all,wd_spl]
 exact⟨((E0.trans X3).trans X4).put (by omega) _,rfl⟩
set_option maxHeartbeats 2000000 in
theorem turned_ok {h:IH} (b:Nat) (hb:b<W8) (b0:0<b) :
  WV Proofs.Tryz.prog (.func (.func 275) #[] #[]) [numV false b] h fun r h'=>Ext h h'∧r=numV true b:=by
 obtain⟨H0,hH0,n0,E0,k0,k1⟩:=boxes2 h (.bool false :: wdC b) [.bool false,ZW,ZW,ZW,ZW,ZW,ZW,ZW,ZW]
 refine enter (nt:=9) (rs:=[.cell 2 201]) Proofs.Tryz.func275 rfl rfl rfl (by simp) ?_
 simp -dsimp (maxSteps:=1000000) (disch:=first|omega|(simp only[new_n,put_n];omega)|decide +kernel|(repeat first|rw[new_n]|rw[put_n])) only[wpS,wpT,Nat.reduceEqDiff,Nat.reduceLeDiff,Nat.reduceAdd,zc201,fa201_0,ld4,fa201_1,ld199,num_cells]
 rw[←hH0]
 clear hH0
 simp -dsimp (maxSteps:=1000000) (disch:=first|omega|(simp only[new_n,put_n];omega)|decide +kernel|(repeat first|rw[new_n]|rw[put_n])) only[wpS,Nat.reduceEqDiff,Nat.reduceLeDiff,num_take,wdC_len]
 refine call (wof_ok true b hb) ?_
 rintro _ h1 ⟨X1,rfl⟩
 rw[Bool.true_and,decide_eq_false (by omega),Bool.not_false]
 have q1:=X1.kept (by omega) k1
 have m1:=X1.n
 simp -dsimp (maxSteps:=1000000) (disch:=first|omega|(simp only[new_n,put_n];omega)|decide +kernel|(repeat first|rw[new_n]|rw[put_n])) only[wpS,wpT,Nat.reduceEqDiff,Nat.reduceLeDiff,Nat.reduceAdd,st201,ld201,q1,num_cells,num_take9,wdC_len,wdC_all,wd_spl]
 exact⟨(E0.trans X1).put (by omega) _,rfl⟩
set_option maxHeartbeats 2000000 in
theorem difference_ok {h:IH} (a b:Nat) (ha:a<W8) (b0:0<b) (hab:b≤a) :
  WV Proofs.Tryz.prog (.func (.func 271) #[] #[]) [numV false a,numV false b] h fun r h'=>Ext h h'∧r=.tuple #[numV false (a - b),.bool false]:=by
 obtain⟨H0,hH0,n0,E0,k0,k1,k2⟩:=boxes3 h (.bool false :: wdC a) (.bool false :: wdC b) [.bool false,ZW,ZW,ZW,ZW,ZW,ZW,ZW,ZW]
 refine enter (nt:=12) (rs:=[.cell 4 201,.tmp 5]) Proofs.Tryz.func271 rfl rfl rfl (by simp) ?_
 simp -dsimp (maxSteps:=1000000) (disch:=first|omega|(simp only[new_n,put_n];omega)|decide +kernel|(repeat first|rw[new_n]|rw[put_n])) only[wpS,Nat.reduceEqDiff,Nat.reduceAdd,zc201,num_cells]
 rw[←hH0]
 clear hH0
 have X0:=Ext.refl H0
 have L0:load Proofs.Tryz.prog H0 201 (ptr (2*h.n) 0)=some (numV false a):=by
  have r:=row_of k0
  simp -dsimp (maxSteps:=1000000) (disch:=first|omega|(simp only[new_n,put_n];omega)|decide +kernel|(repeat first|rw[new_n]|rw[put_n])) only[wpS,wpT,Nat.reduceLeDiff,Nat.reduceAdd,ld201,r,num_take9,wdC_len]
  rfl
 refine drawn [(0,[3])] (by kernel_rfl) (by kernel_rfl) rfl ?_
 simp -dsimp (maxSteps:=1000000) (disch:=first|omega|(simp only[new_n,put_n];omega)|decide +kernel|(repeat first|rw[new_n]|rw[put_n])) only[wpS,wpT,Nat.reduceEqDiff,Nat.reduceLeDiff,Nat.reduceAdd,ld201,row_of k0,row_of k1,num_take9,wdC_len]
 refine call (turned_ok b (by omega) b0) ?_
 rintro _ h1 ⟨X1,rfl⟩
 have m1:=X1.n
 simp -dsimp (maxSteps:=1000000) (disch:=first|omega|(simp only[new_n,put_n];omega)|decide +kernel|(repeat first|rw[new_n]|rw[put_n])) only[wpS,Nat.reduceEqDiff]
 refine call (sumPM_ok a b ha hab) ?_
 rintro _ h2 ⟨X2,rfl⟩
 have X12:=X1.trans X2
 have q2:=X12.kept (by omega) k2
 simp -dsimp (maxSteps:=1000000) (disch:=first|omega|(simp only[new_n,put_n];omega)|decide +kernel|(repeat first|rw[new_n]|rw[put_n])) only[wpS,wpT,Nat.reduceEqDiff,Nat.reduceLeDiff,Nat.reduceAdd,st201,q2,num_cells,wdC_len,wdC_all,wd_spl]
 refine⟨wpSteady_one rfl rfl rfl rfl (steady_ext (H0:=H0) rfl (by omega) X0 X1 L0),?_⟩
 simp -dsimp (maxSteps:=1000000) (disch:=first|omega|(simp only[new_n,put_n];omega)|decide +kernel|(repeat first|rw[new_n]|rw[put_n])) only[wpS,wpT,Nat.reduceEqDiff,Nat.reduceLeDiff,Nat.reduceAdd,ld201,num_take9,wdC_len]
 exact⟨(E0.trans X12).put (by omega) _,rfl⟩
end Go.Id

namespace Go.Id
open Go
open Go.Proofs.Tryz (prog)
open Nat (reduceAdd reduceEqDiff reduceLeDiff)
set_option maxHeartbeats 16000000
theorem mapTop:MapT prog 314 5 .nilFunc:=⟨_,u314,by kernel_rfl,rfl⟩
def opsL:MapL:=[(.int .u8 43,(.func (.func 270) #[] #[])),(.int .u8 45,(.func (.func 271) #[] #[])),(.int .u8 42,(.func (.func 272) #[] #[]))]
theorem opsL_keys : ∀e∈opsL,∃a,e.1=.int .u8 a:=by
 intro e he
 simp[opsL] at he
 rcases he with rfl|rfl|rfl<;>exact⟨_,rfl⟩
theorem place_new : ∀{l:MapL} {k:Value},(∀e∈l,e.1≠k)→place l k=none
 | [],_,_=>rfl
 | e :: l,k,h=>by
  rw[place,if_neg (h e (by simp)),place_new fun x hx=>h x (by simp[hx])]
  rfl
theorem upd_new {l:MapL} {k v:Value} (h : ∀e∈l,e.1≠k):upd l k v=l ++ [(k,v)]:=by
 unfold upd
 rw[place_new h]
theorem asc_hd (k v:Value) (l:MapL):asc ((k,v) :: l) k=some v:=by rw[asc,if_pos rfl]
theorem asc_tl {k k' v:Value} {l:MapL} (h:k'≠k):asc ((k',v) :: l) k=asc l k:=by rw[asc,if_neg h]
theorem u8_ne {a b:Int} (h:a≠b):(Value.int .u8 a)≠.int .u8 b:=fun e=>h (by injection e)
theorem asc43:asc opsL (.int .u8 43)=some (.func (.func 270) #[] #[]):=asc_hd _ _ _
theorem asc45:asc opsL (.int .u8 45)=some (.func (.func 271) #[] #[]):=(asc_tl (u8_ne (by decide))).trans (asc_hd _ _ _)
theorem operations_ok {h:IH}:WV prog (.func (.func 266) #[] #[]) [] h fun r h'=>Ext h h'∧h'.ext.get h.n=some (.map opsL)∧h.n<h'.n∧r=.map (some (2*h.n)):=by
 have kt:=keyT_int (P:=prog) u5
 have u1 : ∀v,mapUpdate prog (h.new (.map [])) 314 (.map (some (2*h.n))) (.int .u8 43) v=some ((h.new (.map [])).put h.n (.map [(.int .u8 43,v)])):=fun v=>by
  rw[mapUpdate_eq mapTop kt (get_new_same _ _ rfl) ⟨_,rfl⟩ (by simp) v,upd_new (by simp)]
  rfl
 have u2 : ∀(H:IH) (w v:Value),mapUpdate prog (H.put h.n (.map [(.int .u8 43,w)])) 314 (.map (some (2*h.n))) (.int .u8 45) v=some ((H.put h.n (.map [(.int .u8 43,w)])).put h.n (.map [(.int .u8 43,w),(.int .u8 45,v)])):=fun H w v=>by
  rw[mapUpdate_eq mapTop kt (get_put_same _ _ rfl) ⟨_,rfl⟩ (by intro e he;simp at he;subst he;exact⟨_,rfl⟩) v,upd_new (by intro e he;simp at he;subst he;exact u8_ne (by decide))]
  rfl
 have u3 : ∀(H:IH) (w x v:Value),mapUpdate prog (H.put h.n (.map [(.int .u8 43,w),(.int .u8 45,x)])) 314 (.map (some (2*h.n))) (.int .u8 42) v=some ((H.put h.n (.map [(.int .u8 43,w),(.int .u8 45,x)])).put h.n (.map [(.int .u8 43,w),(.int .u8 45,x),(.int .u8 42,v)])):=fun H w x v=>by
  rw[mapUpdate_eq mapTop kt (get_put_same _ _ rfl) ⟨_,rfl⟩ (by intro e he;simp at he;rcases he with rfl|rfl<;>exact⟨_,rfl⟩) v,upd_new (by intro e he;simp at he;rcases he with rfl|rfl<;>exact u8_ne (by decide))]
  rfl
 refine enter (nt:=3) (rs:=[.tmp 0]) Proofs.Tryz.func266 rfl rfl rfl (by simp) ?_
 simp -dsimp (maxSteps:=1000000) (disch:=try exact dx) only[wpS,wpT,reduceEqDiff,u1,u2,u3]
 exact⟨((((Ext.refl h).new _).put (Nat.le_refl _) _).put (Nat.le_refl _) _).put (Nat.le_refl _) _,rfl,by omega⟩
theorem steady_lk {P:Program} {fr:Fr} {mt:TypeId} {m k:Operand} {h h':IH} {mv kv v:Value} (hm:opd fr m=some mv) (hk:opd fr k=some kv) (h1:lookup P h mt mv kv false=some v) (h2:lookup P h' mt mv kv false=some v):steadyAt P fr (.lookup mt m k false) h h'=true :=
 steadyAt_of (v:=v) (x:=h) (y:=h') (by simp[iop,hm,hk,h1]) (by simp[iop,hm,hk,h2])
theorem both_ok {h:IH} (a b m:Nat) (ha:a<H8) (hb:b<H8) (sg:Int) (f:Value) (hasc:asc opsL (.int .u8 sg)=some f) (hm:m<W8)
  (hf : ∀h1,WV prog f [numV false a,numV false b] h1 fun r h2=>Ext h1 h2∧r=.tuple #[numV false m,.bool false]) :
  WV prog (.func (.func 252) #[] #[]) [wdV a,wdV b,.int .u8 sg] h fun r h'=>Ext h h'∧r=if m<H8 then .tuple #[wdV m,KI 0] else .tuple #[wdV 0,KI 6]:=by
 have kt:=keyT_int (P:=prog) u5
 have aw:a<W8:=by have:=H8_two;omega
 have bw:b<W8:=by have:=H8_two;omega
 have ia:wdI a=(a:Int):=by unfold wdI;rw[if_pos ha]
 have ib:wdI b=(b:Int):=by unfold wdI;rw[if_pos hb]
 obtain⟨H0,hH0,n0,E0,k0,k1,k2⟩:=boxes3 h (wdC a) (wdC b) [ZW,ZW,ZW,ZW,ZW,ZW,ZW,ZW]
 refine enter (nt:=27) (rs:=[.cell 6 44,.tmp 7]) Proofs.Tryz.func252 rfl rfl rfl (by simp) ?_
 simp -dsimp (maxSteps:=1000000) (disch:=try exact dx) only[wpS,reduceEqDiff,reduceAdd,zc44,cells8]
 rw[←hH0]
 clear hH0
 have X0:=Ext.refl H0
 have La:load prog H0 44 (ptr (2*h.n) 0)=some (wdV a):=by
  have r:=row_of k0
  simp -dsimp (maxSteps:=1000000) (disch:=try exact dx) only[wpS,reduceLeDiff,ld44,r,wdC_len,wd_take0]
  rfl
 have Lb:load prog H0 44 (ptr (2*(h.n+1)) 0)=some (wdV b):=by
  have r:=row_of k1
  simp -dsimp (maxSteps:=1000000) (disch:=try exact dx) only[wpS,reduceLeDiff,ld44,r,wdC_len,wd_take0]
  rfl
 refine drawn [(2,[6,7]),(3,[0]),(5,[0,4])] (by kernel_rfl) (by kernel_rfl) rfl ?_
 simp -dsimp (maxSteps:=1000000) (disch:=try exact dx) only[wpS]
 refine call operations_ok ?_
 rintro _ h1 ⟨X1,gm,mn,rfl⟩
 have m1:=X1.n
 have lk : ∀H,Ext h1 H→lookup prog H 314 (.map (some (2*H0.n))) (.int .u8 sg) false=some f:=fun H X=>by
  rw[lookup_eq1 mapTop kt (X.kept mn gm) ⟨_,rfl⟩ opsL_keys,hasc];rfl
 simp -dsimp (maxSteps:=1000000) (disch:=try exact dx) only[wpS,reduceEqDiff,reduceLeDiff,ld44,lk h1 (Ext.refl _),row_of (X1.kept (by omega) k0),wdC_len,wd_take0]
 refine call (read_ok a aw) ?_
 rintro _ h2 ⟨X2,rfl⟩
 have m2:=X2.n
 have X12:=X1.trans X2
 rw[ia,decide_eq_false (by omega),Int.natAbs_natCast]
 simp -dsimp (maxSteps:=1000000) (disch:=try exact dx) only[wpS,reduceEqDiff,reduceLeDiff,ld44,row_of (X12.kept (by omega) k1),wdC_len,wd_take0]
 refine call (read_ok b bw) ?_
 rintro _ h3 ⟨X3,rfl⟩
 have m3:=X3.n
 have X13:=X12.trans X3
 rw[ib,decide_eq_false (by omega),Int.natAbs_natCast]
 simp -dsimp (maxSteps:=1000000) (disch:=try exact dx) only[wpS,reduceEqDiff]
 refine call (hf h3) ?_
 rintro _ h4 ⟨X4,rfl⟩
 have m4:=X4.n
 have X14:=X13.trans X4
 have q2:=X14.kept (by omega) k2
 have Z1:=Ext.refl h1
 have X23:=X2.trans X3
 simp -dsimp (maxSteps:=1000000) (disch:=try exact dx) only[wpS,wpT,reduceEqDiff,reduceLeDiff,reduceAdd,zc201,st201,num_cells,wdC_len,wdC_all,wd_spl]
 refine⟨wpSteady_c2 (wpSteady_t2 (wpSteady_one rfl rfl rfl rfl (steady_lk rfl rfl (lk h1 Z1) (lk h2 X2))) (wpSteady_one rfl rfl rfl rfl (steady_lk rfl rfl (lk h1 Z1) (lk h3 X23)))) (wpSteady_c2 (wpSteady_one rfl rfl rfl rfl (steady_ext (H0:=H0) rfl (by omega) X1 X0 La)) (wpSteady_t2 (wpSteady_one rfl rfl rfl rfl (steady_ext (H0:=H0) rfl (by omega) X12 X0 Lb)) (wpSteady_one rfl rfl rfl rfl (steady_ext (H0:=H0) rfl (by omega) X12 X1 Lb)))),?_⟩
 simp -dsimp (maxSteps:=1000000) (disch:=try exact dx) only[wpS,wpT,reduceEqDiff,reduceLeDiff,reduceAdd,ld201,num_take9,wdC_len,show(.agg (Value.bool false :: wdC m).toArray:Value)=numV false m from rfl]
 refine call (numTold_ok false m hm) ?_
 rintro _ h5 ⟨X5,rfl⟩
 have e4:Ext h4 ((h4.new (.cells [.bool false,ZW,ZW,ZW,ZW,ZW,ZW,ZW,ZW] 0 none)).put h4.n (.cells (.bool false :: wdC m) 0 none)):=((Ext.refl _).new _).put (Nat.le_refl _) _
 have q4:((h4.new (.cells [.bool false,ZW,ZW,ZW,ZW,ZW,ZW,ZW,ZW] 0 none)).put h4.n (.cells (.bool false :: wdC m) 0 none)).ext.get (h.n+1+1)=some (.cells [ZW,ZW,ZW,ZW,ZW,ZW,ZW,ZW] 0 none):=e4.kept (by omega) q2
 have q5:=X5.kept (by simp only[new_n,put_n];omega) q4
 have m5:=X5.n
 simp only[new_n,put_n] at m5
 have EE:=((E0.trans X14).trans e4).trans X5
 by_cases cm:m<H8
 ·rw[if_neg (show ¬(H8<m∨(m=H8∧false=false)) from fun hh=>by rcases hh with h|⟨h,_⟩<;>omega),if_neg (show ¬(false=true) by decide),if_pos cm]
  simp -dsimp (maxSteps:=1000000) (disch:=try exact dx) only[wpS,wpT,reduceEqDiff,reduceLeDiff,reduceAdd,ld44,st44,q5,cells8,wdC_len,wdC_all,wd_spl,wd_take0]
  exact⟨EE.put (by omega) _,rfl⟩
 ·rw[if_pos (show(H8<m∨(m=H8∧false=false)) from by by_cases hh:H8<m;exact .inl hh;exact .inr ⟨by omega,rfl⟩),if_neg cm]
  simp -dsimp (maxSteps:=1000000) (disch:=try exact dx) only[wpS,wpT,reduceEqDiff,reduceLeDiff,reduceAdd,ld44,st44,q5,cells8,wdC_len,wdC_all,wd_spl,wd_take0]
  exact⟨EE.put (by omega) _,rfl⟩
theorem add_ok0 (a b:Nat) (ha:a<H8) (hb:b<H8):a+b<W8:=by have:=H8_two;omega
theorem waddN_ok {h:IH} (a b:Nat) (ha:a<H8) (hb:b<H8):WV prog (.func (.func 223) #[] #[]) [wdV a,wdV b] h fun r h'=>Ext h h'∧r=if a+b<H8 then .tuple #[wdV (a+b),KI 0] else .tuple #[wdV 0,KI 6]:=by
 have w0:(0:Nat)<W8:=by have:=H8_two;have:=H8_pos;omega
 obtain⟨H0,hH0,n0,E0,k0,k1,k2⟩:=boxes3 h (wdC a) (wdC b) [ZW,ZW,ZW,ZW,ZW,ZW,ZW,ZW]
 refine enter (nt:=11) (rs:=[.cell 4 44,.tmp 5]) Proofs.Tryz.func223 rfl rfl rfl (by simp) ?_
 simp -dsimp (maxSteps:=1000000) (disch:=try exact dx) only[wpS,reduceEqDiff,reduceLeDiff,reduceAdd,zc44,ld44,cells8,wdC_len,wd_take0]
 rw[←hH0]
 clear hH0
 refine call (both_ok a b (a+b) ha hb 43 _ asc43 (add_ok0 a b ha hb) (fun h1=>sumPP_ok a b (add_ok0 a b ha hb))) ?_
 rintro _ h1 ⟨X1,rfl⟩
 have q2:=X1.kept (by omega) k2
 by_cases c:a+b<H8
 ·rw[if_pos c]
  simp -dsimp (maxSteps:=1000000) (disch:=try exact dx) only[wpS,wpT,reduceEqDiff,reduceLeDiff,reduceAdd,ld44,st44,q2,cells8,wdC_len,wdC_all,wd_spl,wd_take0]
  exact⟨(E0.trans X1).put (by omega) _,rfl⟩
 ·rw[if_neg c]
  simp -dsimp (maxSteps:=1000000) (disch:=try exact dx) only[wpS,wpT,reduceEqDiff,reduceLeDiff,reduceAdd,ld44,st44,q2,cells8,wdC_len,wdC_all,wd_spl,wd_take0]
  exact⟨(E0.trans X1).put (by omega) _,rfl⟩
theorem wsubN_ok {h:IH} (a b:Nat) (ha:a<H8) (b0:0<b) (hab:b≤a):WV prog (.func (.func 254) #[] #[]) [wdV a,wdV b] h fun r h'=>Ext h h'∧r=.tuple #[wdV (a - b),KI 0]:=by
 obtain⟨H0,hH0,n0,E0,k0,k1,k2⟩:=boxes3 h (wdC a) (wdC b) [ZW,ZW,ZW,ZW,ZW,ZW,ZW,ZW]
 refine enter (nt:=11) (rs:=[.cell 4 44,.tmp 5]) Proofs.Tryz.func254 rfl rfl rfl (by simp) ?_
 simp -dsimp (maxSteps:=1000000) (disch:=try exact dx) only[wpS,reduceEqDiff,reduceLeDiff,reduceAdd,zc44,ld44,cells8,wdC_len,wd_take0]
 rw[←hH0]
 clear hH0
 have aw:a<W8:=by have:=H8_two;omega
 refine call (both_ok a b (a - b) ha (by omega) 45 _ asc45 (by omega) (fun h1=>difference_ok a b aw b0 hab)) ?_
 rintro _ h1 ⟨X1,rfl⟩
 have q2:=X1.kept (by omega) k2
 rw[if_pos (show a - b<H8 by omega)]
 simp -dsimp (maxSteps:=1000000) (disch:=try exact dx) only[wpS,wpT,reduceEqDiff,reduceLeDiff,reduceAdd,ld44,st44,q2,cells8,wdC_len,wdC_all,wd_spl,wd_take0]
 exact⟨(E0.trans X1).put (by omega) _,rfl⟩
end Go.Id
