/-
  Tables of functions whose values are known; what a closed function gives. Tables of functions on numbers.
-/
import Derived.Test.YtjhnilfelokpcaaGreatOutlierTellsBm
import Derived.Test.YtjhnilfelokpcaaGreatOutlierTellsBn
import Derived.Test.YtjhnilfelokpcaaGreatOutlierTellsAq
import Derived.Test.YtjhnilfelokpcaaGreatOutlierTellsAr
import Derived.Test.YtjhnilfelokpcaaGreatOutlierTellsBg
import Derived.Test.YtjhnilfelokpcaaGreatOutlierTellsBh
set_option linter.unusedVariables false
set_option linter.unusedSimpArgs false
set_option linter.defProp false
set_option linter.deprecated false
namespace Go.Id
open Go
noncomputable section
def tbOf (l:List (FuncId×(List Value→Option Value))) (f:FuncId):Option (List Value→Option Value):=List.rec (motive:=fun _=>Option (List Value→Option Value)) none (fun p _ ih=>iB (Nat.beq f p.1) (some p.2) ih) l
def EntryOK (P:Program) (f:FuncId) (g:List Value→Option Value):Prop :=
 (∃fn,P.funcs[f]?=some fn∧fn.body.isSome=true) ∧ ∀args v,args.all plain=true→g args=some v→plainT v=true∧Gives P f args v
theorem tbOf_mem : ∀{l:List (FuncId×(List Value→Option Value))} {f:FuncId} {g:List Value→Option Value},tbOf l f=some g→(f,g)∈l
 | [],_,_,h=>by cases h
 | p :: l,f,g,h=>by
  change iB (Nat.beq f p.1) (some p.2) (tbOf l f)=some g at h
  rw[iB_eq] at h
  cases hb:Nat.beq f p.1 with
  | true =>
   rw[hb] at h;cases h
   have:=Nat.beq_eq.mp hb
   subst this
   exact List.mem_cons_self
  | false =>
   rw[hb] at h
   exact List.mem_cons_of_mem _ (tbOf_mem h)
theorem sound_tb {P:Program} (S:Sound (E0 P)) {l:List (FuncId×(List Value→Option Value))} (h : ∀p∈l,EntryOK P p.1 p.2):Sound (E1 P (tbOf l)) :=
 sound1 S (fun f g hg=>(h _ (tbOf_mem hg)).1) (fun f g hg=>(h _ (tbOf_mem hg)).2)
theorem entry_wv {P:Program} (S:Sound (E0 P)) {f:FuncId} {fn:Func} (hf:P.funcs[f]?=some fn) (hb:fn.body.isSome=true) {g:List Value→Option Value}
  (h : ∀args v,args.all plain=true→g args=some v→plainT v=true∧WV P (.func (.func f) #[] #[]) args (IH.start fun _=>none) fun r _=>r=v):EntryOK P f g :=
 ⟨⟨fn,hf,hb⟩,fun args v hp e=>⟨(h args v hp e).1,gives_wv S ⟨fn,hf,hb⟩ hp (h args v hp e).2⟩⟩
def okT (args:List Value):Option Value:=match args with
 | []=>some (.bool true)
 | _=>none
theorem entry_true {E:Env} (S:Sound E) {n:Nat} {f:FuncId} {fn:Func} (hf:E.P.funcs[f]?=some fn) (hb:fn.body.isSome=true) (h:boolF E (n+1) f (fun _=>none)=true):EntryOK E.P f okT:=by
 refine⟨⟨fn,hf,hb⟩,fun args v hp e=>?_⟩
 unfold okT at e
 split at e
 ·cases e
  obtain⟨h',hr⟩:=boolF_true h
  exact⟨rfl,gives_run S hr ⟨fn,hf,hb⟩ hp⟩
 ·cases e
end
end Go.Id

namespace Go.Id
open Go
noncomputable section
abbrev NumE:=FuncId×(List NK×(List NV→Option NR))
def tnOf (l:List NumE) (f:FuncId):Option (List Value→IH→Option (Value×IH)):=List.rec (motive:=fun _=>Option (List Value→IH→Option (Value×IH))) none (fun p _ ih=>iB (Nat.beq f p.1) (some (nint p.2.1 p.2.2)) ih) l
theorem tnOf_mem : ∀{l:List NumE} {f:FuncId} {g:List Value→IH→Option (Value×IH)},tnOf l f=some g → ∃p∈l,p.1=f∧g=nint p.2.1 p.2.2
 | [],_,_,h=>by cases h
 | p :: l,f,g,h=>by
  change iB (Nat.beq f p.1) (some (nint p.2.1 p.2.2)) (tnOf l f)=some g at h
  rw[iB_eq] at h
  cases hb:Nat.beq f p.1 with
  | true =>
   rw[hb] at h;cases h
   exact⟨p,List.mem_cons_self,(Nat.beq_eq.mp hb).symm,rfl⟩
  | false =>
   rw[hb] at h
   obtain⟨q,h1,h2⟩:=tnOf_mem h
   exact⟨q,List.mem_cons_of_mem _ h1,h2⟩
theorem sound_tn {P:Program} (S:Sound (E0 P)) {tb:List (FuncId×(List Value→Option Value))} (h : ∀p∈tb,EntryOK P p.1 p.2) {tn:List NumE} (k : ∀p∈tn,NumFn P p.1 p.2.2):Sound (E2 P (tbOf tb) (tnOf tn)) :=
 sound2 S (sound_tb S h) fun f g hg=>by
  obtain⟨p,h1,h2,h3⟩:=tnOf_mem hg
  exact⟨p.2.1,p.2.2,h3,h2▸k p h1⟩
end
end Go.Id

namespace Go.Proofs.YtjhnilfelokpcaaGreat
open Go.ChangeShapes Go.WideShapes Go.ChangeAt Go.RowKit Go.Id
noncomputable def tn2:List NumE:=[(114,[.val],readS),(116,[.val],rfromS),(153,[.long],wholeS),(105,[.rat],rtoldS),(216,[.rat],rturnS),(117,[.rat,.rat],rplusS),(160,[.rat,.rat],rminusS),(118,[.rat,.rat],rtimesS),(152,[.rat,.rat],roverS),(107,[.rat,.rat],rcmpS),(66,[.val],wlongerS),(64,[.val],wfromS),(68,[.long],wtoldS),(246,[.long],wturnS),(115,[.long],wsideS),(201,[.long,.long],wplusS),(243,[.long,.long],wminusS),(67,[.long,.long],wtimesS),(196,[.long,.long],wcmpS),(199,[.long,.long],wcommonS),(218,[.long,.long],wpartsS)]
theorem num_2 : ∀p∈tn2,NumFn Tryz.prog p.1 p.2.2:=by
 intro p hp
 simp only[tn2,List.mem_cons,List.not_mem_nil,or_false] at hp
 rcases hp with rfl|rfl|rfl|rfl|rfl|rfl|rfl|rfl|rfl|rfl|rfl|rfl|rfl|rfl|rfl|rfl|rfl|rfl|rfl|rfl|rfl
 ·exact num_read
 ·exact num_rfrom
 ·exact num_whole
 ·exact num_rtold
 ·exact num_rturn
 ·exact num_rplus
 ·exact num_rminus
 ·exact num_rtimes
 ·exact num_rover
 ·exact num_rcmp
 ·exact num_wlonger
 ·exact num_wfrom
 ·exact num_wtold
 ·exact num_wturn
 ·exact num_wside
 ·exact num_wplus
 ·exact num_wminus
 ·exact num_wtimes
 ·exact num_wcmp
 ·exact num_wcommon
 ·exact num_wparts
noncomputable def tb2:List (FuncId×(List Value→Option Value)):=[(197,make2),(108,of2),(43,of2),(113,check1),(36,cmp2)]
theorem val_2 : ∀p∈tb2,EntryOK Tryz.prog p.1 p.2:=by
 intro p hp
 simp only[tb2,List.mem_cons,List.not_mem_nil,or_false] at hp
 rcases hp with rfl|rfl|rfl|rfl|rfl
 ·exact entry_wv Tryz.sound Tryz.func197 rfl val_make
 ·exact entry_wv Tryz.sound Tryz.func108 rfl val_of
 ·exact entry_wv Tryz.sound Tryz.func43 rfl val_of02
 ·exact entry_wv Tryz.sound Tryz.func113 rfl val_check
 ·exact entry_wv Tryz.sound Tryz.func36 rfl val_cmp
theorem sound_2:Sound (E2 Tryz.prog (tbOf tb2) (tnOf tn2)):=sound_tn Tryz.sound val_2 num_2
end Go.Proofs.YtjhnilfelokpcaaGreat

namespace Go.Proofs.YtjhnilfelokpcaaGreat
open Go.ChangeShapes Go.WideShapes Go.ChangeAt Go.RowKit Go.Id
theorem works38_true:boolF (E2 Tryz.prog (tbOf tb2) (tnOf tn2)) (4999+1) 28 (fun _=>none)=true:=by decide +kernel
noncomputable def tbO:FuncId→Option (List Value→Option Value):=tbOf [(28,okT)]
theorem sound_O:Sound (E1 Tryz.prog tbO):=sound_tb Tryz.sound fun p hp=>by
 obtain rfl:=List.mem_singleton.1 hp
 exact entry_true (E:=E2 Tryz.prog (tbOf tb2) (tnOf tn2)) sound_2 Tryz.func28 rfl works38_true
end Go.Proofs.YtjhnilfelokpcaaGreat

namespace Go.Id
open Go
open Nat (reduceAdd reduceEqDiff reduceLeDiff)
set_option maxHeartbeats 16000000
def nowAt (l:List (Nat×Nat)):Nat→Nat
 | 0=>0
 | i+1=>if 0<i∧l[i]?≠l[i - 1]? then 1 else nowAt l i+1
def mostAt (l:List (Nat×Nat)):Nat→Nat
 | 0=>0
 | i+1=>max (mostAt l i) (nowAt l (i+1))
theorem nowAt_le (l:List (Nat×Nat)) : ∀i,nowAt l i≤i
 | 0=>Nat.le_refl _
 | i+1=>by
  have:=nowAt_le l i
  rw[nowAt];split<;>omega
theorem mostAt_le (l:List (Nat×Nat)) : ∀i,mostAt l i≤i
 | 0=>Nat.le_refl _
 | i+1=>by
  have:=mostAt_le l i
  have:=nowAt_le l (i+1)
  rw[mostAt];omega
def stuckRes (l:List (Nat×Nat)):Value:=if chErr l=0 then .tuple #[KN (mostAt l l.length),KI 0] else .tuple #[KI 0,KI (chErr l)]
theorem dgStuck_ok {h:IH} {v:Value} {l:List (Nat×Nat)} (hv:ShSl h v l) :
  WV Proofs.Tryz.prog (.func (.func 112) #[] #[]) [v] h fun r h'=>Ext h h'∧r=stuckRes l:=by
 have her:=chErr_range l
 refine enter (nt:=39) (rs:=[.tmp 2,.tmp 3]) Proofs.Tryz.func112 rfl rfl rfl (by simp) ?_
 simp -dsimp (maxSteps:=1000000) (disch:=try exact dx) only[wpS,reduceEqDiff]
 refine call (dgcheck_ok hv) ?_
 rintro _ h1 ⟨X1,rfl⟩
 unfold stuckRes
 by_cases he:chErr l=0
 case neg =>
  rw[if_neg he]
  have he':(chErr l == 0)=false:=by simpa using he
  simp -dsimp (maxSteps:=1000000) (disch:=try exact dx) only[wpS,wpT,reduceEqDiff]
  exact X1
 rw[if_pos he,he]
 obtain⟨e1,e2,e3⟩:=chErr_iff.1 he
 simp -dsimp (maxSteps:=1000000) (disch:=try exact dx) only[wpS,wpT,reduceEqDiff,hv.1.len sl82]
 refine loop (fun m fr hh => ∃i:Nat,i+m=l.length∧Ext h hh∧fget fr 0=some v∧fget fr 5=some (KN (mostAt l i))∧fget fr 6=some (KN (nowAt l i))∧fget fr 14=some v∧fget fr 15=some (KN l.length)∧fget fr 16=some (KN i)) l.length
  ⟨0,by omega,X1,by simp,by simp[mostAt],by simp[nowAt],by simp,by simp,by simp⟩ ?_
 rintro m fr hh ⟨i,him,hE,f0,f5,f6,f14,f15,f16⟩
 simp -dsimp (maxSteps:=1000000) (disch:=try exact dx) only[wpS,f15,f16]
 refine bq_intro ?_ ?_<;>intro hc<;>simp only[decide_eq_true_eq,decide_eq_false_iff_not] at hc
 ·have hi:i<l.length:=by omega
  obtain⟨p,hp⟩ : ∃p,l[i]?=some p:=⟨_,List.getElem?_eq_getElem hi⟩
  obtain⟨w1,w2⟩:=hv.2.2 p (List.mem_of_getElem? hp)
  have nl:=nowAt_le l i
  have ml:=mostAt_le l i
  have nl1:=nowAt_le l (i+1)
  have fin : ∀(n':Nat),n'+1=nowAt l (i+1)→(if (mostAt l i:Int)<((n':Int)+1) then ((n':Int)+1) else (mostAt l i:Int))=((mostAt l (i+1):Nat):Int):=by
   intro n' hn'
   rw[mostAt,←hn']
   split<;>omega
  have x1:Ext hh ((hh.new (.cells Z16 0 none)).put hh.n (.cells (shC p.1 p.2) 0 none)):=((Ext.refl _).new _).put (Nat.le_refl _) _
  simp -dsimp (maxSteps:=1000000) (disch:=try exact dx) only[wpS,wpT,reduceEqDiff,reduceLeDiff,reduceAdd,zc48,st48,f14,f16,hv.1.idx es82 hi,hv.ld hE.keep hp,shV_cells,shC_len,shC_all,sh_sp3]
  by_cases h0:i=0
  ·subst h0
   have n0:nowAt l (0+1)=0+1:=by rw[nowAt,if_neg (by omega)];rfl
   have n00:nowAt l 0=0:=rfl
   rw[n00] at f6
   have:=fin 0 n0.symm
   simp -dsimp (maxSteps:=1000000) (disch:=try exact dx) only[wpS,wpT,reduceEqDiff,f5,f6,f16,max_ii,this]
   exact⟨m - 1,by omega,0+1,by omega,hE.trans x1,by simp[f0],by simp,by simp[n0],by simp[f14],by simp[f15],by simp⟩
  ·obtain⟨q,hq⟩ : ∃p,l[i - 1]?=some p:=⟨_,List.getElem?_eq_getElem (by omega)⟩
   obtain⟨w3,w4⟩:=hv.2.2 q (List.mem_of_getElem? hq)
   have c0:decide ((0:Int)<(i:Int))=true:=decide_eq_true (by omega)
   have ei:(i:Int) - 1=((i - 1:Nat):Int):=by omega
   have hne : ∀ox oy,binop Proofs.Tryz.prog .neq 48 ox oy (.agg (shC p.1 p.2).toArray) (shV q.1 q.2)=some (.bool (!decide (p.1=q.1∧p.2=q.2))):=fun ox oy=>sh_neq w1 w2 w3 w4 ox oy
   have hpq:(p.1=q.1∧p.2=q.2)↔l[i]?=l[i - 1]?:=by
    rw[hp,hq,Option.some.injEq]
    exact Prod.ext_iff.symm
   by_cases hd:p.1=q.1∧p.2=q.2
   ·have n1:nowAt l (i+1)=nowAt l i+1:=by rw[nowAt,if_neg (fun h=>h.2 (hpq.1 hd))]
    have:=fin _ n1.symm
    rw[decide_eq_true hd] at hne
    simp -dsimp (maxSteps:=1000000) (disch:=try exact dx) only[wpS,wpT,reduceEqDiff,reduceLeDiff,ld48,f0,f5,f6,f16,c0,ei,shC_len,sh_take,hv.1.idx es82 (show i - 1<l.length by omega),hv.ld (hE.trans x1).keep hq,hne,max_ii,this]
    exact⟨m - 1,by omega,i+1,by omega,hE.trans x1,by simp[f0],by simp,by simp[n1],by simp[f14],by simp[f15],by simp⟩
   ·have n1:nowAt l (i+1)=0+1:=by rw[nowAt,if_pos ⟨by omega,fun h=>hd (hpq.2 h)⟩]
    have:=fin 0 n1.symm
    rw[show((0:Nat):Int)+1=1 from rfl] at this
    rw[decide_eq_false hd] at hne
    simp -dsimp (maxSteps:=1000000) (disch:=try exact dx) only[wpS,wpT,reduceEqDiff,reduceLeDiff,ld48,f0,f5,f6,f16,c0,ei,shC_len,sh_take,hv.1.idx es82 (show i - 1<l.length by omega),hv.ld (hE.trans x1).keep hq,hne,max_ii]
    exact⟨m - 1,by omega,i+1,by omega,hE.trans x1,by simp[f0],by simp[this],by simp[n1],by simp[f14],by simp[f15],by simp⟩
 ·obtain rfl:i=l.length:=by omega
  simp -dsimp (maxSteps:=1000000) (disch:=try exact dx) only[wpS,wpT,reduceEqDiff,f5]
  exact hE
end Go.Id

namespace Go.Id
open Go
open Nat (reduceAdd reduceEqDiff reduceLeDiff)
set_option maxHeartbeats 16000000
def upTo (l:List (Nat×Nat)) (k:Nat):Nat→Nat
 | 0=>0
 | i+1=>if rOf (l.getD i (0,0))≤rOf (l.getD k (0,0)) then upTo l k i+1 else upTo l k i
theorem upTo_le (l:List (Nat×Nat)) (k:Nat) : ∀i,upTo l k i≤i
 | 0=>Nat.le_refl _
 | i+1=>by
  have:=upTo_le l k i
  rw[upTo];split<;>omega
def extR (l:List (Nat×Nat)) (k:Nat):Rat:=(((upTo l k l.length:Nat):Int):Rat) / (((l.length:Nat):Int):Rat)
theorem cmp_le (x y:Rat) : ∃z:Int,(if x<y then (-1:Int) else if x=y then 0 else 1)=z∧(z≤0↔x≤y):=by
 refine⟨_,rfl,?_⟩
 by_cases h1:x<y
 ·rw[if_pos h1];exact⟨fun _=>Rat.le_of_lt h1,fun _=>by decide⟩
 ·rw[if_neg h1]
  by_cases h2:x=y
  ·rw[if_pos h2];exact⟨fun _=>h2▸Rat.le_refl,fun _=>by decide⟩
  ·rw[if_neg h2];exact⟨fun h=>absurd h (by decide),fun h=>absurd (Rat.le_antisymm h (Rat.not_lt.1 h1)) h2⟩
theorem pair_rat {h:IH} {v:Value} {p:Nat×Nat} (ok:okS p.1 p.2) (q:PPair h v (wdI p.1) (wdI p.2)):PRat h v (rOf p):=by
 show PPair h v (rOf p).num ((rOf p).den:Int)
 rw[(rOf_parts ok).1,(rOf_parts ok).2]
 exact q
theorem extremity_ok {h:IH} {v:Value} {l:List (Nat×Nat)} {k:Nat} (hv:ShSl h v l) (hok:allOk l) (hl:l.length≤200) (hk:k<l.length) :
  WV Proofs.Tryz.prog (.func (.func 104) #[] #[]) [v,KN k] h fun r h'=>Ext h h'∧PRat h' r (extR l k):=by
 obtain⟨q,hq⟩ : ∃q,l[k]?=some q:=⟨_,List.getElem?_eq_getElem hk⟩
 have qm:=List.mem_of_getElem? hq
 obtain⟨w3,w4⟩:=hv.2.2 q qm
 have okq:=hok q qm
 have gq:l.getD k (0,0)=q:=by rw[List.getD_eq_getElem?_getD,hq];rfl
 refine enter (nt:=32) (rs:=[.cell 4 169]) Proofs.Tryz.func104 rfl rfl rfl (by simp) ?_
 simp -dsimp (maxSteps:=1000000) (disch:=try exact dx) only[wpS,reduceEqDiff,reduceAdd,zc169,hv.1.len sl82]
 have E1:Ext h (h.new (.cells ZR 0 none)):=(Ext.refl h).new _
 refine loop (fun m fr hh => ∃i:Nat,i+m=l.length∧Ext h hh∧h.n<hh.n∧hh.ext.get h.n=some (.cells ZR 0 none)∧fget fr 0=some v∧fget fr 1=some (KN k)∧fget fr 4=some (ptr (2*h.n) 0)∧fget fr 5=some (KN (upTo l k i))∧fget fr 8=some v∧fget fr 9=some (KN l.length)∧fget fr 10=some (KN i)) l.length
  ⟨0,by omega,E1,by simp,by simp (disch:=try exact dx) only[get_new_same],by simp,by simp,by simp,by simp[upTo],by simp,by simp,by simp⟩ ?_
 rintro m fr hh ⟨i,him,hE,hn,hg,f0,f1,f4,f5,f8,f9,f10⟩
 simp -dsimp (maxSteps:=1000000) (disch:=try exact dx) only[wpS,f9,f10]
 refine bq_intro ?_ ?_<;>intro hc<;>simp only[decide_eq_true_eq,decide_eq_false_iff_not] at hc
 ·have hi:i<l.length:=by omega
  obtain⟨p,hp⟩ : ∃p,l[i]?=some p:=⟨_,List.getElem?_eq_getElem hi⟩
  have pm:=List.mem_of_getElem? hp
  obtain⟨w1,w2⟩:=hv.2.2 p pm
  have okp:=hok p pm
  have gp:l.getD i (0,0)=p:=by rw[List.getD_eq_getElem?_getD,hp];rfl
  simp -dsimp (maxSteps:=1000000) (disch:=try exact dx) only[wpS,wpT,reduceEqDiff,reduceLeDiff,reduceAdd,zc48,st48,f8,f10,hv.1.idx es82 hi,hv.ld hE.keep hp,shV_cells,shC_len,shC_all,sh_sp3]
  obtain⟨H0,hH0⟩ : ∃H0,H0=(hh.new (.cells Z16 0 none)).put hh.n (.cells (shC p.1 p.2) 0 none):=⟨_,rfl⟩
  have e0:Ext hh H0:=by rw[hH0];exact((Ext.refl hh).new _).put (Nat.le_refl _) _
  have n0:H0.n=hh.n+1:=by rw[hH0];rfl
  have gx:H0.ext.get hh.n=some (.cells (shC p.1 p.2) 0 none):=by rw[hH0];simp (disch:=try exact dx) only[get_put_same]
  have gz:=e0.kept hn hg
  rw[←hH0]
  clear hH0
  have X0:=Ext.refl H0
  have K0:Keep h H0:=(hE.trans e0).keep
  obtain⟨_,_,L1⟩:=psh gx
  refine drawn [(5,[1])] (by kernel_rfl) (by kernel_rfl) rfl ?_
  simp -dsimp (maxSteps:=1000000) (disch:=try exact dx) only[wpS,reduceEqDiff,reduceLeDiff,ld48,row_of gx,shC_len,sh_take]
  refine call (shread_ok p.1 p.2 w1 w2) ?_
  rintro a1 h1 ⟨X1,p1⟩
  have K1:Keep h h1:=(hE.trans (e0.trans X1)).keep
  simp -dsimp (maxSteps:=1000000) (disch:=try exact dx) only[wpS,reduceEqDiff,f0,f1,hv.1.idx es82 hk,hv.ld K1 hq]
  refine call (shread_ok q.1 q.2 w3 w4) ?_
  rintro a2 h2 ⟨X2,p2⟩
  simp -dsimp (maxSteps:=1000000) (disch:=try exact dx) only[wpS,reduceEqDiff]
  refine call (rcmp_ok ((pair_rat okp p1).keep X2.keep) (pair_rat okq p2) (qb512 w1 w2 okp) (qb512 w3 w4 okq) (by omega)) ?_
  rintro _ h3 ⟨X3,rfl⟩
  have X12:=X1.trans X2
  have X13:=X12.trans X3
  have K2:Keep h h2:=(hE.trans (e0.trans X12)).keep
  have K3:Keep h h3:=(hE.trans (e0.trans X13)).keep
  obtain⟨z,hz,hzl⟩:=cmp_le (rOf p) (rOf q)
  rw[hz]
  simp -dsimp (maxSteps:=1000000) (disch:=try exact dx) only[wpS,reduceEqDiff]
  refine⟨by repeat' first|refine wpSteady_c2 ?_ ?_|refine wpSteady_t2 ?_ ?_|exact wpSteady_one rfl rfl rfl rfl (steady_ext (H0:=H0) rfl (by omega) (by assumption) (by assumption) (by with_reducible assumption))|exact wpSteady_one rfl rfl rfl rfl (steady_load rfl (hv.ld (by assumption) hq) (hv.ld (by assumption) hq)),?_⟩
  have hE3:=hE.trans (e0.trans X13)
  have n3:=X13.n
  have g3:=X13.kept (by omega) gz
  have us:upTo l k (i+1)=if z≤0 then upTo l k i+1 else upTo l k i:=by
   rw[upTo,gp,gq]
   by_cases c:rOf p≤rOf q
   ·rw[if_pos c,if_pos (hzl.2 c)]
   ·rw[if_neg c,if_neg (fun h=>c (hzl.1 h))]
  by_cases c:z≤0
  ·rw[if_pos c] at us
   have d:decide (z≤0)=true:=decide_eq_true c
   have ul:=upTo_le l k i
   simp -dsimp (maxSteps:=1000000) (disch:=try exact dx) only[wpS,wpT,reduceEqDiff,reduceAdd,d,f5,f10]
   exact⟨m - 1,by omega,i+1,by omega,hE3,by omega,g3,by simp[f0],by simp[f1],by simp[f4],by simp[us],by simp[f8],by simp[f9],by simp⟩
  ·rw[if_neg c] at us
   have d:decide (z≤0)=false:=decide_eq_false c
   simp -dsimp (maxSteps:=1000000) (disch:=try exact dx) only[wpS,wpT,reduceEqDiff,reduceAdd,d,f10]
   exact⟨m - 1,by omega,i+1,by omega,hE3,by omega,g3,by simp[f0],by simp[f1],by simp[f4],by simp[f5,us],by simp[f8],by simp[f9],by simp⟩
 ·obtain rfl:i=l.length:=by omega
  have ul:=upTo_le l k l.length
  simp -dsimp (maxSteps:=1000000) (disch:=try exact dx) only[wpS,wpT,reduceEqDiff,f5]
  refine call (rfrom_ok (upTo l k l.length:Nat) ⟨by omega,by omega⟩) ?_
  rintro a1 h1 ⟨X1,p1⟩
  simp -dsimp (maxSteps:=1000000) (disch:=try exact dx) only[wpS,reduceEqDiff,f0,hv.1.len sl82]
  refine call (rfrom_ok (l.length:Nat) ⟨by omega,by omega⟩) ?_
  rintro a2 h2 ⟨X2,p2⟩
  simp -dsimp (maxSteps:=1000000) (disch:=try exact dx) only[wpS,reduceEqDiff]
  refine call (rover_ok (p1.keep X2.keep) p2 (QB.int (k:=64) (by omega)) (QB.int (k:=64) (by omega)) (by omega) (by
   intro h0
   have:((l.length:Nat):Int)=0:=Rat.intCast_inj.1 h0
   omega)) ?_
  rintro a3 h3 ⟨X3,p3⟩
  obtain⟨a,s,b,t,rfl,_,_,d1,o1,d2,o2,o3,o4⟩:=p3.parts
  have X13:=(X1.trans X2).trans X3
  have n3:=X13.n
  have g3:=X13.kept hn hg
  simp -dsimp (maxSteps:=1000000) (disch:=try exact dx) only[wpS,wpT,reduceEqDiff,reduceLeDiff,reduceAdd,st169,ld169,f4,g3,o1,o2,o3,o4,tk4']
  exact⟨(hE.trans X13).put (Nat.le_refl _) _,p3.keep ((Keep.refl _).put g3 _)⟩
def placeErr (l:List (Nat×Nat)) (at_:Int):Int:=if chErr l=0 then (if at_<0∨(l.length:Int)≤at_ then 2 else 0) else chErr l
theorem place_ok {h:IH} {v:Value} {l:List (Nat×Nat)} {j:Int} (hv:ShSl h v l) (hj:In64 j) :
  WV Proofs.Tryz.prog (.func (.func 103) #[] #[]) [v,KI j] h fun r h'=>Ext h h'∧r=KI (placeErr l j):=by
 unfold placeErr
 refine enter (nt:=23) (rs:=[.tmp 4]) Proofs.Tryz.func103 rfl rfl rfl (by simp) ?_
 simp -dsimp (maxSteps:=1000000) (disch:=try exact dx) only[wpS,reduceEqDiff,reduceAdd]
 refine call (dgStuck_ok hv) ?_
 rintro _ h1 ⟨X1,rfl⟩
 unfold stuckRes
 by_cases he:chErr l=0
 case neg =>
  rw[if_neg he,if_neg he]
  have he':(chErr l == 0)=false:=by simpa using he
  simp -dsimp (maxSteps:=1000000) (disch:=try exact dx) only[wpS,wpT,reduceEqDiff]
  exact X1
 rw[if_pos he,if_pos he]
 by_cases h0:j<0
 ·have d:decide (j<0)=true:=decide_eq_true h0
  rw[if_pos (.inl h0)]
  simp -dsimp (maxSteps:=1000000) (disch:=try exact dx) only[wpS,wpT,reduceEqDiff,d]
  exact X1
 ·have d:decide (j<0)=false:=decide_eq_false h0
  by_cases h2:(l.length:Int)≤j
  ·have d2:decide ((l.length:Int)≤j)=true:=decide_eq_true h2
   rw[if_pos (.inr h2)]
   simp -dsimp (maxSteps:=1000000) (disch:=try exact dx) only[wpS,wpT,reduceEqDiff,d,d2,hv.1.len sl82]
   exact X1
  ·have d2:decide ((l.length:Int)≤j)=false:=decide_eq_false h2
   rw[if_neg (by omega)]
   simp -dsimp (maxSteps:=1000000) (disch:=try exact dx) only[wpS,wpT,reduceEqDiff,d,d2,hv.1.len sl82]
   exact X1
end Go.Id

namespace Go.Id
open Go
end Go.Id

namespace Go.Id
open Go
end Go.Id

namespace Go.Id
open Go
open Nat (reduceAdd reduceEqDiff reduceLeDiff)
set_option maxHeartbeats 16000000
noncomputable def extRes (l:List (Nat×Nat)) (j:Int):Value:=if placeErr l j=0 then toldV (extR l j.toNat) else errV (placeErr l j)
theorem place_at {l:List (Nat×Nat)} {j:Int} (h:placeErr l j=0):chErr l=0∧l.length≤200∧allOk l∧j=(j.toNat:Nat)∧j.toNat<l.length:=by
 unfold placeErr at h
 by_cases he:chErr l=0
 ·rw[if_pos he] at h
  obtain⟨e1,e2,e3⟩:=chErr_iff.1 he
  by_cases c:j<0∨(l.length:Int)≤j
  ·rw[if_pos c] at h;omega
  ·exact⟨he,e1,e2,by omega,by omega⟩
 ·rw[if_neg he] at h;exact absurd h he
theorem placeErr_range (l:List (Nat×Nat)) (j:Int):0≤placeErr l j∧placeErr l j≤20:=by
 have:=chErr_range l
 unfold placeErr
 split
 ·split<;>omega
 ·omega
theorem olExtremity_ok {h:IH} {v:Value} {l:List (Nat×Nat)} {j:Int} (hv:ShSl h v l) (hj:In64 j) :
  WV Proofs.Tryz.prog (.func (.func 35) #[] #[]) [v,KI j] h fun r h'=>Ext h h'∧r=extRes l j:=by
 have her:=placeErr_range l j
 refine enter (nt:=20) (rs:=[.cell 4 48,.tmp 5]) Proofs.Tryz.func35 rfl rfl rfl (by simp) ?_
 simp -dsimp (maxSteps:=1000000) (disch:=try exact dx) only[wpS,reduceEqDiff,reduceAdd,zc48]
 have E1:Ext h (h.new (.cells Z16 0 none)):=(Ext.refl h).new _
 have g1:(h.new (.cells Z16 0 none)).ext.get h.n=some (.cells Z16 0 none):=by simp (disch:=try exact dx) only[get_new_same]
 refine call (place_ok (hv.keep E1.keep) hj) ?_
 rintro _ h1 ⟨X1,rfl⟩
 have m1:=X1.n
 simp only[new_n] at m1
 have k1:=X1.kept (by simp) g1
 unfold extRes
 by_cases he:placeErr l j=0
 ·rw[if_pos he,he]
  obtain⟨e0,e1,e2,e3,e4⟩:=place_at he
  generalize j.toNat=k at e3 e4 ⊢
  subst e3
  simp -dsimp (maxSteps:=1000000) (disch:=try exact dx) only[wpS,wpT,reduceEqDiff]
  refine call (extremity_ok (hv.keep (E1.trans X1).keep) e2 e1 e4) ?_
  rintro r3 h3 ⟨X3,p3⟩
  have m3:=X3.n
  simp -dsimp (maxSteps:=1000000) (disch:=try exact dx) only[wpS,reduceEqDiff]
  refine call (rtold_ok p3) ?_
  rintro _ h4 ⟨X4,rfl⟩
  have m4:=X4.n
  have kg:=X4.kept (by omega) (X3.kept (by omega) k1)
  obtain⟨n,d,e,hf⟩:=toldV_form (extR l k)
  have hf':=hf
  unfold toldV at hf'
  rw[hf',hf]
  simp -dsimp (maxSteps:=1000000) (disch:=try exact dx) only[wpS,wpT,reduceEqDiff,reduceLeDiff,reduceAdd,st48,ld48,kg,shV_cells,shC_len,shC_all,sh_sp3,sh_take]
  exact⟨(((E1.trans X1).trans X3).trans X4).put (by omega) _,rfl⟩
 ·rw[if_neg he]
  have he':(placeErr l j == 0)=false:=by simpa using he
  simp -dsimp (maxSteps:=1000000) (disch:=try exact dx) only[wpS,wpT,reduceEqDiff,reduceLeDiff,reduceAdd,bv48,st48,ld48,k1,sh_tz]
  exact⟨(E1.trans X1).put (by omega) _,by rw[sh_zeroV]⟩
end Go.Id

namespace Go.Id
open Go
end Go.Id

namespace Go.Id
open Go
open Nat (reduceAdd reduceEqDiff reduceLeDiff)
set_option maxHeartbeats 16000000
def passB (x p:Rat) (mid:Bool):Bool:=if mid=true then decide (x≤p) else decide (x+x≤p*p)
open Classical in
noncomputable def passRes (l:List (Nat×Nat)) (p:Nat×Nat) (mid:Bool) (j:Int):Value :=
 if chErr l≠0 then .tuple #[.bool false,KI (chErr l)] else if ¬okS p.1 p.2 then .tuple #[.bool false,KI 20]
 else if placeErr l j≠0∨rOf p≤0∨1<rOf p then .tuple #[.bool false,KI 2] else .tuple #[.bool (passB (extR l j.toNat) (rOf p) mid),KI 0]
theorem ext_qb {l:List (Nat×Nat)} {k:Nat} (hl:l.length≤200) (hk:k<l.length):QB 128 (extR l k):=by
 have ul:=upTo_le l k l.length
 refine QB.div (a:=64) (b:=64) (QB.int (by omega)) (QB.int (by omega)) ?_
 intro h0
 have:((l.length:Nat):Int)=0:=Rat.intCast_inj.1 h0
 omega
theorem cmp_gt (x y:Rat) : ∃z:Int,(if x<y then (-1:Int) else if x=y then 0 else 1)=z∧(0<z↔y<x):=by
 obtain⟨z,h1,h2⟩:=cmp_le x y
 exact⟨z,h1,by rw[←Rat.not_le,←h2];omega⟩
theorem side_le (q:Rat) : ∃z:Int,(if q.num<0 then (-1:Int) else if q.num=0 then 0 else 1)=z∧(z≤0↔q≤0):=by
 refine⟨_,rfl,?_⟩
 have hle:q≤0↔q.num≤0:=by rw[Rat.le_iff];simp
 rw[hle]
 split
 ·omega
 ·split<;>omega
theorem olPasses_ok {h:IH} {v:Value} {l:List (Nat×Nat)} {p:Nat×Nat} {mid:Bool} {j:Int} (hv:ShSl h v l) (hp:p.1<W8∧p.2<W8) (hj:In64 j) :
  WV Proofs.Tryz.prog (.func (.func 40) #[] #[]) [v,shV p.1 p.2,.bool mid,KI j] h fun r h'=>Ext h h'∧r=passRes l p mid j:=by
 have her:=chErr_range l
 have hpr:=placeErr_range l j
 refine enter (nt:=59) (rs:=[.tmp 8,.tmp 9]) Proofs.Tryz.func40 rfl rfl rfl (by simp) ?_
 simp -dsimp (maxSteps:=1000000) (disch:=try exact dx) only[wpS,reduceEqDiff,reduceAdd,shV_cells]
 obtain⟨H0,hH0⟩ : ∃H0,H0=h.new (.cells (shC p.1 p.2) 0 none):=⟨_,rfl⟩
 have E0:Ext h H0:=by rw[hH0];exact(Ext.refl h).new _
 have n0:H0.n=h.n+1:=by rw[hH0];rfl
 have g0:H0.ext.get h.n=some (.cells (shC p.1 p.2) 0 none):=by rw[hH0];simp (disch:=try exact dx) only[get_new_same]
 rw[←hH0]
 clear hH0
 refine call (dgStuck_ok (hv.keep E0.keep)) ?_
 rintro _ h1 ⟨X1,rfl⟩
 have m1:=X1.n
 have k1:=X1.kept (by omega) g0
 unfold stuckRes passRes
 by_cases hc:chErr l=0
 case neg =>
  have he':(chErr l == 0)=false:=by simpa using hc
  rw[if_neg hc,if_pos hc]
  simp -dsimp (maxSteps:=1000000) (disch:=try exact dx) only[wpS,wpT,reduceEqDiff]
  exact E0.trans X1
 rw[if_pos hc,if_neg (fun h=>h hc)]
 simp -dsimp (maxSteps:=1000000) (disch:=try exact dx) only[wpS,wpT,reduceEqDiff,reduceLeDiff,ld48,row_of k1,shC_len,sh_take]
 refine call (shcheck_ok p.1 p.2 hp.1 hp.2) ?_
 rintro _ h2 ⟨X2,rfl⟩
 have m2:=X2.n
 have k2:=X2.kept (by omega) k1
 by_cases ok:okS p.1 p.2
 case neg =>
  rw[if_neg ok,if_pos ok]
  simp -dsimp (maxSteps:=1000000) (disch:=try exact dx) only[wpS,wpT,reduceEqDiff]
  exact(E0.trans X1).trans X2
 rw[if_pos ok,if_neg (fun h=>h ok)]
 simp -dsimp (maxSteps:=1000000) (disch:=try exact dx) only[wpS,wpT,reduceEqDiff,reduceLeDiff,ld48,row_of k2,shC_len,sh_take]
 refine call (shread_ok p.1 p.2 hp.1 hp.2) ?_
 rintro _ h3 ⟨X3,p3⟩
 have p3:=pair_rat ok p3
 have m3:=X3.n
 obtain⟨a,s,b,t,rfl,hn1,hd1,d1,o1,d2,o2,o3,o4⟩:=p3.parts
 simp -dsimp (maxSteps:=1000000) (disch:=try exact dx) only[wpS,wpT,reduceEqDiff,reduceLeDiff,reduceAdd,zc169,st169,o1,o2,o3,o4]
 obtain⟨H3,hH3⟩ : ∃H,H=(h3.new (.cells ZR 0 none)).put h3.n (.cells [a,s,b,t] 0 none):=⟨_,rfl⟩
 have e3:Ext h3 H3:=by rw[hH3];exact((Ext.refl h3).new _).put (Nat.le_refl _) _
 have n3:H3.n=h3.n+1:=by rw[hH3];rfl
 have g3:H3.ext.get h3.n=some (.cells [a,s,b,t] 0 none):=by rw[hH3];simp (disch:=try exact dx) only[get_put_same]
 rw[←hH3]
 clear hH3
 have X0:=Ext.refl H3
 have E3:=((E0.trans X1).trans X2).trans (X3.trans e3)
 obtain⟨L1,_,L3⟩:=pl4 g3
 refine drawn [(11,[13])] (by kernel_rfl) (by kernel_rfl) rfl ?_
 simp -dsimp (maxSteps:=1000000) (disch:=try exact dx) only[wpS,reduceEqDiff]
 refine call (place_ok (hv.keep E3.keep) hj) ?_
 rintro _ h4 ⟨X4,rfl⟩
 have m4:=X4.n
 have k4:=X4.kept (by omega) g3
 by_cases c1:placeErr l j=0
 case neg =>
  have he':(placeErr l j == 0)=false:=by simpa using c1
  rw[if_pos (.inl c1)]
  simp -dsimp (maxSteps:=1000000) (disch:=try exact dx) only[wpS,wpT,reduceEqDiff]
  refine⟨by repeat' first|refine wpSteady_c2 ?_ ?_|refine wpSteady_t2 ?_ ?_|exact wpSteady_not rfl rfl rfl|exact wpSteady_one rfl rfl rfl rfl (steady_ext (H0:=H3) rfl (by omega) (by assumption) (by assumption) (by with_reducible assumption)),?_⟩
  simp -dsimp (maxSteps:=1000000) (disch:=try exact dx) only[wpS,wpT,reduceEqDiff,reduceAdd]
  exact E3.trans X4
 simp -dsimp (maxSteps:=1000000) (disch:=try exact dx) only[wpS,wpT,reduceEqDiff,reduceLeDiff,reduceAdd,fa169_0,ld123,c1,row_of k4,tkA]
 refine call (pside_ok (hn1.keep (e3.trans X4).keep)) ?_
 rintro _ h5 ⟨X5,rfl⟩
 have m5:=X5.n
 have X45:=X4.trans X5
 have k5:=X45.kept (by omega) g3
 obtain⟨z,hz,hzl⟩:=side_le (rOf p)
 rw[hz]
 by_cases c2:rOf p≤0
 ·have d2':decide (z≤0)=true:=decide_eq_true (hzl.2 c2)
  rw[if_pos (.inr (.inl c2))]
  simp -dsimp (maxSteps:=1000000) (disch:=try exact dx) only[wpS,wpT,reduceEqDiff,d2']
  refine⟨by repeat' first|refine wpSteady_c2 ?_ ?_|refine wpSteady_t2 ?_ ?_|exact wpSteady_not rfl rfl rfl|exact wpSteady_one rfl rfl rfl rfl (steady_ext (H0:=H3) rfl (by omega) (by assumption) (by assumption) (by with_reducible assumption)),?_⟩
  simp -dsimp (maxSteps:=1000000) (disch:=try exact dx) only[wpS,wpT,reduceEqDiff,reduceAdd]
  exact E3.trans X45
 have d2':decide (z≤0)=false:=decide_eq_false (fun h=>c2 (hzl.1 h))
 simp -dsimp (maxSteps:=1000000) (disch:=try exact dx) only[wpS,wpT,reduceEqDiff,reduceLeDiff,reduceAdd,ld169,d2',row_of k5,tk4']
 refine call (rfrom_ok 1 ⟨by omega,by omega⟩) ?_
 rintro _ h6 ⟨X6,p6⟩
 have m6:=X6.n
 have X46:=X45.trans X6
 simp -dsimp (maxSteps:=1000000) (disch:=try exact dx) only[wpS,wpT,reduceEqDiff]
 refine call (rcmp_ok (p3.keep (e3.trans X46).keep) p6 (qb512 hp.1 hp.2 ok) (QB.int (k:=1) (by decide)) (by omega)) ?_
 rintro _ h7 ⟨X7,rfl⟩
 have m7:=X7.n
 have X47:=X46.trans X7
 have k7:=X47.kept (by omega) g3
 obtain⟨z2,hz2,hzl2⟩:=cmp_gt (rOf p) ((1:Int):Rat)
 rw[hz2]
 by_cases c3:1<rOf p
 ·have d3':decide (0<z2)=true:=decide_eq_true (hzl2.2 c3)
  rw[if_pos (.inr (.inr c3))]
  simp -dsimp (maxSteps:=1000000) (disch:=try exact dx) only[wpS,wpT,reduceEqDiff,d3']
  refine⟨by repeat' first|refine wpSteady_c2 ?_ ?_|refine wpSteady_t2 ?_ ?_|exact wpSteady_not rfl rfl rfl|exact wpSteady_one rfl rfl rfl rfl (steady_ext (H0:=H3) rfl (by omega) (by assumption) (by assumption) (by with_reducible assumption)),?_⟩
  simp -dsimp (maxSteps:=1000000) (disch:=try exact dx) only[wpS,wpT,reduceEqDiff,reduceAdd]
  exact E3.trans X47
 have d3':decide (0<z2)=false:=decide_eq_false (fun h=>c3 (hzl2.1 h))
 rw[if_neg (fun h=>h.elim (fun h=>h c1) (fun h=>h.elim c2 c3))]
 simp -dsimp (maxSteps:=1000000) (disch:=try exact dx) only[wpS,wpT,reduceEqDiff,d3']
 refine⟨by repeat' first|refine wpSteady_c2 ?_ ?_|refine wpSteady_t2 ?_ ?_|exact wpSteady_not rfl rfl rfl|exact wpSteady_one rfl rfl rfl rfl (steady_ext (H0:=H3) rfl (by omega) (by assumption) (by assumption) (by with_reducible assumption)),?_⟩
 obtain⟨e0,e1,e2,e3',e4⟩:=place_at c1
 generalize j.toNat=k at e3' e4 ⊢
 subst e3'
 simp -dsimp (maxSteps:=1000000) (disch:=try exact dx) only[wpS,wpT,reduceEqDiff,reduceAdd]
 refine call (extremity_ok (hv.keep (E3.trans X47).keep) e2 e1 e4) ?_
 rintro _ h8 ⟨X8,p8⟩
 have m8:=X8.n
 obtain⟨a2,s2,b2,t2,rfl,_,_,_,o5,_,o6,o7,o8⟩:=p8.parts
 simp -dsimp (maxSteps:=1000000) (disch:=try exact dx) only[wpS,wpT,reduceEqDiff,reduceLeDiff,reduceAdd,zc169,st169,o5,o6,o7,o8]
 obtain⟨H8,hH8⟩ : ∃H,H=(h8.new (.cells ZR 0 none)).put h8.n (.cells [a2,s2,b2,t2] 0 none):=⟨_,rfl⟩
 have e8:Ext h8 H8:=by rw[hH8];exact((Ext.refl h8).new _).put (Nat.le_refl _) _
 have n8:H8.n=h8.n+1:=by rw[hH8];rfl
 have g8:H8.ext.get h8.n=some (.cells [a2,s2,b2,t2] 0 none):=by rw[hH8];simp (disch:=try exact dx) only[get_put_same]
 rw[←hH8]
 clear hH8
 have E8:=X8.trans e8
 have k8:=E8.kept (by omega) k7
 have Y0:=Ext.refl H8
 have q8:=p8.keep e8.keep
 have r8:=p3.keep (e3.trans (X47.trans E8)).keep
 have qx:=ext_qb e1 e4
 have qp:=qb512 hp.1 hp.2 ok
 unfold passB
 cases mid with
 | true =>
  rw[if_pos rfl]
  simp -dsimp (maxSteps:=1000000) (disch:=try exact dx) only[wpS,wpT,reduceEqDiff,reduceLeDiff,reduceAdd,ld169,row_of g8,row_of k8,tk4']
  refine call (rcmp_ok q8 r8 qx qp (by omega)) ?_
  rintro _ h9 ⟨X9,rfl⟩
  obtain⟨z3,hz3,hzl3⟩:=cmp_le (extR l k) (rOf p)
  rw[hz3]
  have d4:decide (z3≤0)=decide (extR l k≤rOf p):=decide_eq_decide.2 hzl3
  simp -dsimp (maxSteps:=1000000) (disch:=try exact dx) only[wpS,wpT,reduceEqDiff,d4]
  exact((E3.trans X47).trans E8).trans X9
 | false =>
  rw[if_neg (by decide)]
  obtain⟨_,_,L5⟩:=pl4 g8
  obtain⟨_,_,L6⟩:=pl4 k8
  simp -dsimp (maxSteps:=1000000) (disch:=try exact dx) only[wpS]
  refine drawn [(3,[2]),(4,[2])] (by kernel_rfl) (by kernel_rfl) rfl ?_
  simp -dsimp (maxSteps:=1000000) (disch:=try exact dx) only[wpS,wpT,reduceEqDiff,reduceLeDiff,reduceAdd,ld169,row_of g8,tk4']
  refine call (rplus_ok q8 q8 qx qx (by omega)) ?_
  rintro _ h9 ⟨X9,p9⟩
  have m9:=X9.n
  simp -dsimp (maxSteps:=1000000) (disch:=try exact dx) only[wpS,wpT,reduceEqDiff,reduceLeDiff,reduceAdd,ld169,row_of (X9.kept (by omega) k8),tk4']
  refine call (rtimes_ok (r8.keep X9.keep) (r8.keep X9.keep) qp qp (by omega)) ?_
  rintro _ ha ⟨Xa,pa⟩
  have ma:=Xa.n
  have X9a:=X9.trans Xa
  simp -dsimp (maxSteps:=1000000) (disch:=try exact dx) only[wpS,reduceEqDiff]
  refine call (rcmp_ok (p9.keep Xa.keep) pa (QB.add qx qx) (QB.mul qp qp) (by omega)) ?_
  rintro _ hb ⟨Xb,rfl⟩
  have X9b:=X9a.trans Xb
  obtain⟨z3,hz3,hzl3⟩:=cmp_le (extR l k+extR l k) (rOf p*rOf p)
  rw[hz3]
  have d4:decide (z3≤0)=decide (extR l k+extR l k≤rOf p*rOf p):=decide_eq_decide.2 hzl3
  simp -dsimp (maxSteps:=1000000) (disch:=try exact dx) only[wpS,reduceEqDiff,d4]
  refine⟨by repeat' first|refine wpSteady_c2 ?_ ?_|refine wpSteady_t2 ?_ ?_|exact wpSteady_not rfl rfl rfl|exact wpSteady_one rfl rfl rfl rfl (steady_ext (H0:=H8) rfl (by omega) (by assumption) (by assumption) (by with_reducible assumption)),?_⟩
  simp -dsimp (maxSteps:=1000000) (disch:=try exact dx) only[wpS,wpT,reduceEqDiff,reduceAdd]
  exact((E3.trans X47).trans E8).trans X9b
end Go.Id

namespace Go.Id
open Go
end Go.Id
