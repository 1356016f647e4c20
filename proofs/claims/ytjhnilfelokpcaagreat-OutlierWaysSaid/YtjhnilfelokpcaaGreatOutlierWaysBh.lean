/-
  Shares compared. Contracts: the laws' own helpers: is, fails, is2.
-/
import Derived.Test.YtjhnilfelokpcaaGreatOutlierWaysBf
import Derived.Test.YtjhnilfelokpcaaGreatOutlierWaysAs
import Derived.Test.YtjhnilfelokpcaaGreatOutlierWaysBg
import Derived.Test.YtjhnilfelokpcaaGreatOutlierWaysAq
import Derived.Test.YtjhnilfelokpcaaGreatOutlierWaysAu
import Derived.Test.YtjhnilfelokpcaaGreatOutlierWaysAt
import Derived.Test.YtjhnilfelokpcaaGreatOutlierWaysAn
import Derived.Test.YtjhnilfelokpcaaGreatOutlierWaysAo
set_option linter.unusedVariables false
set_option linter.unusedSimpArgs false
set_option linter.defProp false
set_option linter.deprecated false
namespace Go.Id
open Go
open Go.Proofs.Tryz (prog)
section
variable {P:Program}
theorem pr_program:pureRun P (program)=some P:=rfl
theorem pr_part_agg {e:TypeId} {n:Nat} (hA:isAggT P e=some true) (hs:sizeT P e=some n) (cs:Array Value) (off:Nat):pureRun P (part e cs off)=some (.agg (cs.extract off (off+n))):=by
 unfold part
 have h1:pureRun P (isAgg e)=some true:=by
  unfold isAgg
  simp only[isAggT,Option.map_eq_some_iff] at hA
  obtain⟨d,hd,hA⟩:=hA
  rw[pr_bind (pr_underlying hd)]
  cases d<;>first|rfl|(simp at hA)
 rw[pr_bind h1]
 simp only[if_true]
 rw[pr_bind (pr_sizeOf hs)]
 rfl
theorem binop_eql_gen {t:TypeId} {x y:Array Value} {b:Bool} (hg:P.eqGuardType P.depth t=false) (hx:plain (.agg x)=true) (hy:plain (.agg y)=true) (h:pureRun P (Op.equal t (.agg x) (.agg y))=some b) (ox oy:Operand):binop P .eql t ox oy (.agg x) (.agg y)=some (.bool b):=by
 refine binop_of P t ox oy hx hy rfl ?_
 have h1:pureRun P (eqGuard .eql t ox oy (.agg x) (.agg y))=some ():=by
  show pureRun P (if (!P.eqGuardType P.depth t)=true then _ else _)=_
  rw[hg];rfl
 rw[pr_bind h1]
 show pureRun P (Op.equal t _ _ >>= fun r=>pure (Value.bool r))=_
 rw[pr_bind h];rfl
theorem binop_neq_gen {t:TypeId} {x y:Array Value} {b:Bool} (hg:P.eqGuardType P.depth t=false) (hx:plain (.agg x)=true) (hy:plain (.agg y)=true) (h:pureRun P (Op.equal t (.agg x) (.agg y))=some b) (ox oy:Operand):binop P .neq t ox oy (.agg x) (.agg y)=some (.bool (!b)):=by
 refine binop_of P t ox oy hx hy rfl ?_
 have h1:pureRun P (eqGuard .neq t ox oy (.agg x) (.agg y))=some ():=by
  show pureRun P (if (!P.eqGuardType P.depth t)=true then _ else _)=_
  rw[hg];rfl
 rw[pr_bind h1]
 show pureRun P (Op.equal t _ _ >>= fun r=>pure (Value.bool !r))=_
 rw[pr_bind h];rfl
end
theorem sh_ext1 (n d:Nat):((shC n d).toArray).extract 0 8=(wdC n).toArray:=by
 simp only[List.extract_toArray,List.extract_eq_take_drop]
 rw[show(8 - 0)=8 from rfl,sh_take1]
theorem sh_ext2 (n d:Nat):((shC n d).toArray).extract 8 16=(wdC d).toArray:=by
 simp only[List.extract_toArray,List.extract_eq_take_drop]
 rw[show(16 - 8)=8 from rfl,sh_take2]
theorem wd_equalIn {n m:Nat} (hn:n<W8) (hm:m<W8) (k:Nat):pureRun prog (Op.equalIn (k+2) 44 (.agg (wdC n).toArray) (.agg (wdC m).toArray))=some (decide (n=m)):=by
 rw[wdC_map,wdC_map,pr_equal_arr u44 u42 sz42 _ _ _ (by simp) (by simp),wd_dec hn hm]
theorem sh_equalIn {n d n' d':Nat} (h1:n<W8) (h2:d<W8) (h3:n'<W8) (h4:d'<W8) (k:Nat):pureRun prog (Op.equalIn (k+3) 48 (.agg (shC n d).toArray) (.agg (shC n' d').toArray))=some (decide (n=n'∧d=d')):=by
 unfold Op.equalIn
 rw[pr_bind (pr_underlying (show Program.underlying prog 48=some (.struct { toList:=[{ name := "N",type:=44,offset:=0,embedded:=false,tag := "",pkgPath := "",byteOffset:=0 },{ name := "D",type:=44,offset:=8,embedded:=false,tag := "",pkgPath := "",byteOffset:=64 }] }) by kernel_rfl))]
 simp only
 rw[pr_bind pr_program,show Program.stoodInHeld prog 48=false by kernel_rfl]
 have seq : ∀{α β:Type} (s:Sem α) (f:α→Sem β),pureRun prog (s >>= f)=(pureRun prog s).bind fun a=>pureRun prog (f a):=fun s f=>pureRun_seq _ f s
 have p1:=fun(n d:Nat)=>pr_part_agg (P:=prog) ag44 sz44 (shC n d).toArray 0
 have p2:=fun(n d:Nat)=>pr_part_agg (P:=prog) ag44 sz44 (shC n d).toArray 8
 have n1:("N" ≠ "_")=True:=by simp
 have n2:("D" ≠ "_")=True:=by simp
 simp only[Bool.false_eq_true,if_false,←Array.forIn_toList,List.forIn_cons,List.forIn_nil,seq,n1,n2,if_true,p1,Option.bind_some,Nat.zero_add,sh_ext1,wd_equalIn h1 h3]
 by_cases e1:n=n'
 ·simp only[decide_eq_true e1,Bool.not_true,Bool.false_eq_true,if_false,pr_pure,Option.bind_some,seq,p2,show(8+8:Nat)=16 from rfl,sh_ext2,wd_equalIn h2 h4]
  by_cases e2:d=d'
  ·simp only[decide_eq_true e2,Bool.not_true,Bool.false_eq_true,if_false,pr_pure,Option.bind_some]
   rw[decide_eq_true (And.intro e1 e2)]
  ·simp only[decide_eq_false e2,Bool.not_false,if_true,pr_pure,Option.bind_some]
   rw[decide_eq_false (fun h=>e2 h.2)]
 ·simp only[decide_eq_false e1,Bool.not_false,if_true,pr_pure,Option.bind_some]
  rw[decide_eq_false (fun h=>e1 h.1)]
theorem sh_plain (n d:Nat):plain (.agg (shC n d).toArray)=true:=by
 simp only[plain,shC,wdC]
 simp[scal]
theorem sh_eql {n d n' d':Nat} (h1:n<W8) (h2:d<W8) (h3:n'<W8) (h4:d'<W8) (ox oy:Operand):binop prog .eql 48 ox oy (.agg (shC n d).toArray) (.agg (shC n' d').toArray)=some (.bool (decide (n=n'∧d=d'))):=by
 exact binop_eql_gen (by kernel_rfl) (sh_plain _ _) (sh_plain _ _) (sh_equalIn h1 h2 h3 h4 9997) ox oy
end Go.Id

namespace Go.Id
open Go
end Go.Id

namespace Go.Id
open Go
end Go.Id

namespace Go.Id
open Go
end Go.Id

namespace Go.Id
open Go
end Go.Id

namespace Go.Id
open Go
end Go.Id

namespace Go.Id
open Go
end Go.Id

namespace Go.Id
open Go
theorem shL_take : ∀(i:Nat) (l:List (Nat×Nat)),shL (l.take i)=(shL l).take (i*16)
 | 0,l=>by simp[shL]
 | i+1,[]=>by simp[shL]
 | i+1,a :: l=>by
  have ih:=shL_take i l
  simp only[shL] at ih
  rw[List.take_succ_cons,shL,shL,List.flatMap_cons,List.flatMap_cons,show(i+1)*16=(shC a.1 a.2).length+i*16 by rw[shC_len];omega,List.take_length_add_append,ih]
end Go.Id

namespace Go.Id
open Go
def ShArg (h:IH) (v:Value) (l:List (Nat×Nat)):Prop:=SlOf h 16 v l.length (shL l) ∧ ∀p∈l,p.1<W8∧p.2<W8
theorem ShArg.keep {h h':IH} {v:Value} {l:List (Nat×Nat)} (s:ShArg h v l) (e:Keep h h'):ShArg h' v l:=⟨s.1.keep e,s.2⟩
theorem ShArg.first {h h':IH} {v:Value} {l:List (Nat×Nat)} (s:ShArg h v l) (kp:Keep h h') {m:Nat} (hm:m≤l.length) (hm2:m≤100000) : ∃v',sliceOp Proofs.Tryz.prog h' 82 v none (some (KN m)) none=some v'∧ShSl h v' (l.take m):=by
 obtain⟨a,c⟩:=s
 obtain⟨v',e1,e2⟩:=a.slice kp (P:=Proofs.Tryz.prog) (t:=82) u82 sz48 (l:=0) (m:=m) (Nat.zero_le _) hm (lo:=none) (hi:=some (KN m)) rfl (fun c hc=>natOf_nat (k:=.i64) (by omega))
 refine⟨v',e1,?_,by rw[List.length_take];omega,fun p hp=>c p (List.mem_of_mem_take hp)⟩
 rw[List.length_take,Nat.min_eq_left hm,shL_take]
 simpa using e2
end Go.Id

namespace Go.Id
open Go
def DrOf (cs:List Value):Prop:=∃b x n b2 x2 n2,cs = [.bool b,x,.int .u32 n,.bool b2,x2,.int .u32 n2]∧cellOK x=true∧cellOK x2=true∧0≤n∧n<4294967296∧0≤n2∧n2<4294967296
def DrSl (h:IH) (v:Value) (n:Nat):Prop:=∃cs,SlOf h 6 v n cs ∧ ∀i,i<n→DrOf ((cs.drop (i*6)).take 6)
theorem DrSl.keep {h h':IH} {v:Value} {n:Nat} (s:DrSl h v n) (e:Keep h h'):DrSl h' v n:=let ⟨cs,a,b⟩:=s;⟨cs,a.keep e,b⟩
end Go.Id

namespace Go.Proofs.YtjhnilfelokpcaaGreat
open Go.ChangeShapes Go.WideShapes Go.ChangeAt Go.RowKit Go.Id
theorem u_u64:Tryz.prog.underlying 42=some (.int .u64):=by kernel_rfl
theorem c_u64:Tryz.prog.cellsOf 42=1:=by kernel_rfl
theorem wf_u8 {x:Int} (h:(Lit.int .u8 x).wf=true):0≤x∧x<256:=by
 simp only[Lit.wf,Bool.and_eq_true,decide_eq_true_eq] at h
 have h1:(0:Int)≤x:=h.1
 have h2:x≤(255:Int):=h.2
 exact⟨h1,by omega⟩
section
variable {H:Type} {enc:TypeId×Value→H} {W:World} {base:Nat} {sp:Nat→Bool} {held:Bool}
end
theorem u_u8:Tryz.prog.underlying 5=some (.int .u8):=by kernel_rfl
section
variable {H:Type} {enc:TypeId×Value→H} {W:World} {held:Bool}
end
end Go.Proofs.YtjhnilfelokpcaaGreat

namespace Go.Id
open Go
end Go.Id

namespace Go.Id
open Go
open Go.Proofs.Tryz (prog)
open Nat (reduceAdd reduceEqDiff reduceLeDiff)
set_option maxHeartbeats 16000000
theorem PPair.rat {h:IH} {v:Value} {n d:Nat} (p:PPair h v (wdI n) (wdI d)) (ok:okS n d):PRat h v (rOf (n,d)):=by
 obtain⟨e1,e2⟩:=rOf_parts (p:=(n,d)) ok
 unfold PRat
 rw[e1,e2]
 exact p
theorem two_sl {h:IH} {n1 d1 n2 d2:Nat} (h1:n1<W8) (h2:d1<W8) (h3:n2<W8) (h4:d2<W8):ShSl (h.new (.cells (shL [(n1,d1),(n2,d2)]) 16 none)) (.slice (some ⟨2*h.n,0,none⟩) 2 5) [(n1,d1),(n2,d2)]:=by
 refine⟨sl_block (k:=h.n) (f:=none) (get_new_same _ _ rfl) (by simp) (by decide) (by rw[shL_len];rfl) (by omega) (by omega),by simp,?_⟩
 intro p hp
 simp at hp
 rcases hp with rfl|rfl
 ·exact⟨h1,h2⟩
 ·exact⟨h3,h4⟩
theorem itwo_ok {h:IH} {n1 d1 n2 d2:Nat} {fv:Value} {z:Int} (h1:n1<W8) (h2:d1<W8) (h3:n2<W8) (h4:d2<W8) (ok1:okS n1 d1) (ok2:okS n2 d2)
  (op : ∀(h':IH) (v w:Value),PRat h' v (rOf (n1,d1))→PRat h' w (rOf (n2,d2))→WV prog fv [v,w] h' fun r h''=>Ext h' h''∧r=KI z) :
  WV prog (.func (.func 106) #[] #[]) [shV n1 d1,shV n2 d2,fv] h fun r h'=>Ext h h'∧r=.tuple #[KI z,KI 0]:=by
 refine enter (nt:=21) (rs:=[.tmp 6,.tmp 7]) Proofs.Tryz.func106 rfl rfl rfl (by simp) ?_
 simp -dsimp (maxSteps:=1000000) (disch:=try exact dx) only[wpS,reduceEqDiff,reduceAdd,ld48,shV_cells]
 obtain⟨H0,hH0,n0,E0,g0,g1⟩:=boxes2 h (shC n1 d1) (shC n2 d2)
 rw[←hH0]
 clear hH0
 have X0:=Ext.refl H0
 have bb : ∀hx:IH,buildSlice prog hx 82 2 [(0,.agg (shC n1 d1).toArray),(1,.agg (shC n2 d2).toArray)]=some (.slice (some ⟨2*hx.n,0,none⟩) 2 5,hx.new (.cells (shL [(n1,d1),(n2,d2)]) 16 none)):=fun hx=>build2 n1 d1 n2 d2
 simp -dsimp (maxSteps:=1000000) (disch:=try exact dx) only[wpS,reduceEqDiff,reduceLeDiff,ld48,row_of g1,shC_len,sh_take,bb]
 refine call (shvalid_ok (two_sl h1 h2 h3 h4)) ?_
 rintro _ k1 ⟨Y1,rfl⟩
 have X1:Ext H0 k1:=(X0.new _).trans Y1
 have dt:decide (∀p ∈ [(n1,d1),(n2,d2)],okS p.1 p.2)=true:=decide_eq_true (by
  intro p hp
  simp at hp
  rcases hp with rfl|rfl
  ·exact ok1
  ·exact ok2)
 rw[dt]
 have L2:=(psh g1).2.2
 simp -dsimp (maxSteps:=1000000) (disch:=try exact dx) only[wpS,wpT,reduceEqDiff]
 refine drawn [(3,[2])] (by kernel_rfl) (by kernel_rfl) rfl ?_
 simp -dsimp (maxSteps:=1000000) (disch:=try exact dx) only[wpS,reduceEqDiff,reduceLeDiff,ld48,row_of (X1.kept (by omega) g0),shC_len,sh_take]
 refine call (shread_ok n1 d1 h1 h2) ?_
 rintro v k2 ⟨Y2,p2⟩
 have X2:=X1.trans Y2
 simp -dsimp (maxSteps:=1000000) (disch:=try exact dx) only[wpS,reduceEqDiff,reduceLeDiff,ld48,row_of (X2.kept (by omega) g1),shC_len,sh_take]
 refine call (shread_ok n2 d2 h3 h4) ?_
 rintro w k3 ⟨Y3,p3⟩
 have X3:=X2.trans Y3
 simp -dsimp (maxSteps:=1000000) (disch:=try exact dx) only[wpS,reduceEqDiff]
 refine call (op k3 v w (PRat.keep (p2.rat ok1) Y3.keep) (p3.rat ok2)) ?_
 rintro _ k4 ⟨Y4,rfl⟩
 have X4:=X3.trans Y4
 simp -dsimp (maxSteps:=1000000) (disch:=try exact dx) only[wpS,reduceEqDiff]
 refine⟨by repeat' first|refine wpSteady_c2 ?_ ?_|refine wpSteady_t2 ?_ ?_|exact wpSteady_one rfl rfl rfl rfl (steady_ext (H0:=H0) rfl (by omega) (by assumption) (by assumption) (by with_reducible assumption)),?_⟩
 simp -dsimp (maxSteps:=1000000) (disch:=try exact dx) only[wpS,wpT,reduceEqDiff,reduceAdd]
 exact E0.trans X4
theorem shcmp_ok {h:IH} {p1 p2:Nat×Nat} (h1:p1.1<W8∧p1.2<W8) (h2:p2.1<W8∧p2.2<W8) (ok1:okS p1.1 p1.2) (ok2:okS p2.1 p2.2):WV prog (.func (.func 36) #[] #[]) [shV p1.1 p1.2,shV p2.1 p2.2] h fun r h'=>Ext h h'∧r=.tuple #[KI (if rOf p1<rOf p2 then -1 else if rOf p1=rOf p2 then 0 else 1),KI 0]:=by
 have q1:=qb512 (p:=p1) h1.1 h1.2 ok1
 have q2:=qb512 (p:=p2) h2.1 h2.2 ok2
 refine enter (nt:=11) (rs:=[.tmp 4,.tmp 5]) Proofs.Tryz.func36 rfl rfl rfl (by simp) ?_
 simp -dsimp (maxSteps:=1000000) (disch:=try exact dx) only[wpS,reduceEqDiff,reduceAdd,ld48,shV_cells]
 obtain⟨H0,hH0,n0,E0,g0,g1⟩:=boxes2 h (shC p1.1 p1.2) (shC p2.1 p2.2)
 rw[←hH0]
 clear hH0
 simp -dsimp (maxSteps:=1000000) (disch:=try exact dx) only[wpS,reduceEqDiff,reduceLeDiff,ld48,row_of g1,shC_len,sh_take]
 refine call (itwo_ok h1.1 h1.2 h2.1 h2.2 ok1 ok2 (fun h' v w a b=>rcmp_ok a b q1 q2 (by omega))) ?_
 rintro _ k1 ⟨X1,rfl⟩
 simp -dsimp (maxSteps:=1000000) (disch:=try exact dx) only[wpS,wpT,reduceEqDiff]
 exact E0.trans X1
end Go.Id

namespace Go.Id
open Go
end Go.Id

namespace Go.Id
open Go
def E1 (P:Program) (tb:FuncId→Option (List Value→Option Value)):Env:=⟨P,fun _ _=>none,fun f=>(tb f).map fun g args h=>bif args.all plain then (g args).map (·,h) else none⟩
theorem plain_all {m:Mp} {l l':List Value} (h:LRel m l l') (hp:l.all plain=true):l'=l:=by
 apply List.ext_getElem? fun i=>?_
 by_cases hi:i<l.length
 ·obtain⟨v',h1,h2⟩:=h.get (List.getElem?_eq_getElem hi)
  rw[h1,List.getElem?_eq_getElem hi,h2.plain_eq (by have:=List.all_eq_true.1 hp;exact this _ (List.getElem_mem hi))]
 ·rw[List.getElem?_eq_none (show l'.length≤i from h.1▸Nat.le_of_not_lt hi),List.getElem?_eq_none (Nat.le_of_not_lt hi)]
theorem plain_all_mk {m:Mp} {l:List Value} (hp:l.all plain=true):LRel m l l :=
 ⟨rfl,fun i v v' a b=>by
  rw[a] at b;cases b
  exact .plain_mk (List.all_eq_true.1 hp _ (List.mem_of_getElem? a))⟩
theorem Rel.bare {B:Nat} {w0:World} {m:Mp} {h:IH} {w:World} (R:Rel B w0 m h w):Rel B w0 ⟨fun b=>if b % 2=1 then m b else none,m.ez⟩ (IH.start fun _=>none) w:=by
 have leaf : ∀{α:Type} (k:Nat),(Tr.leaf:Tr α).get k=none:=fun k=>rfl
 have odd : ∀k x,(⟨fun b=>if b % 2=1 then m b else none,m.ez⟩:Mp) (2*k)=some x→False:=by
  intro k x h
  have h1:(if 2*k % 2=1 then m (2*k) else none)=some x:=h
  rw[if_neg (by omega)] at h1;cases h1
 refine⟨R.below,R.size,?_,fun b h=>?_,?_,fun k _=>leaf k,?_,?_,?_,?_,?_,?_⟩
 ·intro b cs h;cases h
 ·show(if (2*b+1) % 2=1 then m (2*b+1) else none)=_
  rw[if_pos (by omega)];exact R.odd b h
 ·intro k r s h;exact(odd _ _ h).elim
 ·intro k o r s h;cases h
 ·intro k k' o o' r s s' _ h;cases h
 ·intro f st h;cases h
 ·intro k cs t f h;cases h
 ·intro f st h;cases h
 ·intro f st x y h;cases h
theorem ObjRel.same {m:Mp} {w w':World} {r s:Nat} {z:Nat×Nat} {o:IObj} (h:ObjRel m w r s z o) (e:w'.heap[r]?=w.heap[r]?):ObjRel m w' r s z o:=by
 cases o<;>simp only[ObjRel] at h ⊢ <;> first|(rw[e];exact h)|trivial
theorem Rel.aside {B:Nat} {w0:World} {m m':Mp} {h h':IH} {w w':World} (R:Rel B w0 m h w) (R':Rel B w0 m' h' w') (S:Step ⟨fun b=>if b % 2=1 then m b else none,m.ez⟩ (IH.start fun _=>none) w m' h' w'):Rel B w0 m h w'∧Step m h w m h w':=by
 have same : ∀r,r<w.heap.size→w'.heap[r]?=w.heap[r]?:=fun r hr=>S.frame r hr fun k s hk=>absurd hk (Nat.not_lt_zero k)
 refine⟨⟨R'.below,R'.size,fun b cs hb=>?_,R.odd,fun k r s hk=>?_,R.dom,fun k o r s hk hm=>?_,R.own,R.famdom,R.fam,R.long,R.whole⟩,
  ⟨Mp.le_refl m,fun b hb=>absurd rfl hb,Nat.le_refl _,rfl,fun r hr _=>same r hr,fun _ _ _=>rfl,S.size,fun k r s h1 h2=>by omega,fun _ _ _ hh=>hh⟩⟩
 ·obtain⟨r,s,h1,h2,c,el,fz,h3,h4⟩:=R.base b cs hb
  exact⟨r,s,h1,h2,c,el,fz,by rw[same r (by have:=R.size;omega)];exact h3,h4⟩
 ·have:=R.even k r s hk
  have:=S.size
  exact⟨by omega,by omega⟩
 ·exact(R.obj k o r s hk hm).same (same r (R.even k r s hm).2)
def plainT:Value→Bool
 | .tuple vs=>vs.toList.all plain
 | v=>plain v
theorem VRel.plainT_eq {m:Mp} {v v':Value} (h:VRel m v v') (hv:plainT v=true):v'=v:=by
 unfold plainT at hv
 split at hv
 ·obtain⟨cs',rfl,h2⟩:=h.tuple_inv
  have:=LRel.plain_eq h2 hv
  exact congrArg Value.tuple (Array.ext' this)
 ·exact h.plain_eq hv
theorem VRel.plainT_mk {m:Mp} {v:Value} (hv:plainT v=true):VRel m v v:=by
 unfold plainT at hv
 split at hv
 ·exact VRel.tuple_iff (plain_all_mk hv)
 ·exact .plain_mk hv
def Gives (P:Program) (f:FuncId) (args:List Value) (v:Value):Prop :=
 ∀(B:Nat) (w0:World) (m:Mp) (h:IH) (w:World),Rel B w0 m h w → ∃h2,CallsTo P f args.toArray B w0 ⟨fun b=>if b % 2=1 then m b else none,m.ez⟩ (IH.start fun _=>none) w v h2
theorem gives_run {E:Env} (S:Sound E) {n:Nat} {f:FuncId} {args:List Value} {v:Value} {h2:IH} (hr:callV E (n+1) (.func (.func f) #[] #[]) args (IH.start fun _=>none)=some (v,h2)) (hb : ∃fn,E.P.funcs[f]?=some fn∧fn.body.isSome=true) (hp:args.all plain=true):Gives E.P f args v:=by
 intro B w0 m h w R
 refine⟨h2,?_⟩
 have hc:=hr
 unfold callV at hc
 have fresh:Fresh ⟨fun b=>if b % 2=1 then m b else none,m.ez⟩ (IH.start fun _=>none).n h2.n:=fun k _ _=>by
  show(if 2*k % 2=1 then m (2*k) else none)=none
  rw[if_neg (by omega)]
 obtain⟨fn,hfn,hb⟩:=hb
 rcases callFn_sim S (callV_sim S n) (callV_mono S n) hc R.bare (args':=args.toArray) (by simpa using plain_all_mk hp) fresh with⟨_,k⟩|⟨fn',k1,k2,_⟩
 ·exact k
 ·have k3:E.P.funcs[f]?=some fn':=k1
  rw[hfn] at k3;cases k3
  rw[k2] at hb;cases hb
theorem gives_wv {P:Program} (S:Sound (E0 P)) {f:FuncId} {args:List Value} {v:Value} (hb : ∃fn,P.funcs[f]?=some fn∧fn.body.isSome=true) (hp:args.all plain=true) (h:WV P (.func (.func f) #[] #[]) args (IH.start fun _=>none) fun r _=>r=v):Gives P f args v:=by
 obtain⟨⟨r,h2⟩,⟨N,hN⟩,hr⟩:=h
 simp only at hr
 subst hr
 exact gives_run (E:=E0 P) S (hN (N+1) (by omega)) hb hp
theorem sound1 {P:Program} {tb:FuncId→Option (List Value→Option Value)} (S:Sound (E0 P)) (hf : ∀f g,tb f=some g → ∃fn,P.funcs[f]?=some fn∧fn.body.isSome=true)
  (hv : ∀f g,tb f=some g → ∀args v,args.all plain=true→g args=some v→plainT v=true∧Gives P f args v):Sound (E1 P tb) where
 mixed:=S.mixed
 names:=S.names
 origin:=S.origin
 intrN:=fun f g hg args h v h' e=>by
  obtain⟨g0,h1,rfl⟩:=Option.map_eq_some_iff.1 hg
  simp only[cond_eq_ite] at e
  split at e
  ·obtain⟨v0,_,e2⟩:=Option.map_eq_some_iff.1 e
   cases e2;exact Nat.le_refl _
  ·cases e
 intr:=fun f g hg=>by
  obtain⟨g0,h1,rfl⟩:=Option.map_eq_some_iff.1 hg
  refine⟨hf f g0 h1,fun args h v h' e B w0 m w args' R hargs _=>?_⟩
  simp only[cond_eq_ite] at e
  split at e
  case isFalse=>cases e
  rename_i hp
  obtain⟨v0,e1,e2⟩:=Option.map_eq_some_iff.1 e
  cases e2
  obtain⟨hpl,hg⟩:=hv f g0 h1 args v hp e1
  obtain⟨h2,key⟩:=hg B w0 m h w R
  have ea:args.toArray=args':=by
   rw[←plain_all hargs hp]
  rw[ea] at key
  refine key.mono fun e' w' ⟨v',m',he,hvr,R',S'⟩=>?_
  obtain⟨R2,S2⟩:=R.aside R' S'
  exact⟨v',m,he,by rw[hvr.plainT_eq hpl];exact .plainT_mk hpl,R2,S2⟩
end Go.Id
