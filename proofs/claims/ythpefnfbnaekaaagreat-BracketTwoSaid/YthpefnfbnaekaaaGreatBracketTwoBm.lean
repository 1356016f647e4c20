/-
  Contracts: package divisor: Post, ranks, Above, Rank. Structs compared, field by field.
-/
import Derived.Test.YthpefnfbnaekaaaGreatBracketTwoAr
import Derived.Test.YthpefnfbnaekaaaGreatBracketTwoBl
import Derived.Test.YthpefnfbnaekaaaGreatBracketTwoAs
import Derived.Test.YthpefnfbnaekaaaGreatBracketTwoAw
import Derived.Test.YthpefnfbnaekaaaGreatBracketTwoBg
set_option linter.unusedVariables false
set_option linter.unusedSimpArgs false
set_option linter.defProp false
set_option linter.deprecated false
namespace Go.Id
open Go
open Nat (reduceAdd reduceEqDiff reduceLeDiff)
set_option maxHeartbeats 16000000
theorem qw_small {n d:Int} (hn:n.natAbs≤9223372036854775807) (hd:d.natAbs≤9223372036854775807) (d0:d≠0):QW (Rat.divInt n d):=qw_div ⟨by omega,by omega⟩ ⟨by omega,by omega⟩ d0
def postQ (m s:Nat):Rat:=Rat.divInt (postN m s) (postD m s)
def postZ (m s:Nat):Bool:=postN m s == 0
def rankQ (m p s:Nat):Rat:=Rat.divInt ((if m=13 then p*p else p:Nat):Int) (postN m s)*Rat.divInt (postD m s) 1
def rankC (m p s:Nat):List Value:=if postZ m s=true then .bool true :: shC (shq (Rat.divInt p 1)).1 (shq (Rat.divInt p 1)).2 else .bool false :: shC (shq (rankQ m p s)).1 (shq (rankQ m p s)).2
def rankV (m p s:Nat):Value:=.agg (rankC m p s).toArray
theorem mulSelf_le {p:Nat} (h:p≤1000000000):p*p≤1000000000000000000:=Nat.mul_le_mul h h
theorem powSq {k a:Nat} (h:k≤a+a):(2:Nat) ^ k≤2 ^ a*2 ^ a:=by
 rw[←Nat.pow_add]
 exact Nat.pow_le_pow_right (by omega) h
theorem qw_bits {k:Nat} {q:Rat} (h:QB k q) (hk:k≤510):QW q:=by
 have e:(2:Nat) ^ 255*2 ^ 255<H8:=by unfold H8;decide +kernel
 have h1:(2:Nat) ^ k≤2 ^ 255*2 ^ 255:=powSq (a:=255) (by omega)
 obtain⟨a,b⟩:=h
 generalize (2:Nat) ^ 255*2 ^ 255=y at *
 generalize (2:Nat) ^ k=x at *
 unfold QW InW
 omega
theorem bits70 {n:Nat} (h:n≤1000000000000000000):((n:Nat):Int).natAbs≤2 ^ 60:=by
 have e:(1000000000000000000:Nat)≤2 ^ 60:=by decide
 rw[Int.natAbs_natCast];exact Nat.le_trans h e
theorem rankQ_bits {m p s:Nat} (hp:p≤1000000000) (hs:s≤1000) (h0:postN m s≠0):QB 60 (Rat.divInt ((if m=13 then p*p else p:Nat):Int) (postN m s))∧QB 60 (Rat.divInt (postD m s) 1):=by
 have hq:=mulSelf_le hp
 have hd:=postD_le (m:=m) hs
 have hn:=postN_le (m:=m) hs
 have ht:(if m=13 then p*p else p:Nat)≤1000000000000000000:=by split<;>omega
 exact⟨QB.divInt (by omega) (bits70 ht) (bits70 (by omega)),QB.divInt (by omega) (bits70 (by omega)) (bits70 (n:=1) (by omega))⟩
theorem rankQ_qw {m p s:Nat} (hp:p≤1000000000) (hs:s≤1000) (h0:postN m s≠0):QW (rankQ m p s):=by
 obtain⟨a,b⟩:=rankQ_bits (m:=m) hp hs h0
 exact qw_bits (QB.mul a b) (by omega)
theorem rk_len (b:Bool) (n d:Nat):(Value.bool b :: shC n d).length=17:=by rw[List.length_cons,shC_len]
theorem rk_all (b:Bool) (n d:Nat):(Value.bool b :: shC n d).all cellOK=true:=by rw[List.all_cons,shC_all];rfl
theorem rk_take (b:Bool) (n d:Nat):List.take 17 (List.drop 0 (Value.bool b :: shC n d))=.bool b :: shC n d:=by rw[List.drop_zero,List.take_of_length_le (by rw[rk_len];omega)]
theorem boxed (h:IH) (a b:List Value) : ∃H,H=(h.new (.cells a 0 none)).put h.n (.cells b 0 none)∧H.n=h.n+1∧Ext h H∧H.ext.get h.n=some (.cells b 0 none) :=
 ⟨_,rfl,by simp,((Ext.refl h).new _).put (by omega) _,by simp (disch:=try exact dx) only[get_put_same]⟩
theorem ranked_ok {h:IH} {m p s:Nat} (hm:11≤m∧m≤15) (hp:p≤1000000000) (hs:s≤1000) :
  WV Proofs.Tryz.prog (.func (.func 73) #[] #[]) [KN m,KN p,KN s] h fun r h'=>Ext h h'∧r=rankV m p s:=by
 have hn:=postN_le (m:=m) hs
 have hd:=postD_le (m:=m) hs
 have hd0:=postD_pos m s
 refine enter (nt:=58) (rs:=[.cell 6 115]) Proofs.Tryz.func73 rfl rfl rfl (by simp) ?_
 simp -dsimp (maxSteps:=1000000) (disch:=try exact dx) only[wpS,reduceEqDiff,reduceAdd,zc115]
 obtain⟨H0,hH0⟩ : ∃H,H=h.new (.cells (.bool false :: Z16) 0 none):=⟨_,rfl⟩
 have E1:Ext h H0:=by rw[hH0];exact(Ext.refl h).new _
 have g0:H0.ext.get h.n=some (.cells (.bool false :: Z16) 0 none):=by rw[hH0];simp (disch:=try exact dx) only[get_new_same]
 have n0:H0.n=h.n+1:=by rw[hH0];simp
 rw[←hH0]
 clear hH0
 refine call (post_ok hm hs) ?_
 rintro _ h1 ⟨X1,rfl⟩
 have m1:=X1.n
 by_cases c:postN m s=0
 ·have c1:(((postN m s:Nat):Int) == 0)=true:=by rw[c];rfl
  have hz:postZ m s=true:=by unfold postZ;rw[c];rfl
  simp -dsimp (maxSteps:=1000000) (disch:=try exact dx) only[wpS,reduceEqDiff,c1]
  refine call (shof_ok p 1 ⟨by omega,by omega⟩ ⟨by omega,by omega⟩ (by omega)) ?_
  rintro _ h2 ⟨X2,rfl⟩
  rw[shareV_shq]
  have Y2:=X1.trans X2
  have m2:=Y2.n
  have k2:=Y2.kept (by omega) g0
  simp -dsimp (maxSteps:=1000000) (disch:=try exact dx) only[wpS,wpT,reduceEqDiff,reduceLeDiff,reduceAdd,zc47,st47,ld47,bv115,pl115_0,pl115_1,st115,ld115,k2,shV_cells,shC_len,shC_all,sh_sp3,sh_take,rk_take]
  refine⟨(((E1.trans Y2).new _).put (by omega) _).put (by omega) _,?_⟩
  unfold rankV rankC
  rw[if_pos hz]
 ·have c1:(((postN m s:Nat):Int) == 0)=false:=by rw[beq_eq_false_iff_ne];omega
  have hz:postZ m s=false:=by unfold postZ;rw[beq_eq_false_iff_ne];exact c
  have hq:=mulSelf_le hp
  have hw:=rankQ_qw (m:=m) hp hs c
  have ht:(if m=13 then p*p else p:Nat)≤1000000000000000000:=by split<;>omega
  obtain⟨t,hte⟩ : ∃t,t=(if m=13 then p*p else p:Nat):=⟨_,rfl⟩
  obtain⟨b1,b2⟩:=rankQ_bits (m:=m) hp hs c
  rw[←hte] at ht b1
  have w1:=qw_bits b1 (by omega)
  have w2:=qw_bits b2 (by omega)
  have hqe:Rat.divInt t (postN m s)*Rat.divInt (postD m s) 1=rankQ m p s:=by unfold rankQ;rw[hte]
  by_cases c3:m=13
  ·have c4:(((m:Nat):Int) == 13)=true:=by rw[c3];rfl
   have e1:IntKind.i64.wrap ((p:Int)*(p:Int))=(t:Int):=by rw[hte,if_pos c3,←Int.natCast_mul,wrap_i64 (by omega)]
   simp -dsimp (maxSteps:=1000000) (disch:=try exact dx) only[wpS,reduceEqDiff,c1,c4,e1]
   refine call (shof_ok t (postN m s) ⟨by omega,by omega⟩ ⟨by omega,by omega⟩ (by omega)) ?_
   rintro _ h2 ⟨X2,rfl⟩
   rw[shareV_shq]
   simp -dsimp (maxSteps:=1000000) (disch:=try exact dx) only[wpS,wpT,reduceEqDiff,reduceLeDiff,reduceAdd,zc47,st47,shV_cells,shC_len,shC_all,sh_sp3]
   obtain⟨H2,hH2,n2,E2,g2⟩:=boxed h2 Z16 (shC (shq (Rat.divInt t (postN m s))).1 (shq (Rat.divInt t (postN m s))).2)
   rw[←hH2]
   clear hH2
   refine call (shof_ok (postD m s) 1 ⟨by omega,by omega⟩ ⟨by omega,by omega⟩ (by omega)) ?_
   rintro _ h3 ⟨X3,rfl⟩
   rw[shareV_shq]
   simp -dsimp (maxSteps:=1000000) (disch:=try exact dx) only[wpS,wpT,reduceEqDiff,reduceLeDiff,reduceAdd,zc47,st47,ld47,shV_cells,shC_len,shC_all,sh_sp3]
   obtain⟨H3,hH3,n3,E3,g3⟩:=boxed h3 Z16 (shC (shq (Rat.divInt (postD m s) 1)).1 (shq (Rat.divInt (postD m s) 1)).2)
   rw[←hH3]
   clear hH3
   have m2:=X2.n
   have m3:=X3.n
   have k2:=(X3.trans E3).kept (by omega) g2
   simp -dsimp (maxSteps:=1000000) (disch:=try exact dx) only[wpS,reduceEqDiff,reduceLeDiff,ld47,row_of k2,row_of g3,shC_len,sh_take]
   refine call (shmul_ok (p1:=shq (Rat.divInt t (postN m s))) (p2:=shq (Rat.divInt (postD m s) 1)) (shq_lt w1) (shq_lt w2) (shq_rOf w1).2 (shq_rOf w2).2) ?_
   rintro _ h4 ⟨X4,rfl⟩
   have m4:=X4.n
   have Y4:=X1.trans (X2.trans (E2.trans (X3.trans (E3.trans X4))))
   have k0:=Y4.kept (by omega) g0
   rw[(shq_rOf w1).1,(shq_rOf w2).1,hqe,toldV_qw hw]
   have mY:=Y4.n
   simp -dsimp (maxSteps:=1000000) (disch:=try exact dx) only[wpS,wpT,reduceEqDiff,reduceLeDiff,reduceAdd,zc47,st47,ld47,bv115,pl115_0,pl115_1,st115,ld115,k0,shV_cells,shC_len,shC_all,sh_sp3,sh_take,rk_take]
   refine⟨(((E1.trans Y4).new _).put (by omega) _).put (by omega) _,?_⟩
   unfold rankV rankC
   rw[if_neg (by rw[hz];simp)]
  ·have c4:(((m:Nat):Int) == 13)=false:=by rw[beq_eq_false_iff_ne];omega
   obtain rfl:t=p:=by rw[hte,if_neg c3]
   simp -dsimp (maxSteps:=1000000) (disch:=try exact dx) only[wpS,reduceEqDiff,c1,c4]
   refine call (shof_ok t (postN m s) ⟨by omega,by omega⟩ ⟨by omega,by omega⟩ (by omega)) ?_
   rintro _ h2 ⟨X2,rfl⟩
   rw[shareV_shq]
   simp -dsimp (maxSteps:=1000000) (disch:=try exact dx) only[wpS,wpT,reduceEqDiff,reduceLeDiff,reduceAdd,zc47,st47,shV_cells,shC_len,shC_all,sh_sp3]
   obtain⟨H2,hH2,n2,E2,g2⟩:=boxed h2 Z16 (shC (shq (Rat.divInt t (postN m s))).1 (shq (Rat.divInt t (postN m s))).2)
   rw[←hH2]
   clear hH2
   refine call (shof_ok (postD m s) 1 ⟨by omega,by omega⟩ ⟨by omega,by omega⟩ (by omega)) ?_
   rintro _ h3 ⟨X3,rfl⟩
   rw[shareV_shq]
   simp -dsimp (maxSteps:=1000000) (disch:=try exact dx) only[wpS,wpT,reduceEqDiff,reduceLeDiff,reduceAdd,zc47,st47,ld47,shV_cells,shC_len,shC_all,sh_sp3]
   obtain⟨H3,hH3,n3,E3,g3⟩:=boxed h3 Z16 (shC (shq (Rat.divInt (postD m s) 1)).1 (shq (Rat.divInt (postD m s) 1)).2)
   rw[←hH3]
   clear hH3
   have m2:=X2.n
   have m3:=X3.n
   have k2:=(X3.trans E3).kept (by omega) g2
   simp -dsimp (maxSteps:=1000000) (disch:=try exact dx) only[wpS,reduceEqDiff,reduceLeDiff,ld47,row_of k2,row_of g3,shC_len,sh_take]
   refine call (shmul_ok (p1:=shq (Rat.divInt t (postN m s))) (p2:=shq (Rat.divInt (postD m s) 1)) (shq_lt w1) (shq_lt w2) (shq_rOf w1).2 (shq_rOf w2).2) ?_
   rintro _ h4 ⟨X4,rfl⟩
   have m4:=X4.n
   have Y4:=X1.trans (X2.trans (E2.trans (X3.trans (E3.trans X4))))
   have k0:=Y4.kept (by omega) g0
   rw[(shq_rOf w1).1,(shq_rOf w2).1,hqe,toldV_qw hw]
   have mY:=Y4.n
   simp -dsimp (maxSteps:=1000000) (disch:=try exact dx) only[wpS,wpT,reduceEqDiff,reduceLeDiff,reduceAdd,zc47,st47,ld47,bv115,pl115_0,pl115_1,st115,ld115,k0,shV_cells,shC_len,shC_all,sh_sp3,sh_take,rk_take]
   refine⟨(((E1.trans Y4).new _).put (by omega) _).put (by omega) _,?_⟩
   unfold rankV rankC
   rw[if_neg (by rw[hz];simp)]
end Go.Id

namespace Go.Id
open Go
section
variable {P:Program}
theorem pr_part_scal {e:TypeId} (hA:isAggT P e=some false) {cs:Array Value} {off:Nat} {v:Value} (hv:cs[off]?=some v):pureRun P (part e cs off)=some v:=by
 unfold part
 have h1:pureRun P (isAgg e)=some false:=by
  unfold isAgg
  simp only[isAggT,Option.map_eq_some_iff] at hA
  obtain⟨d,hd,hA⟩:=hA
  rw[pr_bind (pr_underlying hd)]
  cases d<;>first|rfl|(simp at hA)
 rw[pr_bind h1]
 simp only[Bool.false_eq_true,if_false,hv]
 rfl
theorem pr_equal_bool {e:TypeId} (he:P.underlying e=some .bool) (d:Nat) (a b:Bool):pureRun P (Op.equalIn (d+1) e (.bool a) (.bool b))=some (a == b):=by
 unfold Op.equalIn
 rw[pr_bind (pr_underlying he)]
 rfl
theorem pr_fields (body:Field→Option Bool×Unit→Sem (ForInStep (Option Bool×Unit))) (g:Option Bool×Unit→Sem Bool) (e:Field→Bool) : ∀fs:List Field,
  (∀f∈fs,∀r,pureRun P (body f r)=some (if e f=true then .yield (none,()) else .done (some false,()))) →
  pureRun P (forIn fs ((none,()):Option Bool×Unit) body >>= g)=pureRun P (g (if fs.all e=true then (none,()) else (some false,()))):=by
 have assoc : ∀(s:Sem (ForInStep (Option Bool×Unit))) (g1:ForInStep (Option Bool×Unit)→Sem (Option Bool×Unit)) (f2:Option Bool×Unit→Sem Bool),pureRun P ((s >>= g1) >>= f2)=pureRun P (s >>= fun x=>g1 x >>= f2):=fun s g1 f2=>by
  show pureRun P ((s.bind g1).bind f2)=pureRun P (s.bind fun x=>(g1 x).bind f2)
  rw[pureRun_seq,pureRun_seq,pureRun_seq]
  cases pureRun P s with
  | none=>rfl
  | some a=>simp only[Option.bind_some];rw[pureRun_seq]
 intro fs
 induction fs with
 | nil=>intro _;rfl
 | cons f fs ih =>
  intro hi
  have h1:=hi f (by simp) (none,())
  rw[List.forIn_cons,assoc,pr_bind h1,List.all_cons]
  cases hc:e f with
  | true =>
   rw[Bool.true_and,←ih fun j hj=>hi j (by simp[hj])]
   rfl
  | false =>
   rw[Bool.false_and]
   rfl
theorem pr_equal_struct {t:TypeId} {fs:Array Field} (hT:P.underlying t=some (.struct fs)) (hs:P.stoodInHeld t=false) (d:Nat) (xs ys:Array Value) (e:Field→Bool)
  (h : ∀f∈fs.toList,f.name ≠ "_" ∧ ∃a b,pureRun P (part f.type xs f.offset)=some a∧pureRun P (part f.type ys f.offset)=some b∧pureRun P (Op.equalIn d f.type a b)=some (e f)) :
  pureRun P (Op.equalIn (d+1) t (.agg xs) (.agg ys))=some (fs.toList.all e):=by
 unfold Op.equalIn
 rw[pr_bind (pr_underlying hT)]
 simp only
 rw[pr_bind (show pureRun P program=some P from rfl),hs]
 simp only[Bool.false_eq_true,if_false]
 rw[←Array.forIn_toList]
 rw[pr_fields _ _ e fs.toList]
 ·cases fs.toList.all e<;>rfl
 ·intro f hf r
  obtain⟨hn,a,b,h1,h2,h3⟩:=h f hf
  simp only[hn,ne_eq,not_false_eq_true,if_true]
  rw[pr_bind h1,pr_bind h2,pr_bind h3]
  cases e f<;>rfl
end
end Go.Id

namespace Go.Id
open Go
open Go.Proofs.Tryz (prog)
open Nat (reduceAdd reduceEqDiff reduceLeDiff reduceMul)
set_option maxHeartbeats 16000000
def cmpQ (x y:Rat):Int:=if x<y then -1 else if x=y then 0 else 1
def cmpR (b1:Bool) (x:Rat) (b2:Bool) (y:Rat):Int:=if b1 && !b2 then 1 else if b2 && !b1 then -1 else cmpQ x y
theorem cmpQ_self (x:Rat):cmpQ x x=0:=by
 unfold cmpQ
 rw[if_neg (Rat.lt_irrefl),if_pos rfl]
theorem shq_inj' {x y:Rat} (hx:QW x) (hy:QW y) (h1:(shq x).1=(shq y).1) (h2:(shq x).2=(shq y).2):x=y:=by
 rw[←(shq_rOf hx).1,←(shq_rOf hy).1]
 unfold rOf
 rw[h1,h2]
abbrev rkV (b:Bool) (x:Rat):Value:=.agg (Value.bool b :: shC (shq x).1 (shq x).2).toArray
theorem rk_ext (b:Bool) (n d:Nat):((Value.bool b :: shC n d).toArray).extract 1 (1+16)=(shC n d).toArray:=by
 simp only[List.extract_toArray,List.extract_eq_take_drop]
 rw[show(1+16 - 1)=16 from rfl,List.drop_one,List.tail_cons,List.take_of_length_le (by rw[shC_len];omega)]
theorem rk_eql {b1 b2:Bool} {x y:Rat} (hx:QW x) (hy:QW y) (ox oy:Operand):binop prog .eql 115 ox oy (rkV b1 x) (rkV b2 y)=some (.bool (decide (b1=b2∧x=y))):=by
 have hp : ∀(b:Bool) (x:Rat),plain (rkV b x)=true:=fun b x=>by
  have:=sh_plain (shq x).1 (shq x).2
  simp only[plain,List.all_toArray,List.all_cons] at this ⊢
  rw[this];rfl
 refine binop_eql_gen (by kernel_rfl) (hp _ _) (hp _ _) ?_ ox oy
 have hx1:=shq_lt hx
 have hy1:=shq_lt hy
 have key:=pr_equal_struct (P:=prog) u115 (by kernel_rfl) 9999 (Value.bool b1 :: shC (shq x).1 (shq x).2).toArray (Value.bool b2 :: shC (shq y).1 (shq y).2).toArray (fun f=>if f.name = "endless" then b1 == b2 else decide ((shq x).1=(shq y).1∧(shq x).2=(shq y).2)) (by
  intro f hf
  simp only[List.mem_cons,List.not_mem_nil,or_false] at hf
  rcases hf with rfl|rfl
  ·exact⟨by decide,.bool b1,.bool b2,pr_part_scal ag4 rfl,pr_part_scal ag4 rfl,pr_equal_bool u4 _ _ _⟩
  ·exact⟨by decide,.agg (shC (shq x).1 (shq x).2).toArray,.agg (shC (shq y).1 (shq y).2).toArray,
    (pr_part_agg ag47 sz47 _ 1).trans (by rw[rk_ext]),(pr_part_agg ag47 sz47 _ 1).trans (by rw[rk_ext]),sh_equalIn hx1.1 hx1.2 hy1.1 hy1.2 9996⟩)
 refine key.trans (congrArg some ?_)
 simp only[List.all_cons,List.all_nil,Bool.and_true,if_true]
 rw[if_neg (by decide)]
 rw[Bool.eq_iff_iff]
 simp only[Bool.and_eq_true,beq_iff_eq,decide_eq_true_eq]
 constructor
 ·rintro⟨h1,h2,h3⟩;exact⟨h1,shq_inj' hx hy h2 h3⟩
 ·rintro⟨h1,rfl⟩;exact⟨h1,rfl,rfl⟩
theorem rk_take1 (b:Bool) (n d:Nat):List.take 16 (List.drop 1 (Value.bool b :: shC n d))=shC n d:=by rw[List.drop_one,List.tail_cons,List.take_of_length_le (by rw[shC_len];omega)]
theorem cmpQ_rOf {x y:Rat} (hx:QW x) (hy:QW y):(if rOf (shq x)<rOf (shq y) then (-1:Int) else if rOf (shq x)=rOf (shq y) then 0 else 1)=cmpQ x y:=by rw[(shq_rOf hx).1,(shq_rOf hy).1];rfl
theorem rkCmp_ok {h:IH} {b1 b2:Bool} {x y:Rat} (hx:QW x) (hy:QW y):WV prog (.func (.func 74) #[] #[]) [rkV b1 x,rkV b2 y] h fun r h'=>Ext h h'∧r=KI (cmpR b1 x b2 y):=by
 have he:=fun ox oy=>rk_eql (b1:=b1) (b2:=b2) hx hy ox oy
 refine enter (nt:=36) (rs:=[.tmp 4]) Proofs.Tryz.func74 rfl rfl rfl (by simp) ?_
 simp -dsimp (maxSteps:=1000000) (disch:=try exact dx) only[wpS,wpT,reduceEqDiff,reduceLeDiff,reduceAdd,ld115]
 obtain⟨H0,hH0,n0,E0,g0,g1⟩:=boxes2 h (Value.bool b1 :: shC (shq x).1 (shq x).2) (Value.bool b2 :: shC (shq y).1 (shq y).2)
 rw[←hH0]
 clear hH0
 by_cases c:b1=b2∧x=y
 ·rw[decide_eq_true c] at he
  obtain⟨rfl,rfl⟩:=c
  simp -dsimp (maxSteps:=1000000) (disch:=try exact dx) only[wpS,wpT,reduceEqDiff,reduceLeDiff,reduceAdd,ld115,row_of g1,rk_take,shC_len,he]
  refine⟨E0,?_⟩
  unfold cmpR
  rw[cmpQ_self]
  cases b1<;>rfl
 ·rw[decide_eq_false c] at he
  clear c
  cases b1<;>cases b2
  ·simp -dsimp (maxSteps:=1000000) (disch:=try exact dx) only[wpS,wpT,reduceEqDiff,reduceLeDiff,reduceAdd,ld115,fa115_0,ld4,fa115_1,ld47,row_of g0,row_of g1,rk_take,shC_len,he,rk_take1]
   refine call (shcmp_ok (shq_lt hx) (shq_lt hy) (shq_rOf hx).2 (shq_rOf hy).2) ?_
   rintro _ h1 ⟨X1,rfl⟩
   rw[cmpQ_rOf hx hy]
   simp -dsimp (maxSteps:=1000000) (disch:=try exact dx) only[wpS,reduceEqDiff]
   exact⟨E0.trans X1,rfl⟩
  ·simp -dsimp (maxSteps:=1000000) (disch:=try exact dx) only[wpS,wpT,reduceEqDiff,reduceLeDiff,reduceAdd,ld115,fa115_0,ld4,row_of g0,row_of g1,rk_take,shC_len,he]
   exact⟨E0,rfl⟩
  ·simp -dsimp (maxSteps:=1000000) (disch:=try exact dx) only[wpS,wpT,reduceEqDiff,reduceLeDiff,reduceAdd,ld115,fa115_0,ld4,row_of g0,row_of g1,rk_take,shC_len,he]
   exact⟨E0,rfl⟩
  ·simp -dsimp (maxSteps:=1000000) (disch:=try exact dx) only[wpS,wpT,reduceEqDiff,reduceLeDiff,reduceAdd,ld115,fa115_0,ld4,fa115_1,ld47,row_of g0,row_of g1,rk_take,shC_len,he,rk_take1]
   refine call (shcmp_ok (shq_lt hx) (shq_lt hy) (shq_rOf hx).2 (shq_rOf hy).2) ?_
   rintro _ h1 ⟨X1,rfl⟩
   rw[cmpQ_rOf hx hy]
   simp -dsimp (maxSteps:=1000000) (disch:=try exact dx) only[wpS,reduceEqDiff]
   exact⟨E0.trans X1,rfl⟩
def rankX (m p s:Nat):Rat:=if postZ m s=true then Rat.divInt p 1 else rankQ m p s
theorem rankX_qw {m p s:Nat} (hp:p≤1000000000) (hs:s≤1000):QW (rankX m p s):=by
 unfold rankX
 by_cases c:postZ m s=true
 ·rw[if_pos c];exact qw_small (by omega) (by omega) (by omega)
 ·rw[if_neg c];exact rankQ_qw hp hs (fun e=>c (by unfold postZ;rw[e];rfl))
theorem rankV_eq (m p s:Nat):rankV m p s=rkV (postZ m s) (rankX m p s):=by
 unfold rankV rankC rankX rkV
 cases postZ m s<;>rfl
def cmpRank (m p s q t:Nat):Int:=cmpR (postZ m s) (rankX m p s) (postZ m t) (rankX m q t)
def aboveErr (m p s q t:Int):Bool:=!(inR 11 15 [m] && inR 0 1000 [s,t]) || !(inR 1 1000000000 [p,q])
theorem above_ok {h:IH} (m p s q t:Int):WV prog (.func (.func 32) #[] #[]) [KI m,KI p,KI s,KI q,KI t] h fun r h'=>Ext h h'∧r=if aboveErr m p s q t=true then .tuple #[KI 0,KI 2] else .tuple #[KI (cmpRank m.toNat p.toNat s.toNat q.toNat t.toNat),KI 0]:=by
 refine enter (nt:=34) (rs:=[.tmp 10,.tmp 11]) Proofs.Tryz.func32 rfl rfl rfl (by simp) ?_
 simp -dsimp (maxSteps:=1000000) (disch:=try exact dx) only[wpS,wpT,reduceEqDiff,reduceLeDiff,reduceAdd,reduceMul,bs29]
 have X0:Ext h (h.new (.cells [KI s,KI t] 1 none)):=(Ext.refl h).new _
 refine call (known_ok (l:=[s,t]) m (built2 h s t) (by simp)) ?_
 rintro _ h1 ⟨Y1,rfl⟩
 have X1:=X0.trans Y1
 cases c1:(inR 11 15 [m] && inR 0 1000 [s,t])
 ·have e:aboveErr m p s q t=true:=by unfold aboveErr;rw[c1];rfl
  simp -dsimp (maxSteps:=1000000) (disch:=try exact dx) only[wpS,wpT,reduceEqDiff]
  exact⟨X1,by rw[if_pos e]⟩
 ·simp -dsimp (maxSteps:=1000000) (disch:=try exact dx) only[wpS,wpT,reduceEqDiff,reduceLeDiff,reduceAdd,reduceMul,bs29]
  have X2:Ext h (h1.new (.cells [KI p,KI q] 1 none)):=X1.new _
  refine call (within_ok (l:=[p,q]) 1 1000000000 (built2 h1 p q) (by simp)) ?_
  rintro _ h2 ⟨Y2,rfl⟩
  have X3:=X2.trans Y2
  cases c2:inR 1 1000000000 [p,q]
  ·have e:aboveErr m p s q t=true:=by unfold aboveErr;rw[c1,c2];rfl
   simp -dsimp (maxSteps:=1000000) (disch:=try exact dx) only[wpS,wpT,reduceEqDiff]
   exact⟨X3,by rw[if_pos e]⟩
  ·have e:aboveErr m p s q t=false:=by unfold aboveErr;rw[c1,c2];rfl
   rw[Bool.and_eq_true,inR_iff,inR_iff] at c1
   rw[inR_iff] at c2
   have a1:=c1.1 m (by simp)
   have a2:=c1.2 s (by simp)
   have a3:=c1.2 t (by simp)
   have a4:=c2 p (by simp)
   have a5:=c2 q (by simp)
   obtain⟨m',rfl⟩ : ∃k:Nat,m=k:=⟨m.toNat,by omega⟩
   obtain⟨p',rfl⟩ : ∃k:Nat,p=k:=⟨p.toNat,by omega⟩
   obtain⟨s',rfl⟩ : ∃k:Nat,s=k:=⟨s.toNat,by omega⟩
   obtain⟨q',rfl⟩ : ∃k:Nat,q=k:=⟨q.toNat,by omega⟩
   obtain⟨t',rfl⟩ : ∃k:Nat,t=k:=⟨t.toNat,by omega⟩
   simp -dsimp (maxSteps:=1000000) (disch:=try exact dx) only[wpS,wpT,reduceEqDiff]
   refine call (ranked_ok (m:=m') (p:=p') (s:=s') (by omega) (by omega) (by omega)) ?_
   rintro _ h3 ⟨Y3,rfl⟩
   simp -dsimp (maxSteps:=1000000) (disch:=try exact dx) only[wpS,reduceEqDiff]
   refine call (ranked_ok (m:=m') (p:=q') (s:=t') (by omega) (by omega) (by omega)) ?_
   rintro _ h4 ⟨Y4,rfl⟩
   rw[rankV_eq,rankV_eq]
   simp -dsimp (maxSteps:=1000000) (disch:=try exact dx) only[wpS,reduceEqDiff]
   refine call (rkCmp_ok (rankX_qw (by omega) (by omega)) (rankX_qw (by omega) (by omega))) ?_
   rintro _ h5 ⟨Y5,rfl⟩
   simp -dsimp (maxSteps:=1000000) (disch:=try exact dx) only[wpS,reduceEqDiff]
   refine⟨X3.trans (Y3.trans (Y4.trans Y5)),?_⟩
   rw[if_neg (by rw[e];simp)]
   rfl
end Go.Id

namespace Go.Id
open Go
open Go.Proofs.Tryz (prog)
open Nat (reduceEqDiff)
theorem qcheck1_ok {h:IH} {n:Int}:WV prog (.func (.func 96) #[] #[]) [KI n] h fun r h'=>h'=h∧r=.bool (outR 0 1000000000 n):=by
 refine enter (nt:=9) (rs:=[.tmp 2]) Proofs.Tryz.func96 rfl rfl rfl (by simp) ?_
 by_cases c:n<0
 ·have d:decide (n<0)=true:=decide_eq_true c
  simp -dsimp (maxSteps:=1000000) (disch:=try exact dx) only[wpS,wpT,reduceEqDiff,d]
  simp[outR,d]
 ·have d:decide (n<0)=false:=decide_eq_false c
  simp -dsimp (maxSteps:=1000000) (disch:=try exact dx) only[wpS,wpT,reduceEqDiff,d]
  simp[outR,d]
theorem sum_bound : ∀(l:List Int),(∀n∈l,0≤n∧n≤1000000000)→0≤l.sum∧l.sum≤1000000000*(l.length:Int)
 | [],_=>by simp
 | a :: l,h=>by
  have h1:=sum_bound l fun n hn=>h n (by simp[hn])
  have h2:=h a (by simp)
  rw[List.sum_cons,List.length_cons]
  omega
theorem sum_take_succ (l:List Int) {i:Nat} {x:Int} (h:l[i]?=some x):(l.take (i+1)).sum=(l.take i).sum+x:=by
 rw[List.take_succ,h]
 simp
theorem qsum_ok {h:IH} {v:Value} {l:List Int} (hv:SlOf h 1 v l.length (l.map KI)) (hl:l.length≤60) (hr : ∀n∈l,0≤n∧n≤1000000000) :
  WV prog (.func (.func 97) #[] #[]) [v] h fun r h'=>h'=h∧r=KI l.sum:=by
 have hn:=hv.now
 refine enter (nt:=17) (rs:=[.tmp 2]) Proofs.Tryz.func97 rfl rfl rfl (by simp) ?_
 simp -dsimp (maxSteps:=1000000) (disch:=try exact dx) only[wpS,reduceEqDiff,hn.len sl29]
 refine loop (fun m fr h1=>h1=h ∧ ∃i:Nat,i+m=l.length∧fget fr 3=some (KI (l.take i).sum)∧fget fr 6=some v∧fget fr 7=some (KI l.length)∧fget fr 8=some (KI i)) l.length ⟨rfl,0,by simp,by simp,by simp,by simp,by simp⟩ ?_
 rintro m fr h1 ⟨rfl,i,him,f3,f6,f7,f8⟩
 by_cases c:i<l.length
 ·obtain⟨x,hx⟩ : ∃x,l[i]?=some x:=⟨l[i],List.getElem?_eq_getElem c⟩
  have b1:=sum_bound (l.take i) fun n hn=>hr n (List.mem_of_mem_take hn)
  have b2:=hr x (List.mem_of_getElem? hx)
  have b3:(l.take i).length≤60:=by rw[List.length_take];omega
  have e1:IntKind.i64.wrap ((l.take i).sum+x)=(l.take (i+1)).sum:=by rw[sum_take_succ l hx,wrap_i64 (by omega)]
  have e2:IntKind.i64.wrap ((i:Int)+1)=((i+1:Nat):Int):=by rw[wrap_i64 (by omega)];omega
  simp -dsimp (maxSteps:=1000000) (disch:=try exact dx) only[wpS,wpT,reduceEqDiff,f3,f6,f7,f8,e1,e2,hn.idx es29 c,hn.ld (P:=prog) (t:=3) (c:=i) (by simp<;>omega) ag3,map_get,hx]
  exact⟨m - 1,by omega,rfl,i+1,by omega,by simp,by simp[f6],by simp[f7],by simp⟩
 ·simp -dsimp (maxSteps:=1000000) (disch:=try exact dx) only[wpS,wpT,reduceEqDiff,f3,f7,f8]
  rw[List.take_of_length_le (by omega)]
def quotaOK (l:List Int):Bool:=decide (l.length≤60) && (inR 0 1000000000 l && !(l.sum == 0))
theorem qcheck_ok {h:IH} {v:Value} {l:List Int} (hv:SlOf h 1 v l.length (l.map KI)) (hl:l.length≤1000000000) :
  WV prog (.func (.func 49) #[] #[]) [v] h fun r h'=>h'=h∧r=KI (if quotaOK l=true then 0 else 60):=by
 have hn:=hv.now
 refine enter (nt:=17) (rs:=[.tmp 2]) Proofs.Tryz.func49 rfl rfl rfl (by simp) ?_
 by_cases c:l.length≤60
 ·simp -dsimp (maxSteps:=1000000) (disch:=try exact dx) only[wpS,wpT,reduceEqDiff,hn.len sl29]
  refine call (containsFunc_ok (outR 0 1000000000) hn hl (fun x hx=>qcheck1_ok)) ?_
  rintro _ _ ⟨rfl,rfl⟩
  cases c2:l.any (outR 0 1000000000)
  ·have c3:inR 0 1000000000 l=true:=by unfold inR;rw[c2];rfl
   simp -dsimp (maxSteps:=1000000) (disch:=try exact dx) only[wpS,wpT,reduceEqDiff]
   refine call (qsum_ok hv c (inR_iff.1 c3)) ?_
   rintro _ _ ⟨rfl,rfl⟩
   cases c4:(l.sum == 0)
   ·simp -dsimp (maxSteps:=1000000) (disch:=try exact dx) only[wpS,wpT,reduceEqDiff,c4]
    rw[if_pos (by unfold quotaOK;rw[c3,c4,decide_eq_true c];rfl)]
   ·simp -dsimp (maxSteps:=1000000) (disch:=try exact dx) only[wpS,wpT,reduceEqDiff,c4]
    rw[if_neg (by unfold quotaOK;rw[c3,c4,decide_eq_true c];simp)]
  ·have c3:inR 0 1000000000 l=false:=by unfold inR;rw[c2];rfl
   simp -dsimp (maxSteps:=1000000) (disch:=try exact dx) only[wpS,wpT,reduceEqDiff]
   rw[if_neg (by unfold quotaOK;rw[c3];simp)]
 ·simp -dsimp (maxSteps:=1000000) (disch:=try exact dx) only[wpS,wpT,reduceEqDiff,hn.len sl29]
  rw[if_neg (by unfold quotaOK;rw[decide_eq_false c];simp)]
end Go.Id

namespace Go.Id
open Go
def firstT (p:Nat→Bool):Nat→Nat
 | 0=>0
 | n+1=>if firstT p n<n then firstT p n else if p n=true then n else n+1
theorem firstT_le (p:Nat→Bool) : ∀n,firstT p n≤n
 | 0=>Nat.le_refl _
 | n+1=>by
  have:=firstT_le p n
  unfold firstT
  split
  ·omega
  ·split<;>omega
theorem firstT_below (p:Nat→Bool) : ∀n s,s<firstT p n→p s=false
 | 0,s,h=>absurd h (Nat.not_lt_zero _)
 | n+1,s,h=>by
  have ih:=firstT_below p n
  have hl:=firstT_le p n
  unfold firstT at h
  split at h
  ·exact ih s h
  ·split at h
   ·exact ih s (by omega)
   ·rename_i h1 h2
    rcases Nat.lt_or_ge s n with h3|h3
    ·exact ih s (by omega)
    ·obtain rfl:s=n:=by omega
     simpa using h2
end Go.Id

namespace Go.Id
open Go
theorem postN_cross {m:Nat} (hm:11≤m∧m≤15) (s:Nat):postN m s*postD m (s+1)<postN m (s+1)*postD m s:=by
 rcases(by omega:m=11∨m=12∨m=13∨m=14∨m=15) with rfl|rfl|rfl|rfl|rfl
 ·show s*1<(s+1)*1;omega
 ·show 2*s*(s+1)*(2*(s+1)+1)<2*(s+1)*(s+1+1)*(2*s+1)
  grind
 ·show s*(s+1)*1<(s+1)*(s+1+1)*1
  grind
 ·show(2*s+1)*2<(2*(s+1)+1)*2;omega
 ·show(s+1)*1<(s+1+1)*1;omega
theorem divInt_lt {a b c d:Nat} (hb:0<b) (hd:0<d) (h:a*d<c*b):Rat.divInt a b<Rat.divInt c d:=by
 have h1:(0:Rat)<((b:Int):Rat):=by exact_mod_cast hb
 have h2:(0:Rat)<((d:Int):Rat):=by exact_mod_cast hd
 have h3:((a:Int):Rat)*((d:Int):Rat)<((c:Int):Rat)*((b:Int):Rat):=by exact_mod_cast h
 rw[Rat.divInt_eq_div,Rat.divInt_eq_div,Rat.div_lt_iff h1,show((c:Int):Rat) / ((d:Int):Rat)*((b:Int):Rat)=((c:Int):Rat)*((b:Int):Rat) / ((d:Int):Rat) from by rw[Rat.div_def,Rat.div_def,Rat.mul_assoc,Rat.mul_comm ((d:Int):Rat)⁻¹,←Rat.mul_assoc],Rat.lt_div_iff h2]
 exact h3
def stepP (k:Int) (m:Nat) (t:Rat) (s:Nat):Bool:=decide (k≤cmpQ (postQ m s) t)
noncomputable def atT (m:Nat) (x:Rat) (n:Int):Option Rat:=open Classical in
 if QW ((n:Rat) / x) then (if m=13 then (if QW ((n:Rat) / x*((n:Rat) / x)) then some ((n:Rat) / x*((n:Rat) / x)) else none) else some ((n:Rat) / x)) else none
def atLow (m:Nat) (t:Rat):Nat:=firstT (stepP 0 m t) 1001
def atHigh (m:Nat) (t:Rat):Nat:=firstT (stepP 1 m t) 1001
noncomputable def atReg (m:Nat) (x:Rat) (n:Int):Int×Int×Int:=match atT m x n with
 | none=>(6,0,0)
 | some t=>if n=0 then (0,0,0) else if 1000<atHigh m t then (2,0,0) else (0,(atLow m t:Nat),(atHigh m t:Nat))
noncomputable def atE (m:Nat) (x:Rat):List Int→Int
 | []=>0
 | n :: l=>if (atReg m x n).1=0 then atE m x l else (atReg m x n).1
noncomputable def atA (m:Nat) (x:Rat) (l:List Int):List Value:=l.map fun n=>KI (atReg m x n).2.1
noncomputable def atB (m:Nat) (x:Rat) (l:List Int):List Value:=l.map fun n=>KI (atReg m x n).2.2
noncomputable def atErr (people:List Int) (p:Nat×Nat) (m:Int):Int:=open Classical in
 if quotaOK people=false then 60 else if ¬okS p.1 p.2 then 20 else if ¬0<rOf p∨inR 11 15 [m]=false then 2 else atE m.toNat (rOf p) people
def AtV (h':IH) (r:Value) (people:List Int) (p:Nat×Nat) (m:Int):Prop :=
 if atErr people p m=0 then ∃v w,r=.tuple #[v,w,KI 0]∧SlOf h' 1 v people.length (atA m.toNat (rOf p) people)∧SlOf h' 1 w people.length (atB m.toNat (rOf p) people)
 else r=.tuple #[.slice none 0 0,.slice none 0 0,KI (atErr people p m)]
end Go.Id

namespace Go.Id
open Go
end Go.Id
