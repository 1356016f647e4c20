/-
  Contracts: package divisor: Post, ranks, Above, Rank. Structs compared, field by field.
-/
import Derived.Test.YthpefnfbnaekaaaGreatBracketDividesAg
import Derived.Test.YthpefnfbnaekaaaGreatBracketDividesAm
import Derived.Test.YthpefnfbnaekaaaGreatBracketDividesAh
import Derived.Test.YthpefnfbnaekaaaGreatBracketDividesAl
set_option linter.unusedVariables false
set_option linter.unusedSimpArgs false
set_option linter.defProp false
set_option linter.deprecated false
namespace Go.Id
open Go
open Nat (reduceAdd reduceEqDiff reduceLeDiff)
set_option maxHeartbeats 16000000
theorem qw_small {n d:Int} (hn:n.natAbs≤9223372036854775807) (hd:d.natAbs≤9223372036854775807) (d0:d≠0):QW (Rat.divInt n d):=qw_div ⟨by omega,by omega⟩ ⟨by omega,by omega⟩ d0
def postQ (m s:Nat):Rat:=Rat.divInt (postN m s) (postD m s)
theorem postQ_qw {m s:Nat} (h:s≤1000):QW (postQ m s) :=
 qw_small (by have:=postN_le (m:=m) h;omega) (by have:=postD_le (m:=m) h;omega) (by have:=postD_pos m s;omega)
def postErr (m s:Int):Bool:=!(inR 11 15 [m] && inR 0 1000 [s])
theorem postErr_no {m s:Int} (h:postErr m s=false) : ∃a b:Nat,m=a∧s=b∧(11≤a∧a≤15)∧b≤1000:=by
 unfold postErr at h
 rw[Bool.not_eq_false',Bool.and_eq_true,inR_iff,inR_iff] at h
 have h1:=h.1 m (by simp)
 have h2:=h.2 s (by simp)
 exact⟨m.toNat,s.toNat,by omega,by omega,⟨by omega,by omega⟩,by omega⟩
theorem dPost_ok {h:IH} (m s:Int):WV Proofs.Tryz.prog (.func (.func 57) #[] #[]) [KI m,KI s] h fun r h'=>Ext h h'∧r=if postErr m s=true then .tuple #[shV 0 0,KI 2] else .tuple #[shV (shq (postQ m.toNat s.toNat)).1 (shq (postQ m.toNat s.toNat)).2,KI 0]:=by
 refine enter (nt:=20) (rs:=[.cell 4 47,.tmp 5]) Proofs.Tryz.func57 rfl rfl rfl (by simp) ?_
 simp -dsimp (maxSteps:=1000000) (disch:=try exact dx) only[wpS,wpT,reduceEqDiff,reduceLeDiff,reduceAdd,zc47,bs29]
 obtain⟨H0,hH0⟩ : ∃H,H=h.new (.cells Z16 0 none):=⟨_,rfl⟩
 have E1:Ext h H0:=by rw[hH0];exact(Ext.refl h).new _
 have g0:H0.ext.get h.n=some (.cells Z16 0 none):=by rw[hH0];simp (disch:=try exact dx) only[get_new_same]
 have n0:H0.n=h.n+1:=by rw[hH0];simp
 rw[←n0,←hH0]
 clear hH0
 have X0:Ext H0 (H0.new (.cells [KI s] 1 none)):=(Ext.refl H0).new _
 refine call (known_ok (l:=[s]) m (built1 H0 s) (by simp)) ?_
 rintro _ h1 ⟨Y1,rfl⟩
 have X1:=X0.trans Y1
 have m1:=X1.n
 have kg:=X1.kept (by omega) g0
 cases c:postErr m s
 ·have c':(inR 11 15 [m] && inR 0 1000 [s])=true:=by unfold postErr at c;rwa [Bool.not_eq_false'] at c
  obtain⟨a,b,rfl,rfl,ha,hb⟩:=postErr_no c
  have hn:=postN_le (m:=a) hb
  have hd:=postD_le (m:=a) hb
  have hp:=postD_pos a b
  simp -dsimp (maxSteps:=1000000) (disch:=try exact dx) only[wpS,wpT,reduceEqDiff,c']
  refine call (post_ok ha hb) ?_
  rintro _ h2 ⟨Y2,rfl⟩
  simp -dsimp (maxSteps:=1000000) (disch:=try exact dx) only[wpS,reduceEqDiff]
  refine call (shof_ok (postN a b) (postD a b) ⟨by omega,by omega⟩ ⟨by omega,by omega⟩ (by omega)) ?_
  rintro _ h3 ⟨Y3,rfl⟩
  have X3:=X1.trans (Y2.trans Y3)
  have m3:=X3.n
  have kg3:=X3.kept (by omega) g0
  rw[show shareV (Rat.divInt (postN a b) (postD a b))=shV (shq (postQ a b)).1 (shq (postQ a b)).2 from rfl]
  simp -dsimp (maxSteps:=1000000) (disch:=try exact dx) only[wpS,wpT,reduceEqDiff,reduceLeDiff,reduceAdd,st47,ld47,kg3,shV_cells,shC_len,shC_all,sh_sp3,sh_take]
  refine⟨(E1.trans X3).put (by omega) _,?_⟩
  rw[if_neg (by simp)];rfl
 ·have c':(inR 11 15 [m] && inR 0 1000 [s])=false:=by unfold postErr at c;rwa [Bool.not_eq_true'] at c
  simp -dsimp (maxSteps:=1000000) (disch:=try exact dx) only[wpS,wpT,reduceEqDiff,reduceLeDiff,reduceAdd,bv47,st47,ld47,c',kg]
  exact⟨(E1.trans X1).put (by omega) _,by rw[←sh_zeroV];rfl⟩
def postZ (m s:Nat):Bool:=postN m s == 0
def rankQ (m p s:Nat):Rat:=Rat.divInt ((if m=13 then p*p else p:Nat):Int) (postN m s)*Rat.divInt (postD m s) 1
def rankC (m p s:Nat):List Value:=if postZ m s=true then .bool true :: shC (shq (Rat.divInt p 1)).1 (shq (Rat.divInt p 1)).2 else .bool false :: shC (shq (rankQ m p s)).1 (shq (rankQ m p s)).2
def rankV (m p s:Nat):Value:=.agg (rankC m p s).toArray
theorem mulSelf_le {p:Nat} (h:p≤1000000000):p*p≤1000000000000000000:=Nat.mul_le_mul h h
theorem powSq {k a:Nat} (h:k≤a+a):(2:Nat) ^ k≤2 ^ a*2 ^ a:=by
 rw[←Nat.pow_add]
 exact Nat.pow_le_pow_right (by omega) h
theorem qw_bits {k:Nat} {q:Rat} (h:QB k q) (hk:k≤510):QW q:=by
 have e:(2:Nat) ^ 255*2 ^ 255<H8:=by unfold H8;decide +kernel
 have h1:(2:Nat) ^ k≤2 ^ 255*2 ^ 255:=powSq (a:=255) (by omega)
 obtain⟨a,b⟩:=h
 generalize (2:Nat) ^ 255*2 ^ 255=y at *
 generalize (2:Nat) ^ k=x at *
 unfold QW InW
 omega
theorem bits70 {n:Nat} (h:n≤1000000000000000000):((n:Nat):Int).natAbs≤2 ^ 60:=by
 have e:(1000000000000000000:Nat)≤2 ^ 60:=by decide
 rw[Int.natAbs_natCast];exact Nat.le_trans h e
theorem rankQ_bits {m p s:Nat} (hp:p≤1000000000) (hs:s≤1000) (h0:postN m s≠0):QB 60 (Rat.divInt ((if m=13 then p*p else p:Nat):Int) (postN m s))∧QB 60 (Rat.divInt (postD m s) 1):=by
 have hq:=mulSelf_le hp
 have hd:=postD_le (m:=m) hs
 have hn:=postN_le (m:=m) hs
 have ht:(if m=13 then p*p else p:Nat)≤1000000000000000000:=by split<;>omega
 exact⟨QB.divInt (by omega) (bits70 ht) (bits70 (by omega)),QB.divInt (by omega) (bits70 (by omega)) (bits70 (n:=1) (by omega))⟩
theorem rankQ_qw {m p s:Nat} (hp:p≤1000000000) (hs:s≤1000) (h0:postN m s≠0):QW (rankQ m p s):=by
 obtain⟨a,b⟩:=rankQ_bits (m:=m) hp hs h0
 exact qw_bits (QB.mul a b) (by omega)
theorem rk_len (b:Bool) (n d:Nat):(Value.bool b :: shC n d).length=17:=by rw[List.length_cons,shC_len]
theorem rk_all (b:Bool) (n d:Nat):(Value.bool b :: shC n d).all cellOK=true:=by rw[List.all_cons,shC_all];rfl
theorem rk_take (b:Bool) (n d:Nat):List.take 17 (List.drop 0 (Value.bool b :: shC n d))=.bool b :: shC n d:=by rw[List.drop_zero,List.take_of_length_le (by rw[rk_len];omega)]
theorem boxed (h:IH) (a b:List Value) : ∃H,H=(h.new (.cells a 0 none)).put h.n (.cells b 0 none)∧H.n=h.n+1∧Ext h H∧H.ext.get h.n=some (.cells b 0 none) :=
 ⟨_,rfl,by simp,((Ext.refl h).new _).put (by omega) _,by simp (disch:=try exact dx) only[get_put_same]⟩
theorem ranked_ok {h:IH} {m p s:Nat} (hm:11≤m∧m≤15) (hp:p≤1000000000) (hs:s≤1000) :
  WV Proofs.Tryz.prog (.func (.func 73) #[] #[]) [KN m,KN p,KN s] h fun r h'=>Ext h h'∧r=rankV m p s:=by
 have hn:=postN_le (m:=m) hs
 have hd:=postD_le (m:=m) hs
 have hd0:=postD_pos m s
 refine enter (nt:=58) (rs:=[.cell 6 115]) Proofs.Tryz.func73 rfl rfl rfl (by simp) ?_
 simp -dsimp (maxSteps:=1000000) (disch:=try exact dx) only[wpS,reduceEqDiff,reduceAdd,zc115]
 obtain⟨H0,hH0⟩ : ∃H,H=h.new (.cells (.bool false :: Z16) 0 none):=⟨_,rfl⟩
 have E1:Ext h H0:=by rw[hH0];exact(Ext.refl h).new _
 have g0:H0.ext.get h.n=some (.cells (.bool false :: Z16) 0 none):=by rw[hH0];simp (disch:=try exact dx) only[get_new_same]
 have n0:H0.n=h.n+1:=by rw[hH0];simp
 rw[←hH0]
 clear hH0
 refine call (post_ok hm hs) ?_
 rintro _ h1 ⟨X1,rfl⟩
 have m1:=X1.n
 by_cases c:postN m s=0
 ·have c1:(((postN m s:Nat):Int) == 0)=true:=by rw[c];rfl
  have hz:postZ m s=true:=by unfold postZ;rw[c];rfl
  simp -dsimp (maxSteps:=1000000) (disch:=try exact dx) only[wpS,reduceEqDiff,c1]
  refine call (shof_ok p 1 ⟨by omega,by omega⟩ ⟨by omega,by omega⟩ (by omega)) ?_
  rintro _ h2 ⟨X2,rfl⟩
  rw[shareV_shq]
  have Y2:=X1.trans X2
  have m2:=Y2.n
  have k2:=Y2.kept (by omega) g0
  simp -dsimp (maxSteps:=1000000) (disch:=try exact dx) only[wpS,wpT,reduceEqDiff,reduceLeDiff,reduceAdd,zc47,st47,ld47,bv115,pl115_0,pl115_1,st115,ld115,k2,shV_cells,shC_len,shC_all,sh_sp3,sh_take,rk_take]
  refine⟨(((E1.trans Y2).new _).put (by omega) _).put (by omega) _,?_⟩
  unfold rankV rankC
  rw[if_pos hz]
 ·have c1:(((postN m s:Nat):Int) == 0)=false:=by rw[beq_eq_false_iff_ne];omega
  have hz:postZ m s=false:=by unfold postZ;rw[beq_eq_false_iff_ne];exact c
  have hq:=mulSelf_le hp
  have hw:=rankQ_qw (m:=m) hp hs c
  have ht:(if m=13 then p*p else p:Nat)≤1000000000000000000:=by split<;>omega
  obtain⟨t,hte⟩ : ∃t,t=(if m=13 then p*p else p:Nat):=⟨_,rfl⟩
  obtain⟨b1,b2⟩:=rankQ_bits (m:=m) hp hs c
  rw[←hte] at ht b1
  have w1:=qw_bits b1 (by omega)
  have w2:=qw_bits b2 (by omega)
  have hqe:Rat.divInt t (postN m s)*Rat.divInt (postD m s) 1=rankQ m p s:=by unfold rankQ;rw[hte]
  by_cases c3:m=13
  ·have c4:(((m:Nat):Int) == 13)=true:=by rw[c3];rfl
   have e1:IntKind.i64.wrap ((p:Int)*(p:Int))=(t:Int):=by rw[hte,if_pos c3,←Int.natCast_mul,wrap_i64 (by omega)]
   simp -dsimp (maxSteps:=1000000) (disch:=try exact dx) only[wpS,reduceEqDiff,c1,c4,e1]
   refine call (shof_ok t (postN m s) ⟨by omega,by omega⟩ ⟨by omega,by omega⟩ (by omega)) ?_
   rintro _ h2 ⟨X2,rfl⟩
   rw[shareV_shq]
   simp -dsimp (maxSteps:=1000000) (disch:=try exact dx) only[wpS,wpT,reduceEqDiff,reduceLeDiff,reduceAdd,zc47,st47,shV_cells,shC_len,shC_all,sh_sp3]
   obtain⟨H2,hH2,n2,E2,g2⟩:=boxed h2 Z16 (shC (shq (Rat.divInt t (postN m s))).1 (shq (Rat.divInt t (postN m s))).2)
   rw[←hH2]
   clear hH2
   refine call (shof_ok (postD m s) 1 ⟨by omega,by omega⟩ ⟨by omega,by omega⟩ (by omega)) ?_
   rintro _ h3 ⟨X3,rfl⟩
   rw[shareV_shq]
   simp -dsimp (maxSteps:=1000000) (disch:=try exact dx) only[wpS,wpT,reduceEqDiff,reduceLeDiff,reduceAdd,zc47,st47,ld47,shV_cells,shC_len,shC_all,sh_sp3]
   obtain⟨H3,hH3,n3,E3,g3⟩:=boxed h3 Z16 (shC (shq (Rat.divInt (postD m s) 1)).1 (shq (Rat.divInt (postD m s) 1)).2)
   rw[←hH3]
   clear hH3
   have m2:=X2.n
   have m3:=X3.n
   have k2:=(X3.trans E3).kept (by omega) g2
   simp -dsimp (maxSteps:=1000000) (disch:=try exact dx) only[wpS,reduceEqDiff,reduceLeDiff,ld47,row_of k2,row_of g3,shC_len,sh_take]
   refine call (shmul_ok (p1:=shq (Rat.divInt t (postN m s))) (p2:=shq (Rat.divInt (postD m s) 1)) (shq_lt w1) (shq_lt w2) (shq_rOf w1).2 (shq_rOf w2).2) ?_
   rintro _ h4 ⟨X4,rfl⟩
   have m4:=X4.n
   have Y4:=X1.trans (X2.trans (E2.trans (X3.trans (E3.trans X4))))
   have k0:=Y4.kept (by omega) g0
   rw[(shq_rOf w1).1,(shq_rOf w2).1,hqe,toldV_qw hw]
   have mY:=Y4.n
   simp -dsimp (maxSteps:=1000000) (disch:=try exact dx) only[wpS,wpT,reduceEqDiff,reduceLeDiff,reduceAdd,zc47,st47,ld47,bv115,pl115_0,pl115_1,st115,ld115,k0,shV_cells,shC_len,shC_all,sh_sp3,sh_take,rk_take]
   refine⟨(((E1.trans Y4).new _).put (by omega) _).put (by omega) _,?_⟩
   unfold rankV rankC
   rw[if_neg (by rw[hz];simp)]
  ·have c4:(((m:Nat):Int) == 13)=false:=by rw[beq_eq_false_iff_ne];omega
   obtain rfl:t=p:=by rw[hte,if_neg c3]
   simp -dsimp (maxSteps:=1000000) (disch:=try exact dx) only[wpS,reduceEqDiff,c1,c4]
   refine call (shof_ok t (postN m s) ⟨by omega,by omega⟩ ⟨by omega,by omega⟩ (by omega)) ?_
   rintro _ h2 ⟨X2,rfl⟩
   rw[shareV_shq]
   simp -dsimp (maxSteps:=1000000) (disch:=try exact dx) only[wpS,wpT,reduceEqDiff,reduceLeDiff,reduceAdd,zc47,st47,shV_cells,shC_len,shC_all,sh_sp3]
   obtain⟨H2,hH2,n2,E2,g2⟩:=boxed h2 Z16 (shC (shq (Rat.divInt t (postN m s))).1 (shq (Rat.divInt t (postN m s))).2)
   rw[←hH2]
   clear hH2
   refine call (shof_ok (postD m s) 1 ⟨by omega,by omega⟩ ⟨by omega,by omega⟩ (by omega)) ?_
   rintro _ h3 ⟨X3,rfl⟩
   rw[shareV_shq]
   simp -dsimp (maxSteps:=1000000) (disch:=try exact dx) only[wpS,wpT,reduceEqDiff,reduceLeDiff,reduceAdd,zc47,st47,ld47,shV_cells,shC_len,shC_all,sh_sp3]
   obtain⟨H3,hH3,n3,E3,g3⟩:=boxed h3 Z16 (shC (shq (Rat.divInt (postD m s) 1)).1 (shq (Rat.divInt (postD m s) 1)).2)
   rw[←hH3]
   clear hH3
   have m2:=X2.n
   have m3:=X3.n
   have k2:=(X3.trans E3).kept (by omega) g2
   simp -dsimp (maxSteps:=1000000) (disch:=try exact dx) only[wpS,reduceEqDiff,reduceLeDiff,ld47,row_of k2,row_of g3,shC_len,sh_take]
   refine call (shmul_ok (p1:=shq (Rat.divInt t (postN m s))) (p2:=shq (Rat.divInt (postD m s) 1)) (shq_lt w1) (shq_lt w2) (shq_rOf w1).2 (shq_rOf w2).2) ?_
   rintro _ h4 ⟨X4,rfl⟩
   have m4:=X4.n
   have Y4:=X1.trans (X2.trans (E2.trans (X3.trans (E3.trans X4))))
   have k0:=Y4.kept (by omega) g0
   rw[(shq_rOf w1).1,(shq_rOf w2).1,hqe,toldV_qw hw]
   have mY:=Y4.n
   simp -dsimp (maxSteps:=1000000) (disch:=try exact dx) only[wpS,wpT,reduceEqDiff,reduceLeDiff,reduceAdd,zc47,st47,ld47,bv115,pl115_0,pl115_1,st115,ld115,k0,shV_cells,shC_len,shC_all,sh_sp3,sh_take,rk_take]
   refine⟨(((E1.trans Y4).new _).put (by omega) _).put (by omega) _,?_⟩
   unfold rankV rankC
   rw[if_neg (by rw[hz];simp)]
end Go.Id

namespace Go.Id
open Go
section
variable {P:Program}
theorem pr_part_scal {e:TypeId} (hA:isAggT P e=some false) {cs:Array Value} {off:Nat} {v:Value} (hv:cs[off]?=some v):pureRun P (part e cs off)=some v:=by
 unfold part
 have h1:pureRun P (isAgg e)=some false:=by
  unfold isAgg
  simp only[isAggT,Option.map_eq_some_iff] at hA
  obtain⟨d,hd,hA⟩:=hA
  rw[pr_bind (pr_underlying hd)]
  cases d<;>first|rfl|(simp at hA)
 rw[pr_bind h1]
 simp only[Bool.false_eq_true,if_false,hv]
 rfl
theorem pr_equal_bool {e:TypeId} (he:P.underlying e=some .bool) (d:Nat) (a b:Bool):pureRun P (Op.equalIn (d+1) e (.bool a) (.bool b))=some (a == b):=by
 unfold Op.equalIn
 rw[pr_bind (pr_underlying he)]
 rfl
theorem pr_fields (body:Field→Option Bool×Unit→Sem (ForInStep (Option Bool×Unit))) (g:Option Bool×Unit→Sem Bool) (e:Field→Bool) : ∀fs:List Field,
  (∀f∈fs,∀r,pureRun P (body f r)=some (if e f=true then .yield (none,()) else .done (some false,()))) →
  pureRun P (forIn fs ((none,()):Option Bool×Unit) body >>= g)=pureRun P (g (if fs.all e=true then (none,()) else (some false,()))):=by
 have assoc : ∀(s:Sem (ForInStep (Option Bool×Unit))) (g1:ForInStep (Option Bool×Unit)→Sem (Option Bool×Unit)) (f2:Option Bool×Unit→Sem Bool),pureRun P ((s >>= g1) >>= f2)=pureRun P (s >>= fun x=>g1 x >>= f2):=fun s g1 f2=>by
  show pureRun P ((s.bind g1).bind f2)=pureRun P (s.bind fun x=>(g1 x).bind f2)
  rw[pureRun_seq,pureRun_seq,pureRun_seq]
  cases pureRun P s with
  | none=>rfl
  | some a=>simp only[Option.bind_some];rw[pureRun_seq]
 intro fs
 induction fs with
 | nil=>intro _;rfl
 | cons f fs ih =>
  intro hi
  have h1:=hi f (by simp) (none,())
  rw[List.forIn_cons,assoc,pr_bind h1,List.all_cons]
  cases hc:e f with
  | true =>
   rw[Bool.true_and,←ih fun j hj=>hi j (by simp[hj])]
   rfl
  | false =>
   rw[Bool.false_and]
   rfl
theorem pr_equal_struct {t:TypeId} {fs:Array Field} (hT:P.underlying t=some (.struct fs)) (hs:P.stoodInHeld t=false) (d:Nat) (xs ys:Array Value) (e:Field→Bool)
  (h : ∀f∈fs.toList,f.name ≠ "_" ∧ ∃a b,pureRun P (part f.type xs f.offset)=some a∧pureRun P (part f.type ys f.offset)=some b∧pureRun P (Op.equalIn d f.type a b)=some (e f)) :
  pureRun P (Op.equalIn (d+1) t (.agg xs) (.agg ys))=some (fs.toList.all e):=by
 unfold Op.equalIn
 rw[pr_bind (pr_underlying hT)]
 simp only
 rw[pr_bind (show pureRun P program=some P from rfl),hs]
 simp only[Bool.false_eq_true,if_false]
 rw[←Array.forIn_toList]
 rw[pr_fields _ _ e fs.toList]
 ·cases fs.toList.all e<;>rfl
 ·intro f hf r
  obtain⟨hn,a,b,h1,h2,h3⟩:=h f hf
  simp only[hn,ne_eq,not_false_eq_true,if_true]
  rw[pr_bind h1,pr_bind h2,pr_bind h3]
  cases e f<;>rfl
end
end Go.Id

namespace Go.Id
open Go
open Go.Proofs.Tryz (prog)
open Nat (reduceAdd reduceEqDiff reduceLeDiff reduceMul)
set_option maxHeartbeats 16000000
def cmpQ (x y:Rat):Int:=if x<y then -1 else if x=y then 0 else 1
def cmpR (b1:Bool) (x:Rat) (b2:Bool) (y:Rat):Int:=if b1 && !b2 then 1 else if b2 && !b1 then -1 else cmpQ x y
theorem cmpQ_self (x:Rat):cmpQ x x=0:=by
 unfold cmpQ
 rw[if_neg (Rat.lt_irrefl),if_pos rfl]
theorem shq_inj' {x y:Rat} (hx:QW x) (hy:QW y) (h1:(shq x).1=(shq y).1) (h2:(shq x).2=(shq y).2):x=y:=by
 rw[←(shq_rOf hx).1,←(shq_rOf hy).1]
 unfold rOf
 rw[h1,h2]
abbrev rkV (b:Bool) (x:Rat):Value:=.agg (Value.bool b :: shC (shq x).1 (shq x).2).toArray
theorem rk_ext (b:Bool) (n d:Nat):((Value.bool b :: shC n d).toArray).extract 1 (1+16)=(shC n d).toArray:=by
 simp only[List.extract_toArray,List.extract_eq_take_drop]
 rw[show(1+16 - 1)=16 from rfl,List.drop_one,List.tail_cons,List.take_of_length_le (by rw[shC_len];omega)]
theorem rk_eql {b1 b2:Bool} {x y:Rat} (hx:QW x) (hy:QW y) (ox oy:Operand):binop prog .eql 115 ox oy (rkV b1 x) (rkV b2 y)=some (.bool (decide (b1=b2∧x=y))):=by
 have hp : ∀(b:Bool) (x:Rat),plain (rkV b x)=true:=fun b x=>by
  have:=sh_plain (shq x).1 (shq x).2
  simp only[plain,List.all_toArray,List.all_cons] at this ⊢
  rw[this];rfl
 refine binop_eql_gen (by kernel_rfl) (hp _ _) (hp _ _) ?_ ox oy
 have hx1:=shq_lt hx
 have hy1:=shq_lt hy
 have key:=pr_equal_struct (P:=prog) u115 (by kernel_rfl) 9999 (Value.bool b1 :: shC (shq x).1 (shq x).2).toArray (Value.bool b2 :: shC (shq y).1 (shq y).2).toArray (fun f=>if f.name = "endless" then b1 == b2 else decide ((shq x).1=(shq y).1∧(shq x).2=(shq y).2)) (by
  intro f hf
  simp only[List.mem_cons,List.not_mem_nil,or_false] at hf
  rcases hf with rfl|rfl
  ·exact⟨by decide,.bool b1,.bool b2,pr_part_scal ag4 rfl,pr_part_scal ag4 rfl,pr_equal_bool u4 _ _ _⟩
  ·exact⟨by decide,.agg (shC (shq x).1 (shq x).2).toArray,.agg (shC (shq y).1 (shq y).2).toArray,
    (pr_part_agg ag47 sz47 _ 1).trans (by rw[rk_ext]),(pr_part_agg ag47 sz47 _ 1).trans (by rw[rk_ext]),sh_equalIn hx1.1 hx1.2 hy1.1 hy1.2 9996⟩)
 refine key.trans (congrArg some ?_)
 simp only[List.all_cons,List.all_nil,Bool.and_true,if_true]
 rw[if_neg (by decide)]
 rw[Bool.eq_iff_iff]
 simp only[Bool.and_eq_true,beq_iff_eq,decide_eq_true_eq]
 constructor
 ·rintro⟨h1,h2,h3⟩;exact⟨h1,shq_inj' hx hy h2 h3⟩
 ·rintro⟨h1,rfl⟩;exact⟨h1,rfl,rfl⟩
theorem rk_take1 (b:Bool) (n d:Nat):List.take 16 (List.drop 1 (Value.bool b :: shC n d))=shC n d:=by rw[List.drop_one,List.tail_cons,List.take_of_length_le (by rw[shC_len];omega)]
theorem cmpQ_rOf {x y:Rat} (hx:QW x) (hy:QW y):(if rOf (shq x)<rOf (shq y) then (-1:Int) else if rOf (shq x)=rOf (shq y) then 0 else 1)=cmpQ x y:=by rw[(shq_rOf hx).1,(shq_rOf hy).1];rfl
theorem rkCmp_ok {h:IH} {b1 b2:Bool} {x y:Rat} (hx:QW x) (hy:QW y):WV prog (.func (.func 74) #[] #[]) [rkV b1 x,rkV b2 y] h fun r h'=>Ext h h'∧r=KI (cmpR b1 x b2 y):=by
 have he:=fun ox oy=>rk_eql (b1:=b1) (b2:=b2) hx hy ox oy
 refine enter (nt:=36) (rs:=[.tmp 4]) Proofs.Tryz.func74 rfl rfl rfl (by simp) ?_
 simp -dsimp (maxSteps:=1000000) (disch:=try exact dx) only[wpS,wpT,reduceEqDiff,reduceLeDiff,reduceAdd,ld115]
 obtain⟨H0,hH0,n0,E0,g0,g1⟩:=boxes2 h (Value.bool b1 :: shC (shq x).1 (shq x).2) (Value.bool b2 :: shC (shq y).1 (shq y).2)
 rw[←hH0]
 clear hH0
 by_cases c:b1=b2∧x=y
 ·rw[decide_eq_true c] at he
  obtain⟨rfl,rfl⟩:=c
  simp -dsimp (maxSteps:=1000000) (disch:=try exact dx) only[wpS,wpT,reduceEqDiff,reduceLeDiff,reduceAdd,ld115,row_of g1,rk_take,shC_len,he]
  refine⟨E0,?_⟩
  unfold cmpR
  rw[cmpQ_self]
  cases b1<;>rfl
 ·rw[decide_eq_false c] at he
  clear c
  cases b1<;>cases b2
  ·simp -dsimp (maxSteps:=1000000) (disch:=try exact dx) only[wpS,wpT,reduceEqDiff,reduceLeDiff,reduceAdd,ld115,fa115_0,ld4,fa115_1,ld47,row_of g0,row_of g1,rk_take,shC_len,he,rk_take1]
   refine call (shcmp_ok (shq_lt hx) (shq_lt hy) (shq_rOf hx).2 (shq_rOf hy).2) ?_
   rintro _ h1 ⟨X1,rfl⟩
   rw[cmpQ_rOf hx hy]
   simp -dsimp (maxSteps:=1000000) (disch:=try exact dx) only[wpS,reduceEqDiff]
   exact⟨E0.trans X1,rfl⟩
  ·simp -dsimp (maxSteps:=1000000) (disch:=try exact dx) only[wpS,wpT,reduceEqDiff,reduceLeDiff,reduceAdd,ld115,fa115_0,ld4,row_of g0,row_of g1,rk_take,shC_len,he]
   exact⟨E0,rfl⟩
  ·simp -dsimp (maxSteps:=1000000) (disch:=try exact dx) only[wpS,wpT,reduceEqDiff,reduceLeDiff,reduceAdd,ld115,fa115_0,ld4,row_of g0,row_of g1,rk_take,shC_len,he]
   exact⟨E0,rfl⟩
  ·simp -dsimp (maxSteps:=1000000) (disch:=try exact dx) only[wpS,wpT,reduceEqDiff,reduceLeDiff,reduceAdd,ld115,fa115_0,ld4,fa115_1,ld47,row_of g0,row_of g1,rk_take,shC_len,he,rk_take1]
   refine call (shcmp_ok (shq_lt hx) (shq_lt hy) (shq_rOf hx).2 (shq_rOf hy).2) ?_
   rintro _ h1 ⟨X1,rfl⟩
   rw[cmpQ_rOf hx hy]
   simp -dsimp (maxSteps:=1000000) (disch:=try exact dx) only[wpS,reduceEqDiff]
   exact⟨E0.trans X1,rfl⟩
def rankX (m p s:Nat):Rat:=if postZ m s=true then Rat.divInt p 1 else rankQ m p s
theorem rankX_qw {m p s:Nat} (hp:p≤1000000000) (hs:s≤1000):QW (rankX m p s):=by
 unfold rankX
 by_cases c:postZ m s=true
 ·rw[if_pos c];exact qw_small (by omega) (by omega) (by omega)
 ·rw[if_neg c];exact rankQ_qw hp hs (fun e=>c (by unfold postZ;rw[e];rfl))
theorem rankV_eq (m p s:Nat):rankV m p s=rkV (postZ m s) (rankX m p s):=by
 unfold rankV rankC rankX rkV
 cases postZ m s<;>rfl
def cmpRank (m p s q t:Nat):Int:=cmpR (postZ m s) (rankX m p s) (postZ m t) (rankX m q t)
def aboveErr (m p s q t:Int):Bool:=!(inR 11 15 [m] && inR 0 1000 [s,t]) || !(inR 1 1000000000 [p,q])
theorem above_ok {h:IH} (m p s q t:Int):WV prog (.func (.func 32) #[] #[]) [KI m,KI p,KI s,KI q,KI t] h fun r h'=>Ext h h'∧r=if aboveErr m p s q t=true then .tuple #[KI 0,KI 2] else .tuple #[KI (cmpRank m.toNat p.toNat s.toNat q.toNat t.toNat),KI 0]:=by
 refine enter (nt:=34) (rs:=[.tmp 10,.tmp 11]) Proofs.Tryz.func32 rfl rfl rfl (by simp) ?_
 simp -dsimp (maxSteps:=1000000) (disch:=try exact dx) only[wpS,wpT,reduceEqDiff,reduceLeDiff,reduceAdd,reduceMul,bs29]
 have X0:Ext h (h.new (.cells [KI s,KI t] 1 none)):=(Ext.refl h).new _
 refine call (known_ok (l:=[s,t]) m (built2 h s t) (by simp)) ?_
 rintro _ h1 ⟨Y1,rfl⟩
 have X1:=X0.trans Y1
 cases c1:(inR 11 15 [m] && inR 0 1000 [s,t])
 ·have e:aboveErr m p s q t=true:=by unfold aboveErr;rw[c1];rfl
  simp -dsimp (maxSteps:=1000000) (disch:=try exact dx) only[wpS,wpT,reduceEqDiff]
  exact⟨X1,by rw[if_pos e]⟩
 ·simp -dsimp (maxSteps:=1000000) (disch:=try exact dx) only[wpS,wpT,reduceEqDiff,reduceLeDiff,reduceAdd,reduceMul,bs29]
  have X2:Ext h (h1.new (.cells [KI p,KI q] 1 none)):=X1.new _
  refine call (within_ok (l:=[p,q]) 1 1000000000 (built2 h1 p q) (by simp)) ?_
  rintro _ h2 ⟨Y2,rfl⟩
  have X3:=X2.trans Y2
  cases c2:inR 1 1000000000 [p,q]
  ·have e:aboveErr m p s q t=true:=by unfold aboveErr;rw[c1,c2];rfl
   simp -dsimp (maxSteps:=1000000) (disch:=try exact dx) only[wpS,wpT,reduceEqDiff]
   exact⟨X3,by rw[if_pos e]⟩
  ·have e:aboveErr m p s q t=false:=by unfold aboveErr;rw[c1,c2];rfl
   rw[Bool.and_eq_true,inR_iff,inR_iff] at c1
   rw[inR_iff] at c2
   have a1:=c1.1 m (by simp)
   have a2:=c1.2 s (by simp)
   have a3:=c1.2 t (by simp)
   have a4:=c2 p (by simp)
   have a5:=c2 q (by simp)
   obtain⟨m',rfl⟩ : ∃k:Nat,m=k:=⟨m.toNat,by omega⟩
   obtain⟨p',rfl⟩ : ∃k:Nat,p=k:=⟨p.toNat,by omega⟩
   obtain⟨s',rfl⟩ : ∃k:Nat,s=k:=⟨s.toNat,by omega⟩
   obtain⟨q',rfl⟩ : ∃k:Nat,q=k:=⟨q.toNat,by omega⟩
   obtain⟨t',rfl⟩ : ∃k:Nat,t=k:=⟨t.toNat,by omega⟩
   simp -dsimp (maxSteps:=1000000) (disch:=try exact dx) only[wpS,wpT,reduceEqDiff]
   refine call (ranked_ok (m:=m') (p:=p') (s:=s') (by omega) (by omega) (by omega)) ?_
   rintro _ h3 ⟨Y3,rfl⟩
   simp -dsimp (maxSteps:=1000000) (disch:=try exact dx) only[wpS,reduceEqDiff]
   refine call (ranked_ok (m:=m') (p:=q') (s:=t') (by omega) (by omega) (by omega)) ?_
   rintro _ h4 ⟨Y4,rfl⟩
   rw[rankV_eq,rankV_eq]
   simp -dsimp (maxSteps:=1000000) (disch:=try exact dx) only[wpS,reduceEqDiff]
   refine call (rkCmp_ok (rankX_qw (by omega) (by omega)) (rankX_qw (by omega) (by omega))) ?_
   rintro _ h5 ⟨Y5,rfl⟩
   simp -dsimp (maxSteps:=1000000) (disch:=try exact dx) only[wpS,reduceEqDiff]
   refine⟨X3.trans (Y3.trans (Y4.trans Y5)),?_⟩
   rw[if_neg (by rw[e];simp)]
   rfl
def rankErr (m p s:Int):Int:=if (!(inR 11 15 [m] && inR 0 1000 [s]) || !(inR 0 1000000000 [p]))=true then 2 else if postZ m.toNat s.toNat=true then 7 else 0
def rankW (m p s:Nat):Value:=shV (shq (rankQ m p s)).1 (shq (rankQ m p s)).2
end Go.Id

namespace Go.Id
open Go
open Go.Proofs.Tryz (prog)
open Nat (reduceAdd reduceEqDiff reduceLeDiff)
set_option maxHeartbeats 16000000
theorem dRank_ok {h:IH} (m p s:Int):WV prog (.func (.func 114) #[] #[]) [KI m,KI p,KI s] h fun r h'=>Ext h h'∧r=if rankErr m p s=0 then .tuple #[rankW m.toNat p.toNat s.toNat,KI 0] else .tuple #[shV 0 0,KI (rankErr m p s)]:=by
 refine enter (nt:=30) (rs:=[.cell 6 47,.tmp 7]) Proofs.Tryz.func114 rfl rfl rfl (by simp) ?_
 simp -dsimp (maxSteps:=1000000) (disch:=try exact dx) only[wpS,wpT,reduceEqDiff,reduceLeDiff,reduceAdd,zc47,bs29]
 obtain⟨H0,hH0⟩ : ∃H,H=h.new (.cells Z16 0 none):=⟨_,rfl⟩
 have E1:Ext h H0:=by rw[hH0];exact(Ext.refl h).new _
 have g0:H0.ext.get h.n=some (.cells Z16 0 none):=by rw[hH0];simp (disch:=try exact dx) only[get_new_same]
 have n0:H0.n=h.n+1:=by rw[hH0];simp
 rw[←n0,←hH0]
 clear hH0
 have X0:Ext H0 (H0.new (.cells [KI s] 1 none)):=(Ext.refl H0).new _
 refine call (known_ok (l:=[s]) m (built1 H0 s) (by simp)) ?_
 rintro _ h1 ⟨Y1,rfl⟩
 have X1:=X0.trans Y1
 have m1:=X1.n
 have kg:=X1.kept (by omega) g0
 cases c1:(inR 11 15 [m] && inR 0 1000 [s])
 ·have e:rankErr m p s=2:=by unfold rankErr;rw[c1];rfl
  simp -dsimp (maxSteps:=1000000) (disch:=try exact dx) only[wpS,wpT,reduceEqDiff,reduceLeDiff,reduceAdd,bv47,st47,ld47,kg]
  refine⟨(E1.trans X1).put (by omega) _,?_⟩
  rw[e,if_neg (by omega),←sh_zeroV];rfl
 ·simp -dsimp (maxSteps:=1000000) (disch:=try exact dx) only[wpS,wpT,reduceEqDiff,reduceLeDiff,reduceAdd,bs29]
  have X2:Ext H0 (h1.new (.cells [KI p] 1 none)):=X1.new _
  refine call (within_ok (l:=[p]) 0 1000000000 (built1 h1 p) (by simp)) ?_
  rintro _ h2 ⟨Y2,rfl⟩
  have X3:=X2.trans Y2
  have m3:=X3.n
  have kg3:=X3.kept (by omega) g0
  cases c2:inR 0 1000000000 [p]
  ·have e:rankErr m p s=2:=by unfold rankErr;rw[c1,c2];rfl
   simp -dsimp (maxSteps:=1000000) (disch:=try exact dx) only[wpS,wpT,reduceEqDiff,reduceLeDiff,reduceAdd,bv47,st47,ld47,kg3]
   refine⟨(E1.trans X3).put (by omega) _,?_⟩
   rw[e,if_neg (by omega),←sh_zeroV];rfl
  ·have e0:rankErr m p s=if postZ m.toNat s.toNat=true then 7 else 0:=by unfold rankErr;rw[c1,c2];rfl
   rw[Bool.and_eq_true,inR_iff,inR_iff] at c1
   rw[inR_iff] at c2
   have a1:=c1.1 m (by simp)
   have a2:=c1.2 s (by simp)
   have a4:=c2 p (by simp)
   obtain⟨m',rfl⟩ : ∃k:Nat,m=k:=⟨m.toNat,by omega⟩
   obtain⟨p',rfl⟩ : ∃k:Nat,p=k:=⟨p.toNat,by omega⟩
   obtain⟨s',rfl⟩ : ∃k:Nat,s=k:=⟨s.toNat,by omega⟩
   have e0:rankErr m' p' s'=if postZ m' s'=true then 7 else 0:=e0
   rw[Int.toNat_natCast,Int.toNat_natCast,Int.toNat_natCast]
   simp -dsimp (maxSteps:=1000000) (disch:=try exact dx) only[wpS,wpT,reduceEqDiff]
   refine call (ranked_ok (m:=m') (p:=p') (s:=s') (by omega) (by omega) (by omega)) ?_
   rintro _ h3 ⟨Y3,rfl⟩
   rw[rankV_eq]
   simp -dsimp (maxSteps:=1000000) (disch:=try exact dx) only[wpS,wpT,reduceEqDiff,reduceLeDiff,reduceAdd,zc115,st115,fa115_0,ld4,shC_len,shC_all,sh_sp3]
   obtain⟨H4,hH4,n4,E4,g4⟩:=boxed h3 (.bool false :: Z16) (Value.bool (postZ m' s') :: shC (shq (rankX m' p' s')).1 (shq (rankX m' p' s')).2)
   rw[←hH4]
   clear hH4
   have X4:=X3.trans (Y3.trans E4)
   have m4:=X4.n
   have kg4:=X4.kept (by omega) g0
   cases cz:postZ m' s'
   ·rw[if_neg (by rw[cz];simp)] at e0
    rw[cz] at g4
    have ex:rankX m' p' s'=rankQ m' p' s':=by unfold rankX;rw[cz];rfl
    simp -dsimp (maxSteps:=1000000) (disch:=try exact dx) only[wpS,wpT,reduceEqDiff,reduceLeDiff,reduceAdd,st47,fa115_1,ld47,row_of g4,kg4,shC_len,shC_all,sh_sp3,sh_take,rk_take1]
    refine⟨(E1.trans X4).put (by omega) _,?_⟩
    rw[if_pos (by rw[e0]),ex];rfl
   ·rw[if_pos cz] at e0
    rw[cz] at g4
    simp -dsimp (maxSteps:=1000000) (disch:=try exact dx) only[wpS,wpT,reduceEqDiff,reduceLeDiff,reduceAdd,bv47,st47,ld47,kg4]
    refine⟨(E1.trans X4).put (by omega) _,?_⟩
    rw[if_neg (by rw[e0];simp),e0,←sh_zeroV];rfl
theorem qcheck1_ok {h:IH} {n:Int}:WV prog (.func (.func 96) #[] #[]) [KI n] h fun r h'=>h'=h∧r=.bool (outR 0 1000000000 n):=by
 refine enter (nt:=9) (rs:=[.tmp 2]) Proofs.Tryz.func96 rfl rfl rfl (by simp) ?_
 by_cases c:n<0
 ·have d:decide (n<0)=true:=decide_eq_true c
  simp -dsimp (maxSteps:=1000000) (disch:=try exact dx) only[wpS,wpT,reduceEqDiff,d]
  simp[outR,d]
 ·have d:decide (n<0)=false:=decide_eq_false c
  simp -dsimp (maxSteps:=1000000) (disch:=try exact dx) only[wpS,wpT,reduceEqDiff,d]
  simp[outR,d]
theorem sum_bound : ∀(l:List Int),(∀n∈l,0≤n∧n≤1000000000)→0≤l.sum∧l.sum≤1000000000*(l.length:Int)
 | [],_=>by simp
 | a :: l,h=>by
  have h1:=sum_bound l fun n hn=>h n (by simp[hn])
  have h2:=h a (by simp)
  rw[List.sum_cons,List.length_cons]
  omega
theorem sum_take_succ (l:List Int) {i:Nat} {x:Int} (h:l[i]?=some x):(l.take (i+1)).sum=(l.take i).sum+x:=by
 rw[List.take_succ,h]
 simp
theorem qsum_ok {h:IH} {v:Value} {l:List Int} (hv:SlOf h 1 v l.length (l.map KI)) (hl:l.length≤60) (hr : ∀n∈l,0≤n∧n≤1000000000) :
  WV prog (.func (.func 97) #[] #[]) [v] h fun r h'=>h'=h∧r=KI l.sum:=by
 have hn:=hv.now
 refine enter (nt:=17) (rs:=[.tmp 2]) Proofs.Tryz.func97 rfl rfl rfl (by simp) ?_
 simp -dsimp (maxSteps:=1000000) (disch:=try exact dx) only[wpS,reduceEqDiff,hn.len sl29]
 refine loop (fun m fr h1=>h1=h ∧ ∃i:Nat,i+m=l.length∧fget fr 3=some (KI (l.take i).sum)∧fget fr 6=some v∧fget fr 7=some (KI l.length)∧fget fr 8=some (KI i)) l.length ⟨rfl,0,by simp,by simp,by simp,by simp,by simp⟩ ?_
 rintro m fr h1 ⟨rfl,i,him,f3,f6,f7,f8⟩
 by_cases c:i<l.length
 ·obtain⟨x,hx⟩ : ∃x,l[i]?=some x:=⟨l[i],List.getElem?_eq_getElem c⟩
  have b1:=sum_bound (l.take i) fun n hn=>hr n (List.mem_of_mem_take hn)
  have b2:=hr x (List.mem_of_getElem? hx)
  have b3:(l.take i).length≤60:=by rw[List.length_take];omega
  have e1:IntKind.i64.wrap ((l.take i).sum+x)=(l.take (i+1)).sum:=by rw[sum_take_succ l hx,wrap_i64 (by omega)]
  have e2:IntKind.i64.wrap ((i:Int)+1)=((i+1:Nat):Int):=by rw[wrap_i64 (by omega)];omega
  simp -dsimp (maxSteps:=1000000) (disch:=try exact dx) only[wpS,wpT,reduceEqDiff,f3,f6,f7,f8,e1,e2,hn.idx es29 c,hn.ld (P:=prog) (t:=3) (c:=i) (by simp<;>omega) ag3,map_get,hx]
  exact⟨m - 1,by omega,rfl,i+1,by omega,by simp,by simp[f6],by simp[f7],by simp⟩
 ·simp -dsimp (maxSteps:=1000000) (disch:=try exact dx) only[wpS,wpT,reduceEqDiff,f3,f7,f8]
  rw[List.take_of_length_le (by omega)]
def quotaOK (l:List Int):Bool:=decide (l.length≤60) && (inR 0 1000000000 l && !(l.sum == 0))
theorem qcheck_ok {h:IH} {v:Value} {l:List Int} (hv:SlOf h 1 v l.length (l.map KI)) (hl:l.length≤1000000000) :
  WV prog (.func (.func 49) #[] #[]) [v] h fun r h'=>h'=h∧r=KI (if quotaOK l=true then 0 else 60):=by
 have hn:=hv.now
 refine enter (nt:=17) (rs:=[.tmp 2]) Proofs.Tryz.func49 rfl rfl rfl (by simp) ?_
 by_cases c:l.length≤60
 ·simp -dsimp (maxSteps:=1000000) (disch:=try exact dx) only[wpS,wpT,reduceEqDiff,hn.len sl29]
  refine call (containsFunc_ok (outR 0 1000000000) hn hl (fun x hx=>qcheck1_ok)) ?_
  rintro _ _ ⟨rfl,rfl⟩
  cases c2:l.any (outR 0 1000000000)
  ·have c3:inR 0 1000000000 l=true:=by unfold inR;rw[c2];rfl
   simp -dsimp (maxSteps:=1000000) (disch:=try exact dx) only[wpS,wpT,reduceEqDiff]
   refine call (qsum_ok hv c (inR_iff.1 c3)) ?_
   rintro _ _ ⟨rfl,rfl⟩
   cases c4:(l.sum == 0)
   ·simp -dsimp (maxSteps:=1000000) (disch:=try exact dx) only[wpS,wpT,reduceEqDiff,c4]
    rw[if_pos (by unfold quotaOK;rw[c3,c4,decide_eq_true c];rfl)]
   ·simp -dsimp (maxSteps:=1000000) (disch:=try exact dx) only[wpS,wpT,reduceEqDiff,c4]
    rw[if_neg (by unfold quotaOK;rw[c3,c4,decide_eq_true c];simp)]
  ·have c3:inR 0 1000000000 l=false:=by unfold inR;rw[c2];rfl
   simp -dsimp (maxSteps:=1000000) (disch:=try exact dx) only[wpS,wpT,reduceEqDiff]
   rw[if_neg (by unfold quotaOK;rw[c3];simp)]
 ·simp -dsimp (maxSteps:=1000000) (disch:=try exact dx) only[wpS,wpT,reduceEqDiff,hn.len sl29]
  rw[if_neg (by unfold quotaOK;rw[decide_eq_false c];simp)]
end Go.Id

namespace Go.Id
open Go
def firstT (p:Nat→Bool):Nat→Nat
 | 0=>0
 | n+1=>if firstT p n<n then firstT p n else if p n=true then n else n+1
theorem firstT_le (p:Nat→Bool) : ∀n,firstT p n≤n
 | 0=>Nat.le_refl _
 | n+1=>by
  have:=firstT_le p n
  unfold firstT
  split
  ·omega
  ·split<;>omega
theorem firstT_below (p:Nat→Bool) : ∀n s,s<firstT p n→p s=false
 | 0,s,h=>absurd h (Nat.not_lt_zero _)
 | n+1,s,h=>by
  have ih:=firstT_below p n
  have hl:=firstT_le p n
  unfold firstT at h
  split at h
  ·exact ih s h
  ·split at h
   ·exact ih s (by omega)
   ·rename_i h1 h2
    rcases Nat.lt_or_ge s n with h3|h3
    ·exact ih s (by omega)
    ·obtain rfl:s=n:=by omega
     simpa using h2
theorem firstT_at (p:Nat→Bool) : ∀n,firstT p n<n→p (firstT p n)=true
 | 0,h=>absurd h (Nat.not_lt_zero _)
 | n+1,h=>by
  have ih:=firstT_at p n
  unfold firstT at h ⊢
  split
  ·rename_i h1;exact ih h1
  ·rename_i h1
   rw[if_neg h1] at h
   split
   ·assumption
   ·rename_i h2;rw[if_neg h2] at h;omega
theorem firstT_eq {p:Nat→Bool} {n a:Nat} (ha:a≤n) (h1 : ∀s,s<a→p s=false) (h2:a<n→p a=true):firstT p n=a:=by
 rcases Nat.lt_trichotomy (firstT p n) a with h|h|h
 ·have:=firstT_at p n (by omega)
  rw[h1 _ h] at this;cases this
 ·exact h
 ·have:=firstT_below p n a h
  have hl:=firstT_le p n
  rw[h2 (by omega)] at this;cases this
end Go.Id

namespace Go.Id
open Go
theorem postN_cross {m:Nat} (hm:11≤m∧m≤15) (s:Nat):postN m s*postD m (s+1)<postN m (s+1)*postD m s:=by
 rcases(by omega:m=11∨m=12∨m=13∨m=14∨m=15) with rfl|rfl|rfl|rfl|rfl
 ·show s*1<(s+1)*1;omega
 ·show 2*s*(s+1)*(2*(s+1)+1)<2*(s+1)*(s+1+1)*(2*s+1)
  grind
 ·show s*(s+1)*1<(s+1)*(s+1+1)*1
  grind
 ·show(2*s+1)*2<(2*(s+1)+1)*2;omega
 ·show(s+1)*1<(s+1+1)*1;omega
theorem divInt_lt {a b c d:Nat} (hb:0<b) (hd:0<d) (h:a*d<c*b):Rat.divInt a b<Rat.divInt c d:=by
 have h1:(0:Rat)<((b:Int):Rat):=by exact_mod_cast hb
 have h2:(0:Rat)<((d:Int):Rat):=by exact_mod_cast hd
 have h3:((a:Int):Rat)*((d:Int):Rat)<((c:Int):Rat)*((b:Int):Rat):=by exact_mod_cast h
 rw[Rat.divInt_eq_div,Rat.divInt_eq_div,Rat.div_lt_iff h1,show((c:Int):Rat) / ((d:Int):Rat)*((b:Int):Rat)=((c:Int):Rat)*((b:Int):Rat) / ((d:Int):Rat) from by rw[Rat.div_def,Rat.div_def,Rat.mul_assoc,Rat.mul_comm ((d:Int):Rat)⁻¹,←Rat.mul_assoc],Rat.lt_div_iff h2]
 exact h3
theorem postQ_succ {m:Nat} (hm:11≤m∧m≤15) (s:Nat):postQ m s<postQ m (s+1):=divInt_lt (postD_pos m s) (postD_pos m (s+1)) (postN_cross hm s)
theorem postQ_lt {m:Nat} (hm:11≤m∧m≤15) {s t:Nat} (h:s<t):postQ m s<postQ m t:=by
 induction h with
 | refl=>exact postQ_succ hm s
 | step _ ih=>exact(by have h2:=postQ_succ hm (m:=m);grind)
theorem postQ_le {m:Nat} (hm:11≤m∧m≤15) {s t:Nat} (h:s≤t):postQ m s≤postQ m t:=by
 rcases Nat.lt_or_ge s t with h1|h1
 ·exact Rat.le_of_lt (postQ_lt hm h1)
 ·rw[show s=t from by omega];exact Rat.le_refl
theorem cmpQ_mono {x y:Rat} (z:Rat) (h:x≤y):cmpQ x z≤cmpQ y z:=by
 unfold cmpQ
 split<;>split<;>(try split)<;>(try split)<;>grind
def stepP (k:Int) (m:Nat) (t:Rat) (s:Nat):Bool:=decide (k≤cmpQ (postQ m s) t)
theorem stepP_mono {k:Int} {m:Nat} (hm:11≤m∧m≤15) {t:Rat} {s u:Nat} (h:s≤u) (hp:stepP k m t s=true):stepP k m t u=true:=by
 unfold stepP at *
 rw[decide_eq_true_eq] at *
 have:=cmpQ_mono t (postQ_le hm h)
 omega
noncomputable def atT (m:Nat) (x:Rat) (n:Int):Option Rat:=open Classical in
 if QW ((n:Rat) / x) then (if m=13 then (if QW ((n:Rat) / x*((n:Rat) / x)) then some ((n:Rat) / x*((n:Rat) / x)) else none) else some ((n:Rat) / x)) else none
def atLow (m:Nat) (t:Rat):Nat:=firstT (stepP 0 m t) 1001
def atHigh (m:Nat) (t:Rat):Nat:=firstT (stepP 1 m t) 1001
noncomputable def atReg (m:Nat) (x:Rat) (n:Int):Int×Int×Int:=match atT m x n with
 | none=>(6,0,0)
 | some t=>if n=0 then (0,0,0) else if 1000<atHigh m t then (2,0,0) else (0,(atLow m t:Nat),(atHigh m t:Nat))
noncomputable def atE (m:Nat) (x:Rat):List Int→Int
 | []=>0
 | n :: l=>if (atReg m x n).1=0 then atE m x l else (atReg m x n).1
noncomputable def atA (m:Nat) (x:Rat) (l:List Int):List Value:=l.map fun n=>KI (atReg m x n).2.1
noncomputable def atB (m:Nat) (x:Rat) (l:List Int):List Value:=l.map fun n=>KI (atReg m x n).2.2
theorem atE_first {m:Nat} {x:Rat} : ∀{l:List Int} {i:Nat} {n:Int},l[i]?=some n→(∀y∈l.take i,(atReg m x y).1=0)→(atReg m x n).1≠0→atE m x l=(atReg m x n).1
 | [],_,_,h,_,_=>by simp at h
 | a :: l,0,n,h,_,h1=>by
  simp at h;subst h
  rw[atE,if_neg h1]
 | a :: l,i+1,n,h,h0,h1=>by
  simp at h
  rw[atE,if_pos (h0 a (by simp))]
  exact atE_first h (fun y hy=>h0 y (by simp[hy])) h1
theorem atE_none {m:Nat} {x:Rat} : ∀{l:List Int},(∀y∈l,(atReg m x y).1=0)→atE m x l=0
 | [],_=>rfl
 | a :: l,h=>by rw[atE,if_pos (h a (by simp))];exact atE_none fun y hy=>h y (by simp[hy])
noncomputable def atErr (people:List Int) (p:Nat×Nat) (m:Int):Int:=open Classical in
 if quotaOK people=false then 60 else if ¬okS p.1 p.2 then 20 else if ¬0<rOf p∨inR 11 15 [m]=false then 2 else atE m.toNat (rOf p) people
def AtV (h':IH) (r:Value) (people:List Int) (p:Nat×Nat) (m:Int):Prop :=
 if atErr people p m=0 then ∃v w,r=.tuple #[v,w,KI 0]∧SlOf h' 1 v people.length (atA m.toNat (rOf p) people)∧SlOf h' 1 w people.length (atB m.toNat (rOf p) people)
 else r=.tuple #[.slice none 0 0,.slice none 0 0,KI (atErr people p m)]
end Go.Id

namespace Go.Id
open Go
set_option maxHeartbeats 16000000
theorem search_ok {h0 h:IH} {y:Value} {n:Nat} (p:Nat→Bool) (hn:n≤1000000) (mono : ∀s u,s≤u→p s=true→p u=true) (e:Ext h0 h)
  (hy : ∀(hh:IH) (i:Nat),i<n→Ext h0 hh→WV Proofs.Tryz.prog y [KN i] hh fun r h'=>Ext hh h'∧r=.bool (p i)) :
  WV Proofs.Tryz.prog (.func (.func 55) #[] #[]) [KN n,y] h fun r h'=>Ext h h'∧r=KN (firstT p n):=by
 refine enter (nt:=26) (rs:=[.tmp 4]) Proofs.Tryz.func55 rfl rfl rfl (by simp) ?_
 simp -dsimp (maxSteps:=1000000) (disch:=try exact dx) only[wpS,Nat.reduceEqDiff,Nat.reduceAdd]
 refine loop (fun m fr hh => ∃i j:Nat,i+m=j∧j≤n∧(∀s,s<i→p s=false)∧(j<n→p j=true)∧Ext h hh∧fget fr 1=some y∧fget fr 5=some (KN i)∧fget fr 6=some (KN j)) n ⟨0,n,by omega,by omega,fun s hs=>absurd hs (by omega),fun hj=>absurd hj (by omega),Ext.refl h,by simp,by simp,by simp⟩ ?_
 rintro m fr hh ⟨i,j,hij,hj,l1,l2,E,f1,f5,f6⟩
 by_cases c:i<j
 ·have e1:IntKind.i64.wrap ((i:Int)+(j:Int))=((i+j:Nat):Int):=by rw[wrap_i64 (by omega)];omega
  have e2:IntKind.i64.wrap ((nshr (i+j) 1:Nat):Int)=(((i+j) / 2:Nat):Int):=by
   rw[show nshr (i+j) 1=(i+j) / 2 from by rw[nshr,Nat.shiftRight_eq_div_pow],wrap_i64 (by omega)]
  have e3:IntKind.i64.wrap ((((i+j) / 2:Nat):Int)+1)=(((i+j) / 2+1:Nat):Int):=by rw[wrap_i64 (by omega)];omega
  simp -dsimp (maxSteps:=1000000) (disch:=try exact dx) only[wpS,wpT,Nat.reduceEqDiff,cv3_145,cv145_3,f1,f5,f6,e1,e2]
  refine call (hy hh ((i+j) / 2) (by omega) (e.trans E)) ?_
  rintro _ h1 ⟨X1,rfl⟩
  cases hp:p ((i+j) / 2)
  ·simp -dsimp (maxSteps:=1000000) (disch:=try exact dx) only[wpS,wpT,Nat.reduceEqDiff,e3]
   refine⟨j - ((i+j) / 2+1),by omega,(i+j) / 2+1,j,by omega,hj,fun s hs=>?_,l2,E.trans X1,by simp[f1],by simp,by simp[f6]⟩
   cases hs2:p s
   ·rfl
   ·rw[mono s ((i+j) / 2) (by omega) hs2] at hp;cases hp
  ·simp -dsimp (maxSteps:=1000000) (disch:=try exact dx) only[wpS,wpT,Nat.reduceEqDiff]
   exact⟨(i+j) / 2 - i,by omega,i,(i+j) / 2,by omega,by omega,l1,fun _=>hp,E.trans X1,by simp[f1],by simp[f5],by simp⟩
 ·simp -dsimp (maxSteps:=1000000) (disch:=try exact dx) only[wpS,wpT,Nat.reduceEqDiff,f5,f6]
  have hij:i=j:=by omega
  subst hij
  refine⟨E,?_⟩
  rw[firstT_eq hj l1 l2]
end Go.Id

namespace Go.Id
open Go
open Go.Proofs.Tryz (prog)
open Nat (reduceAdd reduceEqDiff reduceLeDiff)
set_option maxHeartbeats 16000000
theorem bwithin1_ok {h:IH} {b b2:Nat} {lo hi n:Int} (g:h.ext.get b=some (.cells [KI lo] 0 none)) (g2:h.ext.get b2=some (.cells [KI hi] 0 none)) :
  WV prog (.func (.func 100) #[] #[ptr (2*b) 0,ptr (2*b2) 0]) [KI n] h fun r h'=>h'=h∧r=.bool (outR lo hi n):=by
 refine enter (nt:=13) (rs:=[.tmp 4]) Proofs.Tryz.func100 rfl rfl rfl (by simp) ?_
 by_cases c:n<lo
 ·have d:decide (n<lo)=true:=decide_eq_true c
  simp -dsimp (maxSteps:=1000000) (disch:=try exact dx) only[wpS,wpT,reduceEqDiff,reduceAdd,ld3,row_of g,d]
  simp[outR,d]
 ·have d:decide (n<lo)=false:=decide_eq_false c
  simp -dsimp (maxSteps:=1000000) (disch:=try exact dx) only[wpS,wpT,reduceEqDiff,reduceAdd,ld3,row_of g,row_of g2,d]
  simp[outR,d]
theorem bwithin_ok {h:IH} {v:Value} {l:List Int} (lo hi:Int) (hv:SlOf h 1 v l.length (l.map KI)) (hl:l.length≤1000000000) :
  WV prog (.func (.func 51) #[] #[]) [KI lo,KI hi,v] h fun r h'=>Ext h h'∧r=.bool (inR lo hi l):=by
 refine enter (nt:=11) (rs:=[.tmp 6]) Proofs.Tryz.func51 rfl rfl rfl (by simp) ?_
 simp -dsimp (maxSteps:=1000000) (disch:=try exact dx) only[wpS,reduceEqDiff,reduceAdd]
 obtain⟨H0,hH0,n0,E0,g0,g1⟩:=boxes2 h [KI lo] [KI hi]
 rw[←hH0]
 clear hH0
 refine call (containsFunc_ok (outR lo hi) (hv.keep E0.keep).now hl (fun x hx=>bwithin1_ok g0 g1)) ?_
 rintro _ _ ⟨rfl,rfl⟩
 simp -dsimp (maxSteps:=1000000) (disch:=try exact dx) only[wpS,wpT,reduceEqDiff]
 exact E0
abbrev Reg:=Int×Int×Int
def regC (r:Reg):List Value:=[KI r.1,KI r.2.1,KI r.2.2]
def regL (l:List Reg):List Value:=l.flatMap regC
theorem regL_len (l:List Reg):(regL l).length=l.length*3:=by
 induction l with
 | nil=>rfl
 | cons a l ih=>rw[regL,List.flatMap_cons,List.length_append];show 3+(regL l).length=_;rw[ih,List.length_cons];omega
theorem regL_at {l:List Reg} {i:Nat} {r:Reg} (h:l[i]?=some r):((regL l).drop (i*3)).take 3=regC r:=by
 induction l generalizing i with
 | nil=>simp at h
 | cons a l ih =>
  cases i with
  | zero =>
   simp at h;subst h
   rw[regL,List.flatMap_cons];rfl
  | succ i =>
   simp at h
   rw[regL,List.flatMap_cons,show(i+1)*3=3+i*3 from by omega,←List.drop_drop]
   exact ih h
def leastOr (n:Nat) (least:List Int):List Int:=if least = [] then List.replicate n 0 else least
def lowOK (won low:List Int) (n:Nat):Prop:=∀i,i<n→0≤low.getD i 0∧low.getD i 0≤won.getD i 0
instance (won low:List Int) (n:Nat):Decidable (lowOK won low n):=inferInstanceAs (Decidable (∀i,i<n→_))
def openErr (people won:List Int) (m:Int) (least:List Int):Int :=
 if quotaOK people=false then 60 else if won.length≠people.length∨inR 0 1000 won=false then 2
 else if inR 11 15 [m]=false∨(leastOr people.length least).length≠people.length then 2
 else if ¬lowOK won (leastOr people.length least) people.length then 2 else if inR 1 1000 [won.sum]=false then 2 else 0
def regsOf (people won low:List Int) (n:Nat):List Reg:=(List.range n).map fun i=>(people.getD i 0,won.getD i 0,low.getD i 0)
theorem regsOf_succ (people won low:List Int) (n:Nat):regsOf people won low (n+1)=regsOf people won low n ++ [(people.getD n 0,won.getD n 0,low.getD n 0)]:=by
 unfold regsOf
 rw[List.range_succ,List.map_append];rfl
theorem regsOf_len (people won low:List Int) (n:Nat):(regsOf people won low n).length=n:=by simp[regsOf]
abbrev hallV (m:Int) (s:Value):Value:=.agg #[KI m,s]
structure OX (h H1 hh:IH) (fr:Fr) (vp vw vl:Value) (m:Int) (people won low:List Int) (b:Nat) (i:Nat) (out:Value):Prop where
 e:Ext h hh
 k:Keep H1 hh
 sp:SlOf H1 1 vp people.length (people.map KI)
 sw:SlOf H1 1 vw won.length (won.map KI)
 sl:SlOf H1 1 vl low.length (low.map KI)
 bn:h.n<b∧b<hh.n
 g8:hh.ext.get h.n=some (.cells [KI 0,.slice none 0 0] 0 none)
 g11:hh.ext.get b=some (.cells [KI m,out] 0 none)
 acc:Acc hh h.n 3 out i (regL (regsOf people won low i))
 lw:lowOK won low i
 f1:fget fr 1=some vw
 f3:fget fr 3=some vl
 f8:fget fr 8=some (ptr (2*h.n) 0)
 f11:fget fr 11=some (ptr (2*b) 0)
 f12:fget fr 12=some (KI (won.take i).sum)
 f52:fget fr 52=some vp
 f53:fget fr 53=some (KI people.length)
 f54:fget fr 54=some (KI i)
theorem at_getD {l:List Int} {i:Nat} (h:i<l.length):l[i]?=some (l.getD i 0):=by
 rw[List.getD_eq_getElem?_getD,List.getElem?_eq_getElem h];rfl
def OpenV (h':IH) (r:Value) (people won:List Int) (m:Int) (least:List Int):Prop :=
 if openErr people won m least=0 then ∃s,r=.tuple #[hallV m s,KI 0]∧SlOf h' 3 s people.length (regL (regsOf people won (leastOr people.length least) people.length))
 else r=.tuple #[hallV 0 (.slice none 0 0),KI (openErr people won m least)]
theorem OpenV.err {h':IH} {people won:List Int} {m:Int} {least:List Int} {e:Int} (h:openErr people won m least=e) (h0:e≠0):OpenV h' (.tuple #[hallV 0 (.slice none 0 0),KI e]) people won m least:=by
 unfold OpenV
 rw[h,if_neg h0]
theorem replZ : ∀n:Nat,repl n [KI 0]=(List.replicate n (0:Int)).map KI
 | 0=>rfl
 | n+1=>by rw[repl,replZ n,List.replicate_succ];rfl
theorem open_ok {h:IH} {vp vw vl:Value} {m:Int} {people won least:List Int} (hp:SlOf h 1 vp people.length (people.map KI)) (hw:SlOf h 1 vw won.length (won.map KI)) (hl:SlOf h 1 vl least.length (least.map KI)) (lp:people.length≤1000000000) (lw:won.length≤1000000000) (ll:least.length≤1000000000) :
  WV prog (.func (.func 36) #[] #[]) [vp,vw,KI m,vl] h fun r h'=>Ext h h'∧OpenV h' r people won m least:=by
 have z0 : ∀(n:Nat),((n:Nat):Int)=0↔n=0:=fun n=>by omega
 refine enter (nt:=99) (rs:=[.cell 8 80,.tmp 9]) Proofs.Tryz.func36 rfl rfl rfl (by simp) ?_
 simp -dsimp (maxSteps:=1000000) (disch:=try exact dx) only[wpS,reduceEqDiff,reduceAdd,zc80]
 obtain⟨H0,hH0⟩ : ∃H,H=h.new (.cells [KI 0,.slice none 0 0] 0 none):=⟨_,rfl⟩
 have E0:Ext h H0:=by rw[hH0];exact(Ext.refl h).new _
 have g0:H0.ext.get h.n=some (.cells [KI 0,.slice none 0 0] 0 none):=by rw[hH0];simp (disch:=try exact dx) only[get_new_same]
 have n0:H0.n=h.n+1:=by rw[hH0];simp
 rw[←hH0]
 clear hH0
 refine call (qcheck_ok (hp.keep E0.keep) lp) ?_
 rintro _ _ ⟨rfl,rfl⟩
 cases c1:quotaOK people
 ·simp -dsimp (maxSteps:=1000000) (disch:=try exact dx) only[wpS,wpT,reduceEqDiff,reduceLeDiff,reduceAdd,bv80,st80,ld80,g0]
  refine⟨E0.put (by omega) _,OpenV.err (e:=60) (by unfold openErr;rw[if_pos c1]) (by omega)⟩
 ·have sp:=(hp.keep E0.keep).now
  have sw:=(hw.keep E0.keep).now
  have sl:=(hl.keep E0.keep).now
  have c1' : ¬quotaOK people=false:=by rw[c1];simp
  by_cases c2:won.length=people.length
  ·simp -dsimp (maxSteps:=1000000) (disch:=try exact dx) only[wpS,wpT,reduceEqDiff,sp.len sl29,sw.len sl29]
   refine call (bwithin_ok (l:=won) 0 1000 (hw.keep E0.keep) lw) ?_
   rintro _ h1 ⟨X1,rfl⟩
   have m1:=X1.n
   have kg1:=X1.kept (by omega) g0
   cases c3:inR 0 1000 won
   ·simp -dsimp (maxSteps:=1000000) (disch:=try exact dx) only[wpS,wpT,reduceEqDiff,reduceLeDiff,reduceAdd,bv80,st80,ld80,kg1]
    exact⟨(E0.trans X1).put (by omega) _,OpenV.err (e:=2) (by unfold openErr;rw[if_neg c1',if_pos (.inr c3)]) (by omega)⟩
   ·simp -dsimp (maxSteps:=1000000) (disch:=try exact dx) only[wpS,wpT,reduceEqDiff,(hl.keep (E0.trans X1).keep).now.len sl29]
    have hq:people.length≤60∧0<people.length:=by
     unfold quotaOK at c1
     simp only[Bool.and_eq_true,decide_eq_true_eq] at c1
     refine⟨c1.1,?_⟩
     cases people with
     | nil=>simp at c1
     | cons a l=>simp
    refine bq_cut (fun fr2 h2 => ∃vl2,Ext h1 h2∧SlOf h2 1 vl2 (leastOr people.length least).length ((leastOr people.length least).map KI)∧fget fr2 0=some vp∧fget fr2 1=some vw∧fget fr2 2=some (KI m)∧fget fr2 3=some vl2∧fget fr2 8=some (ptr (2*h.n) 0)) (fun hc=>?_) (fun hc=>?_) ?_
    ·have e0:least = []:=by
      simp at hc
      exact hc
     simp -dsimp (maxSteps:=1000000) (disch:=try exact dx) only[wpS,reduceEqDiff,ms29,(hp.keep (E0.trans X1).keep).now.len sl29]
     exact⟨_,(Ext.refl h1).new _,by
      have e1:leastOr people.length least=List.replicate people.length 0:=by unfold leastOr;rw[if_pos e0]
      rw[e1,List.length_replicate,←replZ]
      exact built_sl h1 (by omega) (by rw[replZ];simp) hq.2,by simp,by simp,by simp,by simp,by simp⟩
    ·have e0:least ≠ []:=by
      simp at hc
      exact hc
     have e1:leastOr people.length least=least:=by unfold leastOr;rw[if_neg e0]
     simp -dsimp (maxSteps:=1000000) (disch:=try exact dx) only[wpS]
     exact⟨vl,Ext.refl h1,by rw[e1];exact hl.keep (E0.trans X1).keep,by simp,by simp,by simp,by simp,by simp⟩
    ·rintro fr2 h2 ⟨vl2,X2,sl2,f0,f1,f2,f3,f8⟩
     have E2:=X1.trans X2
     have F2:=E0.trans E2
     obtain⟨low,hlow⟩ : ∃l,l=leastOr people.length least:=⟨_,rfl⟩
     rw[←hlow] at sl2
     simp -dsimp (maxSteps:=1000000) (disch:=try exact dx) only[wpS,wpT,reduceEqDiff,reduceLeDiff,reduceAdd,bs29,f2]
     refine call (bwithin_ok (l:=[m]) 11 15 (built1 h2 m) (by simp)) ?_
     rintro _ h3 ⟨X3,rfl⟩
     have F3:Ext h2 h3:=((Ext.refl h2).new _).trans X3
     have G3:=E2.trans F3
     have kg3:=G3.kept (by omega) g0
     have m3:=G3.n
     cases c4:inR 11 15 [m]
     ·simp -dsimp (maxSteps:=1000000) (disch:=try exact dx) only[wpS,wpT,reduceEqDiff,reduceLeDiff,reduceAdd,bv80,st80,ld80,f8,kg3]
      exact⟨(F2.trans F3).put (by omega) _,OpenV.err (e:=2) (by unfold openErr;rw[if_neg c1',if_neg (by rw[c3];simp[c2]),if_pos (.inl c4)]) (by omega)⟩
     ·by_cases c5:low.length=people.length
      ·simp -dsimp (maxSteps:=1000000) (disch:=try exact dx) only[wpS,wpT,reduceEqDiff,reduceLeDiff,reduceAdd,zc80,bv80,st80,pl80_0,f0,f2,f3,sl2.now.len sl29,(hp.keep (F2.trans F3).keep).now.len sl29]
       obtain⟨H1,hH1,n1,E4,g11⟩:=boxed h3 [KI 0,.slice none 0 0] [KI m,.slice none 0 0]
       rw[←hH1]
       clear hH1
       have F4:=(F2.trans F3).trans E4
       have m2:=F2.n
       have m0:=E0.n
       have wr:=inR_iff.1 c3
       refine loop (fun mm fr hh => ∃i out,i+mm=people.length∧OX h H1 hh fr vp vw vl2 m people won low h3.n i out) people.length ⟨0,.slice none 0 0,by omega,⟨F4,Keep.refl _,hp.keep F4.keep,hw.keep F4.keep,sl2.keep (F3.trans E4).keep,by omega,(G3.trans E4).kept (by omega) g0,g11,Acc.nil _ _ (by omega),fun i hi=>absurd hi (by omega),by simp[f1],by simp[f3],by simp[f8],by simp,by simp,by simp[],by simp,by simp⟩⟩ ?_
       rintro mm fr hh ⟨i,out,him,s⟩
       have P0:=(s.sp.keep s.k).now
       have W0:=(s.sw.keep s.k).now
       have L0:=(s.sl.keep s.k).now
       by_cases c:i<people.length
       ·have iw:i<won.length:=by omega
        have il:i<low.length:=by omega
        obtain⟨f1,f3,f8,f11,f12,f52,f53,f54⟩:=And.intro s.f1 (And.intro s.f3 (And.intro s.f8 (And.intro s.f11 (And.intro s.f12 (And.intro s.f52 (And.intro s.f53 s.f54))))))
        have b1:=sum_bound (won.take i) fun n hn=>by have:=wr n (List.mem_of_mem_take hn);omega
        have b3:(won.take i).length≤60:=by rw[List.length_take];omega
        have b2:=wr (won.getD i 0) (List.mem_of_getElem? (at_getD iw))
        have e1:IntKind.i64.wrap ((won.take i).sum+won.getD i 0)=(won.take (i+1)).sum:=by rw[sum_take_succ won (at_getD iw),wrap_i64 (by omega)]
        have lP:=P0.ld (P:=prog) (t:=3) (c:=i) (by simp<;>omega) ag3
        have lW:=W0.ld (P:=prog) (t:=3) (c:=i) (by simp<;>omega) ag3
        have lL:=L0.ld (P:=prog) (t:=3) (c:=i) (by simp<;>omega) ag3
        rw[map_get,at_getD c] at lP
        rw[map_get,at_getD iw] at lW
        rw[map_get,at_getD il] at lL
        simp -dsimp (maxSteps:=1000000) (disch:=try exact dx) only[wpS,wpT,reduceEqDiff,f1,f12,f52,f53,f54,P0.idx es29 c,W0.idx es29 iw,lP,lW,e1]
        refine drawn [(3,[9]),(7,[9])] (by kernel_rfl) (by kernel_rfl) rfl ?_
        simp -dsimp (maxSteps:=1000000) (disch:=try exact dx) only[wpS,wpT,reduceEqDiff,reduceLeDiff,reduceAdd,bs29,f1,f3,W0.idx es29 iw,L0.idx es29 il,lW,lL]
        refine call (bwithin_ok (l:=[low.getD i 0]) 0 (won.getD i 0) (built1 hh (low.getD i 0)) (by simp)) ?_
        rintro _ h5 ⟨X5,rfl⟩
        have N5:Ext hh (hh.new (.cells [KI (low.getD i 0)] 1 none)):=(Ext.refl hh).new _
        have W1:=((s.sw.keep s.k).keep N5.keep).now.ld (P:=prog) (t:=3) (c:=i) (by simp<;>omega) ag3
        have L1:=((s.sl.keep s.k).keep N5.keep).now.ld (P:=prog) (t:=3) (c:=i) (by simp<;>omega) ag3
        rw[map_get,at_getD iw] at W1
        rw[map_get,at_getD il] at L1
        have G5:=N5.trans X5
        have m5:=G5.n
        have bn:=s.bn
        have k8:=G5.kept (by omega) s.g8
        have k11:=G5.kept (by omega) s.g11
        have A5:=s.acc.ext G5
        have P2:=((s.sp.keep s.k).keep G5.keep).now
        have W2:=((s.sw.keep s.k).keep G5.keep).now
        have L2:=((s.sl.keep s.k).keep G5.keep).now
        cases c6:inR 0 (won.getD i 0) [low.getD i 0]
        ·simp -dsimp (maxSteps:=1000000) (disch:=try exact dx) only[wpS,wpT,reduceEqDiff]
         refine⟨wpSteady_cons (wpSteady_one rfl rfl rfl rfl (steady_load (av:=elemAddr vw i) (v:=KI (won.getD i 0)) (by simp) lW W1)) (wpSteady_one rfl rfl rfl rfl (steady_load (av:=elemAddr vl2 i) (v:=KI (low.getD i 0)) (by simp) lL L1)),?_⟩
         simp -dsimp (maxSteps:=1000000) (disch:=try exact dx) only[wpS,wpT,reduceEqDiff,reduceLeDiff,reduceAdd,bv80,st80,ld80,f8,k8]
         have bad : ¬lowOK won low people.length:=fun hb=>by
          have h7:=hb i c
          have h8:inR 0 (won.getD i 0) [low.getD i 0]=true:=inR_iff.2 (by simpa using h7)
          rw[c6] at h8;cases h8
         exact⟨(s.e.trans G5).put (by omega) _,OpenV.err (e:=2) (by unfold openErr;rw[if_neg c1',if_neg (by rw[c3];simp[c2]),if_neg (by rw[c4,←hlow];simp[c5]),if_pos (by rw[←hlow];exact bad)]) (by omega)⟩
        ·simp -dsimp (maxSteps:=1000000) (disch:=try exact dx) only[wpS,wpT,reduceEqDiff]
         refine⟨wpSteady_cons (wpSteady_one rfl rfl rfl rfl (steady_load (av:=elemAddr vw i) (v:=KI (won.getD i 0)) (by simp) lW W1)) (wpSteady_one rfl rfl rfl rfl (steady_load (av:=elemAddr vl2 i) (v:=KI (low.getD i 0)) (by simp) lL L1)),?_⟩
         simp -dsimp (maxSteps:=1000000) (disch:=try exact dx) only[wpS,wpT,reduceEqDiff,reduceAdd]
         refine drawn [(1,[13]),(6,[13]),(10,[13])] (by kernel_rfl) (by kernel_rfl) rfl ?_
         have hrow:inR 0 (won.getD i 0) [low.getD i 0]=true:=c6
         have hlo:=inR_iff.1 hrow (low.getD i 0) (by simp)
         obtain⟨out',h6,hap,A6,gr6,ex6⟩:=A5.appN (P:=prog) (t:=78) ap78 (m:=1) (new:=[KI (people.getD i 0),KI (won.getD i 0),KI (low.getD i 0)]) (by omega) rfl rfl (by omega) (by omega) (s.e.trans G5) (Nat.le_refl _)
         have lW2:=W2.ld (P:=prog) (t:=3) (c:=i) (by simp<;>omega) ag3
         have lL2:=L2.ld (P:=prog) (t:=3) (c:=i) (by simp<;>omega) ag3
         rw[map_get,at_getD iw] at lW2
         rw[map_get,at_getD il] at lL2
         have k6:=gr6.var (by omega) k11
         have co:=A6.sl.cells
         have cO:cellOK out'=true:=by obtain⟨oa,ok,ho⟩:=A6.sl.form;rw[ho];rfl
         simp -dsimp (maxSteps:=1000000) (disch:=try exact dx) only[wpS,wpT,reduceEqDiff,reduceLeDiff,reduceAdd,fa80_1,ld78,bv121,pl121_0,pl121_1,pl121_2,bs78,st78,ba78_78,f1,f3,f11,W2.idx es29 iw,L2.idx es29 il,lW2,lL2,row_of k11,hap,k6,co,cO]
         have N6:Ext h5 (h5.new (.cells [KI (people.getD i 0),KI (won.getD i 0),KI (low.getD i 0)] 3 none)):=(Ext.refl h5).new _
         have W3:=((s.sw.keep s.k).keep (G5.trans N6).keep).now.ld (P:=prog) (t:=3) (c:=i) (by simp<;>omega) ag3
         have L3:=((s.sl.keep s.k).keep (G5.trans N6).keep).now.ld (P:=prog) (t:=3) (c:=i) (by simp<;>omega) ag3
         rw[map_get,at_getD iw] at W3
         rw[map_get,at_getD il] at L3
         have kn:=N6.kept (by omega) k11
         refine⟨wpSteady_cons (wpSteady_one rfl rfl rfl rfl (steady_load (av:=ptr (2*h3.n) 1) (v:=out) (by simp) ?_ ?_)) (wpSteady_cons (wpSteady_one rfl rfl rfl rfl (steady_load (av:=elemAddr vw i) (v:=KI (won.getD i 0)) (by simp) lW2 W3)) (wpSteady_one rfl rfl rfl rfl (steady_load (av:=elemAddr vl2 i) (v:=KI (low.getD i 0)) (by simp) lL2 L3))),?_⟩
         ·simp -dsimp (maxSteps:=1000000) (disch:=try exact dx) only[wpS,ld78,row_of k11]
         ·simp -dsimp (maxSteps:=1000000) (disch:=try exact dx) only[wpS,ld78,row_of kn]
         have kk6:=(s.k.trans (G5.keep)).trans ((N6.keep).trans (Keep.refl _))
         have e2:IntKind.i64.wrap ((i:Int)+1)=((i+1:Nat):Int):=by rw[wrap_i64 (by omega)];omega
         simp -dsimp (maxSteps:=1000000) (disch:=try exact dx) only[wpS,wpT,reduceEqDiff,reduceAdd,f54,e2]
         have m6:=ex6.n
         have g6:=gr6.n
         refine⟨mm - 1,by omega,i+1,out',by omega,⟨ex6.put (by omega) _,((s.k.trans G5.keep).trans gr6.keep).put k6 _,s.sp,s.sw,s.sl,by simp;omega,?_,by simp (disch:=try exact dx) only[get_put_same],?_,?_,by simp[f1],by simp[f3],by simp[f8],by simp[f11],by simp,by simp[f52],by simp[f53],by simp⟩⟩
         ·rw[get_put_old _ _ (by omega)];exact gr6.var (by omega) k8
         ·rw[regsOf_succ,regL,List.flatMap_append]
          have:=A6.put k6 (.cells [KI m,out'] 0 none)
          exact this
         ·intro j hj
          by_cases hji:j<i
          ·exact s.lw j hji
          ·obtain rfl:j=i:=by omega
           exact⟨hlo.1,hlo.2⟩
       ·obtain⟨f1,f3,f8,f11,f12,f52,f53,f54⟩:=And.intro s.f1 (And.intro s.f3 (And.intro s.f8 (And.intro s.f11 (And.intro s.f12 (And.intro s.f52 (And.intro s.f53 s.f54))))))
        have hin:i=people.length:=by omega
        simp -dsimp (maxSteps:=1000000) (disch:=try exact dx) only[wpS,wpT,reduceEqDiff,reduceLeDiff,reduceAdd,bs29,f12,f53,f54]
        have hs:(won.take i).sum=won.sum:=by rw[List.take_of_length_le (by omega)]
        have hlw:lowOK won low people.length:=by rw[←hin];exact s.lw
        rw[hs]
        refine call (bwithin_ok (l:=[won.sum]) 1 1000 (built1 hh won.sum) (by simp)) ?_
        rintro _ h5 ⟨X5,rfl⟩
        have G5:=((Ext.refl hh).new (.cells [KI won.sum] 1 none)).trans X5
        have m5:=G5.n
        have bn:=s.bn
        have k8:=G5.kept (by omega) s.g8
        have k11:=G5.kept (by omega) s.g11
        cases c7:inR 1 1000 [won.sum]
        ·simp -dsimp (maxSteps:=1000000) (disch:=try exact dx) only[wpS,wpT,reduceEqDiff,reduceLeDiff,reduceAdd,bv80,st80,ld80,f8,k8]
         exact⟨(s.e.trans G5).put (by omega) _,OpenV.err (e:=2) (by unfold openErr;rw[if_neg c1',if_neg (by rw[c3];simp[c2]),if_neg (by rw[c4,←hlow];simp[c5]),if_neg (by rw[←hlow];simpa using hlw),if_pos c7]) (by omega)⟩
        ·have so:=(s.acc.ext G5).sl
         have co:=so.cells
         have cO:cellOK out=true:=by obtain⟨oa,ok,ho⟩:=so.form;rw[ho];rfl
         simp -dsimp (maxSteps:=1000000) (disch:=try exact dx) only[wpS,wpT,reduceEqDiff,reduceLeDiff,reduceAdd,st80,ld80,f8,f11,k8,row_of k11,cO,tk2']
         refine⟨(s.e.trans G5).put (by omega) _,?_⟩
         unfold OpenV
         rw[if_pos (by unfold openErr;rw[if_neg c1',if_neg (by rw[c3];simp[c2]),if_neg (by rw[c4,←hlow];simp[c5]),if_neg (by rw[←hlow];simpa using hlw),if_neg (by rw[c7];simp)])]
         refine⟨out,rfl,?_⟩
         rw[←hlow,←hin]
         exact((s.acc.ext G5).put k8 _).sl
      ·simp -dsimp (maxSteps:=1000000) (disch:=try exact dx) only[wpS,wpT,reduceEqDiff,reduceLeDiff,reduceAdd,bv80,st80,ld80,f0,f3,f8,kg3,sl2.now.len sl29,(hp.keep (F2.trans F3).keep).now.len sl29]
       exact⟨(F2.trans F3).put (by omega) _,OpenV.err (e:=2) (by unfold openErr;rw[if_neg c1',if_neg (by rw[c3];simp[c2]),if_pos (.inr (by rw[←hlow];exact c5))]) (by omega)⟩
  ·simp -dsimp (maxSteps:=1000000) (disch:=try exact dx) only[wpS,wpT,reduceEqDiff,reduceLeDiff,reduceAdd,bv80,st80,ld80,g0,sp.len sl29,sw.len sl29]
   exact⟨E0.put (by omega) _,OpenV.err (e:=2) (by unfold openErr;rw[if_neg c1',if_pos (.inl c2)]) (by omega)⟩
end Go.Id

namespace Go.Id
open Go
end Go.Id

namespace Go.Id
open Go
def doneL (r:ILoop) (c:Code):ILoop:={ r with state:=.done,pending:=some c }
@[reducible] def bodyE (k:Nat) (r:ILoop) (K:Value→IH→Prop) (e:IExit) (_:Fr) (h:IH):Prop :=
 h.ext.get k=some (.loop (busyL r))∧match e with
  | .normal=>K (.bool true) (h.put k (.loop r))
  | .exit i=>K (.bool false) (h.put k (.loop (doneL r (.exit i))))
  | .ret=>K (.bool false) (h.put k (.loop (doneL r .ret)))
@[reducible] def asgK (P:Program) (k:Nat) (r:ILoop) (K:Value→IH→Prop) (e:IExit) (fr:Fr) (h:IH):Prop :=
 e=.normal∧h.ext.get k=some (.loop r)∧Do (wpC P r.fn r.nt (some k) r.body fr (h.put k (.loop (busyL r)))) (bodyE k r K) nx
theorem wv_yield2 {P:Program} {k:Nat} {r:ILoop} {p:Tmp} (hst:r.state=.ready) (hpe:r.pending=none) (hps:r.params = [p]) (hp:p<r.nt) (v:Value) (h:IH) (K:Value→IH→Prop) (hg:h.ext.get k=some (.loop r))
  (w:wpC P r.fn r.nt (some k) r.assign ((p,v) :: r.fr) h (asgK P k r K)):WV P (.func (.yield (2*k)) #[] #[]) [v] h K:=by
 obtain⟨⟨e0,fr0,h0⟩,⟨N0,hN0⟩,he0,hg0,w⟩:=wpC_sound w
 simp only at he0 hg0 w hN0
 subst he0
 obtain⟨⟨e,fr,h1⟩,⟨N,hN⟩,hb,hk⟩:=wpC_sound w
 simp only at hb hk hN
 have hp':Nat.blt p r.nt=true:=by simp only[Nat.blt,Nat.ble_eq];exact hp
 have e1:(2*k % 2 == 0)=true:=by simp
 have e2:2*k / 2=k:=by omega
 have e3:putParams r.nt r.params [v] r.fr=some ((p,v) :: r.fr):=by
  rw[hps];simp[putParams,fput,hp']
 have e5:(r.state == LoopState.ready)=true:=by rw[hst];rfl
 have e6:({ h0 with ext:=h0.ext.set k (.loop { r with state:=.busy }) }:IH)=h0.put k (.loop (busyL r)):=rfl
 have e7:({ busyL r with state:=.ready,pending:=none }:ILoop)=r:=by
  cases r;simp only at hst hpe;subst hst;subst hpe;rfl
 cases e with
 | normal =>
  refine⟨(.bool true,h1.put k (.loop r)),⟨N0+N+1,fun n hn=>?_⟩,hk⟩
  obtain⟨n,rfl⟩ : ∃m,n=m+1:=⟨n - 1,by omega⟩
  have h2:=hN n (by omega)
  have h3:=hN0 n (by omega)
  show(bif 2*k % 2 == 0 then callYield (E0 P) (callV (E0 P) n) n (2*k / 2) ((#[]:Array Value).toList ++ [v]) h else none)=_
  rw[e1,cond_true,e2]
  simp only[callYield,get_loop hg,e3,h3,get_loop hg0,e5,cond_true,e6,h2,get_loop hb,List.nil_append]
  rw[e7];rfl
 | exit i =>
  refine⟨(.bool false,h1.put k (.loop (doneL r (.exit i)))),⟨N0+N+1,fun n hn=>?_⟩,hk⟩
  obtain⟨n,rfl⟩ : ∃m,n=m+1:=⟨n - 1,by omega⟩
  have h2:=hN n (by omega)
  have h3:=hN0 n (by omega)
  show(bif 2*k % 2 == 0 then callYield (E0 P) (callV (E0 P) n) n (2*k / 2) ((#[]:Array Value).toList ++ [v]) h else none)=_
  rw[e1,cond_true,e2]
  simp only[callYield,get_loop hg,e3,h3,get_loop hg0,e5,cond_true,e6,h2,get_loop hb,List.nil_append]
  rfl
 | ret =>
  refine⟨(.bool false,h1.put k (.loop (doneL r .ret))),⟨N0+N+1,fun n hn=>?_⟩,hk⟩
  obtain⟨n,rfl⟩ : ∃m,n=m+1:=⟨n - 1,by omega⟩
  have h2:=hN n (by omega)
  have h3:=hN0 n (by omega)
  show(bif 2*k % 2 == 0 then callYield (E0 P) (callV (E0 P) n) n (2*k / 2) ((#[]:Array Value).toList ++ [v]) h else none)=_
  rw[e1,cond_true,e2]
  simp only[callYield,get_loop hg,e3,h3,get_loop hg0,e5,cond_true,e6,h2,get_loop hb,List.nil_append]
  rfl
def RangeEnd (k:Nat) (r:ILoop) (fr:Fr) (Q:IExit→Fr→IH→Prop) (h1:IH):Prop :=
 (h1.ext.get k=some (.loop r)∧Q .normal fr (h1.put k .dead))∨(∃i,h1.ext.get k=some (.loop (doneL r (.exit i)))∧Q (.exit i) fr (h1.put k .dead))∨(h1.ext.get k=some (.loop (doneL r .ret))∧Q .ret fr (h1.put k .dead))
theorem range2 {P:Program} {fn:FuncId} {nt:Nat} {rd:Option Nat} {f:Operand} {p:Tmp} {assign body:Code} {fr:Fr} {h:IH} {Q:IExit→Fr→IH→Prop} {fv:Value} (hf:opd fr f=some fv) (hrd:roundOK h rd=true) (hp:p<nt)
  (w : ∀(r:ILoop) (y:Value),r.fn=fn→r.nt=nt→r.body=body→(∀v h1 K,h1.ext.get h.n=some (.loop r)→Do (wpC P fn nt (some h.n) assign ((p,v) :: fr) h1) (asgK P h.n r K) nx→WV P y [v] h1 K) →
   WV P fv [y] (h.new (.loop r)) fun _ h1=>RangeEnd h.n r fr Q h1) :
  Do (WRange P fn nt rd f #[p] assign body fr h) Q nx:=by
 have w1:=w { state:=.ready,pending:=none,fn,nt,fr,params:=[p],assign:=assign,body } (.func (.yield (2*h.n)) #[] #[]) rfl rfl rfl
  fun v h1 K hg w=>wv_yield2 (r:={ state:=.ready,pending:=none,fn,nt,fr,params:=[p],assign:=assign,body }) rfl rfl rfl hp v h1 K hg w
 obtain⟨⟨v,h1⟩,⟨N,hN⟩,hq⟩:=w1
 have st : ∀(r:ILoop) (e:IExit),loopOf h1 h.n=some r→(r.state == LoopState.busy)=false→exitOf r.pending=some e → ∀n,N≤n→rangeFn (E0 P) (callV (E0 P) n) fn nt rd f [p] assign body fr h=some (e,fr,h1.put h.n .dead):=by
  intro r e h3 h4 h5 n hn
  have h2:=hN n hn
  simp only at h2
  simp only[rangeFn,hrd,cond_true,hf]
  show(match callV (E0 P) n fv [_] _ with|none=>none|some (_,h1)=>_)=_
  rw[h2]
  simp only[h3,h4,cond_false,h5]
  rfl
 rcases hq with⟨hg,hq⟩|⟨i,hg,hq⟩|⟨hg,hq⟩
 ·exact⟨(.normal,fr,h1.put h.n .dead),⟨N,fun n hn=>st _ _ (get_loop hg) rfl rfl n hn⟩,hq⟩
 ·exact⟨(.exit i,fr,h1.put h.n .dead),⟨N,fun n hn=>st _ _ (get_loop hg) rfl rfl n hn⟩,hq⟩
 ·exact⟨(.ret,fr,h1.put h.n .dead),⟨N,fun n hn=>st _ _ (get_loop hg) rfl rfl n hn⟩,hq⟩
end Go.Id

namespace Go.Id
open Go
end Go.Id

namespace Go.Id
open Go
def AccK (h:IH) (n0 sz:Nat) (v:Value) (n:Nat) (cs:List Value) (k:Nat) (fam:Option Nat):Prop :=
 0<sz∧cs.length=n*sz∧v=.slice (some ⟨2*k,0,none⟩) n (2*n)∧0<n∧n0≤k∧k<h.n∧h.ext.get k=some (.cells cs sz fam)∧TopFam h n0 k fam
theorem AccK.acc {h:IH} {n0 sz:Nat} {v:Value} {n:Nat} {cs:List Value} {k:Nat} {fam:Option Nat} (a:AccK h n0 sz v n cs k fam):Acc h n0 sz v n cs:=⟨a.1,a.2.1,.inr ⟨k,fam,a.2.2⟩⟩
theorem AccK.other {h h':IH} {n0 sz:Nat} {v:Value} {n:Nat} {cs:List Value} {k:Nat} {fam:Option Nat} (a:AccK h n0 sz v n cs k fam) (hn:h.n≤h'.n) (he:h'.ext.get k=h.ext.get k) (hf : ∀f,fam=some f→h'.fams.get f=h.fams.get f):AccK h' n0 sz v n cs k fam:=by
 obtain⟨h1,h2,h3,h4,h5,h6,h7,h8⟩:=a
 refine⟨h1,h2,h3,h4,h5,by omega,by rw[he];exact h7,?_⟩
 cases fam with
 | none=>trivial
 | some f =>
  obtain⟨a1,a2,rest,a3,a4⟩:=h8
  exact⟨a1,by omega,rest,by rw[hf f rfl];exact a3,a4⟩
theorem AccK.app {h:IH} {n0 sz:Nat} {v:Value} {n:Nat} {cs:List Value} {kk:Nat} {fam:Option Nat} (a:AccK h n0 sz v n cs kk fam) {P:Program} {t:TypeId} {bytes:Nat} (hT:appT P t=some (sz,bytes)) {x:Value} {m:Nat} {new:List Value} (sx:SlNow h sz x m new) (hm:0<m)
  (hc:new.all cellOK=true) (hsz:(n+m)*(bytes+1)≤1099511627776) :
  ∃h' f,append P h t v x=some (.slice (some ⟨2*h.n,0,none⟩) (n+m) (2*(n+m)),h')∧AccK h' n0 sz (.slice (some ⟨2*h.n,0,none⟩) (n+m) (2*(n+m))) (n+m) (cs ++ new) h.n (some f)∧(fam=some f∨(fam=none∧f=h.n))∧h'.n=h.n+1∧h'.base=h.base ∧
   (∀j,j<h.n→j≠kk→h'.ext.get j=h.ext.get j)∧h'.ext.get kk=some (.cells cs sz (some f))∧(∀g,g<h.n→fam≠some g→h'.fams.get g=h.fams.get g):=by
 unfold appT at hT
 split at hT
 case h_2=>cases hT
 rename_i e hu
 split at hT
 case h_2=>cases hT
 rename_i zs h1 h2 h3
 simp only[cond_eq_ite] at hT
 split at hT
 case isTrue=>cases hT
 rename_i hbad
 cases hT
 have hbad':(sz == 0 || (!(Nat.ble bytes 65536) || !(zs.length == sz)))=false:=by simpa using hbad
 have hmne:(m == 0)=false:=by simp;omega
 have hln:new.length=m*sz∧firstOf h sz m x=some new∧lenOf x=some m:=by
  obtain⟨hz,hl,⟨rfl,rfl⟩|⟨b2,o2,k2,rfl,rfl|⟨row,a1,a2,a3⟩⟩⟩:=sx
  ·omega
  ·omega
  have hms : ¬m*sz=0:=by
   have:0<m*sz:=Nat.mul_pos hm hz
   omega
  refine⟨hl,?_,rfl⟩
  simp only[firstOf,cond_eq_ite,Nat.ble_eq,Nat.le_refl,if_true,beq_iff_eq,if_neg hms]
  rw[rd_of a1,if_pos a3,a2]
 obtain⟨hln,hfirst,hlx⟩:=hln
 obtain⟨hz,hl,rfl,hn,g1,g2,g3,g4⟩:=a
 have hble:Nat.ble ((n+m)*(bytes+1)) sizeMost=true:=by rw[Nat.ble_eq];exact hsz
 have hcap:Nat.ble (n+m) (2*n / 2)=false:=by
  rw[Bool.eq_false_iff];intro hh;rw[Nat.ble_eq] at hh;omega
 have hodd:(2*n % 2 == 1)=false:=by simp
 have hlen:(n == 2*n / 2 && Nat.blt 0 n && (2*kk) % 2 == 0)=true:=by
  have:2*n / 2=n:=by omega
  simp[this,Nat.blt,Nat.ble_eq];omega
 have hend:(0+n*sz == cs.length && sz == sz)=true:=by simp[hl]
 have hk2:2*kk / 2=kk:=by omega
 have body : ∀f below,(∀j∈below,n0≤j)→(n0≤f)→f<h.n+1→(∀g,g<h.n→fam≠some g→g≠f) →
   AccK (grown h kk f cs sz [] below (cs.drop 0 ++ new) sz) n0 sz (.slice (some ⟨2*h.n,0,none⟩) (n+m) (2*(n+m))) (n+m) (cs ++ new) h.n (some f)∧(grown h kk f cs sz [] below (cs.drop 0 ++ new) sz).n=h.n+1∧(grown h kk f cs sz [] below (cs.drop 0 ++ new) sz).base=h.base ∧
   (∀j,j<h.n→j≠kk→(grown h kk f cs sz [] below (cs.drop 0 ++ new) sz).ext.get j=h.ext.get j)∧(grown h kk f cs sz [] below (cs.drop 0 ++ new) sz).ext.get kk=some (.cells cs sz (some f))∧(∀g,g<h.n→fam≠some g→(grown h kk f cs sz [] below (cs.drop 0 ++ new) sz).fams.get g=h.fams.get g):=by
  intro f below hbl hf1 hf2 hf3
  have hget : ∀j,(grown h kk f cs sz [] below (cs.drop 0 ++ new) sz).ext.get j=if j=h.n then some (.cells (cs ++ new) sz (some f)) else if j=kk then some (.cells cs sz (some f)) else h.ext.get j:=by
   intro j
   simp[grown,IH.killAll,Tr.get_set]
  refine⟨⟨hz,by simp[hl,hln,Nat.add_mul],rfl,by omega,by omega,by simp[grown],by rw[hget,if_pos rfl],hf1,by simp[grown];omega,kk :: below,?_,fun j hj=>?_⟩,by simp[grown],rfl,fun j hj hne=>?_,?_,fun g hg hgf=>?_⟩
  ·simp[grown,Tr.get_set]
  ·rcases List.mem_cons.1 hj with rfl|hj
   ·exact g1
   ·exact hbl j hj
  ·rw[hget,if_neg (by omega),if_neg hne]
  ·rw[hget,if_neg (by omega),if_pos rfl]
  ·simp only[grown,Tr.get_set]
   rw[if_neg (hf3 g hg hgf)]
 cases fam with
 | none =>
  obtain⟨b1,b2,b3,b4,b5,b6⟩:=body h.n [] (fun _ h=>by cases h) (by omega) (by omega) (fun g hg _=>by omega)
  refine⟨_,h.n,?_,b1,.inr ⟨rfl,rfl⟩,b2,b3,b4,b5,b6⟩
  simp only[Id.append,hu,h1,h2,h3,hlx,hmne,hbad',hfirst,hc,hble,hcap,hodd,hlen,hk2,g3,hend,cond_true,cond_false,Bool.not_true]
 | some f =>
  obtain⟨f1,f2,rest,f3,f4⟩:=g4
  obtain⟨b1,b2,b3,b4,b5,b6⟩:=body f rest f4 f1 (by omega) (fun g hg hne e=>hne (by rw[e]))
  refine⟨_,f,?_,b1,.inl rfl,b2,b3,b4,b5,b6⟩
  have t1:(kk :: rest).takeWhile (· != kk) = []:=by simp
  have t2:((kk :: rest).dropWhile (· != kk)).drop 1=rest:=by simp
  simp only[Id.append,hu,h1,h2,h3,hlx,hmne,hbad',hfirst,hc,hble,hcap,hodd,hlen,hk2,g3,hend,f3,t1,t2,cond_true,cond_false,Bool.not_true]
def Acc2 (h:IH) (n0 sz:Nat) (v w:Value) (n:Nat) (cs ds:List Value):Prop :=
 (v=.slice none 0 0∧w=.slice none 0 0∧n=0∧cs = []∧ds = []) ∨
 ∃k fam j gam,AccK h n0 sz v n cs k fam∧AccK h n0 sz w n ds j gam∧k≠j ∧ ∀f,fam=some f→gam≠some f
theorem Acc2.sl {h:IH} {n0 sz:Nat} {v w:Value} {n:Nat} {cs ds:List Value} (hz:0<sz) (a:Acc2 h n0 sz v w n cs ds):SlOf h sz v n cs∧SlOf h sz w n ds:=by
 rcases a with⟨rfl,rfl,rfl,rfl,rfl⟩|⟨k,fam,j,gam,a,b,_⟩
 ·exact⟨SlOf.nil _ hz,SlOf.nil _ hz⟩
 ·exact⟨a.acc.sl,b.acc.sl⟩
theorem Acc2.ext {h h':IH} {n0 sz:Nat} {v w:Value} {n:Nat} {cs ds:List Value} (a:Acc2 h n0 sz v w n cs ds) (e:Ext h h'):Acc2 h' n0 sz v w n cs ds:=by
 rcases a with a|⟨k,fam,j,gam,a,b,c⟩
 ·exact .inl a
 ·have hf : ∀{k:Nat} {fam:Option Nat} {v:Value} {cs:List Value},AccK h n0 sz v n cs k fam→AccK h' n0 sz v n cs k fam:=fun a=>a.other e.n (e.get _ a.2.2.2.2.2.1) fun f hf=>e.fams f (by
   obtain⟨_,_,_,_,_,_,_,t⟩:=a
   subst hf
   exact t.2.1)
  exact .inr ⟨k,fam,j,gam,hf a,hf b,c⟩
theorem append_none {P:Program} {t:TypeId} {sz bytes:Nat} (hT:appT P t=some (sz,bytes)) (h:IH) {x:Value} {m:Nat} {new:List Value} (sx:SlNow h sz x m new) (hm:0<m) (hc:new.all cellOK=true) (hsz:m*(bytes+1)≤1099511627776) :
  append P h t (.slice none 0 0) x=some (.slice (some ⟨2*h.n,0,none⟩) m (2*m),h.new (.cells new sz none)):=by
 unfold appT at hT
 split at hT
 case h_2=>cases hT
 rename_i e hu
 split at hT
 case h_2=>cases hT
 rename_i zs h1 h2 h3
 simp only[cond_eq_ite] at hT
 split at hT
 case isTrue=>cases hT
 rename_i hbad
 cases hT
 have hbad':(sz == 0 || (!(Nat.ble bytes 65536) || !(zs.length == sz)))=false:=by simpa using hbad
 obtain⟨hz,hl,⟨rfl,rfl⟩|⟨b2,o2,k2,rfl,rfl|⟨row,a1,a2,a3⟩⟩⟩:=sx
 ·omega
 ·omega
 have hms : ¬m*sz=0:=by
  have:0<m*sz:=Nat.mul_pos hm hz
  omega
 have hmne:(m == 0)=false:=by simp;omega
 have hfirst:firstOf h sz m (.slice (some ⟨b2,o2,none⟩) m k2)=some new:=by
  simp only[firstOf,cond_eq_ite,Nat.ble_eq,Nat.le_refl,if_true,beq_iff_eq,if_neg hms]
  rw[rd_of a1,if_pos a3,a2]
 have hble:Nat.ble (m*(bytes+1)) sizeMost=true:=by rw[Nat.ble_eq];exact hsz
 simp only[Id.append,hu,h1,h2,h3,lenOf,hmne,hbad',hfirst,hc,hble,cond_true,cond_false,Bool.not_true,BEq.rfl,Bool.and_self]
theorem accK_new {h:IH} {n0 sz m:Nat} {cs:List Value} (hz:0<sz) (hl:cs.length=m*sz) (hm:0<m) (h0:n0≤h.n):AccK (h.new (.cells cs sz none)) n0 sz (.slice (some ⟨2*h.n,0,none⟩) m (2*m)) m cs h.n none :=
 ⟨hz,hl,rfl,hm,h0,by simp,get_new_same _ _ rfl,trivial⟩
theorem Acc2.round {h:IH} {n0 sz:Nat} {v w:Value} {n:Nat} {cs ds:List Value} (a:Acc2 h n0 sz v w n cs ds) {P:Program} {t:TypeId} {bytes:Nat} (hT:appT P t=some (sz,bytes)) (hz:0<sz) {new1 new2:List Value} (l1:new1.length=sz) (l2:new2.length=sz)
  (c1:new1.all cellOK=true) (c2:new2.all cellOK=true) (hsz:(n+1)*(bytes+1)≤1099511627776) (h0:n0≤h.n) {h0':IH} (e0:Ext h0' h) (hn0:h0'.n≤n0) :
  ∃v' h1 w' h2,append P (h.new (.cells new1 sz none)) t v (.slice (some ⟨2*h.n,0,none⟩) 1 3)=some (v',h1)∧append P (h1.new (.cells new2 sz none)) t w (.slice (some ⟨2*h1.n,0,none⟩) 1 3)=some (w',h2) ∧
   Acc2 h2 n0 sz v' w' (n+1) (cs ++ new1) (ds ++ new2)∧Grow h h1∧Grow h1 h2∧Ext h0' h2:=by
 have x1:SlNow (h.new (.cells new1 sz none)) sz (.slice (some ⟨2*h.n,0,none⟩) 1 3) 1 new1:=(sl_block (k:=h.n) (f:=none) (get_new_same _ _ rfl) (by simp) hz (by omega) (by omega) (by omega):SlOf _ _ _ _ _).now
 have x2 : ∀h1:IH,SlNow (h1.new (.cells new2 sz none)) sz (.slice (some ⟨2*h1.n,0,none⟩) 1 3) 1 new2:=fun h1=>(sl_block (k:=h1.n) (f:=none) (get_new_same _ _ rfl) (by simp) hz (by omega) (by omega) (by omega):SlOf _ _ _ _ _).now
 have E1:Ext h (h.new (.cells new1 sz none)):=(Ext.refl h).new _
 rcases a with⟨rfl,rfl,rfl,rfl,rfl⟩|⟨k,fam,j,gam,ay,az,hkj,hfg⟩
 ·refine⟨_,_,_,_,append_none hT _ x1 (by omega) c1 (by omega),append_none hT _ (x2 _) (by omega) c2 (by omega),.inr ⟨(h.new (.cells new1 sz none)).n,none,_,none,?_,accK_new hz (by omega) (by omega) (by simp only[new_n];omega),?_,fun f hf=>by cases hf⟩,(E1.new _).grow,(((Ext.refl _).new _).new _).grow,(((e0.trans E1).new _).new _).new _⟩
  ·have A:=accK_new (h:=h.new (.cells new1 sz none)) (n0:=n0) (cs:=new1) hz (m:=1) (by omega) (by omega) (by simp only[new_n];omega)
   refine A.other (by simp only[new_n];omega) ?_ (fun f hf=>by cases hf)
   rw[get_new_old _ _ (by simp only[new_n];omega),get_new_old _ _ (by simp only[new_n];omega)]
  ·simp only[new_n];omega
 ·have ay1:AccK (h.new (.cells new1 sz none)) n0 sz v n cs k fam:=ay.other E1.n (E1.get _ ay.2.2.2.2.2.1) fun f _=>rfl
  have az1:AccK (h.new (.cells new1 sz none)) n0 sz w n ds j gam:=az.other E1.n (E1.get _ az.2.2.2.2.2.1) fun f _=>rfl
  have jn:j<h.n:=az.2.2.2.2.2.1
  have gn : ∀g,gam=some g→g<h.n:=fun g hg=>by
   obtain⟨_,_,_,_,_,_,_,tz⟩:=az
   subst hg
   exact tz.2.1
  obtain⟨h1,f1,ap1,a1,hf1,n1,b1,o1,k1,s1⟩:=ay1.app hT x1 (by omega) c1 hsz
  simp only[new_n] at n1 o1 s1 hf1
  have hfn:gam≠some f1:=by
   rcases hf1 with hf|⟨_,hf⟩
   ·exact hfg _ hf
   ·intro e;have:=gn _ e;omega
  have az2:AccK h1 n0 sz w n ds j gam:=az1.other (by simp only[new_n];omega) (o1 j (by omega) (Ne.symm hkj)) fun g hg=>s1 g (by have:=gn g hg;omega) (fun e=>hfg _ e hg)
  have E2:Ext h1 (h1.new (.cells new2 sz none)):=(Ext.refl h1).new _
  have az3:AccK (h1.new (.cells new2 sz none)) n0 sz w n ds j gam:=az2.other E2.n (E2.get _ az2.2.2.2.2.2.1) fun f _=>rfl
  obtain⟨h2,g2,ap2,a2,hg2,n2,b2,o2,k2,s2⟩:=az3.app hT (x2 h1) (by omega) c2 hsz
  simp only[new_n] at n2 o2 s2 hg2
  have a1':AccK (h1.new (.cells new2 sz none)) n0 sz (.slice (some ⟨2*(h.new (.cells new1 sz none)).n,0,none⟩) (n+1) (2*(n+1))) (n+1) (cs ++ new1) (h.new (.cells new1 sz none)).n (some f1):=a1.other E2.n (E2.get _ a1.2.2.2.2.2.1) fun f _=>rfl
  have f1n:f1<h1.n:=a1.2.2.2.2.2.2.2.2.1
  have a1'':=a1'.other (h':=h2) (by simp only[new_n];omega) (o2 _ (by simp only[new_n];omega) (by simp only[new_n];omega)) fun f hf=>by
   cases hf
   exact s2 _ (by omega) hfn
  have G1:Grow h h1:=by
   refine⟨by omega,by rw[b1];rfl,fun i hi=>?_⟩
   by_cases hik:i=k
   ·subst hik
    exact .inr ⟨cs,sz,fam,some f1,by omega,ay.2.2.2.2.2.2.1,k1⟩
   ·left
    rw[o1 i (by omega) hik,get_new_old _ _ (by omega)]
  have G2:Grow h1 h2:=by
   refine⟨by omega,by rw[b2];rfl,fun i hi=>?_⟩
   by_cases hij:i=j
   ·subst hij
    exact .inr ⟨ds,sz,gam,some g2,by omega,az2.2.2.2.2.2.2.1,k2⟩
   ·left
    rw[o2 i (by omega) hij,get_new_old _ _ (by omega)]
  refine⟨_,h1,_,h2,ap1,ap2,.inr ⟨_,_,_,_,a1'',a2,by simp only[new_n];omega,fun f hf e=>?_⟩,G1,G2,?_⟩
  ·cases hf
   rcases hg2 with hg|⟨_,hg⟩
   ·exact hfn (hg.trans e)
   ·cases e;omega
  ·have kn0:n0≤k:=ay.2.2.2.2.1
   have jn0:n0≤j:=az.2.2.2.2.1
   have e0n:=e0.n
   refine⟨by omega,by rw[b2];show h1.base=_;rw[b1];exact e0.base,fun i hi=>?_,fun g hg=>?_⟩
   ·rw[o2 i (by omega) (by omega),get_new_old _ _ (by omega),o1 i (by omega) (by omega),get_new_old _ _ (by omega)]
    exact e0.get i hi
   ·have tg : ∀g,gam=some g→n0≤g:=fun g hg=>by
     obtain⟨_,_,_,_,_,_,_,tz⟩:=az
     subst hg
     exact tz.1
    have tf : ∀g,fam=some g→n0≤g:=fun g hg=>by
     obtain⟨_,_,_,_,_,_,_,tz⟩:=ay
     subst hg
     exact tz.1
    have r1:h2.fams.get g=(h1.new (.cells new2 sz none)).fams.get g:=s2 g (by omega) fun e=>by have:=tg g e;omega
    have r2:h1.fams.get g=(h.new (.cells new1 sz none)).fams.get g:=s1 g (by omega) fun e=>by have:=tf g e;omega
    rw[r1]
    show h1.fams.get g=_
    rw[r2]
    exact e0.fams g hg
end Go.Id
