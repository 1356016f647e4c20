/-
  Contracts: package wide: Add and Sub (numbers that are not negative), Cmp. The random numbers of package chance: plain numbers.
-/
import Derived.Test.YtnanhedgenokpaaGreatTemperDetailedAt
import Derived.Test.YtnanhedgenokpaaGreatTemperDetailedBo
import Derived.Test.YtnanhedgenokpaaGreatTemperDetailedAs
import Derived.Test.YtnanhedgenokpaaGreatTemperDetailedAv
import Derived.Test.YtnanhedgenokpaaGreatTemperDetailedAu
import Derived.Test.YtnanhedgenokpaaGreatTemperDetailedBe
import Derived.Test.YtnanhedgenokpaaGreatTemperDetailedAw
import Derived.Test.YtnanhedgenokpaaGreatTemperDetailedAy
import Derived.Test.YtnanhedgenokpaaGreatTemperDetailedBl
import Derived.Test.YtnanhedgenokpaaGreatTemperDetailedBf
set_option linter.unusedVariables false
set_option linter.unusedSimpArgs false
set_option linter.defProp false
set_option linter.deprecated false
namespace Go.Id
open Go
open Go.Proofs.Tryz (prog)
open Nat renaming reduceAdd→zA,reduceEqDiff→zE,reduceLeDiff→zL
set_option maxHeartbeats 16000000
theorem mapTop:MapT prog 250 5 .nilFunc:=⟨_,u250,by kernel_rfl,rfl⟩
def opsL:MapL:=[(.int .u8 43,(.func (.func 245) #[] #[])),(.int .u8 45,(.func (.func 246) #[] #[])),(.int .u8 42,(.func (.func 247) #[] #[]))]
theorem opsL_keys : ∀e∈opsL,∃a,e.1=.int .u8 a:=by
 intro e he
 simp[opsL] at he
 rcases he with rfl|rfl|rfl<;>exact⟨_,rfl⟩
theorem place_new : ∀{l:MapL} {k:Value},(∀e∈l,e.1≠k)→place l k=none
 | [],_,_=>rfl
 | e :: l,k,h=>by
  rw[place,if_neg (h e (by simp)),place_new fun x hx=>h x (by simp[hx])]
  rfl
theorem upd_new {l:MapL} {k v:Value} (h : ∀e∈l,e.1≠k):upd l k v=l ++ [(k,v)]:=by
 unfold upd
 rw[place_new h]
theorem asc_hd (k v:Value) (l:MapL):asc ((k,v) :: l) k=some v:=by rw[asc,if_pos rfl]
theorem asc_tl {k k' v:Value} {l:MapL} (h:k'≠k):asc ((k',v) :: l) k=asc l k:=by rw[asc,if_neg h]
theorem u8_ne {a b:Int} (h:a≠b):(Value.int .u8 a)≠.int .u8 b:=fun e=>h (by injection e)
theorem operations_ok {h:IH}:WV prog (.func (.func 184) #[] #[]) [] h fun r h'=>Ext h h'∧h'.ext.get h.n=some (.map opsL)∧h.n<h'.n∧r=.map (some (2*h.n)):=by
 have kt:=keyT_int (P:=prog) u5
 have u1 : ∀v,mapUpdate prog (h.new (.map [])) 250 (.map (some (2*h.n))) (.int .u8 43) v=some ((h.new (.map [])).put h.n (.map [(.int .u8 43,v)])):=fun v=>by
  rw[mapUpdate_eq mapTop kt (get_new_same _ _ rfl) ⟨_,rfl⟩ (by simp) v,upd_new (by simp)]
  rfl
 have u2 : ∀(H:IH) (w v:Value),mapUpdate prog (H.put h.n (.map [(.int .u8 43,w)])) 250 (.map (some (2*h.n))) (.int .u8 45) v=some ((H.put h.n (.map [(.int .u8 43,w)])).put h.n (.map [(.int .u8 43,w),(.int .u8 45,v)])):=fun H w v=>by
  rw[mapUpdate_eq mapTop kt (get_put_same _ _ rfl) ⟨_,rfl⟩ (by intro e he;simp at he;subst he;exact⟨_,rfl⟩) v,upd_new (by intro e he;simp at he;subst he;exact u8_ne (by decide))]
  rfl
 have u3 : ∀(H:IH) (w x v:Value),mapUpdate prog (H.put h.n (.map [(.int .u8 43,w),(.int .u8 45,x)])) 250 (.map (some (2*h.n))) (.int .u8 42) v=some ((H.put h.n (.map [(.int .u8 43,w),(.int .u8 45,x)])).put h.n (.map [(.int .u8 43,w),(.int .u8 45,x),(.int .u8 42,v)])):=fun H w x v=>by
  rw[mapUpdate_eq mapTop kt (get_put_same _ _ rfl) ⟨_,rfl⟩ (by intro e he;simp at he;rcases he with rfl|rfl<;>exact⟨_,rfl⟩) v,upd_new (by intro e he;simp at he;rcases he with rfl|rfl<;>exact u8_ne (by decide))]
  rfl
 refine enter (nt:=3) (rs:=[.tmp 0]) Proofs.Tryz.func184 rfl rfl rfl (by simp) ?_
 simp -dsimp (disch:=try exact dx) only[wpS,wpT,zE,u1,u2,u3]
 exact⟨((((Ext.refl h).new _).put (Nat.le_refl _) _).put (Nat.le_refl _) _).put (Nat.le_refl _) _,rfl,by omega⟩
theorem steady_lk {P:Program} {fr:Fr} {mt:TypeId} {m k:Operand} {h h':IH} {mv kv v:Value} (hm:opd fr m=some mv) (hk:opd fr k=some kv) (h1:lookup P h mt mv kv false=some v) (h2:lookup P h' mt mv kv false=some v):steadyAt P fr (.lookup mt m k false) h h'=true :=
 steadyAt_of (v:=v) (x:=h) (y:=h') (by simp[iop,hm,hk,h1]) (by simp[iop,hm,hk,h2])
theorem both_ok {h:IH} (a b m:Nat) (ha:a<H8) (hb:b<H8) (sg:Int) (f:Value) (hasc:asc opsL (.int .u8 sg)=some f) (hm:m<W8)
  (hf : ∀h1,WV prog f [numV false a,numV false b] h1 fun r h2=>Ext h1 h2∧r=.tuple #[numV false m,.bool false]) :
  WV prog (.func (.func 104) #[] #[]) [wdV a,wdV b,.int .u8 sg] h fun r h'=>Ext h h'∧r=if m<H8 then .tuple #[wdV m,KI 0] else .tuple #[wdV 0,KI 6]:=by
 have kt:=keyT_int (P:=prog) u5
 have aw:a<W8:=by have:=H8_two;omega
 have bw:b<W8:=by have:=H8_two;omega
 have ia:wdI a=(a:Int):=by unfold wdI;rw[if_pos ha]
 have ib:wdI b=(b:Int):=by unfold wdI;rw[if_pos hb]
 obtain⟨H0,hH0,n0,E0,k0,k1,k2⟩:=boxes3 h (wdC a) (wdC b) [ZW,ZW,ZW,ZW,ZW,ZW,ZW,ZW]
 refine enter (nt:=27) (rs:=[.cell 6 30,.tmp 7]) Proofs.Tryz.func104 rfl rfl rfl (by simp) ?_
 simp -dsimp (disch:=try exact dx) only[wpS,zE,zA,zc30,cells8]
 rw[←hH0]
 clear hH0
 have X0:=Ext.refl H0
 have La:load prog H0 30 (ptr (2*h.n) 0)=some (wdV a):=by
  have r:=row_of k0
  simp -dsimp (disch:=try exact dx) only[wpS,zL,ld30,r,wdC_len,wd_take0]
  rfl
 have Lb:load prog H0 30 (ptr (2*(h.n+1)) 0)=some (wdV b):=by
  have r:=row_of k1
  simp -dsimp (disch:=try exact dx) only[wpS,zL,ld30,r,wdC_len,wd_take0]
  rfl
 refine drawn [(2,[6,7]),(3,[0]),(5,[0,4])] (by kernel_rfl) (by kernel_rfl) rfl ?_
 simp -dsimp (disch:=try exact dx) only[wpS]
 refine call operations_ok ?_
 rintro _ h1 ⟨X1,gm,mn,rfl⟩
 have m1:=X1.n
 have lk : ∀H,Ext h1 H→lookup prog H 250 (.map (some (2*H0.n))) (.int .u8 sg) false=some f:=fun H X=>by
  rw[lookup_eq1 mapTop kt (X.kept mn gm) ⟨_,rfl⟩ opsL_keys,hasc];rfl
 simp -dsimp (disch:=try exact dx) only[wpS,zE,zL,ld30,lk h1 (Ext.refl _),row_of (X1.kept (by omega) k0),wdC_len,wd_take0]
 refine call (read_ok a aw) ?_
 rintro _ h2 ⟨X2,rfl⟩
 have m2:=X2.n
 have X12:=X1.trans X2
 rw[ia,decide_eq_false (by omega),Int.natAbs_natCast]
 simp -dsimp (disch:=try exact dx) only[wpS,zE,zL,ld30,row_of (X12.kept (by omega) k1),wdC_len,wd_take0]
 refine call (read_ok b bw) ?_
 rintro _ h3 ⟨X3,rfl⟩
 have m3:=X3.n
 have X13:=X12.trans X3
 rw[ib,decide_eq_false (by omega),Int.natAbs_natCast]
 simp -dsimp (disch:=try exact dx) only[wpS,zE]
 refine call (hf h3) ?_
 rintro _ h4 ⟨X4,rfl⟩
 have m4:=X4.n
 have X14:=X13.trans X4
 have q2:=X14.kept (by omega) k2
 have Z1:=Ext.refl h1
 have X23:=X2.trans X3
 simp -dsimp (disch:=try exact dx) only[wpS,wpT,zE,zL,zA,zc236,st236,num_cells,wdC_len,wdC_all,wd_spl]
 refine⟨wpSteady_c2 (wpSteady_t2 (wpSteady_one rfl rfl rfl rfl (steady_lk rfl rfl (lk h1 Z1) (lk h2 X2))) (wpSteady_one rfl rfl rfl rfl (steady_lk rfl rfl (lk h1 Z1) (lk h3 X23)))) (wpSteady_c2 (wpSteady_one rfl rfl rfl rfl (steady_ext (H0:=H0) rfl (by omega) X1 X0 La)) (wpSteady_t2 (wpSteady_one rfl rfl rfl rfl (steady_ext (H0:=H0) rfl (by omega) X12 X0 Lb)) (wpSteady_one rfl rfl rfl rfl (steady_ext (H0:=H0) rfl (by omega) X12 X1 Lb)))),?_⟩
 simp -dsimp (disch:=try exact dx) only[wpS,wpT,zE,zL,zA,ld236,num_take9,wdC_len,show(.agg (Value.bool false :: wdC m).toArray:Value)=numV false m from rfl]
 refine call (numTold_ok false m hm) ?_
 rintro _ h5 ⟨X5,rfl⟩
 have e4:Ext h4 ((h4.new (.cells [.bool false,ZW,ZW,ZW,ZW,ZW,ZW,ZW,ZW] 0 none)).put h4.n (.cells (.bool false :: wdC m) 0 none)):=((Ext.refl _).new _).put (Nat.le_refl _) _
 have q4:((h4.new (.cells [.bool false,ZW,ZW,ZW,ZW,ZW,ZW,ZW,ZW] 0 none)).put h4.n (.cells (.bool false :: wdC m) 0 none)).ext.get (h.n+1+1)=some (.cells [ZW,ZW,ZW,ZW,ZW,ZW,ZW,ZW] 0 none):=e4.kept (by omega) q2
 have q5:=X5.kept (by simp only[new_n,put_n];omega) q4
 have m5:=X5.n
 simp only[new_n,put_n] at m5
 have EE:=((E0.trans X14).trans e4).trans X5
 by_cases cm:m<H8
 ·rw[if_neg (show ¬(H8<m∨(m=H8∧false=false)) from fun hh=>by rcases hh with h|⟨h,_⟩<;>omega),if_neg (show ¬(false=true) by decide),if_pos cm]
  simp -dsimp (disch:=try exact dx) only[wpS,wpT,zE,zL,zA,ld30,st30,q5,cells8,wdC_len,wdC_all,wd_spl,wd_take0]
  exact⟨EE.put (by omega) _,rfl⟩
 ·rw[if_pos (show(H8<m∨(m=H8∧false=false)) from by by_cases hh:H8<m;exact .inl hh;exact .inr ⟨by omega,rfl⟩),if_neg cm]
  simp -dsimp (disch:=try exact dx) only[wpS,wpT,zE,zL,zA,ld30,st30,q5,cells8,wdC_len,wdC_all,wd_spl,wd_take0]
  exact⟨EE.put (by omega) _,rfl⟩
end Go.Id

namespace Go.Id
end Go.Id

namespace Go.Id
open Go
theorem binop_xor_u64 (P:Program) (t:TypeId) (ox oy:Operand) (a b:Nat) (ha:a<18446744073709551616) (hb:b<18446744073709551616):binop P .xor t ox oy (.int .u64 a) (.int .u64 b)=some (.int .u64 ((a ^^^ b:Nat):Int)):=by
 have e:(BitVec.ofInt 64 (a:Int) ^^^ BitVec.ofInt 64 (b:Int)).toNat=a ^^^ b:=by simp[Nat.mod_eq_of_lt ha,Nat.mod_eq_of_lt hb]
 rw[binop_xor_raw,show(BitVec.ofInt IntKind.u64.bits (a:Int) ^^^ BitVec.ofInt IntKind.u64.bits (b:Int)).toNat=a ^^^ b from e,wrap_nat_u64 (Nat.xor_lt_two_pow (n:=64) ha hb)]
end Go.Id

namespace Go.Id
open Go
end Go.Id

namespace Go.Id
open Go
end Go.Id

namespace Go.Id
open Go
theorem xor_top {x:Nat} (hx:x<9223372036854775808):x ^^^ 9223372036854775808=x+9223372036854775808:=by
 have h1:x<2 ^ 63:=hx
 have h2:=Nat.two_pow_add_eq_or_of_lt h1 1
 rw[Nat.mul_one] at h2
 rw[show(9223372036854775808:Nat)=2 ^ 63 from rfl,Nat.add_comm,h2]
 apply Nat.eq_of_testBit_eq
 intro i
 rw[Nat.testBit_xor,Nat.testBit_or,Nat.testBit_two_pow]
 by_cases hi:63=i
 ·subst hi
  rw[Nat.testBit_lt_two_pow h1]
  decide
 ·simp[hi]
theorem wrd_top {a:Nat} (ha:a<H8):wrd a 7<9223372036854775808:=(wrd7 (by have:=H8_two;omega)).2 ha
theorem wdC_top {a:Nat} (ha:a<H8):IH.splice (wdC a) 7 [K64 (wrd a 7+9223372036854775808)]=wdC (a+H8):=by
 have ht:=wrd_top ha
 have hw:a<18446744073709551616 ^ (7+1):=by rw[←W8_eq];have:=H8_two;omega
 have e:H8=9223372036854775808*18446744073709551616 ^ 7:=by unfold H8;rfl
 apply List.ext_getElem?
 intro j
 have hl:(IH.splice (wdC a) 7 [K64 (wrd a 7+9223372036854775808)]).length=8:=by simp[IH.splice,wdC_len]
 by_cases h8:j<8
 ·rw[wdC_get _ _ h8,e]
  by_cases h7:j=7
  ·subst h7
   rw[wrd_add_at hw (by omega)]
   simp[IH.splice,wdC_len]
  ·rw[wrd_add_low (by omega)]
   have hj:j<7:=by omega
   simp only[IH.splice]
   rw[List.getElem?_append_left (by rw[List.length_take,wdC_len];omega),List.getElem?_take,if_pos hj,wdC_get _ _ h8]
 ·rw[List.getElem?_eq_none (by omega),List.getElem?_eq_none (by rw[wdC_len];omega)]
end Go.Id

namespace Go.Id
end Go.Id

namespace Go.Id
open Go
end Go.Id

namespace Go.Id
open Go
theorem H8_pow:H8=2 ^ 511:=by unfold H8;decide +kernel
end Go.Id

namespace Go.Id
open Go
end Go.Id

namespace Go.Id
open Go
end Go.Id

namespace Go.Id
open Go
theorem wdI_nat {n:Nat} (hn:n<H8):wdI n=(n:Int):=by unfold wdI;rw[if_pos hn]
end Go.Id

namespace Go.Id
open Go
def ShLs (h:IH) (v:Value) (ll:List (List (Nat×Nat))):Prop:=∃vs:List Value,SlOf h 1 v ll.length vs∧ll.length<1152921504606846976 ∧ ∀(i:Nat) (x:List (Nat×Nat)),ll[i]?=some x → ∃w,vs[i]?=some w∧ShSl h w x
theorem ShLs.keep {h h':IH} {v:Value} {ll:List (List (Nat×Nat))} (s:ShLs h v ll) (e:Keep h h'):ShLs h' v ll:=by
 obtain⟨vs,a,b,c⟩:=s
 refine⟨vs,a.keep e,b,fun i x hx=>?_⟩
 obtain⟨w,h1,h2⟩:=c i x hx
 exact⟨w,h1,h2.keep e⟩
theorem ShLs.at {h h':IH} {v:Value} {ll:List (List (Nat×Nat))} (s:ShLs h v ll) (e:Keep h h') {i:Nat} {x:List (Nat×Nat)} (hx:ll[i]?=some x) :
  ∃w,load Proofs.Tryz.prog h' 60 (elemAddr v i)=some w∧ShSl h' w x ∧ ∀k:IntKind,indexAddr Proofs.Tryz.prog 38 v (.int k (i:Int))=some (elemAddr v i):=by
 obtain⟨vs,a,b,c⟩:=s
 obtain⟨w,h1,h2⟩:=c i x hx
 have hi:=(List.getElem?_eq_some_iff.1 hx).1
 refine⟨w,?_,h2.keep e,fun k=>by rw[a.idx es38 hi,Nat.mul_one]⟩
 rw[a.ld e (by rw[a.2.1];omega) ag60]
 exact h1
theorem ShLs.co {h:IH} {v:Value} {ll:List (List (Nat×Nat))} (s:ShLs h v ll):v.cells = #[v]∧cellOK v=true ∧ ∀h',lenB Proofs.Tryz.prog h' 38 v=some (.int .i64 ll.length):=by
 obtain⟨vs,a,_⟩:=s
 exact⟨a.cells,a.cok,fun h'=>a.len sl38 h'⟩
theorem ShSl.co {h:IH} {v:Value} {l:List (Nat×Nat)} (s:ShSl h v l):v.cells = #[v]∧cellOK v=true:=⟨s.1.cells,s.1.cok⟩
end Go.Id

namespace Go.Id
open Go
open Go.Proofs.Tryz (prog)
open Nat renaming reduceAdd→zA,reduceEqDiff→zE,reduceLeDiff→zL
set_option maxHeartbeats 16000000
def badS (p:Nat×Nat):Prop:=¬okS p.1 p.2∨wdI p.1<0
def rowOk (l:List (Nat×Nat)):Prop:=(∀p∈l,¬badS p)∧qsum (l.map rOf)=1
def kerOk (ll:List (List (Nat×Nat))):Prop:=1≤ll.length∧ll.length≤60 ∧ ∀l∈ll,l.length=ll.length∧rowOk l
theorem notBad {p:Nat×Nat} (h : ¬badS p):okS p.1 p.2∧0≤wdI p.1:=by
 unfold badS at h
 refine⟨Classical.byContradiction fun hn=>h (.inl hn),?_⟩
 have : ¬wdI p.1<0:=fun hn=>h (.inr hn)
 omega
open Classical in
theorem even1_ok {h:IH} {p:Nat×Nat} (h1:p.1<W8) (h2:p.2<W8) :
  WV prog (.func (.func 182) #[] #[]) [shV p.1 p.2] h fun r h'=>Ext h h'∧r=.bool (decide (badS p)):=by
 have E1:Ext h (h.new (.cells (shC p.1 p.2) 0 none)):=(Ext.refl h).new _
 have g1:(h.new (.cells (shC p.1 p.2) 0 none)).ext.get h.n=some (.cells (shC p.1 p.2) 0 none):=by simp (disch:=try exact dx) only[get_new_same]
 refine enter (nt:=13) (rs:=[.tmp 2]) Proofs.Tryz.func182 rfl rfl rfl (by simp) ?_
 simp -dsimp (disch:=try exact dx) only[wpS,zE,zL,ld32,shV_cells,shC_len,sh_take]
 refine call (shcheck_ok p.1 p.2 h1 h2) ?_
 rintro _ v1 ⟨X1,rfl⟩
 have m1:=X1.n
 simp only[new_n] at m1
 by_cases ok:okS p.1 p.2
 case neg =>
  rw[if_neg ok,decide_eq_true (show badS p from .inl ok)]
  simp -dsimp (disch:=try exact dx) only[wpS,wpT,zE]
  exact E1.trans X1
 rw[if_pos ok]
 simp -dsimp (disch:=try exact dx) only[wpS,wpT,zE,zL,ld32,row_of (X1.kept (by simp) g1),shC_len,sh_take]
 refine call (shread_ok p.1 p.2 h1 h2) ?_
 rintro _ v2 ⟨X2,a,s,b,t,rfl,q1,q2⟩
 simp -dsimp (disch:=try exact dx) only[wpS,wpT,zE,fp139_0]
 refine call (pside_ok q1) ?_
 rintro _ v3 ⟨X3,rfl⟩
 have XX:=((E1.trans X1).trans X2).trans X3
 by_cases c:wdI p.1<0
 ·rw[if_pos c,decide_eq_true (show badS p from .inr c)]
  simp -dsimp (disch:=try exact dx) only[wpS,wpT,zE]
  exact XX
 ·rw[if_neg c,decide_eq_false (show ¬badS p from fun h=>h.elim (fun h=>h ok) c)]
  obtain⟨z,hz,hz0⟩ : ∃z:Int,(if wdI p.1=0 then (0:Int) else 1)=z∧0≤z:=⟨_,rfl,by split<;>omega⟩
  rw[hz]
  simp -dsimp (disch:=try exact dx) only[wpS,wpT,zE]
  exact XX
open Classical in
theorem shcontains_ok {h:IH} {v F:Value} {l:List (Nat×Nat)} (hv:ShSl h v l) (B:Nat×Nat→Prop) (hF : ∀h1 p,Ext h h1→p∈l→WV prog F [shV p.1 p.2] h1 fun r h2=>Ext h1 h2∧r=.bool (decide (B p))) :
  WV prog (.func (.func 181) #[] #[]) [v,F] h fun r h'=>Ext h h'∧r=.bool (decide (∃p∈l,B p)):=by
 have hlb:=hv.2.1
 have hidx:WV prog (.func (.func 244) #[] #[]) [v,F] h fun r h'=>Ext h h' ∧ ∃c:Int,r=KI c∧(0≤c ↔ ∃p∈l,B p):=by
  refine enter (nt:=19) (rs:=[.tmp 4]) Proofs.Tryz.func244 rfl rfl rfl (by simp) ?_
  simp -dsimp (disch:=try exact dx) only[wpS,zE,zA,hv.1.len sl60]
  refine loop (fun m fr h1 => ∃i:Nat,i+m=l.length∧Ext h h1∧(∀(j:Nat) p,j<i→l[j]?=some p → ¬B p)∧fget fr 0=some v∧fget fr 1=some F∧fget fr 7=some (KN l.length)∧fget fr 8=some (KN i)) l.length
   ⟨0,by omega,Ext.refl _,fun j p hj=>by omega,by simp,by simp,by simp,by simp⟩ ?_
  rintro m fr h1 ⟨i,him,hE,hno,f0,f1,f7,f8⟩
  simp -dsimp (disch:=try exact dx) only[wpS,f7,f8]
  refine bq_intro ?_ ?_<;>intro hc<;>simp only[decide_eq_true_eq,decide_eq_false_iff_not] at hc
  ·have hi:i<l.length:=by omega
   obtain⟨p,hp⟩ : ∃p,l[i]?=some p:=⟨_,List.getElem?_eq_getElem hi⟩
   have hpm:=List.mem_of_getElem? hp
   simp -dsimp (disch:=try exact dx) only[wpS,wpT,zE,f0,f1,f8,hv.1.idx es60 hi,hv.ld hE.keep hp]
   refine call (hF h1 p hE hpm) ?_
   rintro _ h2 ⟨hE2,rfl⟩
   have E2:=hE.trans hE2
   by_cases hk:B p
   ·rw[decide_eq_true hk]
    simp -dsimp (disch:=try exact dx) only[wpS,zE]
    exact⟨E2,(i:Int),rfl,fun _=>⟨p,hpm,hk⟩,fun _=>by omega⟩
   ·rw[decide_eq_false hk]
    simp -dsimp (disch:=try exact dx) only[wpS,zE,f8]
    refine⟨m - 1,by omega,i+1,by omega,E2,?_,by simp[f0],by simp[f1],by simp[f7],by simp⟩
    intro j q hj hq
    by_cases hji:j=i
    ·subst hji;rw[hp] at hq;cases hq;exact hk
    ·exact hno j q (by omega) hq
  ·simp -dsimp (disch:=try exact dx) only[wpS,wpT]
   refine⟨hE,-1,rfl,fun h=>by omega,fun⟨p,hp,hb⟩=>?_⟩
   obtain⟨j,hj⟩:=List.getElem?_of_mem hp
   have:=(List.getElem?_eq_some_iff.1 hj).1
   exact absurd hb (hno j p (by omega) hj)
 refine enter (nt:=9) (rs:=[.tmp 4]) Proofs.Tryz.func181 rfl rfl rfl (by simp) ?_
 simp -dsimp (disch:=try exact dx) only[wpS,zE,zA]
 refine call hidx ?_
 rintro _ h1 ⟨hE,c,rfl,hc⟩
 simp -dsimp (disch:=try exact dx) only[wpS,zE]
 exact⟨hE,by rw[decide_eq_decide.2 hc]⟩
theorem ktotal_ok {h:IH} {v:Value} {l:List (Nat×Nat)} (hv:ShSl h v l) (ho : ∀p∈l,okS p.1 p.2) (hl:l.length≤1000) :
  WV prog (.func (.func 183) #[] #[]) [v,(.func (.func 92) #[] #[])] h fun r h'=>Ext h h'∧PRat h' r (qsum (l.map rOf))∧QB (l.length*(512+1)) (qsum (l.map rOf)):=by
 have hq0 : ∀q∈l.map rOf,QB 512 q:=by
  intro q hq
  obtain⟨p,hp,rfl⟩:=List.mem_map.1 hq
  exact qb512 (hv.2.2 p hp).1 (hv.2.2 p hp).2 (ho p hp)
 have hQ : ∀i,i≤l.length→QB (i*(512+1)) (qsum ((l.take i).map rOf)):=by
  intro i hi
  have:=QB.qsum (k:=512) hq0 i (by simpa using hi)
  rwa [←List.map_take] at this
 refine enter (nt:=22) (rs:=[.cell 4 139]) Proofs.Tryz.func183 rfl rfl rfl (by simp) ?_
 simp -dsimp (disch:=try exact dx) only[wpS,zA,zc139]
 have E1:Ext h (h.new (.cells ZR 0 none)):=(Ext.refl h).new _
 have g1:(h.new (.cells ZR 0 none)).ext.get h.n=some (.cells ZR 0 none):=by simp (disch:=try exact dx) only[get_new_same]
 refine call (rfrom_ok 0 ⟨by omega,by omega⟩) ?_
 rintro z h1 ⟨X1,p1⟩
 have m1:=X1.n
 simp only[new_n] at m1
 obtain⟨a3,s3,b3,t3,rfl,_,_,d1,o1,d2,o2,o3,o4⟩:=p1.parts
 have kg:=X1.kept (by simp) g1
 simp -dsimp (disch:=try exact dx) only[wpS,wpT,zE,zL,zA,zc139,st139,o1,o2,o3,o4,hv.1.len sl60]
 have Ex2:Ext h1 ((h1.new (.cells ZR 0 none)).put h1.n (.cells [a3,s3,b3,t3] 0 none)):=((Ext.refl h1).new _).put (Nat.le_refl _) _
 refine loop (fun m fr hh => ∃(i:Nat) (a s b t:Value),i+m=l.length∧Ext h hh∧h1.n<hh.n∧hh.ext.get h.n=some (.cells ZR 0 none)∧hh.ext.get h1.n=some (.cells [a,s,b,t] 0 none)∧PRat hh (.agg #[a,s,b,t]) (qsum ((l.take i).map rOf)) ∧
   fget fr 1=some (.func (.func 92) #[] #[])∧fget fr 4=some (ptr (2*h.n) 0)∧fget fr 5=some (ptr (2*h1.n) 0)∧fget fr 9=some v∧fget fr 10=some (KN l.length)∧fget fr 11=some (KN i)) l.length
  ⟨0,a3,s3,b3,t3,by omega,(E1.trans X1).trans Ex2,by simp,by simp (disch:=try exact dx) only[get_new_old,get_put_old];exact kg,by simp (disch:=try exact dx) only[get_put_same],p1.keep Ex2.keep,by simp,by simp,by simp,by simp,by simp,by simp⟩ ?_
 clear p1 kg Ex2
 rintro m fr hh ⟨i,a,s,b,t,him,hE,hn,hg,hg5,hp,f1,f4,f5,f9,f10,f11⟩
 simp -dsimp (disch:=try exact dx) only[wpS,zA,f10,f11]
 refine bq_intro ?_ ?_<;>intro hc<;>simp only[decide_eq_true_eq,decide_eq_false_iff_not] at hc
 ·have hi:i<l.length:=by omega
  obtain⟨q,hq⟩ : ∃q,l[i]?=some q:=⟨_,List.getElem?_eq_getElem hi⟩
  have hqm:=List.mem_of_getElem? hq
  obtain⟨w1,w2⟩:=hv.2.2 q hqm
  simp -dsimp (disch:=try exact dx) only[wpS,wpT,zE,zL,zA,zc32,st32,f9,f11,hv.1.idx es60 hi,hv.ld hE.keep hq,shV_cells,shC_len,shC_all,sh_sp3]
  obtain⟨H0,hH0⟩ : ∃H0,H0=(hh.new (.cells Z16 0 none)).put hh.n (.cells (shC q.1 q.2) 0 none):=⟨_,rfl⟩
  have e0:Ext hh H0:=by rw[hH0];exact((Ext.refl hh).new _).put (Nat.le_refl _) _
  have n0:H0.n=hh.n+1:=by rw[hH0];rfl
  have gx:H0.ext.get hh.n=some (.cells (shC q.1 q.2) 0 none):=by rw[hH0];simp (disch:=try exact dx) only[get_put_same]
  have hnn:=hE.n
  have gs:=e0.kept hn hg5
  have gz:=e0.kept (by omega) hg
  rw[←hH0]
  clear hH0
  have X0:=Ext.refl H0
  obtain⟨_,_,L1⟩:=pl4 gs
  refine drawn [(0,[4])] (by kernel_rfl) (by kernel_rfl) rfl ?_
  simp -dsimp (disch:=try exact dx) only[wpS,wpT,zE,zL,zA,ld32,ld139,f1,f5,row_of gs,row_of gx,tk4',shC_len,sh_take]
  refine call (shread_ok q.1 q.2 w1 w2) ?_
  rintro r h2 ⟨X2,p2⟩
  have m2:=X2.n
  have p2:=p2.rat (ho q hqm)
  simp -dsimp (disch:=try exact dx) only[wpS,zE]
  have hkb:i*(512+1)+512+1<16000000:=by omega
  refine call (rplus_ok (hp.keep (e0.trans X2).keep) p2 (hQ i (by omega)) (qb512 w1 w2 (ho q hqm)) hkb) ?_
  rintro r3 h3 ⟨hE3,p3⟩
  have m3:=hE3.n
  have X3:=X2.trans hE3
  have eT:qsum ((l.take i).map rOf)+rOf (q.1,q.2)=qsum ((l.take (i+1)).map rOf):=by rw[take_snoc hq,List.map_append,List.map_cons,List.map_nil,qsum_snoc]
  rw[eT] at p3
  obtain⟨a4,s4,b4,t4,rfl,_,_,_,o1,_,o2,o3,o4⟩:=p3.parts
  have k5:=X3.kept (by omega) gs
  have kz:=X3.kept (by omega) gz
  simp -dsimp (disch:=try exact dx) only[wpS,wpT,zE,zL,zA,st139,f5,k5,o1,o2,o3,o4]
  refine⟨wpSteady_one rfl rfl rfl rfl (steady_ext (H0:=H0) (b:=2*h1.n) (o:=0) f5 (by omega) (by assumption) (by assumption) L1),?_⟩
  simp -dsimp (disch:=try exact dx) only[wpS,wpT,zE,zA,f11]
  refine⟨m - 1,by omega,i+1,a4,s4,b4,t4,by omega,((hE.trans e0).trans X3).put (by omega) _,by simp only[put_n];omega,by simp (disch:=try exact dx) only[get_put_old];exact kz,get_put_same _ _ rfl,p3.keep ((Keep.refl _).put k5 _),by simp[f1],by simp[f4],by simp[f5],by simp[f9],by simp[f10],by simp⟩
 ·obtain rfl:i=l.length:=by omega
  have hQl:=hQ l.length (Nat.le_refl _)
  rw[List.take_length] at hp hQl
  obtain⟨_,_,_,_,hhe,_,_,_,o1,_,o2,o3,o4⟩:=hp.parts
  cases hhe
  simp -dsimp (disch:=try exact dx) only[wpS,wpT,zE,zL,zA,st139,ld139,f4,f5,row_of hg5,hg,tk4',o1,o2,o3,o4]
  exact⟨hE.put (Nat.le_refl _) _,hp.keep ((Keep.refl _).put hg _),hQl⟩
open Classical in
theorem even_ok {h:IH} {v:Value} {l:List (Nat×Nat)} (hv:ShSl h v l) (hl:l.length≤1000) :
  WV prog (.func (.func 103) #[] #[]) [v] h fun r h'=>Ext h h'∧r=.bool (decide (rowOk l)):=by
 refine enter (nt:=10) (rs:=[.tmp 2]) Proofs.Tryz.func103 rfl rfl rfl (by simp) ?_
 simp -dsimp (disch:=try exact dx) only[wpS,zE]
 refine call (shcontains_ok hv badS (fun h1 p _ hp=>even1_ok (hv.2.2 p hp).1 (hv.2.2 p hp).2)) ?_
 rintro _ h1 ⟨X1,rfl⟩
 by_cases c : ∃p∈l,badS p
 ·rw[decide_eq_true c,decide_eq_false (show ¬rowOk l from fun⟨h1,_⟩=>by obtain⟨p,hp,hb⟩:=c;exact h1 p hp hb)]
  simp -dsimp (disch:=try exact dx) only[wpS,wpT,zE]
  exact X1
 rw[decide_eq_false c]
 have hno : ∀p∈l,¬badS p:=fun p hp hb=>c ⟨p,hp,hb⟩
 simp -dsimp (disch:=try exact dx) only[wpS,zE]
 refine call (ktotal_ok (hv.keep X1.keep) (fun p hp=>(notBad (hno p hp)).1) hl) ?_
 rintro r2 h2 ⟨X2,p2,q2⟩
 simp -dsimp (disch:=try exact dx) only[wpS]
 refine call (rfrom_ok 1 ⟨by omega,by omega⟩) ?_
 rintro r3 h3 ⟨X3,p3⟩
 simp -dsimp (disch:=try exact dx) only[wpS,zE]
 refine call (rcmp_ok (p2.keep X3.keep) p3 q2 (QB.int (k:=64) (by decide)) (by omega)) ?_
 rintro _ h4 ⟨X4,rfl⟩
 have XX:=((X1.trans X2).trans X3).trans X4
 have e1:((1:Int):Rat)=1:=rfl
 rw[e1]
 by_cases c1:qsum (l.map rOf)=1
 ·rw[decide_eq_true (show rowOk l from⟨hno,c1⟩),c1,if_neg (by exact Rat.lt_irrefl),if_pos rfl]
  simp -dsimp (disch:=try exact dx) only[wpS,wpT,zE]
  exact XX
 ·rw[decide_eq_false (show ¬rowOk l from fun h=>c1 h.2)]
  obtain⟨z,hz,hz0⟩ : ∃z:Int,(if qsum (l.map rOf)<1 then (-1:Int) else if qsum (l.map rOf)=1 then 0 else 1)=z∧z≠0:=⟨_,rfl,by split<;>simp[]⟩
  rw[hz]
  have d:(z == 0)=false:=by simpa using hz0
  simp -dsimp (disch:=try exact dx) only[wpS,wpT,zE,d]
  exact XX
open Classical in
noncomputable def kerE (ll:List (List (Nat×Nat))):Int:=if kerOk ll then 0 else 330
open Classical in
theorem kcheck_ok {h:IH} {v:Value} {ll:List (List (Nat×Nat))} (hv:ShLs h v ll) :
  WV prog (.func (.func 31) #[] #[]) [v] h fun r h'=>Ext h h'∧r=KI (kerE ll):=by
 obtain⟨_,_,hlen⟩:=hv.co
 have hlb:=hv.choose_spec.2.1
 unfold kerE
 refine enter (nt:=30) (rs:=[.tmp 2]) Proofs.Tryz.func31 rfl rfl rfl (by simp) ?_
 by_cases a1:ll.length<1
 ·rw[if_neg (fun hk=>by have:=hk.1;omega)]
  simp -dsimp (disch:=try exact dx) only[wpS,wpT,zE,hlen]
  exact Ext.refl _
 by_cases a2:60<ll.length
 ·rw[if_neg (fun hk=>by have:=hk.2.1;omega)]
  simp -dsimp (disch:=try exact dx) only[wpS,wpT,zE,hlen]
  exact Ext.refl _
 simp -dsimp (disch:=try exact dx) only[wpS,wpT,zE,hlen]
 refine loop (fun m fr h1 => ∃i:Nat,i+m=ll.length∧Ext h h1∧(∀(j:Nat) x,j<i→ll[j]?=some x→x.length=ll.length∧rowOk x)∧fget fr 0=some v∧fget fr 13=some v∧fget fr 14=some (KN ll.length)∧fget fr 15=some (KN i)) ll.length
  ⟨0,by omega,Ext.refl _,fun j p hj=>by omega,by simp,by simp,by simp,by simp⟩ ?_
 rintro m fr h1 ⟨i,him,hE,hok,f0,f13,f14,f15⟩
 simp -dsimp (disch:=try exact dx) only[wpS,f14,f15]
 refine bq_intro ?_ ?_<;>intro hc<;>simp only[decide_eq_true_eq,decide_eq_false_iff_not] at hc
 ·have hi:i<ll.length:=by omega
  obtain⟨x,hx⟩ : ∃x,ll[i]?=some x:=⟨_,List.getElem?_eq_getElem hi⟩
  have hxm:=List.mem_of_getElem? hx
  obtain⟨w,l1,l2,l3⟩:=hv.at hE.keep hx
  have lx:=l2.2.1
  by_cases cl:x.length=ll.length
  case neg =>
   rw[if_neg (fun hk=>cl (hk.2.2 x hxm).1)]
   have d:(((x.length:Nat):Int) != ((ll.length:Nat):Int))=true:=by simpa using fun h=>cl (by omega)
   simp -dsimp (disch:=try exact dx) only[wpS,wpT,zE,f0,f13,f15,l1,l3,l2.1.len sl60,hlen,d]
   exact hE
  have d:(((x.length:Nat):Int) != ((ll.length:Nat):Int))=false:=by simp[cl]
  simp -dsimp (disch:=try exact dx) only[wpS,wpT,zE,f0,f13,f15,l1,l3,l2.1.len sl60,hlen,d]
  refine call (even_ok l2 (by omega)) ?_
  rintro _ h2 ⟨X2,rfl⟩
  have E2:=hE.trans X2
  by_cases cr:rowOk x
  ·rw[decide_eq_true cr]
   simp -dsimp (disch:=try exact dx) only[wpS,wpT,zE,f15]
   refine⟨m - 1,by omega,i+1,by omega,E2,?_,by simp[f0],by simp[f13],by simp[f14],by simp⟩
   intro j q hj hq
   by_cases hji:j=i
   ·subst hji;rw[hx] at hq;cases hq;exact⟨cl,cr⟩
   ·exact hok j q (by omega) hq
  ·rw[decide_eq_false cr,if_neg (fun hk=>cr (hk.2.2 x hxm).2)]
   simp -dsimp (disch:=try exact dx) only[wpS,wpT,zE]
   exact E2
 ·rw[if_pos (show kerOk ll from⟨by omega,by omega,fun x hx=>by
   obtain⟨j,hj⟩:=List.getElem?_of_mem hx
   exact hok j x (by have:=(List.getElem?_eq_some_iff.1 hj).1;omega) hj⟩)]
  simp -dsimp (disch:=try exact dx) only[wpS,wpT]
  exact hE
end Go.Id

namespace Go.Id
open Go
structure KeepZ (z:Nat) (h h':IH):Prop where
 n:h.n≤h'.n
 base:h'.base=h.base
 get : ∀k c f,k<h.n→h.ext.get k=some (.cells c z f) → ∃f',h'.ext.get k=some (.cells c z f')
theorem KeepZ.refl (z:Nat) (h:IH):KeepZ z h h:=⟨Nat.le_refl _,rfl,fun _ _ f _ hg=>⟨f,hg⟩⟩
theorem KeepZ.put {z:Nat} {a b:IH} (g:KeepZ z a b) {k e:Nat} {cs:List Value} {f:Option Nat} (hk:b.ext.get k=some (.cells cs e f)) (he:e≠z) (o:IObj):KeepZ z a (b.put k o):=⟨g.n,g.base,fun j c f1 hj hg=>by
 obtain⟨f2,h2⟩:=g.get j c f1 hj hg
 refine⟨f2,?_⟩
 rw[get_put,if_neg]
 ·exact h2
 ·rintro rfl;rw[hk] at h2;cases h2;exact he rfl⟩
theorem SlOf.keepZ {h h':IH} {sz:Nat} {v:Value} {n:Nat} {cs:List Value} (s:SlOf h sz v n cs) (e:KeepZ sz h h'):SlOf h' sz v n cs:=by
 obtain⟨hz,hl,s|⟨b,o,k,rfl,s⟩⟩:=s
 ·exact⟨hz,hl,.inl s⟩
 ·refine⟨hz,hl,.inr ⟨b,o,k,rfl,s.imp id fun⟨a1,a2,row,a3,h1,h2,h3⟩=>?_⟩⟩
  rcases a3 with a3|⟨a4,a5,f,a6⟩
  ·refine⟨a1,a2,row,.inl a3,?_,h2,h3⟩
   rw[←h1];simp[IH.row,a3.1,e.base]
  ·obtain⟨f',h4⟩:=e.get (b / 2) row f (by omega) a6
   refine⟨a1,a2,row,.inr ⟨a4,by have:=e.n;omega,f',h4⟩,?_,h2,h3⟩
   simp only[IH.row,cond_eq_ite,beq_iff_eq]
   rw[if_neg (by omega)]
   simp only[h4]
structure RowB (h:IH) (z k:Nat) (v:Value) (n:Nat) (cs:List Value):Prop where
 form:v=.slice (some ⟨2*k,0,none⟩) n (2*n+1)
 len:cs.length=n*z
 size:0<z
 some_:0<n
 old:k<h.n
 got:h.ext.get k=some (.cells cs z none)
theorem RowB.sl {h:IH} {z k:Nat} {v:Value} {n:Nat} {cs:List Value} (r:RowB h z k v n cs):SlOf h z v n cs:=by
 obtain⟨rfl,l,hz,hn,hk,hg⟩:=r
 exact sl_block hg hk hz l (by omega) (by omega)
theorem RowB.ext {h h':IH} {z k:Nat} {v:Value} {n:Nat} {cs:List Value} (r:RowB h z k v n cs) (e:Ext h h'):RowB h' z k v n cs :=
 ⟨r.form,r.len,r.size,r.some_,Nat.lt_of_lt_of_le r.old e.n,(e.get k r.old).trans r.got⟩
theorem RowB.put {h:IH} {z k:Nat} {v:Value} {n:Nat} {cs:List Value} (r:RowB h z k v n cs) {j:Nat} {c:List Value} {f:Option Nat} (hj:h.ext.get j=some (.cells c 0 f)) (o:IObj):RowB (h.put j o) z k v n cs :=
 ⟨r.form,r.len,r.size,r.some_,r.old,by
  rw[get_put,if_neg]
  ·exact r.got
  ·rintro rfl;have h1:=r.got;have h2:=r.size;rw[hj] at h1;cases h1;omega⟩
theorem spl_len {cs xs:List Value} {i:Nat} (h:i+xs.length≤cs.length):(IH.splice cs i xs).length=cs.length:=by
 simp only[IH.splice,List.length_append,List.length_take,List.length_drop];omega
theorem RowB.set {h:IH} {z k:Nat} {v:Value} {n:Nat} {cs:List Value} (r:RowB h z k v n cs) {P:Program} {t:TypeId} (hT:sizeT P t=some z) {i:Nat} (hi:i<n) {x:Value} {xs:List Value} (hx:x.cells.toList=xs) (hxl:xs.length=z) (hc:xs.all cellOK=true) :
  store P h t (elemAddr v (i*z)) x=some (h.put k (.cells (IH.splice cs (i*z) xs) z none))∧RowB (h.put k (.cells (IH.splice cs (i*z) xs) z none)) z k v n (IH.splice cs (i*z) xs):=by
 obtain⟨rfl,hl,hz,hn,hk,hg⟩:=r
 have hle:i*z+z≤cs.length:=by
  rw[hl,←Nat.succ_mul];exact Nat.mul_le_mul_right _ hi
 have k2:2*k / 2=k:=by omega
 have k1:(2*k % 2 == 1)=false:=by simp
 have hsx:x.cells.size=z:=by rw[←Array.length_toList,hx,hxl]
 have hst:store P h t (elemAddr (.slice (some ⟨2*k,0,none⟩) n (2*n+1)) (i*z)) x=h.wr (2*k) (i*z) xs:=by
  simp only[elemAddr,Nat.zero_add,store,asAddr,ptr,hT,hx,hsx,hc,beq_self_eq_true,Bool.and_self,cond_true]
 have hle2:Nat.ble (i*z+xs.length) cs.length=true:=by rw[Nat.ble_eq,hxl];exact hle
 refine⟨?_,rfl,by rw[spl_len (by omega)];exact hl,hz,hn,hk,get_put_same _ _ rfl⟩
 rw[hst]
 simp only[IH.wr,k1,k2,hg,hle2,cond_true,cond_false];rfl
theorem spl_here {cs xs:List Value} {i z:Nat} (hx:xs.length=z) (h:i*z+z≤cs.length):((IH.splice cs (i*z) xs).drop (i*z)).take z=xs:=by
 simp only[IH.splice]
 rw[List.drop_append,List.drop_of_length_le (by rw[List.length_take];omega),List.nil_append,List.length_take,Nat.min_eq_left (by omega),Nat.sub_self,List.drop_zero,List.take_append_of_le_length (by omega),List.take_of_length_le (by omega)]
theorem spl_there {cs xs:List Value} {i j z:Nat} (hx:xs.length=z) (h:i*z+z≤cs.length) (hj:j≠i):((IH.splice cs (i*z) xs).drop (j*z)).take z=(cs.drop (j*z)).take z:=by
 rcases Nat.lt_or_gt_of_ne hj with hlt|hgt
 ·have e:j*z+z≤i*z:=by rw[←Nat.succ_mul];exact Nat.mul_le_mul_right _ hlt
  simp only[IH.splice]
  apply List.ext_getElem?
  intro q
  rw[List.getElem?_take,List.getElem?_take]
  split
  ·rw[List.getElem?_drop,List.getElem?_drop,List.getElem?_append_left (by rw[List.length_take];omega),List.getElem?_take,if_pos (by omega)]
  ·rfl
 ·have e:i*z+z≤j*z:=by rw[←Nat.succ_mul];exact Nat.mul_le_mul_right _ hgt
  simp only[IH.splice]
  apply List.ext_getElem?
  intro q
  rw[List.getElem?_take,List.getElem?_take]
  split
  ·rw[List.getElem?_drop,List.getElem?_drop,List.getElem?_append_right (by rw[List.length_take];omega),List.getElem?_append_right (by rw[List.length_take];omega),List.getElem?_drop,List.length_take,Nat.min_eq_left (by omega)]
   congr 1;omega
  ·rfl
def RatAt (R:IH→Value→Rat→Prop) (h:IH) (cs:List Value) (j:Nat) (q:Rat):Prop:=∃a s b t,(cs.drop (j*4)).take 4 = [a,s,b,t]∧R h (.agg #[a,s,b,t]) q
theorem RatAt.mono {R:IH→Value→Rat→Prop} {h h':IH} {cs:List Value} {j:Nat} {q:Rat} (x:RatAt R h cs j q) (k : ∀v,R h v q→R h' v q):RatAt R h' cs j q:=let ⟨a,s,b,t,h1,h2⟩:=x;⟨a,s,b,t,h1,k _ h2⟩
theorem RatAt.set {R:IH→Value→Rat→Prop} {h:IH} {cs:List Value} {i:Nat} {q:Rat} {a s b t:Value} (hi:i*4+4≤cs.length) (r:R h (.agg #[a,s,b,t]) q):RatAt R h (IH.splice cs (i*4) [a,s,b,t]) i q:=⟨a,s,b,t,spl_here rfl hi,r⟩
theorem RatAt.other {R:IH→Value→Rat→Prop} {h:IH} {cs:List Value} {i j:Nat} {q:Rat} {a s b t:Value} (x:RatAt R h cs j q) (hi:i*4+4≤cs.length) (hj:j≠i):RatAt R h (IH.splice cs (i*4) [a,s,b,t]) j q:=by
 obtain⟨a',s',b',t',h1,h2⟩:=x
 exact⟨a',s',b',t',by rw[spl_there (z:=4) rfl hi hj];exact h1,h2⟩
theorem ElCs_of {R:IH→Value→Rat→Prop} {h:IH} : ∀{l:List Rat} {cs:List Value},cs.length=l.length*4→(∀j q,l[j]?=some q→RatAt R h cs j q)→ElCs R h l cs
 | [],cs,hl,_=>List.length_eq_zero_iff.1 (by simpa using hl)
 | q :: l,cs,hl,H=>by
  obtain⟨a,s,b,t,h1,h2⟩:=H 0 q rfl
  rw[Nat.zero_mul,List.drop_zero] at h1
  refine⟨a,s,b,t,cs.drop 4,?_,h2,ElCs_of (by rw[List.length_drop,hl,List.length_cons];omega) fun j p hj=>?_⟩
  ·have:=List.take_append_drop 4 cs
   rw[h1] at this
   exact this.symm
  ·obtain⟨a',s',b',t',h3,h4⟩:=H (j+1) p hj
   refine⟨a',s',b',t',?_,h4⟩
   rw[List.drop_drop,←h3]
   congr 2;omega
theorem ElSl.atAll {R:IH→Value→Rat→Prop} (k:Kept R) {h:IH} {v:Value} {l:List Rat} (s:ElSl R h v l) {i:Nat} {q:Rat} (hi:l[i]?=some q) {P:Program} {t:TypeId} (hT:isAggT P t=some true) (hS:sizeT P t=some 4) :
  ∃a s b u,(∀h',Keep h h'→load P h' t (elemAddr v (i*4))=some (.agg #[a,s,b,u]))∧R h (.agg #[a,s,b,u]) q:=by
 obtain⟨cs,hs,hc,hl⟩:=s
 have hil:=(List.getElem?_eq_some_iff.1 hi).1
 have hcl:=hc.len
 obtain⟨a,s,b,u,e1,r⟩:=hc.at hi
 exact⟨a,s,b,u,fun h' e=>by rw[hs.ldAgg e (by omega) (by omega) hT hS,e1],r⟩
end Go.Id
