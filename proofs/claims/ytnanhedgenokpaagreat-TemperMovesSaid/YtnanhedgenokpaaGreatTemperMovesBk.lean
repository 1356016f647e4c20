/-
  Contracts: package wide: Add and Sub (numbers that are not negative), Cmp. Contracts: package wide: Cmp (numbers that are not negative); package chance: length.
-/
import Derived.Test.YtnanhedgenokpaaGreatTemperMovesAt
import Derived.Test.YtnanhedgenokpaaGreatTemperMovesBj
import Derived.Test.YtnanhedgenokpaaGreatTemperMovesAs
import Derived.Test.YtnanhedgenokpaaGreatTemperMovesAy
import Derived.Test.YtnanhedgenokpaaGreatTemperMovesBi
set_option linter.unusedVariables false
set_option linter.unusedSimpArgs false
set_option linter.defProp false
set_option linter.deprecated false
namespace Go.Id
open Go
open Go.Proofs.Tryz (prog)
open Nat renaming reduceAdd→zA,reduceEqDiff→zE,reduceLeDiff→zL
set_option maxHeartbeats 16000000
theorem Bf:Q7 prog 250 5 .nilFunc:=⟨_,TQ,by kernel_rfl,rfl⟩
def Iw:tn:=[(.int .u8 43,(.func (.func 245) #[] #[])),(.int .u8 45,(.func (.func 246) #[] #[])),(.int .u8 42,(.func (.func 247) #[] #[]))]
theorem Iv : ∀e∈Iw,∃a,e.1=.int .u8 a:=by
 intro e he
 simp[Iw] at he
 rcases he with rfl|rfl|rfl<;>exact⟨_,rfl⟩
theorem zB : ∀{l:tn} {k:Value},(∀e∈l,e.1≠k)→place l k=none
 | [],_,_=>rfl
 | e :: l,k,h=>by
  rw[place,if_neg (h e (by simp)),zB fun x hx=>h x (by simp[hx])]
  rfl
theorem AS {l:tn} {k v:Value} (h : ∀e∈l,e.1≠k):upd l k v=l ++ [(k,v)]:=by
 unfold upd
 rw[zB h]
theorem Mz (k v:Value) (l:tn):asc ((k,v) :: l) k=some v:=by rw[asc,if_pos rfl]
theorem QX {k k' v:Value} {l:tn} (h:k'≠k):asc ((k',v) :: l) k=asc l k:=by rw[asc,if_neg h]
theorem JJ {a b:Int} (h:a≠b):(Value.int .u8 a)≠.int .u8 b:=fun e=>h (by injection e)
theorem S8:asc Iw (.int .u8 43)=some (.func (.func 245) #[] #[]):=Mz _ _ _
theorem S7:asc Iw (.int .u8 45)=some (.func (.func 246) #[] #[]):=(QX (JJ (by decide))).trans (Mz _ _ _)
theorem yJ {h:IH}:WV prog (.func (.func 184) #[] #[]) [] h fun r h'=>Ext h h'∧h'.ext.get h.n=some (.map Iw)∧h.n<h'.n∧r=.map (some (2*h.n)):=by
 have kt:=Dj (P:=prog) u5
 have u1 : ∀v,mapUpdate prog (h.new (.map [])) 250 (.map (some (2*h.n))) (.int .u8 43) v=some ((h.new (.map [])).put h.n (.map [(.int .u8 43,v)])):=fun v=>by
  rw[nk Bf kt (aa _ _ rfl) ⟨_,rfl⟩ (by simp) v,AS (by simp)]
  rfl
 have u2 : ∀(H:IH) (w v:Value),mapUpdate prog (H.put h.n (.map [(.int .u8 43,w)])) 250 (.map (some (2*h.n))) (.int .u8 45) v=some ((H.put h.n (.map [(.int .u8 43,w)])).put h.n (.map [(.int .u8 43,w),(.int .u8 45,v)])):=fun H w v=>by
  rw[nk Bf kt (ad _ _ rfl) ⟨_,rfl⟩ (by intro e he;simp at he;subst he;exact⟨_,rfl⟩) v,AS (by intro e he;simp at he;subst he;exact JJ (by decide))]
  rfl
 have u3 : ∀(H:IH) (w x v:Value),mapUpdate prog (H.put h.n (.map [(.int .u8 43,w),(.int .u8 45,x)])) 250 (.map (some (2*h.n))) (.int .u8 42) v=some ((H.put h.n (.map [(.int .u8 43,w),(.int .u8 45,x)])).put h.n (.map [(.int .u8 43,w),(.int .u8 45,x),(.int .u8 42,v)])):=fun H w x v=>by
  rw[nk Bf kt (ad _ _ rfl) ⟨_,rfl⟩ (by intro e he;simp at he;rcases he with rfl|rfl<;>exact⟨_,rfl⟩) v,AS (by intro e he;simp at he;rcases he with rfl|rfl<;>exact JJ (by decide))]
  rfl
 refine enter (nt:=3) (rs:=[.tmp 0]) Proofs.Tryz.func184 rfl rfl rfl (by simp) ?_
 simp -dsimp (disch:=try exact dx) only[wpS,wpT,zE,u1,u2,u3]
 exact⟨((((Ext.refl h).new _).put (Nat.le_refl _) _).put (Nat.le_refl _) _).put (Nat.le_refl _) _,rfl,by omega⟩
theorem zh {P:Program} {fr:Fr} {mt:TypeId} {m k:Operand} {h h':IH} {mv kv v:Value} (hm:opd fr m=some mv) (hk:opd fr k=some kv) (h1:lookup P h mt mv kv false=some v) (h2:lookup P h' mt mv kv false=some v):gT P fr (.lookup mt m k false) h h'=true :=
 ug (v:=v) (x:=h) (y:=h') (by simp[iop,hm,hk,h1]) (by simp[iop,hm,hk,h2])
theorem Hr {h:IH} (a b m:Nat) (ha:a<H8) (hb:b<H8) (sg:Int) (f:Value) (UL:asc Iw (.int .u8 sg)=some f) (hm:m<W8)
  (hf : ∀h1,WV prog f [jW false a,jW false b] h1 fun r h2=>Ext h1 h2∧r=.tuple #[jW false m,.bool false]) :
  WV prog (.func (.func 104) #[] #[]) [wdV a,wdV b,.int .u8 sg] h fun r h'=>Ext h h'∧r=if m<H8 then .tuple #[wdV m,KI 0] else .tuple #[wdV 0,KI 6]:=by
 have kt:=Dj (P:=prog) u5
 have aw:a<W8:=by have:=bV;omega
 have bw:b<W8:=by have:=bV;omega
 have ia:wdI a=(a:Int):=by unfold wdI;rw[if_pos ha]
 have ib:wdI b=(b:Int):=by unfold wdI;rw[if_pos hb]
 obtain⟨H0,hH0,n0,E0,k0,k1,k2⟩:=gP h (wdC a) (wdC b) [ZW,ZW,ZW,ZW,ZW,ZW,ZW,ZW]
 refine enter (nt:=27) (rs:=[.cell 6 30,.tmp 7]) Proofs.Tryz.func104 rfl rfl rfl (by simp) ?_
 simp -dsimp (disch:=try exact dx) only[wpS,zE,zA,dB,aM]
 rw[←hH0]
 clear hH0
 have X0:=Ext.refl H0
 have La:load prog H0 30 (ptr (2*h.n) 0)=some (wdV a):=by
  have r:=ai k0
  simp -dsimp (disch:=try exact dx) only[wpS,zL,ba,r,aj,aC]
  rfl
 have Lb:load prog H0 30 (ptr (2*(h.n+1)) 0)=some (wdV b):=by
  have r:=ai k1
  simp -dsimp (disch:=try exact dx) only[wpS,zL,ba,r,aj,aC]
  rfl
 refine drawn [(2,[6,7]),(3,[0]),(5,[0,4])] (by kernel_rfl) (by kernel_rfl) rfl ?_
 simp -dsimp (disch:=try exact dx) only[wpS]
 refine call yJ ?_
 rintro _ h1 ⟨X1,gm,mn,rfl⟩
 have m1:=X1.n
 have lk : ∀H,Ext h1 H→lookup prog H 250 (.map (some (2*H0.n))) (.int .u8 sg) false=some f:=fun H X=>by
  rw[Fc Bf kt (X.kept mn gm) ⟨_,rfl⟩ Iv,UL];rfl
 simp -dsimp (disch:=try exact dx) only[wpS,zE,zL,ba,lk h1 (Ext.refl _),ai (X1.kept (by omega) k0),aj,aC]
 refine call (vn a aw) ?_
 rintro _ h2 ⟨X2,rfl⟩
 have m2:=X2.n
 have X12:=X1.trans X2
 rw[ia,decide_eq_false (by omega),Int.natAbs_natCast]
 simp -dsimp (disch:=try exact dx) only[wpS,zE,zL,ba,ai (X12.kept (by omega) k1),aj,aC]
 refine call (vn b bw) ?_
 rintro _ h3 ⟨X3,rfl⟩
 have m3:=X3.n
 have X13:=X12.trans X3
 rw[ib,decide_eq_false (by omega),Int.natAbs_natCast]
 simp -dsimp (disch:=try exact dx) only[wpS,zE]
 refine call (hf h3) ?_
 rintro _ h4 ⟨X4,rfl⟩
 have m4:=X4.n
 have X14:=X13.trans X4
 have q2:=X14.kept (by omega) k2
 have Z1:=Ext.refl h1
 have X23:=X2.trans X3
 simp -dsimp (disch:=try exact dx) only[wpS,wpT,zE,zL,zA,pX,nJ,dM,aj,ay,aO]
 refine⟨aN (aI (ak rfl rfl rfl rfl (zh rfl rfl (lk h1 Z1) (lk h2 X2))) (ak rfl rfl rfl rfl (zh rfl rfl (lk h1 Z1) (lk h3 X23)))) (aN (ak rfl rfl rfl rfl (aJ (H0:=H0) rfl (by omega) X1 X0 La)) (aI (ak rfl rfl rfl rfl (aJ (H0:=H0) rfl (by omega) X12 X0 Lb)) (ak rfl rfl rfl rfl (aJ (H0:=H0) rfl (by omega) X12 X1 Lb)))),?_⟩
 simp -dsimp (disch:=try exact dx) only[wpS,wpT,zE,zL,zA,nO,eg,aj,show(.agg (Value.bool false :: wdC m).toArray:Value)=jW false m from rfl]
 refine call (wY false m hm) ?_
 rintro _ h5 ⟨X5,rfl⟩
 have e4:Ext h4 ((h4.new (.cells [.bool false,ZW,ZW,ZW,ZW,ZW,ZW,ZW,ZW] 0 none)).put h4.n (.cells (.bool false :: wdC m) 0 none)):=((Ext.refl _).new _).put (Nat.le_refl _) _
 have q4:((h4.new (.cells [.bool false,ZW,ZW,ZW,ZW,ZW,ZW,ZW,ZW] 0 none)).put h4.n (.cells (.bool false :: wdC m) 0 none)).ext.get (h.n+1+1)=some (.cells [ZW,ZW,ZW,ZW,ZW,ZW,ZW,ZW] 0 none):=e4.kept (by omega) q2
 have q5:=X5.kept (by simp only[al,aq];omega) q4
 have m5:=X5.n
 simp only[al,aq] at m5
 have EE:=((E0.trans X14).trans e4).trans X5
 by_cases cm:m<H8
 ·rw[if_neg (show ¬(H8<m∨(m=H8∧false=false)) from fun hh=>by rcases hh with h|⟨h,_⟩<;>omega),if_neg (show ¬(false=true) by decide),if_pos cm]
  simp -dsimp (disch:=try exact dx) only[wpS,wpT,zE,zL,zA,ba,cj,q5,aM,aj,ay,aO,aC]
  exact⟨EE.put (by omega) _,rfl⟩
 ·rw[if_pos (show(H8<m∨(m=H8∧false=false)) from by by_cases hh:H8<m;exact .inl hh;exact .inr ⟨by omega,rfl⟩),if_neg cm]
  simp -dsimp (disch:=try exact dx) only[wpS,wpT,zE,zL,zA,ba,cj,q5,aM,aj,ay,aO,aC]
  exact⟨EE.put (by omega) _,rfl⟩
theorem Hx (a b:Nat) (ha:a<H8) (hb:b<H8):a+b<W8:=by have:=bV;omega
theorem Cd {h:IH} (a b:Nat) (ha:a<H8) (hb:b<H8):WV prog (.func (.func 226) #[] #[]) [wdV a,wdV b] h fun r h'=>Ext h h'∧r=if a+b<H8 then .tuple #[wdV (a+b),KI 0] else .tuple #[wdV 0,KI 6]:=by
 have w0:(0:Nat)<W8:=by have:=bV;have:=jg;omega
 obtain⟨H0,hH0,n0,E0,k0,k1,k2⟩:=gP h (wdC a) (wdC b) [ZW,ZW,ZW,ZW,ZW,ZW,ZW,ZW]
 refine enter (nt:=11) (rs:=[.cell 4 30,.tmp 5]) Proofs.Tryz.func226 rfl rfl rfl (by simp) ?_
 simp -dsimp (disch:=try exact dx) only[wpS,zE,zL,zA,dB,ba,aM,aj,aC]
 rw[←hH0]
 clear hH0
 refine call (Hr a b (a+b) ha hb 43 _ S8 (Hx a b ha hb) (fun h1=>JS a b (Hx a b ha hb))) ?_
 rintro _ h1 ⟨X1,rfl⟩
 have q2:=X1.kept (by omega) k2
 by_cases c:a+b<H8
 ·rw[if_pos c]
  simp -dsimp (disch:=try exact dx) only[wpS,wpT,zE,zL,zA,ba,cj,q2,aM,aj,ay,aO,aC]
  exact⟨(E0.trans X1).put (by omega) _,rfl⟩
 ·rw[if_neg c]
  simp -dsimp (disch:=try exact dx) only[wpS,wpT,zE,zL,zA,ba,cj,q2,aM,aj,ay,aO,aC]
  exact⟨(E0.trans X1).put (by omega) _,rfl⟩
theorem Jx {h:IH} (a b:Nat) (ha:a<H8) (b0:0<b) (hab:b≤a):WV prog (.func (.func 263) #[] #[]) [wdV a,wdV b] h fun r h'=>Ext h h'∧r=.tuple #[wdV (a - b),KI 0]:=by
 obtain⟨H0,hH0,n0,E0,k0,k1,k2⟩:=gP h (wdC a) (wdC b) [ZW,ZW,ZW,ZW,ZW,ZW,ZW,ZW]
 refine enter (nt:=11) (rs:=[.cell 4 30,.tmp 5]) Proofs.Tryz.func263 rfl rfl rfl (by simp) ?_
 simp -dsimp (disch:=try exact dx) only[wpS,zE,zL,zA,dB,ba,aM,aj,aC]
 rw[←hH0]
 clear hH0
 have aw:a<W8:=by have:=bV;omega
 refine call (Hr a b (a - b) ha (by omega) 45 _ S7 (by omega) (fun h1=>yT a b aw b0 hab)) ?_
 rintro _ h1 ⟨X1,rfl⟩
 have q2:=X1.kept (by omega) k2
 rw[if_pos (show a - b<H8 by omega)]
 simp -dsimp (disch:=try exact dx) only[wpS,wpT,zE,zL,zA,ba,cj,q2,aM,aj,ay,aO,aC]
 exact⟨(E0.trans X1).put (by omega) _,rfl⟩
end Go.Id

namespace Go.Id
open Go
open Go.Proofs.Tryz (prog)
open Nat renaming reduceAdd→zA,reduceEqDiff→zE,reduceLeDiff→zL
set_option maxHeartbeats 16000000
theorem vh {x:Nat} (hx:x<9223372036854775808):x ^^^ 9223372036854775808=x+9223372036854775808:=by
 have h1:x<2 ^ 63:=hx
 have h2:=Nat.two_pow_add_eq_or_of_lt h1 1
 rw[Nat.mul_one] at h2
 rw[show(9223372036854775808:Nat)=2 ^ 63 from rfl,Nat.add_comm,h2]
 apply Nat.eq_of_testBit_eq
 intro i
 rw[Nat.testBit_xor,Nat.testBit_or,Nat.testBit_two_pow]
 by_cases hi:63=i
 ·subst hi
  rw[Nat.testBit_lt_two_pow h1]
  decide
 ·simp[hi]
theorem rh {a:Nat} (ha:a<H8):wrd a 7<9223372036854775808:=(PJ (by have:=bV;omega)).2 ha
theorem vj {a:Nat} (ha:a<H8):IH.aD (wdC a) 7 [K64 (wrd a 7+9223372036854775808)]=wdC (a+H8):=by
 have ht:=rh ha
 have hw:a<18446744073709551616 ^ (7+1):=by rw[←AH];have:=bV;omega
 have e:H8=9223372036854775808*18446744073709551616 ^ 7:=by unfold H8;rfl
 apply List.ext_getElem?
 intro j
 have hl:(IH.aD (wdC a) 7 [K64 (wrd a 7+9223372036854775808)]).length=8:=by simp[IH.aD,aj]
 by_cases h8:j<8
 ·rw[bF _ _ h8,e]
  by_cases h7:j=7
  ·subst h7
   rw[qC hw (by omega)]
   simp[IH.aD,aj]
  ·rw[nY (by omega)]
   have hj:j<7:=by omega
   simp only[IH.aD]
   rw[List.getElem?_append_left (by rw[List.length_take,aj];omega),List.getElem?_take,if_pos hj,bF _ _ h8]
 ·rw[List.getElem?_eq_none (by omega),List.getElem?_eq_none (by rw[aj];omega)]
theorem Cc {h:IH} (a b:Nat) (ha:a<H8) (hb:b<H8):WV prog (.func (.func 148) #[] #[]) [wdV a,wdV b] h fun r h'=>Ext h h'∧r=KI (if a<b then -1 else if a=b then 0 else 1):=by
 have ja:(7:Nat)<8:=by decide
 have j7:nP 7 8=some 7:=rfl
 have ga:=bF a 7 (by omega)
 have gb:=bF b 7 (by omega)
 have ta:=rh ha
 have tb:=rh hb
 have xa : ∀ox oy,binop prog .xor 28 ox oy (K64 (wrd a 7)) (.int .u64 9223372036854775808)=some (K64 (wrd a 7+9223372036854775808)):=fun ox oy=>by
  rw[←vh ta];exact gV _ _ ox oy _ 9223372036854775808 (by omega) (by decide)
 have xb : ∀ox oy,binop prog .xor 28 ox oy (K64 (wrd b 7)) (.int .u64 9223372036854775808)=some (K64 (wrd b 7+9223372036854775808)):=fun ox oy=>by
  rw[←vh tb];exact gV _ _ ox oy _ 9223372036854775808 (by omega) (by decide)
 have sa:=vj ha
 have sb:=vj hb
 obtain⟨H0,hH0,n0,E0,k0,k1⟩:=gl h (wdC a) (wdC b)
 refine enter (nt:=16) (rs:=[.tmp 4]) Proofs.Tryz.func148 rfl rfl rfl (by simp) ?_
 simp -dsimp (disch:=try exact dx) only[wpS,zE,zA,kS,aM]
 rw[←hH0]
 clear hH0
 simp -dsimp (disch:=try exact dx) only[wpS,wpT,zE,zL,zA,kS,jY,mb,ba,ai k0,ai k1,k0,k1,kS,j7,ga,gb,xa,xb,aj,sa,sb,aC]
 refine call (kL (a+H8) (b+H8) (by have:=bV;omega) (by have:=bV;omega)) ?_
 rintro _ h1 ⟨X1,rfl⟩
 have e:(if a+H8<b+H8 then (-1:Int) else if a+H8=b+H8 then 0 else 1)=if a<b then -1 else if a=b then 0 else 1:=by
  by_cases c1:a<b
  ·rw[if_pos c1,if_pos (by omega)]
  ·rw[if_neg c1,if_neg (by omega)]
   by_cases c2:a=b
   ·rw[if_pos c2,if_pos (by omega)]
   ·rw[if_neg c2,if_neg (by omega)]
 rw[e]
 have EE:Ext h ((H0.put h.n (.cells (wdC (a+H8)) 0 none)).put (h.n+1) (.cells (wdC (b+H8)) 0 none)):=(E0.put (Nat.le_refl _) _).put (by omega) _
 simp -dsimp (disch:=try exact dx) only[wpS,wpT,zE]
 exact EE.trans X1
theorem Mv {n i:Nat} (hn:n<18446744073709551616 ^ (i+1)) (hw:wrd n i≠0):vf n=64*i+vf (wrd n i):=by
 have hp:0<18446744073709551616 ^ i:=Nat.pow_pos (by omega)
 have hd:n / 18446744073709551616 ^ i=wrd n i:=by
  rw[wrd,Nat.mod_eq_of_lt]
  rw[Nat.div_lt_iff_lt_mul hp,Nat.mul_comm,←Nat.pow_succ];exact hn
 symm
 refine Ht fun N=>?_
 have e64:18446744073709551616 ^ i=2 ^ (64*i):=by rw[Nat.pow_mul]
 by_cases h:N<64*i
 ·have h1:2 ^ N≤18446744073709551616 ^ i:=by rw[e64];exact Nat.pow_le_pow_right (by omega) (by omega)
  have h2:18446744073709551616 ^ i≤n:=by
   have:=(Nat.le_div_iff_mul_le hp (x:=1) (y:=n)).1 (by rw[hd];omega)
   omega
  exact⟨fun _=>Nat.le_trans h1 h2,fun _=>by omega⟩
 ·obtain⟨M,rfl⟩ : ∃M,N=64*i+M:=⟨N - 64*i,by omega⟩
  have h1:2 ^ (64*i+M)=2 ^ M*18446744073709551616 ^ i:=by rw[Nat.pow_add,e64,Nat.mul_comm]
  rw[h1,←Nat.le_div_iff_mul_le hp,hd,←yk]
  omega
theorem DQ {h:IH} (n:Nat) (hn:n<W8):WV prog (.func (.func 264) #[] #[]) [wdV n] h fun r h'=>Ext h h'∧r=KN (vf n):=by
 obtain⟨H0,hH0⟩ : ∃H,H=h.new (.cells (wdC n) 0 none):=⟨_,rfl⟩
 have E0:Ext h H0:=by rw[hH0];exact(Ext.refl h).new _
 have g0:H0.ext.get h.n=some (.cells (wdC n) 0 none):=by rw[hH0];simp (disch:=try exact dx) only[aa]
 refine enter (nt:=21) (rs:=[.tmp 2]) Proofs.Tryz.func264 rfl rfl rfl (by simp) ?_
 simp -dsimp (disch:=try exact dx) only[wpS,aM]
 rw[←hH0]
 clear hH0
 refine loop (fun m fr hh=>hh=H0∧m≤8∧n<18446744073709551616 ^ m∧ah fr 1=some (ptr (2*h.n) 0)∧ah fr 3=some (KI 0)∧ah fr 4=some (KI ((m:Int) - 1))) 8
  ⟨rfl,Nat.le_refl _,by rw[←AH];exact hn,by simp,by simp,by simp⟩ ?_
 rintro m fr hh ⟨rfl,hm,hlt,f1,f3,f4⟩
 rcases Nat.eq_zero_or_pos m with rfl|hp
 ·have n0:n=0:=by rw[Nat.pow_zero] at hlt;omega
  subst n0
  simp -dsimp (disch:=try exact dx) only[wpS,wpT,zE,f3,f4]
  exact⟨E0,rfl⟩
 ·obtain⟨i,rfl⟩ : ∃i,m=i+1:=⟨m - 1,by omega⟩
  have h2:(((i+1:Nat):Int) - 1)=(i:Int):=by omega
  rw[h2] at f4
  have gi:=bF n i (by omega)
  have wl:=qB n i
  by_cases c:wrd n i=0
  ·have d:(((wrd n i:Nat):Int) != 0)=false:=by simp[c]
   simp -dsimp (disch:=try exact dx) only[wpS,wpT,zE,kS,jY,f1,f4,ai g0,kS,gi,d]
   refine⟨i,by omega,rfl,by omega,?_,by simp[f1],by simp[f3],by simp⟩
   have:=vz n i
   rw[c,Nat.mul_zero,Nat.add_zero,Nat.mod_eq_of_lt hlt] at this
   rw[this]
   exact Nat.mod_lt _ (Nat.pow_pos (by omega))
  ·have d:(((wrd n i:Nat):Int) != 0)=true:=by simp[c]
   simp -dsimp (disch:=try exact dx) only[wpS,wpT,zE,kS,jY,f1,f4,ai g0,kS,gi,d]
   refine call (Df (wrd n i) wl) ?_
   rintro _ _ ⟨rfl,k,rfl,hk,hkN⟩
   have ek:=Ht hkN
   have et:=Mv hlt c
   simp -dsimp (disch:=try exact dx) only[wpS,zE]
   exact⟨E0,congrArg (Value.int .i64) (by rw[et,←ek];omega)⟩
end Go.Id

namespace Go.Id
theorem oB (i:Nat):18446744073709551616 ^ i=2 ^ (64*i):=by rw[Nat.pow_mul]
theorem D7 {v k j:Nat} (h:64*(j+1)≤k):wrd (v % 2 ^ k) j=wrd v j:=by
 have e:2 ^ k=18446744073709551616 ^ (j+1)*2 ^ (k - 64*(j+1)):=by rw[oB,←Nat.pow_add];congr 1;omega
 rw[wrd,wrd,e]
 have h1:v % (18446744073709551616 ^ (j+1)*2 ^ (k - 64*(j+1))) % 18446744073709551616 ^ (j+1)=v % 18446744073709551616 ^ (j+1):=Nat.mod_mul_right_mod _ _ _
 have h2 : ∀n,n / 18446744073709551616 ^ j % 18446744073709551616=n % 18446744073709551616 ^ (j+1) / 18446744073709551616 ^ j:=fun n=>by
  rw[Nat.pow_succ,Nat.mod_mul_right_div_self]
 rw[h2,h2,h1]
theorem D6 {v q r:Nat} (hr:r<64):wrd (v % 2 ^ (64*q+r)) q=wrd v q % 2 ^ r:=by
 have e:2 ^ (64*q+r)=18446744073709551616 ^ q*2 ^ r:=by rw[oB,Nat.pow_add]
 have h1:v % (18446744073709551616 ^ q*2 ^ r) / 18446744073709551616 ^ q=v / 18446744073709551616 ^ q % 2 ^ r:=Nat.mod_mul_right_div_self _ _ _
 rw[wrd,wrd,e,h1]
 have h2:18446744073709551616=2 ^ r*2 ^ (64 - r):=by rw[←Nat.pow_add,show r+(64 - r)=64 by omega]
 have h3:v / 18446744073709551616 ^ q % 2 ^ r<18446744073709551616:=by
  have a:=Nat.mod_lt (v / 18446744073709551616 ^ q) (Nat.two_pow_pos r)
  have b:2 ^ r≤2 ^ 64:=Nat.pow_le_pow_right (by omega) (by omega)
  omega
 rw[Nat.mod_eq_of_lt h3]
 generalize v / 18446744073709551616 ^ q=z
 conv=>rhs;rw[h2]
 rw[Nat.mod_mul_right_mod]
theorem BZ {v q r j:Nat} (hr:r≤64) (hj:q<j):wrd (v % 2 ^ (64*q+r)) j=0:=by
 refine iN (i:=q+1) ?_ (by omega)
 rw[oB]
 exact Nat.lt_of_lt_of_le (Nat.mod_lt _ (Nat.two_pow_pos _)) (Nat.pow_le_pow_right (by omega) (by omega))
end Go.Id

namespace Go.Id
open Go
open Nat renaming reduceAdd→zA,reduceEqDiff→zE,reduceLeDiff→zL
set_option maxHeartbeats 16000000
theorem zk {cs:List Value} {i:Nat} {x:Value} (hi:i<cs.length) (j:Nat):(IH.aD cs i [x])[j]?=if j=i then some x else cs[j]?:=by
 simp only[IH.aD]
 by_cases h:j<i
 ·rw[List.getElem?_append_left (by rw[List.length_take];omega),List.getElem?_take,if_pos h,if_neg (by omega)]
 ·rw[List.getElem?_append_right (by rw[List.length_take];omega),List.length_take,Nat.min_eq_left (by omega)]
  by_cases h2:j=i
  ·subst h2;rw[Nat.sub_self,if_pos rfl];rfl
  ·rw[if_neg h2,show j - i=(j - i - 1)+1 by omega]
   simp only[List.singleton_append,List.getElem?_cons_succ,List.length_singleton,List.getElem?_drop]
   congr 1
   omega
theorem MT {v x i:Nat} (hi:i<8) (hv:v<18446744073709551616 ^ i) (hx:x<18446744073709551616):IH.aD (wdC v) i [K64 x]=wdC (v+x*18446744073709551616 ^ i):=by
 have hz:wrd v i=0:=iN hv (Nat.le_refl _)
 have hv2:v<18446744073709551616 ^ (i+1):=Nat.lt_of_lt_of_le hv (Nat.pow_le_pow_right (by omega) (by omega))
 apply List.ext_getElem?
 intro j
 rw[zk (by rw[aj];exact hi)]
 by_cases h8:j<8
 ·by_cases hj:j=i
  ·subst hj
   rw[if_pos rfl,bF _ _ h8,qC hv2 (by omega),hz,Nat.zero_add]
  ·rw[if_neg hj,bF _ _ h8,bF _ _ h8]
   by_cases hl:j<i
   ·rw[nY hl]
   ·have h1:wrd v j=0:=iN hv (by omega)
    have h2:wrd (v+x*18446744073709551616 ^ i) j=0:=iN (i:=i+1) (AF hv2 (by omega)) (by omega)
    rw[h1,h2]
 ·rw[if_neg (by omega),List.getElem?_eq_none (by rw[aj];omega),List.getElem?_eq_none (by rw[aj];omega)]
theorem JE {v q r:Nat} (hq:q<8) (hr:r<64) (hv:v<18446744073709551616 ^ (q+1)):IH.aD (wdC v) q [K64 (wrd v q % 2 ^ r)]=wdC (v % 2 ^ (64*q+r)):=by
 apply List.ext_getElem?
 intro j
 rw[zk (by rw[aj];exact hq)]
 by_cases h8:j<8
 ·by_cases hj:j=q
  ·subst hj
   rw[if_pos rfl,bF _ _ h8,D6 hr]
  ·rw[if_neg hj,bF _ _ h8,bF _ _ h8]
   by_cases hl:j<q
   ·rw[D7 (by omega)]
   ·have h1:wrd v j=0:=iN hv (by omega)
    rw[h1,BZ (by omega) (by omega)]
 ·rw[if_neg (by omega),List.getElem?_eq_none (by rw[aj];omega),List.getElem?_eq_none (by rw[aj];omega)]
theorem IW (i s:Nat):(fw (i+1) s).1=(fw i s).1+nxO (fw i s).2*18446744073709551616 ^ i:=rfl
theorem PI {P:Program} {f:FuncId} {a:Value} {h:IH} {K:Value→IH→Prop} (w:WV P (.func (.func f) #[a] #[]) [] h K):WV P (.func (.func f) #[] #[]) [a] h K:=by
 obtain⟨p,⟨N,hN⟩,hk⟩:=w
 refine⟨p,⟨N,fun n hn=>?_⟩,hk⟩
 have:=hN n hn
 cases n with
 | zero=>exact this
 | succ n=>exact this
theorem Kz {h:IH} {k s:Nat} (g:h.ext.get k=some (.cells [K64 s] 0 none)) :
  WV Proofs.Tryz.prog (.func (.func 227) #[] #[]) [ptr (2*k) 0] h fun r h'=>h'=h.put k (.cells [K64 (nxS s)] 0 none)∧r=K64 (nxO s) :=
 PI (GM g)
theorem HL {h:IH} {b8 b2 ks k s:Nat} (k0:0<k) (k1:k≤512) (hb8:b8<h.n) (hb2:b2<h.n) (hks:ks<h.n) (d8:b8≠ks) (d2:b2≠ks)
  (g8:h.ext.get b8=some (.cells [KN k] 0 none)) (g2:h.ext.get b2=some (.cells [ptr (2*ks) 0] 0 none)) (gs:h.ext.get ks=some (.cells [K64 s] 0 none)) :
  WV Proofs.Tryz.prog (.func (.func 265) #[] #[ptr (2*b8) 0,ptr (2*b2) 0]) [] h fun r h'=>h.n≤h'.n∧(∀j,j<h.n→j≠ks→h'.ext.get j=h.ext.get j)∧(∀h0,Ext h0 h→h0.n≤ks→Ext h0 h')∧h'.ext.get ks=some (.cells [K64 (fw ((k+63) / 64) s).2] 0 none)∧r=wdV ((fw ((k+63) / 64) s).1 % 2 ^ k):=by
 obtain⟨m,hm⟩ : ∃m,m=(k+63) / 64:=⟨_,rfl⟩
 have em:((k:Int)+63) / 64=(m:Int):=by omega
 rw[←hm]
 obtain⟨H0,hH0⟩ : ∃H,H=(h.new (.cells (wdC 0) 0 none)).new (.cells (wdC 0) 0 none):=⟨_,rfl⟩
 have n0:H0.n=h.n+2:=by rw[hH0];rfl
 have E0:Ext h H0:=by rw[hH0];exact((Ext.refl h).new _).new _
 have c2:H0.ext.get h.n=some (.cells (wdC 0) 0 none):=by rw[hH0];simp (disch:=try exact dx) only[aa,ao]
 have c3:H0.ext.get (h.n+1)=some (.cells (wdC 0) 0 none):=by rw[hH0];simp (disch:=try exact dx) only[aa]
 have z0:([.int .u64 0,.int .u64 0,.int .u64 0,.int .u64 0,.int .u64 0,.int .u64 0,.int .u64 0,.int .u64 0]:List Value)=wdC 0:=by rw[gQ]
 have q8:=E0.kept hb8 g8
 have q2:=E0.kept hb2 g2
 have qs:=E0.kept hks gs
 refine enter (nt:=32) (rs:=[.cell 2 30]) Proofs.Tryz.func265 rfl rfl rfl (by simp) ?_
 simp -dsimp (disch:=try exact dx) only[wpS,zE,zA,dB,ld3,ai g8,em]
 rw[z0,←hH0]
 clear hH0
 refine loop (fun u fr hh => ∃i:Nat,i+u=m∧H0.n≤hh.n∧(∀j,j<H0.n→j≠ks→j≠h.n+1→hh.ext.get j=H0.ext.get j)∧(∀h0,Ext h0 h→h0.n≤ks→Ext h0 hh)∧hh.ext.get ks=some (.cells [K64 (fw i s).2] 0 none)∧hh.ext.get (h.n+1)=some (.cells (wdC (fw i s).1) 0 none)∧ah fr 0=some (ptr (2*b8) 0)∧ah fr 1=some (ptr (2*b2) 0)∧ah fr 2=some (ptr (2*h.n) 0)∧ah fr 3=some (ptr (2*(h.n+1)) 0)∧ah fr 7=some (KN m)∧ah fr 8=some (KN i)) m
  ⟨0,by omega,Nat.le_refl _,fun j _ _ _=>rfl,fun h0 e _=>e.trans E0,qs,c3,by simp,by simp,by simp,by simp,by simp,by simp⟩ ?_
 rintro u fr hh ⟨i,hiu,hn,hfr,hEx,gk,gw,f0,f1,f2,f3,f7,f8⟩
 simp -dsimp (disch:=try exact dx) only[wpS,f7,f8]
 refine ax ?_ ?_<;>intro hc<;>simp only[decide_eq_true_eq,decide_eq_false_iff_not] at hc
 ·have hi:i<8:=by omega
  have p2:=(hfr b2 (by omega) d2 (by omega)).trans q2
  simp -dsimp (disch:=try exact dx) only[wpS,wpT,zE,RU,vD,f1,f8,ai p2]
  refine call (Kz gk) ?_
  rintro _ _ ⟨rfl,rfl⟩
  have gw2:(hh.put ks (.cells [K64 (nxS (fw i s).2)] 0 none)).ext.get (h.n+1)=some (.cells (wdC (fw i s).1) 0 none):=by rw[ae _ _ (by omega)];exact gw
  have sp:=MT hi (DF i s) (EW (fw i s).2)
  rw[←IW] at sp
  simp -dsimp (disch:=try exact dx) only[wpS,wpT,zE,zL,kS,mb,f3,f8,gw2,kS,aj,sp]
  refine⟨u - 1,by omega,i+1,by omega,hn,fun j h1 h2 h3=>?_,fun h0 e hk=>((hEx h0 e hk).put hk _).put (by have:=e.n;omega) _,?_,ad _ _ rfl,by simp[f0],by simp[f1],by simp[f2],by simp[f3],by simp[f7],by simp⟩
  ·rw[ae _ _ h3,ae _ _ h2];exact hfr j h1 h2 h3
  ·rw[ae _ _ (by omega)];exact ad _ _ rfl
 ·have him:i=m:=by omega
  subst him
  have p8:=(hfr b8 (by omega) d8 (by omega)).trans q8
  have p2:=(hfr h.n (by omega) (by omega) (by omega)).trans c2
  have vl:=DF i s
  obtain⟨v,hv⟩ : ∃v,v=(fw i s).1:=⟨_,rfl⟩
  rw[←hv] at gw vl ⊢
  obtain⟨q,hq⟩ : ∃q,q=k / 64:=⟨_,rfl⟩
  obtain⟨r,hr⟩ : ∃r,r=k % 64:=⟨_,rfl⟩
  have eq:(k:Int) / 64=(q:Int):=by omega
  have er:(k:Int) % 64=(r:Int):=by omega
  have ek:k=64*q+r:=by omega
  have fin : ∀h':IH,h'=hh.put h.n (.cells (wdC v) 0 none)→True:=fun _ _=>trivial
  by_cases r0:r=0
  ·have d0:decide ((0:Int)<(r:Int))=false:=decide_eq_false (by omega)
   have hvk:v % 2 ^ k=v:=Nat.mod_eq_of_lt (by
    rw[oB] at vl
    rw[ek,r0,Nat.add_zero]
    have:i=q:=by omega
    rw[←this];exact vl)
   rw[hvk]
   simp -dsimp (disch:=try exact dx) only[wpS,wpT,zE,zL,ld3,ba,cj,f0,f2,f3,ai p8,er,d0,ai gw,p2,aj,aC,ay,mP]
   exact⟨by omega,fun j h1 h2=>by rw[ae _ _ (by omega),hfr j (by omega) h2 (by omega)];exact E0.get j h1,fun h0 e hk=>(hEx h0 e hk).put (by have:=e.n;omega) _,gk,rfl⟩
  ·have d0:decide ((0:Int)<(r:Int))=true:=decide_eq_true (by omega)
   have hi:i=q+1:=by omega
   have hq8:q<8:=by omega
   rw[hi] at vl
   have sp:=JE hq8 (show r<64 by omega) vl
   rw[←ek] at sp
   have gq:=bF v q hq8
   have wl:=qB v q
   have t1:=Nat.two_pow_pos r
   have t2:2 ^ r<18446744073709551616:=Nat.lt_of_lt_of_le (Nat.pow_lt_pow_right (by omega) (show r<64 by omega)) (by decide)
   have hand : ∀ox oy,binop Proofs.Tryz.prog .and 28 ox oy (K64 (wrd v q)) (K64 (2 ^ r - 1))=some (K64 (wrd v q % 2 ^ r)):=fun ox oy=>by
    rw[yX _ _ ox oy _ _ wl (by omega),Nat.and_two_pow_sub_one_eq_mod]
   obtain⟨e2,he2⟩ : ∃e,e=2 ^ r:=⟨_,rfl⟩
   have UR:((2 ^ r:Nat):Int) - 1=((2 ^ r - 1:Nat):Int):=by rw[←he2] at t1 ⊢;omega
   have TP:IntKind.u64.wrap (((2 ^ r:Nat):Int) - 1)=((2 ^ r - 1:Nat):Int):=by
    rw[UR]
    exact dh (Nat.lt_of_le_of_lt (Nat.sub_le _ _) t2)
   clear he2
   simp -dsimp (disch:=try exact dx) only[wpS,wpT,zE,zL,ld3,kS,mb,jY,ba,cj,f0,f2,f3,ai p8,er,eq,d0,gw,ai gw,p2,kS,gq,TP,hand,sp,aj,aC,ay,mP]
   exact⟨by omega,fun j h1 h2=>by rw[ae _ _ (by omega),ae _ _ (by omega),hfr j (by omega) h2 (by omega)];exact E0.get j h1,fun h0 e hk=>((hEx h0 e hk).put (by have:=e.n;omega) _).put (by have:=e.n;omega) _,gk,rfl⟩
end Go.Id
