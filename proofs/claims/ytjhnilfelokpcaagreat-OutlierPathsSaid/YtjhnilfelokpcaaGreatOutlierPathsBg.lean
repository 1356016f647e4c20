/-
  Contracts: package wide: Add and Sub (numbers that are not negative), Cmp. The random numbers of package chance: plain numbers.
-/
import Derived.Test.YtjhnilfelokpcaaGreatOutlierPathsAq
import Derived.Test.YtjhnilfelokpcaaGreatOutlierPathsBf
import Derived.Test.YtjhnilfelokpcaaGreatOutlierPathsAs
import Derived.Test.YtjhnilfelokpcaaGreatOutlierPathsAr
import Derived.Test.YtjhnilfelokpcaaGreatOutlierPathsBa
import Derived.Test.YtjhnilfelokpcaaGreatOutlierPathsBb
import Derived.Test.YtjhnilfelokpcaaGreatOutlierPathsAt
import Derived.Test.YtjhnilfelokpcaaGreatOutlierPathsAv
set_option linter.unusedVariables false
set_option linter.unusedSimpArgs false
set_option linter.defProp false
set_option linter.deprecated false
namespace Go.Id
open Go
open Go.Proofs.Tryz (prog)
open Nat renaming reduceAdd→zA,reduceEqDiff→zE,reduceLeDiff→zL
set_option maxHeartbeats 16000000
theorem Dg:Wi prog 314 5 .nilFunc:=⟨_,YK,by kernel_rfl,rfl⟩
def LY:uW:=[(.int .u8 43,(.func (.func 270) #[] #[])),(.int .u8 45,(.func (.func 271) #[] #[])),(.int .u8 42,(.func (.func 272) #[] #[]))]
theorem LW : ∀e∈LY,∃a,e.1=.int .u8 a:=by
 intro e he
 simp[LY] at he
 rcases he with rfl|rfl|rfl<;>exact⟨_,rfl⟩
theorem BD : ∀{l:uW} {k:Value},(∀e∈l,e.1≠k)→place l k=none
 | [],_,_=>rfl
 | e :: l,k,h=>by
  rw[place,if_neg (h e (by simp)),BD fun x hx=>h x (by simp[hx])]
  rfl
theorem CF {l:uW} {k v:Value} (h : ∀e∈l,e.1≠k):upd l k v=l ++ [(k,v)]:=by
 unfold upd
 rw[BD h]
theorem Rc (k v:Value) (l:uW):asc ((k,v) :: l) k=some v:=by rw[asc,if_pos rfl]
theorem Wa {k k' v:Value} {l:uW} (h:k'≠k):asc ((k',v) :: l) k=asc l k:=by rw[asc,if_neg h]
theorem NY {a b:Int} (h:a≠b):(Value.int .u8 a)≠.int .u8 b:=fun e=>h (by injection e)
theorem XY:asc LY (.int .u8 43)=some (.func (.func 270) #[] #[]):=Rc _ _ _
theorem XW:asc LY (.int .u8 45)=some (.func (.func 271) #[] #[]):=(Wa (NY (by decide))).trans (Rc _ _ _)
theorem AH {h:IH}:WV prog (.func (.func 266) #[] #[]) [] h fun r h'=>Ext h h'∧h'.ext.get h.n=some (.map LY)∧h.n<h'.n∧r=.map (some (2*h.n)):=by
 have kt:=FX (P:=prog) u5
 have u1 : ∀v,mapUpdate prog (h.new (.map [])) 314 (.map (some (2*h.n))) (.int .u8 43) v=some ((h.new (.map [])).put h.n (.map [(.int .u8 43,v)])):=fun v=>by
  rw[oR Dg kt (ab _ _ rfl) ⟨_,rfl⟩ (by simp) v,CF (by simp)]
  rfl
 have u2 : ∀(H:IH) (w v:Value),mapUpdate prog (H.put h.n (.map [(.int .u8 43,w)])) 314 (.map (some (2*h.n))) (.int .u8 45) v=some ((H.put h.n (.map [(.int .u8 43,w)])).put h.n (.map [(.int .u8 43,w),(.int .u8 45,v)])):=fun H w v=>by
  rw[oR Dg kt (aa _ _ rfl) ⟨_,rfl⟩ (by intro e he;simp at he;subst he;exact⟨_,rfl⟩) v,CF (by intro e he;simp at he;subst he;exact NY (by decide))]
  rfl
 have u3 : ∀(H:IH) (w x v:Value),mapUpdate prog (H.put h.n (.map [(.int .u8 43,w),(.int .u8 45,x)])) 314 (.map (some (2*h.n))) (.int .u8 42) v=some ((H.put h.n (.map [(.int .u8 43,w),(.int .u8 45,x)])).put h.n (.map [(.int .u8 43,w),(.int .u8 45,x),(.int .u8 42,v)])):=fun H w x v=>by
  rw[oR Dg kt (aa _ _ rfl) ⟨_,rfl⟩ (by intro e he;simp at he;rcases he with rfl|rfl<;>exact⟨_,rfl⟩) v,CF (by intro e he;simp at he;rcases he with rfl|rfl<;>exact NY (by decide))]
  rfl
 refine enter (nt:=3) (rs:=[.tmp 0]) Proofs.Tryz.func266 rfl rfl rfl (by simp) ?_
 simp -dsimp (disch:=try exact dx) only[wpS,wpT,zE,u1,u2,u3]
 exact⟨((((Ext.refl h).new _).put (Nat.le_refl _) _).put (Nat.le_refl _) _).put (Nat.le_refl _) _,rfl,by omega⟩
theorem Bg {P:Program} {fr:Fr} {mt:TypeId} {m k:Operand} {h h':IH} {mv kv v:Value} (hm:opd fr m=some mv) (hk:opd fr k=some kv) (h1:lookup P h mt mv kv false=some v) (h2:lookup P h' mt mv kv false=some v):fP P fr (.lookup mt m k false) h h'=true :=
 wu (v:=v) (x:=h) (y:=h') (by simp[iop,hm,hk,h1]) (by simp[iop,hm,hk,h2])
theorem KD {h:IH} (a b m:Nat) (ha:a<H8) (hb:b<H8) (sg:Int) (f:Value) (ZV:asc LY (.int .u8 sg)=some f) (hm:m<W8)
  (hf : ∀h1,WV prog f [ku false a,ku false b] h1 fun r h2=>Ext h1 h2∧r=.tuple #[ku false m,.bool false]) :
  WV prog (.func (.func 252) #[] #[]) [wdV a,wdV b,.int .u8 sg] h fun r h'=>Ext h h'∧r=if m<H8 then .tuple #[wdV m,KI 0] else .tuple #[wdV 0,KI 6]:=by
 have kt:=FX (P:=prog) u5
 have aw:a<W8:=by have:=cC;omega
 have bw:b<W8:=by have:=cC;omega
 have ia:wdI a=(a:Int):=by unfold wdI;rw[if_pos ha]
 have ib:wdI b=(b:Int):=by unfold wdI;rw[if_pos hb]
 obtain⟨H0,hH0,n0,E0,k0,k1,k2⟩:=iP h (wdC a) (wdC b) [ZW,ZW,ZW,ZW,ZW,ZW,ZW,ZW]
 refine enter (nt:=27) (rs:=[.cell 6 44,.tmp 7]) Proofs.Tryz.func252 rfl rfl rfl (by simp) ?_
 simp -dsimp (disch:=try exact dx) only[wpS,zE,zA,fo,aY]
 rw[←hH0]
 clear hH0
 have X0:=Ext.refl H0
 have La:load prog H0 44 (ptr (2*h.n) 0)=some (wdV a):=by
  have r:=aj k0
  simp -dsimp (disch:=try exact dx) only[wpS,zL,bL,r,aq,aK]
  rfl
 have Lb:load prog H0 44 (ptr (2*(h.n+1)) 0)=some (wdV b):=by
  have r:=aj k1
  simp -dsimp (disch:=try exact dx) only[wpS,zL,bL,r,aq,aK]
  rfl
 refine drawn [(2,[6,7]),(3,[0]),(5,[0,4])] (by kernel_rfl) (by kernel_rfl) rfl ?_
 simp -dsimp (disch:=try exact dx) only[wpS]
 refine call AH ?_
 rintro _ h1 ⟨X1,gm,mn,rfl⟩
 have m1:=X1.n
 have lk : ∀H,Ext h1 H→lookup prog H 314 (.map (some (2*H0.n))) (.int .u8 sg) false=some f:=fun H X=>by
  rw[HT Dg kt (X.kept mn gm) ⟨_,rfl⟩ LW,ZV];rfl
 simp -dsimp (disch:=try exact dx) only[wpS,zE,zL,bL,lk h1 (Ext.refl _),aj (X1.kept (by omega) k0),aq,aK]
 refine call (xQ a aw) ?_
 rintro _ h2 ⟨X2,rfl⟩
 have m2:=X2.n
 have X12:=X1.trans X2
 rw[ia,decide_eq_false (by omega),Int.natAbs_natCast]
 simp -dsimp (disch:=try exact dx) only[wpS,zE,zL,bL,aj (X12.kept (by omega) k1),aq,aK]
 refine call (xQ b bw) ?_
 rintro _ h3 ⟨X3,rfl⟩
 have m3:=X3.n
 have X13:=X12.trans X3
 rw[ib,decide_eq_false (by omega),Int.natAbs_natCast]
 simp -dsimp (disch:=try exact dx) only[wpS,zE]
 refine call (hf h3) ?_
 rintro _ h4 ⟨X4,rfl⟩
 have m4:=X4.n
 have X14:=X13.trans X4
 have q2:=X14.kept (by omega) k2
 have Z1:=Ext.refl h1
 have X23:=X2.trans X3
 simp -dsimp (disch:=try exact dx) only[wpS,wpT,zE,zL,zA,rH,pC,dR,aq,aM,bf]
 refine⟨ba (aX (ao rfl rfl rfl rfl (Bg rfl rfl (lk h1 Z1) (lk h2 X2))) (ao rfl rfl rfl rfl (Bg rfl rfl (lk h1 Z1) (lk h3 X23)))) (ba (ao rfl rfl rfl rfl (aD (H0:=H0) rfl (by omega) X1 X0 La)) (aX (ao rfl rfl rfl rfl (aD (H0:=H0) rfl (by omega) X12 X0 Lb)) (ao rfl rfl rfl rfl (aD (H0:=H0) rfl (by omega) X12 X1 Lb)))),?_⟩
 simp -dsimp (disch:=try exact dx) only[wpS,wpT,zE,zL,zA,pG,eo,aq,show(.agg (Value.bool false :: wdC m).toArray:Value)=ku false m from rfl]
 refine call (zj false m hm) ?_
 rintro _ h5 ⟨X5,rfl⟩
 have e4:Ext h4 ((h4.new (.cells [.bool false,ZW,ZW,ZW,ZW,ZW,ZW,ZW,ZW] 0 none)).put h4.n (.cells (.bool false :: wdC m) 0 none)):=((Ext.refl _).new _).put (Nat.le_refl _) _
 have q4:((h4.new (.cells [.bool false,ZW,ZW,ZW,ZW,ZW,ZW,ZW,ZW] 0 none)).put h4.n (.cells (.bool false :: wdC m) 0 none)).ext.get (h.n+1+1)=some (.cells [ZW,ZW,ZW,ZW,ZW,ZW,ZW,ZW] 0 none):=e4.kept (by omega) q2
 have q5:=X5.kept (by simp only[ax,ay];omega) q4
 have m5:=X5.n
 simp only[ax,ay] at m5
 have EE:=((E0.trans X14).trans e4).trans X5
 by_cases cm:m<H8
 ·rw[if_neg (show ¬(H8<m∨(m=H8∧false=false)) from fun hh=>by rcases hh with h|⟨h,_⟩<;>omega),if_neg (show ¬(false=true) by decide),if_pos cm]
  simp -dsimp (disch:=try exact dx) only[wpS,wpT,zE,zL,zA,bL,dr,q5,aY,aq,aM,bf,aK]
  exact⟨EE.put (by omega) _,rfl⟩
 ·rw[if_pos (show(H8<m∨(m=H8∧false=false)) from by by_cases hh:H8<m;exact .inl hh;exact .inr ⟨by omega,rfl⟩),if_neg cm]
  simp -dsimp (disch:=try exact dx) only[wpS,wpT,zE,zL,zA,bL,dr,q5,aY,aq,aM,bf,aK]
  exact⟨EE.put (by omega) _,rfl⟩
theorem KP (a b:Nat) (ha:a<H8) (hb:b<H8):a+b<W8:=by have:=cC;omega
theorem NT {h:IH} (a b:Nat) (ha:a<H8) (hb:b<H8):WV prog (.func (.func 223) #[] #[]) [wdV a,wdV b] h fun r h'=>Ext h h'∧r=if a+b<H8 then .tuple #[wdV (a+b),KI 0] else .tuple #[wdV 0,KI 6]:=by
 have w0:(0:Nat)<W8:=by have:=cC;have:=jq;omega
 obtain⟨H0,hH0,n0,E0,k0,k1,k2⟩:=iP h (wdC a) (wdC b) [ZW,ZW,ZW,ZW,ZW,ZW,ZW,ZW]
 refine enter (nt:=11) (rs:=[.cell 4 44,.tmp 5]) Proofs.Tryz.func223 rfl rfl rfl (by simp) ?_
 simp -dsimp (disch:=try exact dx) only[wpS,zE,zL,zA,fo,bL,aY,aq,aK]
 rw[←hH0]
 clear hH0
 refine call (KD a b (a+b) ha hb 43 _ XY (KP a b ha hb) (fun h1=>Oa a b (KP a b ha hb))) ?_
 rintro _ h1 ⟨X1,rfl⟩
 have q2:=X1.kept (by omega) k2
 by_cases c:a+b<H8
 ·rw[if_pos c]
  simp -dsimp (disch:=try exact dx) only[wpS,wpT,zE,zL,zA,bL,dr,q2,aY,aq,aM,bf,aK]
  exact⟨(E0.trans X1).put (by omega) _,rfl⟩
 ·rw[if_neg c]
  simp -dsimp (disch:=try exact dx) only[wpS,wpT,zE,zL,zA,bL,dr,q2,aY,aq,aM,bf,aK]
  exact⟨(E0.trans X1).put (by omega) _,rfl⟩
theorem Ny {h:IH} (a b:Nat) (ha:a<H8) (b0:0<b) (hab:b≤a):WV prog (.func (.func 254) #[] #[]) [wdV a,wdV b] h fun r h'=>Ext h h'∧r=.tuple #[wdV (a - b),KI 0]:=by
 obtain⟨H0,hH0,n0,E0,k0,k1,k2⟩:=iP h (wdC a) (wdC b) [ZW,ZW,ZW,ZW,ZW,ZW,ZW,ZW]
 refine enter (nt:=11) (rs:=[.cell 4 44,.tmp 5]) Proofs.Tryz.func254 rfl rfl rfl (by simp) ?_
 simp -dsimp (disch:=try exact dx) only[wpS,zE,zL,zA,fo,bL,aY,aq,aK]
 rw[←hH0]
 clear hH0
 have aw:a<W8:=by have:=cC;omega
 refine call (KD a b (a - b) ha (by omega) 45 _ XW (by omega) (fun h1=>AP a b aw b0 hab)) ?_
 rintro _ h1 ⟨X1,rfl⟩
 have q2:=X1.kept (by omega) k2
 rw[if_pos (show a - b<H8 by omega)]
 simp -dsimp (disch:=try exact dx) only[wpS,wpT,zE,zL,zA,bL,dr,q2,aY,aq,aM,bf,aK]
 exact⟨(E0.trans X1).put (by omega) _,rfl⟩
end Go.Id

namespace Go.Id
def nxS (s : Nat) : Nat := (s + 11400714819323198485) % 18446744073709551616
def rD (z : Nat) : Nat := (z ^^^ z / 1073741824) * 13787848793156543929 % 18446744073709551616
def AJ (z : Nat) : Nat := (z ^^^ z / 134217728) * 10723151780598845931 % 18446744073709551616
def Sl (z : Nat) : Nat := z ^^^ z / 2147483648
def nxO (s : Nat) : Nat := Sl (AJ (rD (nxS s)))
theorem zg (s : Nat) : nxS s < 18446744073709551616 := Nat.mod_lt _ (by omega)
theorem JU (s : Nat) : rD s < 18446744073709551616 := Nat.mod_lt _ (by omega)
theorem Df (s : Nat) : AJ s < 18446744073709551616 := Nat.mod_lt _ (by omega)
theorem Sk {s : Nat} (h : s < 18446744073709551616) : Sl s < 18446744073709551616 :=
  Nat.xor_lt_two_pow (n := 64) h (Nat.lt_of_le_of_lt (Nat.div_le_self _ _) h)
theorem zh (s : Nat) : nxO s < 18446744073709551616 := Sk (Df _)
def ni (n : Nat) : Nat := 18446744073709551616 / n * n
theorem FP {n : Nat} (h0 : 0 < n) (hn : n < 18446744073709551616) : (18446744073709551616 - n) % n = 18446744073709551616 - ni n ∧ ni n ≤ 18446744073709551616 ∧ n ≤ ni n := by
  unfold ni
  have h1 := Nat.div_add_mod 18446744073709551616 n
  have h2 : 18446744073709551616 % n = (18446744073709551616 - n) % n := by
    rw [Nat.mod_eq_sub_mod (Nat.le_of_lt hn)]
  have h3 : 1 ≤ 18446744073709551616 / n := (Nat.one_le_div_iff h0).2 (Nat.le_of_lt hn)
  have h4 : 1 * n ≤ 18446744073709551616 / n * n := Nat.mul_le_mul_right _ h3
  rw [Nat.mul_comm] at h1
  generalize 18446744073709551616 / n * n = m at *
  omega
theorem Us : ∃ T : Nat, T = 200 := ⟨200, rfl⟩
noncomputable def TR : Nat := Classical.choose Us
theorem Ct : TR = 200 := Classical.choose_spec Us
def fM (n : Nat) : Nat → Nat → Option (Nat × Nat)
  | 0, _ => none
  | k + 1, s => if nxO s < ni n then some (nxO s % n, nxS s) else fM n k (nxS s)
theorem rr {n k s x t : Nat} (h0 : 0 < n) (h : fM n k s = some (x, t)) : x < n ∧ t < 18446744073709551616 := by
  induction k generalizing s with
  | zero => cases h
  | succ k ih =>
    rw [fM] at h
    split at h
    · cases h; exact ⟨Nat.mod_lt _ h0, zg _⟩
    · exact ih h
def cf : Nat → Nat → Nat × Nat
  | 0, s => (0, s)
  | m + 1, s => ((cf m s).1 + nxO (cf m s).2 * 18446744073709551616 ^ m, nxS (cf m s).2)
theorem qD (m s : Nat) : (cf m s).1 < 18446744073709551616 ^ m := by
  induction m with
  | zero => exact Nat.one_pos
  | succ m ih =>
    have h1 := zh (cf m s).2
    have h2 : (nxO (cf m s).2 + 1) * 18446744073709551616 ^ m ≤ 18446744073709551616 * 18446744073709551616 ^ m := Nat.mul_le_mul_right _ h1
    rw [cf, Nat.pow_succ, Nat.mul_comm (18446744073709551616 ^ m)]
    rw [Nat.add_mul, Nat.one_mul] at h2
    generalize 18446744073709551616 ^ m = p at *
    show (cf m s).1 + nxO (cf m s).2 * p < _
    omega
theorem qC {m s : Nat} (h : s < 18446744073709551616) : (cf m s).2 < 18446744073709551616 := by
  cases m with
  | zero => exact h
  | succ m => exact zg _
def ph (n : Nat) : Nat := if n = 0 then 0 else Nat.log2 n + 1
theorem ou (n N : Nat) : N < ph n ↔ 2 ^ N ≤ n := by
  unfold ph
  by_cases h : n = 0
  · subst h
    have := Nat.two_pow_pos N
    rw [if_pos rfl]; omega
  · rw [if_neg h, Nat.lt_succ_iff, Nat.le_log2 h]
theorem KK {n k : Nat} (h : ∀ N, N < k ↔ 2 ^ N ≤ n) : k = ph n := by
  have h1 : ∀ N, N < k ↔ N < ph n := fun N => (h N).trans (ou n N).symm
  have a := h1 k
  have b := h1 (ph n)
  omega
def mF (n k : Nat) : Nat → Nat → Option (Nat × Nat)
  | 0, _ => none
  | t + 1, s => if (cf ((k + 63) / 64) s).1 % 2 ^ k < n then some ((cf ((k + 63) / 64) s).1 % 2 ^ k, (cf ((k + 63) / 64) s).2) else mF n k t (cf ((k + 63) / 64) s).2
theorem NJ {n k t s x u : Nat} (hs : s < 18446744073709551616) (h : mF n k t s = some (x, u)) : x < n ∧ u < 18446744073709551616 := by
  induction t generalizing s with
  | zero => cases h
  | succ t ih =>
    rw [mF] at h
    split at h
    · rename_i hx; cases h; exact ⟨hx, qC hs⟩
    · exact ih (qC hs) h
noncomputable def jx (n s : Nat) : Option (Nat × Nat) := if ph (n - 1) = 0 then some (0, s) else mF n (ph (n - 1)) TR s
theorem mq {n s x u : Nat} (h0 : 0 < n) (hs : s < 18446744073709551616) (h : jx n s = some (x, u)) : x < n ∧ u < 18446744073709551616 := by
  unfold jx at h
  split at h
  · cases h; exact ⟨h0, hs⟩
  · exact NJ hs h
def ck (l : List Nat) : Nat → Nat
  | 0 => 0
  | i + 1 => ck l i + l.getD i 0
theorem jE (l : List Nat) {i j : Nat} (h : i ≤ j) : ck l i ≤ ck l j := by
  induction j with
  | zero => obtain rfl : i = 0 := by omega
            exact Nat.le_refl _
  | succ j ih =>
    by_cases c : i = j + 1
    · subst c; exact Nat.le_refl _
    · have := ih (by omega)
      rw [ck]; omega
def gX (l : List Nat) (x : Nat) : Nat → Nat → Nat
  | 0, k => k
  | f + 1, k => if ck l (k + 1) ≤ x then gX l x f (k + 1) else k
theorem O5 {l : List Nat} {x f k : Nat} (h : x < ck l (k + f)) (h0 : k ≤ 0 ∨ ck l k ≤ x) : k ≤ gX l x f k ∧ gX l x f k < k + f ∧ ck l (gX l x f k) ≤ x ∧ x < ck l (gX l x f k + 1) := by
  have z : ck l k ≤ x := by
    rcases h0 with h0 | h0
    · obtain rfl : k = 0 := by omega
      exact Nat.zero_le _
    · exact h0
  induction f generalizing k with
  | zero => rw [Nat.add_zero] at h; omega
  | succ f ih =>
    rw [gX]
    split
    · rename_i hle
      have := ih (k := k + 1) (by rw [show k + 1 + f = k + (f + 1) by omega]; exact h) (.inr hle) hle
      omega
    · rename_i hn
      omega
theorem LS {l : List Nat} {x : Nat} (h : x < ck l l.length) : gX l x l.length 0 < l.length ∧ 0 < l.getD (gX l x l.length 0) 0 := by
  obtain ⟨_, h1, h2, h3⟩ := O5 (l := l) (x := x) (f := l.length) (k := 0) (by rw [Nat.zero_add]; exact h) (.inl (Nat.le_refl _))
  rw [ck] at h3
  omega
end Go.Id

namespace Go.Id
open Go
open Go.Proofs.Tryz (prog)
open Nat renaming reduceAdd→zA,reduceEqDiff→zE,reduceLeDiff→zL
set_option maxHeartbeats 16000000
theorem nm (P:Program) (t:TypeId) (ox oy:Operand) (a b:Nat) (ha:a<18446744073709551616) (hb:b<18446744073709551616):binop P .xor t ox oy (.int .u64 a) (.int .u64 b)=some (.int .u64 ((a ^^^ b:Nat):Int)):=by
 have e:(BitVec.ofInt 64 (a:Int) ^^^ BitVec.ofInt 64 (b:Int)).toNat=a ^^^ b:=by simp[Nat.mod_eq_of_lt ha,Nat.mod_eq_of_lt hb]
 rw[rX,show(BitVec.ofInt IntKind.u64.bits (a:Int) ^^^ BitVec.ofInt IntKind.u64.bits (b:Int)).toNat=a ^^^ b from e,di (Nat.xor_lt_two_pow (n:=64) ha hb)]
theorem CP (P:Program) (t:TypeId) (ox oy:Operand) {z:Nat} (hz:z<18446744073709551616) (n:Nat) (hn:n≤64):binop P .shr t ox oy (.int .u64 (z:Int)) (.int .u64 (n:Int))=some (.int .u64 ((z / 2 ^ n:Nat):Int)):=by
 rw[Oo P t ox oy (by omega) (by omega),Int.toNat_natCast,Int.toNat_natCast,l8,Nat.shiftRight_eq_div_pow]
theorem CZ (P:Program) (t:TypeId) (ox oy:Operand) {z:Nat} (hz:z<18446744073709551616) (n:Nat) (hn:0<n):binop P .quo t ox oy (.int .u64 (z:Int)) (.int .u64 (n:Int))=some (.int .u64 ((z / n:Nat):Int)):=by
 rw[OQ P t ox oy (by omega) (by omega),Int.natCast_ediv]
theorem qM {P:Program} {t:TypeId} {z:Nat} (hz:z<18446744073709551616) (c:Nat) (ox oy:Operand):binop P .xor t ox oy (.int .u64 (z:Int)) (.int .u64 ((z / c:Nat):Int))=some (.int .u64 ((z ^^^ z / c:Nat):Int)) :=
 nm P t ox oy z (z / c) hz (Nat.lt_of_le_of_lt (Nat.div_le_self _ _) hz)
theorem AW (z:Nat):IntKind.u64.wrap (((z ^^^ z / 1073741824:Nat):Int)*13787848793156543929)=((rD z:Nat):Int):=by
 unfold rD
 show(((z ^^^ z / 1073741824:Nat):Int)*13787848793156543929) % 18446744073709551616=_
 omega
theorem AV (z:Nat):IntKind.u64.wrap (((z ^^^ z / 134217728:Nat):Int)*10723151780598845931)=((AJ z:Nat):Int):=by
 unfold AJ
 show(((z ^^^ z / 134217728:Nat):Int)*10723151780598845931) % 18446744073709551616=_
 omega
theorem IT (s:Nat):IntKind.u64.wrap ((s:Int)+11400714819323198485)=((nxS s:Nat):Int):=by
 unfold nxS
 show((s:Int)+11400714819323198485) % 18446744073709551616=_
 omega
theorem JS {h:IH} {k s:Nat} (g:h.ext.get k=some (.cells [K64 s] 0 none)) :
  WV prog (.func (.func 224) #[ptr (2*k) 0] #[]) [] h fun r h'=>h'=h.put k (.cells [K64 (nxS s)] 0 none)∧r=K64 (nxO s):=by
 refine enter (nt:=32) (rs:=[.tmp 2]) Proofs.Tryz.func224 rfl rfl rfl (by simp) ?_
 have g1:(h.put k (.cells [K64 (nxS s)] 0 none)).ext.get k=some (.cells [K64 (nxS s)] 0 none):=by simp (disch:=try exact dx) only[aa]
 have b1:=zg s
 have s1 : ∀ox oy,binop prog .shr 42 ox oy (K64 (nxS s)) (.int .u64 30)=some (K64 (nxS s / 1073741824)):=fun ox oy=>CP _ _ ox oy b1 30 (by decide)
 have x1:=qM (P:=prog) (t:=42) b1 1073741824
 simp -dsimp (disch:=try exact dx) only[wpS,wpT,zE,zL,DF,P6,kB,nJ,aj g,aj g1,IT,g,s1,x1,AW]
 rw[show nxO s=Sl (AJ (rD (nxS s))) from rfl]
 generalize nxS s=z
 have b2:=JU z
 have s2 : ∀ox oy,binop prog .shr 42 ox oy (K64 (rD z)) (.int .u64 27)=some (K64 (rD z / 134217728)):=fun ox oy=>CP _ _ ox oy b2 27 (by decide)
 have x2:=qM (P:=prog) (t:=42) b2 134217728
 simp -dsimp (disch:=try exact dx) only[wpS,zE,s2,x2,AV]
 have b3:=Df (rD z)
 have s3 : ∀ox oy,binop prog .shr 42 ox oy (K64 (AJ (rD z))) (.int .u64 31)=some (K64 (AJ (rD z) / 2147483648)):=fun ox oy=>CP _ _ ox oy b3 31 (by decide)
 have x3:=qM (P:=prog) (t:=42) b3 2147483648
 simp -dsimp (disch:=try exact dx) only[wpS,wpT,zE,s3,x3]
 rfl
def chV (s:Nat):Value:=.agg #[K64 s]
theorem tk1 (a:Value):List.take 1 (List.drop 0 [a]) = [a]:=rfl
theorem EY {h:IH} {s:Nat} (hs:s<18446744073709551616) :
  WV prog (.func (.func 182) #[] #[]) [chV s] h fun r h'=>Ext h h'∧r=.tuple #[K64 (nxO s),chV (nxS s)]:=by
 have E1:Ext h ((h.new (.cells [K64 s] 0 none)).new (.cells [K64 0] 0 none)):=((Ext.refl h).new _).new _
 have g1:((h.new (.cells [K64 s] 0 none)).new (.cells [K64 0] 0 none)).ext.get h.n=some (.cells [K64 s] 0 none):=by simp (disch:=try exact dx) only[ab,ar]
 have g2:((h.new (.cells [K64 s] 0 none)).new (.cells [K64 0] 0 none)).ext.get (h.n+1)=some (.cells [K64 0] 0 none):=by simp (disch:=try exact dx) only[ab]
 have b1:=zg s
 refine enter (nt:=26) (rs:=[.tmp 2,.cell 3 63]) Proofs.Tryz.func182 rfl rfl rfl (by simp) ?_
 have s1 : ∀ox oy,binop prog .quo 42 ox oy (K64 (nxS s)) (.int .u64 1073741824)=some (K64 (nxS s / 1073741824)):=fun ox oy=>CZ _ _ ox oy b1 1073741824 (by decide)
 have x1:=qM (P:=prog) (t:=42) b1 1073741824
 simp -dsimp (disch:=try exact dx) only[wpS,zE,jr,P6,kB,chV,IT,s1,x1,AW]
 rw[show nxO s=Sl (AJ (rD (nxS s))) from rfl]
 generalize nxS s=z
 have b2:=JU z
 have s2 : ∀ox oy,binop prog .quo 42 ox oy (K64 (rD z)) (.int .u64 134217728)=some (K64 (rD z / 134217728)):=fun ox oy=>CZ _ _ ox oy b2 134217728 (by decide)
 have x2:=qM (P:=prog) (t:=42) b2 134217728
 simp -dsimp (disch:=try exact dx) only[wpS,zE,s2,x2,AV]
 have b3:=Df (rD z)
 have s3 : ∀ox oy,binop prog .quo 42 ox oy (K64 (AJ (rD z))) (.int .u64 2147483648)=some (K64 (AJ (rD z) / 2147483648)):=fun ox oy=>CZ _ _ ox oy b3 2147483648 (by decide)
 have x3:=qM (P:=prog) (t:=42) b3 2147483648
 simp -dsimp (disch:=try exact dx) only[wpS,wpT,zE,zL,eX,U2,dj,bZ,s3,x3,tk1]
 exact⟨E1.put (by omega) _,rfl⟩
theorem Ch {h:IH} {s:Nat}:WV prog (.func (.func 174) #[] #[]) [chV s] h fun r h'=>h'=(h.new (.cells [K64 s] 0 none)).new (.cells [K64 s] 0 none)∧r=ptr (2*(h.n+1)) 0:=by
 have g1:(h.new (.cells [K64 s] 0 none)).ext.get h.n=some (.cells [K64 s] 0 none):=by simp (disch:=try exact dx) only[ab]
 refine enter (nt:=7) (rs:=[.tmp 2]) Proofs.Tryz.func174 rfl rfl rfl (by simp) ?_
 simp -dsimp (disch:=try exact dx) only[wpS,wpT,zE,zL,bZ,XR,R5,XQ,R4,chV,aj g1,tk1]
theorem M8 {h:IH} {F:Value} (cF:F.cells = #[F]) (cO:aH F=true):WV prog (.func (.func 225) #[] #[]) [F] h fun r h'=>h'=h.new (.cells [F] 0 none)∧r=.func (.func 253) #[] #[ptr (2*h.n) 0]:=by
 refine enter (nt:=4) (rs:=[.tmp 2]) Proofs.Tryz.func225 rfl rfl rfl (by simp) ?_
 simp -dsimp (disch:=try exact dx) only[wpS,wpT,zE,cF]
set_option maxRecDepth 100000 in
theorem Ix {h:IH} {b:Nat} {F y:Value} (J:Nat→IH→Prop) (Fin:IH→Prop) (j0:J 0 h) (jb : ∀i hh,J i hh→hh.ext.get b=some (.cells [F] 0 none))
  (st : ∀i hh,i<TR→J i hh→WV prog F [] hh fun x h1=>WV prog y [x] h1 fun r h2=>(r=.bool true∧J (i+1) h2)∨(r=.bool false∧Fin h2)) :
  WV prog (.func (.func 253) #[] #[ptr (2*b) 0]) [y] h fun _ h'=>J TR h'∨Fin h':=by
 refine enter (nt:=11) (rs:=[]) Proofs.Tryz.func253 rfl rfl rfl (by simp) ?_
 simp -dsimp (disch:=try exact dx) only[wpS,zA]
 have hT:=Ct
 refine loop (fun m fr hh => ∃i:Nat,i+m=TR∧J i hh∧ai fr 0=some y∧ai fr 1=some (ptr (2*b) 0)∧ai fr 3=some (KN i)) TR
  ⟨0,by omega,j0,by simp,by simp,by simp⟩ ?_
 rintro m fr hh ⟨i,him,hj,f0,f1,f3⟩
 simp -dsimp (disch:=try exact dx) only[wpS,f3]
 refine aA ?_ ?_<;>intro hc<;>simp only[decide_eq_true_eq,decide_eq_false_iff_not] at hc
 ·have g:=jb i hh hj
  simp -dsimp (disch:=try exact dx) only[wpS,wpT,zE,WT,f0,f1,aj g]
  refine call (st i hh (by omega) hj) ?_
  intro x h1 w1
  simp -dsimp (disch:=try exact dx) only[wpS,zE]
  refine call w1 ?_
  rintro _ h2 (⟨rfl,w2⟩|⟨rfl,w2⟩)
  ·simp -dsimp (disch:=try exact dx) only[wpS,wpT,zE,f3]
   exact⟨m - 1,by omega,i+1,by omega,w2,by simp[f0],by simp[f1],by simp⟩
  ·simp -dsimp (disch:=try exact dx) only[wpS,wpT,zE]
   exact .inr w2
 ·obtain rfl:i=TR:=by omega
  simp -dsimp (disch:=try exact dx) only[wpS,wpT]
  exact .inl hj
end Go.Id

namespace Go.Id
open Go
open Nat renaming reduceAdd→zA,reduceEqDiff→zE,reduceLeDiff→zL
set_option maxHeartbeats 16000000
theorem NC {n:Nat} (h0:0<n) (hn:n<18446744073709551616):IntKind.u64.wrap (-(n:Int))=((18446744073709551616 - n:Nat):Int):=by
 show(-(n:Int)) % 18446744073709551616=_
 omega
theorem RW (P:Program) (t:TypeId) (ox oy:Operand) (a n:Nat) (hn:0<n):binop P .rem t ox oy (.int .u64 (a:Int)) (.int .u64 (n:Int))=some (.int .u64 ((a % n:Nat):Int)):=by
 rw[rk P t ox oy (by omega),Int.tmod_eq_emod_of_nonneg (by omega),Int.natCast_emod]
theorem Lu {h0 h:IH} {k s n:Nat} (E:Ext h0 h) (hk:h0.n≤k) (hk2:k<h.n) (g:h.ext.get k=some (.cells [K64 s] 0 none)) (n0:0<n) (hn:n<18446744073709551616) :
  WV Proofs.Tryz.prog (.func (.func 175) #[] #[]) [ptr (2*k) 0,K64 n] h fun r h'=>Ext h0 h'∧h.n≤h'.n∧((∃x t,fM n TR s=some (x,t)∧r=.tuple #[K64 x,KI 0]∧h'.ext.get k=some (.cells [K64 t] 0 none))∨(fM n TR s=none∧r=.tuple #[K64 0,KI 9])):=by
 obtain⟨l1,l2,l3⟩:=FP n0 hn
 obtain⟨R,hR⟩ : ∃R,R=18446744073709551616 - ni n:=⟨_,rfl⟩
 have rb:R<18446744073709551616:=by omega
 have wn:=NC n0 hn
 have hr : ∀ox oy,binop Proofs.Tryz.prog .rem 42 ox oy (K64 (18446744073709551616 - n)) (K64 n)=some (K64 R):=fun ox oy=>by
  rw[hR,←l1];exact RW _ _ ox oy _ n n0
 obtain⟨A,wA⟩ : ∃A:Nat,IntKind.u64.wrap (-(R:Int))=(A:Int)∧IntKind.u64.wrap ((A:Int) - 1)=((ni n - 1:Nat):Int):=by
  by_cases c:R=0
  ·refine⟨0,by rw[c];rfl,?_⟩
   show(((0:Nat):Int) - 1) % 18446744073709551616=_
   omega
  ·refine⟨ni n,?_,?_⟩
   ·show(-(R:Int)) % 18446744073709551616=_
    omega
   ·show(((ni n:Nat):Int) - 1) % 18446744073709551616=_
    omega
 obtain⟨wA,wB⟩:=wA
 have gx1:(((h.new (.cells [K64 n] 0 none)).new (.cells [.int .u64 0] 0 none)).new (.cells [KI 0] 0 none)).ext.get h.n=some (.cells [K64 n] 0 none):=by simp (disch:=try exact dx) only[ab,ar]
 obtain⟨H1,hH1⟩ : ∃H,H=((((h.new (.cells [K64 n] 0 none)).new (.cells [.int .u64 0] 0 none)).new (.cells [KI 0] 0 none)).new (.cells [.int .u64 0] 0 none)).put (h.n+1+1+1) (.cells [K64 R] 0 none):=⟨_,rfl⟩
 have n1:H1.n=h.n+4:=by rw[hH1];rfl
 have E1:Ext h H1:=by rw[hH1];exact((((Ext.refl h).new _).new _).new _).new _ |>.put (by omega) _
 have c1:H1.ext.get h.n=some (.cells [K64 n] 0 none):=by rw[hH1];simp (disch:=try exact dx) only[ab,ar,ah]
 have c2:H1.ext.get (h.n+1)=some (.cells [.int .u64 0] 0 none):=by rw[hH1];simp (disch:=try exact dx) only[ab,ar,ah]
 have c3:H1.ext.get (h.n+2)=some (.cells [KI 0] 0 none):=by rw[hH1];simp (disch:=try exact dx) only[ab,ar,ah]
 have c4:H1.ext.get (h.n+3)=some (.cells [K64 R] 0 none):=by rw[hH1];simp (disch:=try exact dx) only[aa]
 refine enter (nt:=32) (rs:=[.cell 4 42,.cell 5 33]) Proofs.Tryz.func175 rfl rfl rfl (by simp) ?_
 simp -dsimp (disch:=try exact dx) only[wpS,wpT,zE,zL,zA,YI,GN,yd,kB,nJ,aj gx1,wn,hr]
 rw[←hH1]
 clear hH1
 obtain⟨F,hF⟩ : ∃F,F=(.func (.func 224) #[ptr (2*k) 0] #[]:Value):=⟨_,rfl⟩
 rw[←hF]
 refine call (M8 (F:=F) (by rw[hF];rfl) (by rw[hF];rfl)) ?_
 rintro _ _ ⟨rfl,rfl⟩
 obtain⟨H2,hH2⟩ : ∃H,H=H1.new (.cells [F] 0 none):=⟨_,rfl⟩
 have n2:H2.n=h.n+5:=by rw[hH2,ax];omega
 have E2:Ext H1 H2:=by rw[hH2];exact(Ext.refl _).new _
 have cF:H2.ext.get H1.n=some (.cells [F] 0 none):=by rw[hH2];simp (disch:=try exact dx) only[ab]
 rw[←hH2]
 clear hH2
 simp -dsimp (disch:=try exact dx) only[wpS]
 refine OP (p:=19) (nt:=32) rfl rfl (by decide) (fun r y hfn hnt hbd hy=>?_)
 have hT:=Ct
 have EE:=E.trans (E1.trans E2)
 have en:=EE.n
 let J:Nat→IH→Prop:=fun i hh => ∃si,Ext h0 hh∧H2.n<hh.n∧hh.ext.get H2.n=some (.loop r)∧hh.ext.get H1.n=some (.cells [F] 0 none)∧hh.ext.get k=some (.cells [K64 si] 0 none)∧hh.ext.get h.n=some (.cells [K64 n] 0 none)∧hh.ext.get (h.n+1)=some (.cells [.int .u64 0] 0 none)∧hh.ext.get (h.n+2)=some (.cells [KI 0] 0 none)∧hh.ext.get (h.n+3)=some (.cells [K64 R] 0 none)∧fM n TR s=fM n (TR - i) si
 let Fin:IH→Prop:=fun hh => ∃x t,fM n TR s=some (x,t)∧Ext h0 hh∧H2.n<hh.n∧hh.ext.get H2.n=some (.loop (wX r .ret))∧hh.ext.get k=some (.cells [K64 t] 0 none)∧hh.ext.get (h.n+1)=some (.cells [K64 x] 0 none)∧hh.ext.get (h.n+2)=some (.cells [KI 0] 0 none)
 have gk:=(E1.trans E2).kept hk2 g
 have J0:J 0 (H2.new (.loop r)):=by
  refine⟨s,EE.new _,by simp,ab _ _ rfl,?_,?_,?_,?_,?_,?_,rfl⟩
  ·rw[ar _ _ (by omega)];exact cF
  ·rw[ar _ _ (by omega)];exact gk
  ·rw[ar _ _ (by omega)];exact E2.kept (by omega) c1
  ·rw[ar _ _ (by omega)];exact E2.kept (by omega) c2
  ·rw[ar _ _ (by omega)];exact E2.kept (by omega) c3
  ·rw[ar _ _ (by omega)];exact E2.kept (by omega) c4
 refine WV.mono (Ix (b:=H1.n) (F:=F) (y:=y) J Fin J0 (fun i hh hj=>by obtain⟨_,_,_,_,a,_⟩:=hj;exact a) ?_) ?_
 ·rintro i hh hi ⟨si,a1,a2,a3,a4,a5,a6,a7,a8,a9,a10⟩
  rw[hF]
  refine WV.mono (JS a5) ?_
  rintro _ _ ⟨rfl,rfl⟩
  obtain⟨H3,hH3⟩ : ∃H,H=hh.put k (.cells [K64 (nxS si)] 0 none):=⟨_,rfl⟩
  have an:=a1.n
  have e3:Ext h0 H3:=by rw[hH3];exact a1.put hk _
  have n3:H3.n=hh.n:=by rw[hH3];rfl
  have z0 : ∀j,j≠k→H3.ext.get j=hh.ext.get j:=fun j hj=>by rw[hH3];exact ah _ _ hj
  have b5:H3.ext.get k=some (.cells [K64 (nxS si)] 0 none):=by rw[hH3];simp (disch:=try exact dx) only[aa]
  rw[←hH3]
  clear hH3
  have b3:=(z0 H2.n (by omega)).trans a3
  have b4:=(z0 H1.n (by omega)).trans a4
  have b6:=(z0 h.n (by omega)).trans a6
  have b7:=(z0 (h.n+1) (by omega)).trans a7
  have b8:=(z0 (h.n+2) (by omega)).trans a8
  have b9:=(z0 (h.n+3) (by omega)).trans a9
  obtain⟨x,hx⟩ : ∃x,x=nxO si:=⟨_,rfl⟩
  have xb:=zh si
  rw[←hx] at xb ⊢
  refine hy _ _ _ b3 ?_
  simp -dsimp (disch:=try exact dx) only[wpS,zE]
  refine⟨rfl,b3,?_⟩
  rw[hfn,hnt,hbd]
  obtain⟨H6,hH6⟩ : ∃H,H=H3.put H2.n (.loop (xh r)):=⟨_,rfl⟩
  have e6:Ext h0 H6:=by rw[hH6];exact e3.put (by omega) _
  have w0 : ∀j,j≠H2.n→H6.ext.get j=H3.ext.get j:=fun j hj=>by rw[hH6];exact ah _ _ hj
  have zl:H6.ext.get H2.n=some (.loop (xh r)):=by rw[hH6];exact aa _ _ rfl
  have zn:H6.n=H3.n:=by rw[hH6];rfl
  rw[←hH6]
  clear hH6
  have d4:=(w0 H1.n (by omega)).trans b4
  have d5:=(w0 k (by omega)).trans b5
  have d6:=(w0 h.n (by omega)).trans b6
  have d7:=(w0 (h.n+1) (by omega)).trans b7
  have d8:=(w0 (h.n+2) (by omega)).trans b8
  have d9:=(w0 (h.n+3) (by omega)).trans b9
  obtain⟨q,hq⟩ : ∃q,TR - i=q+1:=⟨TR - i - 1,by omega⟩
  have a11:=a10
  rw[hq,fM,←hx] at a11
  by_cases hc:x<ni n
  ·rw[if_pos hc] at a11
   have dc:decide ((x:Int)≤((ni n - 1:Nat):Int))=true:=decide_eq_true (by omega)
   simp -dsimp (disch:=try exact dx) only[wpS,wpT,zE,zL,kB,nJ,AB,aj d9,aj d6,wA,wB,dc,d7,d8]
   rw[←Int.natCast_emod]
   refine⟨by rw[ah _ _ (by omega),ah _ _ (by omega)];exact zl,.inr ⟨rfl,x % n,nxS si,a11,((e6.put (by omega) _).put (by omega) _).put (by omega) _,by show H2.n<H6.n;omega,aa _ _ rfl,?_,?_,?_⟩⟩
   ·rw[ah _ _ (by omega),ah _ _ (by omega),ah _ _ (by omega)];exact d5
   ·rw[ah _ _ (by omega),ah _ _ (by omega)];exact aa _ _ rfl
   ·rw[ah _ _ (by omega)];exact aa _ _ rfl
  ·rw[if_neg hc] at a11
   have dc:decide ((x:Int)≤((ni n - 1:Nat):Int))=false:=decide_eq_false (by omega)
   have d0:((R:Int) == 0)=false:=by simp;omega
   simp -dsimp (disch:=try exact dx) only[wpS,wpT,zE,kB,aj d9,wA,wB,dc,d0]
   refine⟨zl,.inl ⟨rfl,nxS si,e6.put (by omega) _,by show H2.n<H6.n;omega,aa _ _ rfl,?_,?_,?_,?_,?_,?_,by rw[show TR - (i+1)=q by omega];exact a11⟩⟩
   ·rw[ah _ _ (by omega)];exact d4
   ·rw[ah _ _ (by omega)];exact d5
   ·rw[ah _ _ (by omega)];exact d6
   ·rw[ah _ _ (by omega)];exact d7
   ·rw[ah _ _ (by omega)];exact d8
   ·rw[ah _ _ (by omega)];exact d9
 ·rintro _ hd (⟨si,x1,x2,x3,x4,x5,x6,x7,x8,x9,x10⟩|⟨x,t,x0,x1,x2,x3,x4,x5,x6⟩)
  ·rw[Nat.sub_self,fM] at x10
   refine .inl ⟨x3,?_⟩
   have xn:=x1.n
   obtain⟨K0,hK0⟩ : ∃K0,K0=hd.put H2.n .dead:=⟨_,rfl⟩
   have ed:Ext h0 K0:=by rw[hK0];exact x1.put (by omega) _
   have kn:K0.n=hd.n:=by rw[hK0];rfl
   have z0 : ∀j,j≠H2.n→K0.ext.get j=hd.ext.get j:=fun j hj=>by rw[hK0];exact ah _ _ hj
   have z7:=(z0 (h.n+1) (by omega)).trans x7
   have z8:=(z0 (h.n+2) (by omega)).trans x8
   rw[←hK0]
   clear hK0
   simp -dsimp (disch:=try exact dx) only[wpS,wpT,zE,zL,kB,nJ,AB,Mw,z7,z8]
   exact⟨(ed.put (by omega) _).put (by omega) _,by omega,.inr ⟨x10,rfl⟩⟩
  ·refine .inr (.inr ⟨x3,?_⟩)
   have xn:=x1.n
   obtain⟨K0,hK0⟩ : ∃K0,K0=hd.put H2.n .dead:=⟨_,rfl⟩
   have ed:Ext h0 K0:=by rw[hK0];exact x1.put (by omega) _
   have kn:K0.n=hd.n:=by rw[hK0];rfl
   have z0 : ∀j,j≠H2.n→K0.ext.get j=hd.ext.get j:=fun j hj=>by rw[hK0];exact ah _ _ hj
   have z4:=(z0 k (by omega)).trans x4
   have z7:=(z0 (h.n+1) (by omega)).trans x5
   have z8:=(z0 (h.n+2) (by omega)).trans x6
   rw[←hK0]
   clear hK0
   simp -dsimp (disch:=try exact dx) only[wpS,zE,kB,Mw,aj z7,aj z8]
   exact⟨ed,by omega,.inl ⟨x,t,x0,rfl,z4⟩⟩
end Go.Id

namespace Go.Id
open Go
open Nat renaming reduceAdd→zA,reduceEqDiff→zE,reduceLeDiff→zL
set_option maxHeartbeats 16000000
noncomputable def wj (s:Nat) (n:Int):Value:=if n<1 then .tuple #[KI 0,chV 0,KI 2] else match fM n.toNat TR s with
 | none=>.tuple #[KI 0,chV 0,KI 9]
 | some p=>.tuple #[KN p.1,chV p.2,KI 0]
theorem Iv {h:IH} {s:Nat} {n:Int} (hn:jP n) :
  WV Proofs.Tryz.prog (.func (.func 84) #[] #[]) [chV s,KI n] h fun r h'=>Ext h h'∧r=wj s n:=by
 unfold wj
 obtain⟨H0,hH0,n0,E0,k0,k1⟩:=iQ h [K64 s] [.int .u64 0]
 refine enter (nt:=33) (rs:=[.tmp 4,.cell 5 63,.tmp 6]) Proofs.Tryz.func84 rfl rfl rfl (by simp) ?_
 simp -dsimp (disch:=try exact dx) only[wpS,zE,zA,jr,chV]
 rw[←hH0]
 clear hH0
 by_cases c1:n<1
 ·have d1:decide (n<1)=true:=decide_eq_true c1
  rw[if_pos c1]
  simp -dsimp (disch:=try exact dx) only[wpS,wpT,zE,zL,eX,dj,bZ,d1,k1,tk1]
  exact⟨E0.put (by omega) _,rfl⟩
 have d1:decide (n<1)=false:=decide_eq_false c1
 rw[if_neg c1]
 obtain⟨m,rfl⟩ : ∃m:Nat,n=(m:Int):=⟨n.toNat,by omega⟩
 have hn2:=hn.2
 rw[Int.toNat_natCast]
 simp -dsimp (disch:=try exact dx) only[wpS,wpT,zE,zL,bZ,d1,aj k0,tk1]
 refine call (Ch (s:=s)) ?_
 rintro _ _ ⟨rfl,rfl⟩
 obtain⟨H1,hH1⟩ : ∃H,H=(H0.new (.cells [K64 s] 0 none)).new (.cells [K64 s] 0 none):=⟨_,rfl⟩
 have n1:H1.n=H0.n+2:=by rw[hH1];rfl
 have E1:Ext H0 H1:=by rw[hH1];exact((Ext.refl _).new _).new _
 have gk:H1.ext.get (H0.n+1)=some (.cells [K64 s] 0 none):=by rw[hH1];simp (disch:=try exact dx) only[ab]
 rw[←hH1]
 clear hH1
 simp -dsimp (disch:=try exact dx) only[wpS,zE,vT]
 refine call (Lu (n:=m) E1 (Nat.le_succ _) (by omega) gk (by omega) (by omega)) ?_
 rintro _ h2 ⟨X2,hn2,⟨x,t,ht,rfl,gt⟩|⟨ht,rfl⟩⟩
 ·rw[ht]
  have hx:=rr (by omega) ht
  have q1:=X2.kept (by omega) k1
  simp -dsimp (disch:=try exact dx) only[wpS,wpT,zE,zL,dj,bZ,vP,yd,DF,aj gt,tk1,q1]
  exact⟨(E0.trans X2).put (by omega) _,rfl⟩
 ·rw[ht]
  have q1:=X2.kept (by omega) k1
  simp -dsimp (disch:=try exact dx) only[wpS,wpT,zE,zL,eX,dj,bZ,q1,tk1]
  exact⟨(E0.trans X2).put (by omega) _,rfl⟩
end Go.Id

namespace Go.Id
open Go
open Go.Proofs.Tryz (prog)
open Nat renaming reduceAdd→zA,reduceEqDiff→zE,reduceLeDiff→zL
set_option maxHeartbeats 16000000
theorem IN {x:Nat} (hx:x<9223372036854775808):x ^^^ 9223372036854775808=x+9223372036854775808:=by
 have h1:x<2 ^ 63:=hx
 have h2:=Nat.two_pow_add_eq_or_of_lt h1 1
 rw[Nat.mul_one] at h2
 rw[show(9223372036854775808:Nat)=2 ^ 63 from rfl,Nat.add_comm,h2]
 apply Nat.eq_of_testBit_eq
 intro i
 rw[Nat.testBit_xor,Nat.testBit_or,Nat.testBit_two_pow]
 by_cases hi:63=i
 ·subst hi
  rw[Nat.testBit_lt_two_pow h1]
  decide
 ·simp[hi]
theorem Cv {a:Nat} (ha:a<H8):wrd a 7<9223372036854775808:=(Ux (by have:=cC;omega)).2 ha
theorem I3 {a:Nat} (ha:a<H8):IH.aG (wdC a) 7 [K64 (wrd a 7+9223372036854775808)]=wdC (a+H8):=by
 have ht:=Cv ha
 have hw:a<18446744073709551616 ^ (7+1):=by rw[←se];have:=cC;omega
 have e:H8=9223372036854775808*18446744073709551616 ^ 7:=by unfold H8;rfl
 apply List.ext_getElem?
 intro j
 have hl:(IH.aG (wdC a) 7 [K64 (wrd a 7+9223372036854775808)]).length=8:=by simp[IH.aG,aq]
 by_cases h8:j<8
 ·rw[cw _ _ h8,e]
  by_cases h7:j=7
  ·subst h7
   rw[sh hw (by omega)]
   simp[IH.aG,aq]
  ·rw[mE (by omega)]
   have hj:j<7:=by omega
   simp only[IH.aG]
   rw[List.getElem?_append_left (by rw[List.length_take,aq];omega),List.getElem?_take,if_pos hj,cw _ _ h8]
 ·rw[List.getElem?_eq_none (by omega),List.getElem?_eq_none (by rw[aq];omega)]
theorem Ej {h:IH} (a b:Nat) (ha:a<H8) (hb:b<H8):WV prog (.func (.func 176) #[] #[]) [wdV a,wdV b] h fun r h'=>Ext h h'∧r=KI (if a<b then -1 else if a=b then 0 else 1):=by
 have ja:(7:Nat)<8:=by decide
 have j7:nW 7 8=some 7:=rfl
 have ga:=cw a 7 (by omega)
 have gb:=cw b 7 (by omega)
 have ta:=Cv ha
 have tb:=Cv hb
 have xa : ∀ox oy,binop prog .xor 42 ox oy (K64 (wrd a 7)) (.int .u64 9223372036854775808)=some (K64 (wrd a 7+9223372036854775808)):=fun ox oy=>by
  rw[←IN ta];exact nm _ _ ox oy _ 9223372036854775808 (by omega) (by decide)
 have xb : ∀ox oy,binop prog .xor 42 ox oy (K64 (wrd b 7)) (.int .u64 9223372036854775808)=some (K64 (wrd b 7+9223372036854775808)):=fun ox oy=>by
  rw[←IN tb];exact nm _ _ ox oy _ 9223372036854775808 (by omega) (by decide)
 have sa:=I3 ha
 have sb:=I3 hb
 obtain⟨H0,hH0,n0,E0,k0,k1⟩:=iQ h (wdC a) (wdC b)
 refine enter (nt:=16) (rs:=[.tmp 4]) Proofs.Tryz.func176 rfl rfl rfl (by simp) ?_
 simp -dsimp (disch:=try exact dx) only[wpS,zE,zA,ns,aY]
 rw[←hH0]
 clear hH0
 simp -dsimp (disch:=try exact dx) only[wpS,wpT,zE,zL,zA,ns,kB,nJ,bL,aj k0,aj k1,k0,k1,ns,j7,ga,gb,xa,xb,aq,sa,sb,aK]
 refine call (oF (a+H8) (b+H8) (by have:=cC;omega) (by have:=cC;omega)) ?_
 rintro _ h1 ⟨X1,rfl⟩
 have e:(if a+H8<b+H8 then (-1:Int) else if a+H8=b+H8 then 0 else 1)=if a<b then -1 else if a=b then 0 else 1:=by
  by_cases c1:a<b
  ·rw[if_pos c1,if_pos (by omega)]
  ·rw[if_neg c1,if_neg (by omega)]
   by_cases c2:a=b
   ·rw[if_pos c2,if_pos (by omega)]
   ·rw[if_neg c2,if_neg (by omega)]
 rw[e]
 have EE:Ext h ((H0.put h.n (.cells (wdC (a+H8)) 0 none)).put (h.n+1) (.cells (wdC (b+H8)) 0 none)):=(E0.put (Nat.le_refl _) _).put (by omega) _
 simp -dsimp (disch:=try exact dx) only[wpS,wpT,zE]
 exact EE.trans X1
theorem Q6 {n i:Nat} (hn:n<18446744073709551616 ^ (i+1)) (hw:wrd n i≠0):ph n=64*i+ph (wrd n i):=by
 have hp:0<18446744073709551616 ^ i:=Nat.pow_pos (by omega)
 have hd:n / 18446744073709551616 ^ i=wrd n i:=by
  rw[wrd,Nat.mod_eq_of_lt]
  rw[Nat.div_lt_iff_lt_mul hp,Nat.mul_comm,←Nat.pow_succ];exact hn
 symm
 refine KK fun N=>?_
 have e64:18446744073709551616 ^ i=2 ^ (64*i):=by rw[Nat.pow_mul]
 by_cases h:N<64*i
 ·have h1:2 ^ N≤18446744073709551616 ^ i:=by rw[e64];exact Nat.pow_le_pow_right (by omega) (by omega)
  have h2:18446744073709551616 ^ i≤n:=by
   have:=(Nat.le_div_iff_mul_le hp (x:=1) (y:=n)).1 (by rw[hd];omega)
   omega
  exact⟨fun _=>Nat.le_trans h1 h2,fun _=>by omega⟩
 ·obtain⟨M,rfl⟩ : ∃M,N=64*i+M:=⟨N - 64*i,by omega⟩
  have h1:2 ^ (64*i+M)=2 ^ M*18446744073709551616 ^ i:=by rw[Nat.pow_add,e64,Nat.mul_comm]
  rw[h1,←Nat.le_div_iff_mul_le hp,hd,←ou]
  omega
theorem Gv {h:IH} (n:Nat) (hn:n<W8):WV prog (.func (.func 255) #[] #[]) [wdV n] h fun r h'=>Ext h h'∧r=KN (ph n):=by
 obtain⟨H0,hH0⟩ : ∃H,H=h.new (.cells (wdC n) 0 none):=⟨_,rfl⟩
 have E0:Ext h H0:=by rw[hH0];exact(Ext.refl h).new _
 have g0:H0.ext.get h.n=some (.cells (wdC n) 0 none):=by rw[hH0];simp (disch:=try exact dx) only[ab]
 refine enter (nt:=21) (rs:=[.tmp 2]) Proofs.Tryz.func255 rfl rfl rfl (by simp) ?_
 simp -dsimp (disch:=try exact dx) only[wpS,aY]
 rw[←hH0]
 clear hH0
 refine loop (fun m fr hh=>hh=H0∧m≤8∧n<18446744073709551616 ^ m∧ai fr 1=some (ptr (2*h.n) 0)∧ai fr 3=some (KI 0)∧ai fr 4=some (KI ((m:Int) - 1))) 8
  ⟨rfl,Nat.le_refl _,by rw[←se];exact hn,by simp,by simp,by simp⟩ ?_
 rintro m fr hh ⟨rfl,hm,hlt,f1,f3,f4⟩
 rcases Nat.eq_zero_or_pos m with rfl|hp
 ·have n0:n=0:=by rw[Nat.pow_zero] at hlt;omega
  subst n0
  simp -dsimp (disch:=try exact dx) only[wpS,wpT,zE,f3,f4]
  exact⟨E0,rfl⟩
 ·obtain⟨i,rfl⟩ : ∃i,m=i+1:=⟨m - 1,by omega⟩
  have h2:(((i+1:Nat):Int) - 1)=(i:Int):=by omega
  rw[h2] at f4
  have gi:=cw n i (by omega)
  have wl:=uZ n i
  by_cases c:wrd n i=0
  ·have d:(((wrd n i:Nat):Int) != 0)=false:=by simp[c]
   simp -dsimp (disch:=try exact dx) only[wpS,wpT,zE,ns,kB,f1,f4,aj g0,ns,gi,d]
   refine⟨i,by omega,rfl,by omega,?_,by simp[f1],by simp[f3],by simp⟩
   have:=xV n i
   rw[c,Nat.mul_zero,Nat.add_zero,Nat.mod_eq_of_lt hlt] at this
   rw[this]
   exact Nat.mod_lt _ (Nat.pow_pos (by omega))
  ·have d:(((wrd n i:Nat):Int) != 0)=true:=by simp[c]
   simp -dsimp (disch:=try exact dx) only[wpS,wpT,zE,ns,kB,f1,f4,aj g0,ns,gi,d]
   refine call (FQ (wrd n i) wl) ?_
   rintro _ _ ⟨rfl,k,rfl,hk,hkN⟩
   have ek:=KK hkN
   have et:=Q6 hlt c
   simp -dsimp (disch:=try exact dx) only[wpS,zE]
   exact⟨E0,congrArg (Value.int .i64) (by rw[et,←ek];omega)⟩
end Go.Id
