/-
  Contracts: wardmoteref08: Certify. Both ways to certify are the same. Contracts: wardmoteref08: Certify, Find.
-/
import Derived.Test.YthpefnfbnaekaaaGreatBracketAwardsBq
import Derived.Test.YthpefnfbnaekaaaGreatBracketAwardsAr
import Derived.Test.YthpefnfbnaekaaaGreatBracketAwardsBo
import Derived.Test.YthpefnfbnaekaaaGreatBracketAwardsBn
import Derived.Test.YthpefnfbnaekaaaGreatBracketAwardsBl
set_option linter.unusedVariables false
set_option linter.unusedSimpArgs false
set_option linter.defProp false
set_option linter.deprecated false
namespace Go.Id
open Go
def keyS (m:Int) (x:Seat):Bool×Rat:=(postZ m.toNat x.2.toNat,rankX m.toNat x.1.1.toNat x.2.toNat)
def ltK (a b:Bool×Rat):Prop:=(a.1=false∧b.1=true)∨(a.1=b.1∧a.2<b.2)
theorem cmpR_lt (b1:Bool) (x:Rat) (b2:Bool) (y:Rat):cmpR b1 x b2 y<0↔ltK (b1,x) (b2,y):=by
 have hc:cmpQ x y<0↔x<y:=by
  unfold cmpQ
  split
  ·rename_i h;exact⟨fun _=>h,fun _=>by omega⟩
  ·rename_i h
   split
   ·exact⟨fun h=>absurd h (by omega),fun h2=>absurd h2 h⟩
   ·exact⟨fun h=>absurd h (by omega),fun h2=>absurd h2 h⟩
 unfold cmpR ltK
 cases b1<;>cases b2<;>simp[hc]
def SeatOK (x:Seat):Prop:=(1≤x.1.1∧x.1.1≤1000000000)∧0≤x.2∧x.2≤1000
theorem below_key {m:Int} (hm:11≤m∧m≤15) {a b:Seat} (ha:SeatOK a) (hb:SeatOK b):stBelow m a b=true↔ltK (keyS m a) (keyS m b):=by
 unfold stBelow aboveN
 rw[if_neg (by rw[aboveErr_eq,decide_eq_true ⟨hm,ha.2,hb.2,ha.1,hb.1⟩];simp),decide_eq_true_eq]
 exact cmpR_lt _ _ _ _
theorem ltK_trans {a b c:Bool×Rat} (h1:ltK a b) (h2:ltK b c):ltK a c:=by
 obtain⟨a1,a2⟩:=a
 obtain⟨b1,b2⟩:=b
 obtain⟨c1,c2⟩:=c
 unfold ltK at *
 cases a1<;>cases b1<;>cases c1<;>simp_all<;>grind
theorem ltK_neg {a b c:Bool×Rat} (h1 : ¬ltK a b) (h2 : ¬ltK b c) : ¬ltK a c:=by
 obtain⟨a1,a2⟩:=a
 obtain⟨b1,b2⟩:=b
 obtain⟨c1,c2⟩:=c
 unfold ltK at *
 cases a1<;>cases b1<;>cases c1<;>simp_all<;>grind
theorem leastBy_some {lt:Seat→Seat→Bool} {L:List Seat} (tr : ∀a∈L,∀b∈L,∀c∈L,lt a b=true→lt b c=true→lt a c=true) (ng : ∀a∈L,∀b∈L,∀c∈L,lt a b=false→lt b c=false→lt a c=false) (ir : ∀a∈L,lt a a=false) :
  ∀(l:List Seat) (o:Seat),(∀x∈l,x∈L)→o∈L → ∃y,leastBy lt (some o) l=some y∧y∈L∧(y=o∨y∈l)∧lt o y=false ∧ ∀x∈l,lt x y=false
 | [],o,_,ho=>⟨o,rfl,ho,.inl rfl,ir o ho,fun x hx=>by cases hx⟩
 | a :: l,o,hl,ho=>by
  have ha:=hl a List.mem_cons_self
  have hl' : ∀x∈l,x∈L:=fun x hx=>hl x (List.mem_cons_of_mem _ hx)
  by_cases c:lt a o=true
  ·obtain⟨y,h1,h2,h3,h4,h5⟩:=leastBy_some tr ng ir l a hl' ha
   refine⟨y,by rw[leastBy];show leastBy lt (if lt a o=true then some a else some o) l=_;rw[if_pos c];exact h1,h2,.inr (by rcases h3 with rfl|h3;exact List.mem_cons_self;exact List.mem_cons_of_mem _ h3),?_,fun x hx=>?_⟩
   ·cases h:lt o y
    ·rfl
    ·rw[tr a ha o ho y h2 c h] at h4;cases h4
   ·rcases List.mem_cons.1 hx with rfl|hx
    ·exact h4
    ·exact h5 x hx
  ·obtain⟨y,h1,h2,h3,h4,h5⟩:=leastBy_some tr ng ir l o hl' ho
   refine⟨y,by rw[leastBy];show leastBy lt (if lt a o=true then some a else some o) l=_;rw[if_neg c];exact h1,h2,(by rcases h3 with rfl|h3;exact .inl rfl;exact .inr (List.mem_cons_of_mem _ h3)),h4,fun x hx=>?_⟩
   rcases List.mem_cons.1 hx with rfl|hx
   ·exact ng x ha o ho y h2 (by simpa using c) h4
   ·exact h5 x hx
theorem lastS_mem : ∀{rs:List Reg} {x:Seat},x∈lastS rs ↔ ∃r∈rs,(0<r.1∧r.2.2<r.2.1)∧x=(r,r.2.1 - 1)
 | [],x=>by simp[lastS]
 | r :: l,x=>by
  unfold lastS
  have ih:=lastS_mem (rs:=l) (x:=x)
  split
  ·rename_i h
   rw[List.mem_cons,ih]
   constructor
   ·rintro(rfl|⟨y,h1,h2⟩)
    ·exact⟨r,List.mem_cons_self,h,rfl⟩
    ·exact⟨y,List.mem_cons_of_mem _ h1,h2⟩
   ·rintro⟨y,h1,h2,rfl⟩
    rcases List.mem_cons.1 h1 with rfl|h1
    ·exact .inl rfl
    ·exact .inr ⟨y,h1,h2,rfl⟩
  ·rename_i h
   rw[ih]
   constructor
   ·rintro⟨y,h1,h2⟩
    exact⟨y,List.mem_cons_of_mem _ h1,h2⟩
   ·rintro⟨y,h1,h2,rfl⟩
    rcases List.mem_cons.1 h1 with rfl|h1
    ·exact absurd h2 h
    ·exact⟨y,h1,h2,rfl⟩
theorem nextS_mem : ∀{rs:List Reg} {x:Seat},x∈nextS rs ↔ ∃r∈rs,0<r.1∧x=(r,r.2.1)
 | [],x=>by simp[nextS]
 | r :: l,x=>by
  unfold nextS
  have ih:=nextS_mem (rs:=l) (x:=x)
  split
  ·rename_i h
   rw[List.mem_cons,ih]
   constructor
   ·rintro(rfl|⟨y,h1,h2⟩)
    ·exact⟨r,List.mem_cons_self,h,rfl⟩
    ·exact⟨y,List.mem_cons_of_mem _ h1,h2⟩
   ·rintro⟨y,h1,h2,rfl⟩
    rcases List.mem_cons.1 h1 with rfl|h1
    ·exact .inl rfl
    ·exact .inr ⟨y,h1,h2,rfl⟩
  ·rename_i h
   rw[ih]
   constructor
   ·rintro⟨y,h1,h2⟩
    exact⟨y,List.mem_cons_of_mem _ h1,h2⟩
   ·rintro⟨y,h1,h2,rfl⟩
    rcases List.mem_cons.1 h1 with rfl|h1
    ·exact absurd h2 h
    ·exact⟨y,h1,h2,rfl⟩
theorem last_seat {rs:List Reg} (R:RegsOK rs) {x:Seat} (h:x∈lastS rs):SeatOK x:=by
 obtain⟨r,h1,h2,rfl⟩:=lastS_mem.1 h
 have:=R.b r h1
 exact⟨⟨by dsimp only;omega,by dsimp only;omega⟩,by dsimp only;omega,by dsimp only;omega⟩
theorem next_seat {rs:List Reg} (R:RegsOK rs) {x:Seat} (h:x∈nextS rs):SeatOK x:=by
 obtain⟨r,h1,h2,rfl⟩:=nextS_mem.1 h
 have:=R.b r h1
 exact⟨⟨by dsimp only;omega,by dsimp only;omega⟩,by dsimp only;omega,by dsimp only;omega⟩
theorem certB_iff {m:Int} {rs:List Reg} (R:RegsOK rs) (hm:11≤m∧m≤15):certB m rs=true↔(∀r∈rs,0<r.1∨r.2.1=r.2.2) ∧ ∀x∈lastS rs,∀y∈nextS rs,¬ltK (keyS m x) (keyS m y):=by
 have st:settled rs=true ↔ ∀r∈rs,0<r.1∨r.2.1=r.2.2:=by
  unfold settled
  rw[List.all_eq_true]
  simp
 unfold certB
 rw[Bool.and_eq_true,st]
 refine and_congr_right fun _=>?_
 cases hl:lastS rs with
 | nil=>simp[leastBy]
 | cons a l =>
  obtain⟨r0,hr0,h0,rfl⟩:=lastS_mem.1 (show a∈lastS rs by rw[hl];exact List.mem_cons_self)
  obtain⟨b,l2,hn⟩ : ∃b l2,nextS rs=b :: l2:=by
   cases hn:nextS rs with
   | nil=>have:=nextS_mem.2 ⟨r0,hr0,h0.1,rfl⟩;rw[hn] at this;cases this
   | cons b l2=>exact⟨b,l2,rfl⟩
  have sl : ∀x∈(r0,r0.2.1 - 1) :: l,SeatOK x:=fun x hx=>last_seat R (by rw[hl];exact hx)
  have sn : ∀x∈b :: l2,SeatOK x:=fun x hx=>next_seat R (by rw[hn];exact hx)
  have k : ∀{x y:Seat},SeatOK x→SeatOK y→(stBelow m x y=true↔ltK (keyS m x) (keyS m y)):=fun hx hy=>below_key hm hx hy
  have kf : ∀{x y:Seat},SeatOK x→SeatOK y→(stBelow m x y=false ↔ ¬ltK (keyS m x) (keyS m y)):=fun hx hy=>by rw[←k hx hy];simp
  have irr : ∀z,¬ltK z z:=fun z=>by unfold ltK;cases z.1<;>simp<;>grind
  obtain⟨lo,e1,m1,_,f1,f2⟩:=leastBy_some (lt:=stBelow m) (L:=(r0,r0.2.1 - 1) :: l) (fun a ha b hb c hc h1 h2=>(k (sl a ha) (sl c hc)).2 (ltK_trans ((k (sl a ha) (sl b hb)).1 h1) ((k (sl b hb) (sl c hc)).1 h2)))
   (fun a ha b hb c hc h1 h2=>(kf (sl a ha) (sl c hc)).2 (ltK_neg ((kf (sl a ha) (sl b hb)).1 h1) ((kf (sl b hb) (sl c hc)).1 h2))) (fun a ha=>(kf (sl a ha) (sl a ha)).2 (irr _)) l _ (fun x hx=>List.mem_cons_of_mem _ hx) List.mem_cons_self
  obtain⟨hi,e2,m2,_,g1,g2⟩:=leastBy_some (lt:=fun a b=>stBelow m b a) (L:=b :: l2) (fun a ha b hb c hc h1 h2=>(k (sn c hc) (sn a ha)).2 (ltK_trans ((k (sn c hc) (sn b hb)).1 h2) ((k (sn b hb) (sn a ha)).1 h1)))
   (fun a ha b hb c hc h1 h2=>(kf (sn c hc) (sn a ha)).2 (ltK_neg ((kf (sn c hc) (sn b hb)).1 h2) ((kf (sn b hb) (sn a ha)).1 h1))) (fun a ha=>(kf (sn a ha) (sn a ha)).2 (irr _)) l2 _ (fun x hx=>List.mem_cons_of_mem _ hx) List.mem_cons_self
  rw[hn]
  have e1':leastBy (stBelow m) none ((r0,r0.2.1 - 1) :: l)=some lo:=e1
  have e2':leastBy (fun a b=>stBelow m b a) none (b :: l2)=some hi:=e2
  rw[e1',e2']
  show(!(stBelow m lo hi))=true↔_
  rw[Bool.not_eq_true',kf (sl lo m1) (sn hi m2)]
  constructor
  ·intro h x hx y hy hxy
   have hlo : ¬ltK (keyS m x) (keyS m lo):=by
    rcases List.mem_cons.1 hx with rfl|hx2
    ·exact(kf (sl _ hx) (sl lo m1)).1 f1
    ·exact(kf (sl _ hx) (sl lo m1)).1 (f2 x hx2)
   have hhi : ¬ltK (keyS m hi) (keyS m y):=by
    rcases List.mem_cons.1 hy with rfl|hy2
    ·exact(kf (sn hi m2) (sn _ hy)).1 g1
    ·exact(kf (sn hi m2) (sn _ hy)).1 (g2 y hy2)
   exact ltK_neg (ltK_neg hlo h) hhi hxy
  ·intro h
   exact h lo m1 hi m2
end Go.Id

namespace Go.Id
open Go
end Go.Id

namespace Go.Id
open Go
open Go.Proofs.Tryz (prog)
open Nat (reduceAdd reduceEqDiff reduceLeDiff)
set_option maxHeartbeats 16000000
def houseN (s:Nat):Nat:=if s % 8=0 then 1+s % 1000 else 1+s % 20
theorem house_ok {h:IH} {x:Value} {ps ls:List Nat} {u s:Nat} (hx:Dr6 h x ps ls u s) :
  WV prog (.func (.func 12) #[] #[]) [x] h fun r h'=>Ext h h'∧r=KN (houseN s):=by
 obtain⟨⟨vp,vl,rfl,sp,sl⟩,bp,bl,hu,hs,lp,ll⟩:=hx
 have e8:(s:Int) % 8=((s % 8:Nat):Int):=by omega
 have e20:(s:Int) % 20=((s % 20:Nat):Int):=by omega
 have e1k:(s:Int) % 1000=((s % 1000:Nat):Int):=by omega
 have w1:IntKind.i64.wrap (1+((s % 1000:Nat):Int))=((1+s % 1000:Nat):Int):=by rw[wrap_i64 (by omega)];omega
 have w2:IntKind.i64.wrap (1+((s % 20:Nat):Int))=((1+s % 20:Nat):Int):=by rw[wrap_i64 (by omega)];omega
 refine enter (nt:=17) (rs:=[.tmp 2]) Proofs.Tryz.func12 rfl rfl rfl (by simp) ?_
 by_cases c:s % 8=0
 ·have d:(((s % 8:Nat):Int) == 0)=true:=by simp;omega
  simp -dsimp (maxSteps:=1000000) (disch:=try exact dx) only[wpS,reduceEqDiff,fa26_3,ld24,cv24_3,e8,e1k,w1,d]
  exact⟨(Ext.refl h).new _,by unfold houseN;rw[if_pos c]⟩
 ·have d:(((s % 8:Nat):Int) == 0)=false:=by simp;omega
  simp -dsimp (maxSteps:=1000000) (disch:=try exact dx) only[wpS,reduceEqDiff,fa26_3,ld24,cv24_3,e8,e20,w2,d]
  exact⟨(Ext.refl h).new _,by unfold houseN;rw[if_neg c]⟩
def minStep (ls:List Nat) (i left:Nat):Nat:=if i<ls.length then min (ls.getD i 0 % 4) left else 0
def minLeft (ls:List Nat):Nat→Nat→Nat
 | 0,left=>left
 | n+1,left=>minLeft ls n left - minStep ls n (minLeft ls n left)
def minTake (ls:List Nat) (house:Nat):Nat→List Int
 | 0 => []
 | n+1=>minTake ls house n ++ [(minStep ls n (minLeft ls n house):Int)]
theorem minStep_le (ls:List Nat) (i left:Nat):minStep ls i left≤left∧minStep ls i left≤3:=by unfold minStep;split<;>omega
theorem minLeft_le (ls:List Nat) (house:Nat) : ∀n,minLeft ls n house≤house
 | 0=>Nat.le_refl _
 | n+1=>by have:=minLeft_le ls house n;unfold minLeft;omega
theorem minTake_len (ls:List Nat) (house:Nat) : ∀n,(minTake ls house n).length=n
 | 0=>rfl
 | n+1=>by rw[minTake,List.length_append,minTake_len ls house n];rfl
theorem minTake_mem (ls:List Nat) (house:Nat) : ∀n,∀x∈minTake ls house n,0≤x∧x≤3
 | 0,x,hx=>by cases hx
 | n+1,x,hx=>by
  rw[minTake] at hx
  rcases List.mem_append.1 hx with h|h
  ·exact minTake_mem ls house n x h
  ·have:=minStep_le ls n (minLeft ls n house)
   simp at h;omega
theorem mins6_ok {h:IH} {x:Value} {ps ls:List Nat} {u s:Nat} (hx:Dr6 h x ps ls u s) :
  WV prog (.func (.func 10) #[] #[]) [x] h fun r h'=>Ext h h'∧SlOf h' 1 r (census u ps).length ((minTake ls (houseN s) (census u ps).length).map KI):=by
 have hx0:=hx
 obtain⟨⟨vp,vl,rfl,sp,sl⟩,bp,bl,hu,hs,lp,ll⟩:=hx
 have C:CenOK (census u ps):=census_cen hu bp
 have tk:List.take 4 (List.drop 0 [vp,B8 u,vl,B16 s]) = [vp,B8 u,vl,B16 s]:=rfl
 refine enter (nt:=38) (rs:=[.tmp 2]) Proofs.Tryz.func10 rfl rfl rfl (by simp) ?_
 simp -dsimp (maxSteps:=1000000) (disch:=try exact dx) only[wpS,wpT,reduceEqDiff,reduceLeDiff,reduceAdd,ld26,tk]
 obtain⟨H0,hH0⟩ : ∃H,H=h.new (.cells [vp,B8 u,vl,B16 s] 0 none):=⟨_,rfl⟩
 have E0:Ext h H0:=by rw[hH0];exact(Ext.refl h).new _
 have g0:H0.ext.get h.n=some (.cells [vp,B8 u,vl,B16 s] 0 none):=by rw[hH0];simp (disch:=try exact dx) only[get_new_same]
 have n0:H0.n=h.n+1:=by rw[hH0];simp
 rw[←hH0]
 clear hH0
 refine call (house_ok (hx0.keep E0.keep)) ?_
 rintro _ h1 ⟨X1,rfl⟩
 have m1:=X1.n
 obtain⟨n,hn⟩ : ∃n,n=(census u ps).length:=⟨_,rfl⟩
 have nb:n≤9:=by rw[hn];exact C.len
 rw[←hn]
 have hb:houseN s≤1000:=by unfold houseN;split<;>omega
 simp -dsimp (maxSteps:=1000000) (disch:=try exact dx) only[wpS,reduceEqDiff]
 refine loop (fun m fr hh => ∃(i:Nat) (v:Value),i+m=n∧Ext h1 hh∧Acc hh h1.n 1 v i ((minTake ls (houseN s) i).map KI)∧fget fr 1=some (ptr (2*h.n) 0)∧fget fr 3=some (KN (minLeft ls i (houseN s)))∧fget fr 4=some v∧fget fr 5=some (KN i)) n
  ⟨0,.slice none 0 0,by omega,Ext.refl _,Acc.nil _ _ (sz:=1) (by decide),by simp,by simp[minLeft],by simp,by simp⟩ ?_
 rintro m fr hh ⟨i,v,him,E,A,f1,f3,f4,f5⟩
 have En:=E.n
 have g1:=(X1.trans E).kept (by omega) g0
 simp -dsimp (maxSteps:=1000000) (disch:=try exact dx) only[wpS,wpT,reduceEqDiff,reduceLeDiff,reduceAdd,ld26,f1,f5,row_of g1,tk]
 refine call (census_ok (hx0.keep (E0.trans (X1.trans E)).keep)) ?_
 rintro cv h2 ⟨X2,sc⟩
 have c0:=sc.now
 have ln:=c0.len sl29 (P:=prog)
 rw[←hn] at ln
 have m2:=X2.n
 have k1:=X2.kept (by omega) g1
 have A2:=A.ext X2
 by_cases c:i<n
 ·have L0:=(sl.keep (E0.trans (X1.trans (E.trans X2))).keep).now
  have mb:=minLeft_le ls (houseN s) i
  have ms:=minStep_le ls i (minLeft ls i (houseN s))
  have e2:IntKind.i64.wrap ((i:Int)+1)=((i+1:Nat):Int):=by rw[wrap_i64 (by omega)];omega
  have e3:IntKind.i64.wrap ((minLeft ls i (houseN s):Int) - (minStep ls i (minLeft ls i (houseN s)):Int))=((minLeft ls (i+1) (houseN s):Nat):Int):=by
   rw[wrap_i64 (by omega),show minLeft ls (i+1) (houseN s)=minLeft ls i (houseN s) - minStep ls i (minLeft ls i (houseN s)) from rfl];omega
  simp -dsimp (maxSteps:=1000000) (disch:=try exact dx) only[wpS,wpT,reduceEqDiff,fa26_2,ld23,ln,f1,f5,row_of k1,L0.len sl23]
  refine bq_cut (fun fr2 h3=>h3=h2∧fget fr2 1=some (ptr (2*h.n) 0)∧fget fr2 3=some (KN (minLeft ls i (houseN s)))∧fget fr2 4=some v∧fget fr2 5=some (KN i)∧fget fr2 6=some (KN (minStep ls i (minLeft ls i (houseN s))))) (fun hc=>?_) (fun hc=>?_) ?_
  ·have hl:i<ls.length:=by simp at hc;omega
   obtain⟨q,hq⟩ : ∃q,ls[i]?=some q:=⟨_,List.getElem?_eq_getElem hl⟩
   have hq8:=bl q (List.mem_of_getElem? hq)
   have lL:=L0.ld (P:=prog) (t:=5) (c:=i) (by simp<;>omega) ag5
   rw[map_getN hq] at lL
   have e4:(q:Int) % 4=((q % 4:Nat):Int):=by omega
   have st:(if (minLeft ls i (houseN s):Int)<((q % 4:Nat):Int) then (minLeft ls i (houseN s):Int) else ((q % 4:Nat):Int))=((minStep ls i (minLeft ls i (houseN s)):Nat):Int):=by
    unfold minStep
    rw[if_pos hl,List.getD_eq_getElem?_getD,hq]
    simp
    split<;>omega
   simp -dsimp (maxSteps:=1000000) (disch:=try exact dx) only[wpS,wpT,reduceEqDiff,fa26_2,ld23,cv5_3,f1,f3,f5,row_of k1,L0.idx es23 hl,lL,e4,min_kk,st]
   exact⟨rfl,by simp[f1],by simp[f3],by simp[f4],by simp[f5],by simp⟩
  ·have hl : ¬i<ls.length:=by simp at hc;omega
   have st:minStep ls i (minLeft ls i (houseN s))=0:=by unfold minStep;rw[if_neg hl]
   simp -dsimp (maxSteps:=1000000) (disch:=try exact dx) only[wpS,wpT]
   exact⟨rfl,by simp[f1],by simp[f3],by simp[f4],by simp[f5],by simp[st]⟩
  ·rintro fr2 _ ⟨rfl,f1,f3,f4,f5,f6⟩
   obtain⟨v',h5,hap,A5,G5,E5⟩:=A2.app1 (P:=prog) (t:=29) ap29 (x:=KN (minStep ls i (minLeft ls i (houseN s)))) rfl (by omega) (by omega) (E.trans X2) (Nat.le_refl _)
   simp -dsimp (maxSteps:=1000000) (disch:=try exact dx) only[wpS,wpT,reduceEqDiff,reduceLeDiff,reduceAdd,bs29,ba29_29,f3,f4,f5,f6,hap,e2,e3]
   refine⟨m - 1,by omega,i+1,v',by omega,E5,?_,by simp[f1],by simp,by simp,by simp⟩
   rw[minTake,List.map_append]
   exact A5
 ·have hin:i=n:=by omega
  subst hin
  simp -dsimp (maxSteps:=1000000) (disch:=try exact dx) only[wpS,wpT,reduceEqDiff,ln,f4]
  exact⟨E0.trans (X1.trans (E.trans X2)),A2.sl⟩
end Go.Id

namespace Go.Id
open Go
abbrev blkV (j n:Nat):Value:=.slice (some ⟨2*j,0,none⟩) n (2*n)
theorem blk_now {h:IH} {j n:Nat} {cs:List Value} (g:h.ext.get j=some (.cells cs 1 none)) (hl:cs.length=n):SlNow h 1 (blkV j n) n cs :=
 ⟨by omega,by omega,.inr ⟨2*j,0,_,rfl,.inr ⟨cs,by rw[row_even];simp only[IH.cells,g],by rw[List.drop_zero,List.take_of_length_le (by omega)],by omega⟩⟩⟩
theorem blk_sl {h:IH} {j n:Nat} {cs:List Value} (g:h.ext.get j=some (.cells cs 1 none)) (hj:j<h.n) (hl:cs.length=n) (hn:0<n):SlOf h 1 (blkV j n) n cs :=
 sl_block g hj (by omega) (by omega) (by omega) (by omega)
theorem cloneI_ok {h:IH} {v:Value} {n:Nat} {cs:List Value} (hs:SlOf h 1 v n cs) (hp:0<n) (hc:cs.all cellOK=true) (hn:n≤1000000000) :
  WV Proofs.Tryz.prog (.func (.func 31) #[] #[]) [v] h fun r h'=>Ext h h' ∧ ∃j,h.n≤j∧j<h'.n∧r=blkV j n∧h'.ext.get j=some (.cells cs 1 none):=by
 obtain⟨hz,hl,⟨rfl,rfl⟩|⟨b,o,k,rfl,hh⟩⟩:=hs
 ·omega
 ·have hk:Ext h (h.new (.cells [] 1 none)):=(Ext.refl h).new _
  have hnow2:SlNow (h.new (.cells [] 1 none)) 1 (.slice (some ⟨b,o,none⟩) n k) n cs:=(SlOf.keep ⟨hz,hl,.inr ⟨b,o,k,rfl,hh⟩⟩ hk.keep).now
  refine enter (nt:=8) (rs:=[.tmp 2]) Proofs.Tryz.func31 rfl rfl rfl (by simp) ?_
  simp -dsimp (maxSteps:=1000000) (disch:=try exact dx) only[wpS,wpT,Nat.reduceEqDiff,Nat.reduceMul,bs29,ba29_29,nil_eq_some u29,append_zero ap29 _ hnow2 hp hc (by omega)]
  exact⟨hk.new _,_,by simp,by simp,rfl,get_new_same _ _ rfl⟩
theorem map_set' (L:List Int) (i:Nat) (x:Int):(L.map KI).set i (KI x)=(L.set i x).map KI:=by rw[List.map_set]
theorem all_map (L:List Int):(L.map KI).all cellOK=true:=by simp[cellOK]
end Go.Id

namespace Go.Id
open Go
def idxI (x:Int):List Int→Option Nat
 | []=>none
 | y :: l=>if y=x then some 0 else (idxI x l).map (· + 1)
theorem idxI_none {x:Int} : ∀{l:List Int},(∀y∈l,y≠x)→idxI x l=none
 | [],_=>rfl
 | y :: l,h=>by rw[idxI,if_neg (h y List.mem_cons_self),idxI_none fun z hz=>h z (List.mem_cons_of_mem _ hz)];rfl
theorem idxI_at {x:Int} : ∀{l:List Int} {i:Nat},l[i]?=some x→(∀j,j<i→l[j]?≠some x)→idxI x l=some i
 | [],i,h,_=>by simp at h
 | y :: l,0,h,_=>by simp at h;subst h;rw[idxI,if_pos rfl]
 | y :: l,i+1,h,h0=>by
  have hy:y≠x:=fun e=>h0 0 (by omega) (by rw[e];rfl)
  rw[idxI,if_neg hy,idxI_at (l:=l) (i:=i) (by simpa using h) fun j hj=>by have:=h0 (j+1) (by omega);simpa using this]
  rfl
theorem idxI_get {x:Int} : ∀{l:List Int} {i:Nat},idxI x l=some i→l[i]?=some x
 | [],i,h=>by cases h
 | y :: l,i,h=>by
  rw[idxI] at h
  by_cases c:y=x
  ·rw[if_pos c] at h;cases h;rw[c];rfl
  ·rw[if_neg c] at h
   obtain⟨j,hj,rfl⟩:=Option.map_eq_some_iff.1 h
   rw[List.getElem?_cons_succ];exact idxI_get hj
theorem idxI_not {x:Int} : ∀{l:List Int},idxI x l=none→x∉l
 | [],_,hm=>by cases hm
 | y :: l,h,hm=>by
  rw[idxI] at h
  by_cases c:y=x
  ·rw[if_pos c] at h;cases h
  ·rw[if_neg c] at h
   rcases List.mem_cons.1 hm with e|hm
   ·exact c e.symm
   ·exact idxI_not (Option.map_eq_none_iff.1 h) hm
def idxV (x:Int) (l:List Int):Int:=match idxI x l with
 | some i=>i
 | none => -1
theorem indexI_ok {h:IH} {v:Value} {x:Int} {a:List Int} (ha:SlNow h 1 v a.length (a.map KI)) (la:a.length≤1000000000) :
  WV Proofs.Tryz.prog (.func (.func 69) #[] #[]) [v,KI x] h fun r h'=>h'=h∧r=KI (idxV x a):=by
 refine enter (nt:=19) (rs:=[.tmp 4]) Proofs.Tryz.func69 rfl rfl rfl (by simp) ?_
 simp -dsimp (maxSteps:=1000000) (disch:=try exact dx) only[wpS,Nat.reduceEqDiff,Nat.reduceAdd,ha.len sl29]
 refine loop (fun m fr h1=>h1=h ∧ ∃i:Nat,i+m=a.length∧fget fr 0=some v∧fget fr 1=some (KI x)∧fget fr 7=some (KI a.length)∧fget fr 8=some (KI i) ∧ ∀j,j<i→a[j]?≠some x) a.length ⟨rfl,0,by simp,by simp,by simp,by simp,by simp,by simp⟩ ?_
 rintro m fr h1 ⟨rfl,i,him,f0,f1,f7,f8,hz⟩
 by_cases hi:i<a.length
 ·obtain⟨y,hy⟩ : ∃y,a[i]?=some y:=⟨a[i],List.getElem?_eq_getElem hi⟩
  by_cases c:x=y
  ·subst c
   simp -dsimp (maxSteps:=1000000) (disch:=try exact dx) only[wpS,wpT,Nat.reduceEqDiff,f0,f1,f7,f8,ha.idx es29 hi,ha.ld (P:=Proofs.Tryz.prog) (t:=3) (c:=i) (by simpa using hi) ag3,List.getElem?_map,hy]
   rw[idxV,idxI_at hy hz]
  ·have ec:(x == y)=false:=by simpa using c
   have e2:IntKind.i64.wrap ((i:Int)+1)=((i+1:Nat):Int):=by rw[wrap_i64 (by omega)];omega
   simp -dsimp (maxSteps:=1000000) (disch:=try exact dx) only[wpS,wpT,Nat.reduceEqDiff,f0,f1,f7,f8,ha.idx es29 hi,ha.ld (P:=Proofs.Tryz.prog) (t:=3) (c:=i) (by simpa using hi) ag3,List.getElem?_map,hy,ec,e2]
   refine⟨m - 1,by omega,rfl,i+1,by omega,by simp[f0],by simp[f1],by simp[f7],by simp,fun j hj=>?_⟩
   by_cases hji:j=i
   ·subst hji;rw[hy];intro e;cases e;exact c rfl
   ·exact hz j (by omega)
 ·simp -dsimp (maxSteps:=1000000) (disch:=try exact dx) only[wpS,wpT,f7,f8]
  have:idxI x a=none:=idxI_none fun y hy e=>by
   obtain⟨j,hj⟩:=List.getElem?_of_mem hy
   have jl:=(List.getElem?_eq_some_iff.1 hj).1
   exact hz j (by omega) (by rw[hj,e])
  rw[idxV,this]
end Go.Id

namespace Go.Id
open Go
def keyC (m p s:Nat):Bool×Rat:=(postZ m s,rankX m p s)
theorem rankQ_eq {m p s:Nat} (h:postN m s≠0):rankQ m p s=Rat.divInt (((if m=13 then p*p else p)*postD m s:Nat):Int) (postN m s):=by
 unfold rankQ
 rw[Rat.divInt_mul_divInt,Int.mul_one,Int.natCast_mul]
theorem postN_mono {m:Nat} (hm:11≤m∧m≤15) (s:Nat):postN m (s+1)≠0:=by
 rcases(by omega:m=11∨m=12∨m=13∨m=14∨m=15) with rfl|rfl|rfl|rfl|rfl
 ·show s+1≠0;omega
 ·show 2*(s+1)*(s+1+1)≠0
  exact Nat.mul_ne_zero (by omega) (by omega)
 ·show(s+1)*(s+1+1)≠0
  exact Nat.mul_ne_zero (by omega) (by omega)
 ·show 2*(s+1)+1≠0;omega
 ·show s+1+1≠0;omega
theorem keyC_falls {m p:Nat} (hm:11≤m∧m≤15) (hp:1≤p) (s:Nat):ltK (keyC m p (s+1)) (keyC m p s):=by
 have h1:=postN_mono hm s
 have z1:postZ m (s+1)=false:=by unfold postZ;simp[h1]
 unfold ltK keyC
 by_cases h0:postN m s=0
 ·exact .inl ⟨z1,by unfold postZ;simp[h0]⟩
 ·have z0:postZ m s=false:=by unfold postZ;simp[h0]
  refine .inr ⟨by dsimp only;rw[z1,z0],?_⟩
  dsimp only
  unfold rankX
  rw[z1,z0,if_neg (by simp),if_neg (by simp),rankQ_eq h0,rankQ_eq h1]
  have c:=postN_cross hm s
  have ht:0<(if m=13 then p*p else p):=by
   split
   ·exact Nat.mul_pos hp hp
   ·exact hp
  refine divInt_lt (by omega) (by omega) ?_
  rw[Nat.mul_assoc,Nat.mul_assoc]
  refine Nat.mul_lt_mul_of_pos_left ?_ ht
  rw[Nat.mul_comm (postD m (s+1)),Nat.mul_comm (postD m s)]
  exact c
theorem ltK_irr (a:Bool×Rat) : ¬ltK a a:=by
 unfold ltK
 cases a.1<;>simp[Rat.lt_irrefl]
theorem ltK_asymm {a b:Bool×Rat} (h:ltK a b) : ¬ltK b a:=fun h2=>ltK_irr a (ltK_trans h h2)
theorem ltK_of_lt_not {a b c:Bool×Rat} (h:ltK a b) (h2 : ¬ltK c b):ltK a c:=by
 refine Classical.byContradiction fun h3=>?_
 exact ltK_neg h3 h2 h
theorem ltK_of_not_lt {a b c:Bool×Rat} (h : ¬ltK b a) (h2:ltK b c):ltK a c:=by
 refine Classical.byContradiction fun h3=>?_
 exact ltK_neg h h3 h2
instance (a b:Bool×Rat):Decidable (ltK a b):=by unfold ltK;infer_instance
def bestStep (ks:Nat→Bool×Rat) (B:List Nat) (x:Nat):List Nat:=match B with
 | [] => [x]
 | b :: l=>if ltK (ks b) (ks x) then [x] else if ltK (ks x) (ks b) then b :: l else b :: l ++ [x]
def bestN (ks:Nat→Bool×Rat):Nat→List Nat
 | 0 => []
 | n+1=>bestStep ks (bestN ks n) n
structure BestOK (ks:Nat→Bool×Rat) (n:Nat) (B:List Nat):Prop where
 ne:0<n→B ≠ []
 lt : ∀b∈B,b<n
 top : ∀b∈B,∀y,y<n → ¬ltK (ks b) (ks y)
 rest : ∀y,y<n→y∉B → ∀b∈B,ltK (ks y) (ks b)
 asc:B.Pairwise (· < ·)
theorem best_ok (ks:Nat→Bool×Rat) : ∀n,BestOK ks n (bestN ks n)
 | 0=>⟨fun h=>absurd h (by omega),(fun b h=>by cases h),(fun b h=>by cases h),fun y hy=>absurd hy (by omega),List.Pairwise.nil⟩
 | n+1=>by
  obtain⟨a1,a2,a3,a4,a5⟩:=best_ok ks n
  rw[bestN]
  cases hB:bestN ks n with
  | nil =>
   have hn:n=0:=by
    rcases Nat.eq_zero_or_pos n with h|h
    ·exact h
    ·exact absurd hB (a1 h)
   subst hn
   refine⟨fun _=>by simp[bestStep],fun b h=>?_,fun b h y hy=>?_,fun y hy h=>?_,by simp[bestStep]⟩
   ·simp[bestStep] at h;omega
   ·simp[bestStep] at h;subst h
    rw[show y=0 from by omega];exact ltK_irr _
   ·simp[bestStep] at h;omega
  | cons b l =>
   rw[hB] at a2 a3 a4 a5
   have hb:=a2 b List.mem_cons_self
   show BestOK ks (n+1) (if ltK (ks b) (ks n) then [n] else if ltK (ks n) (ks b) then b :: l else b :: l ++ [n])
   by_cases c1:ltK (ks b) (ks n)
   ·rw[if_pos c1]
    have up : ∀y,y<n→ltK (ks y) (ks n):=fun y hy=>ltK_of_not_lt (a3 b List.mem_cons_self y hy) c1
    refine⟨fun _=>by simp,fun x h=>?_,fun x h y hy=>?_,fun y hy h x hx=>?_,by simp⟩
    ·simp at h;omega
    ·simp at h;subst h
     rcases Nat.lt_or_ge y x with h2|h2
     ·exact ltK_asymm (up y h2)
     ·rw[show y=x from by omega];exact ltK_irr _
    ·simp at h hx;subst hx
     exact up y (by omega)
   ·rw[if_neg c1]
    have low : ∀x∈b :: l,¬ltK (ks x) (ks n):=fun x hx h=>c1 (ltK_of_not_lt (a3 x hx b hb) h)
    by_cases c2:ltK (ks n) (ks b)
    ·rw[if_pos c2]
     have dn : ∀x∈b :: l,ltK (ks n) (ks x):=fun x hx=>ltK_of_lt_not c2 (a3 x hx b hb)
     refine⟨fun _=>by simp,fun x h=>by have:=a2 x h;omega,fun x h y hy=>?_,fun y hy h x hx=>?_,a5⟩
     ·rcases Nat.lt_or_ge y n with h2|h2
      ·exact a3 x h y h2
      ·rw[show y=n from by omega];exact low x h
     ·rcases Nat.lt_or_ge y n with h2|h2
      ·exact a4 y h2 h x hx
      ·rw[show y=n from by omega];exact dn x hx
    ·rw[if_neg c2]
     have eq : ∀y,y<n → ¬ltK (ks n) (ks y):=fun y hy=>ltK_neg c2 (a3 b List.mem_cons_self y hy)
     refine⟨fun _=>by simp,fun x h=>?_,fun x h y hy=>?_,fun y hy h x hx=>?_,?_⟩
     ·rcases List.mem_append.1 h with h|h
      ·have:=a2 x h;omega
      ·simp at h;omega
     ·rcases List.mem_append.1 h with h|h
      ·rcases Nat.lt_or_ge y n with h2|h2
       ·exact a3 x h y h2
       ·rw[show y=n from by omega];exact low x h
      ·simp at h;subst h
       rcases Nat.lt_or_ge y x with h2|h2
       ·exact eq y h2
       ·rw[show y=x from by omega];exact ltK_irr _
     ·rw[List.mem_append,not_or] at h
      have hyn:y<n:=by
       rcases Nat.lt_or_ge y n with h2|h2
       ·exact h2
       ·exact absurd (by simp;omega) h.2
      rcases List.mem_append.1 hx with hx|hx
      ·exact a4 y hyn h.1 x hx
      ·simp at hx;subst hx
       exact ltK_of_lt_not (a4 y hyn h.1 b List.mem_cons_self) c2
     ·rw[List.pairwise_append]
      refine⟨a5,by simp,fun x hx y hy=>?_⟩
      simp at hy;subst hy
      exact a2 x hx
def Fair (m n:Nat) (p low s:Nat→Nat):Prop:=(∀i,i<n→low i≤s i) ∧ ∀i j,i<n→j<n→low i<s i→ltK (keyC m (p j) (s j)) (keyC m (p i) (s i - 1))
def given (s:Nat→Nat) (B:List Nat):Nat→Nat:=fun i=>if i∈B then s i+1 else s i
theorem fair_start (m n:Nat) (p low:Nat→Nat):Fair m n p low low:=⟨fun _ _=>Nat.le_refl _,fun i j _ _ h=>absurd h (by omega)⟩
theorem fair_group {m n:Nat} {p low s:Nat→Nat} {B:List Nat} (hm:11≤m∧m≤15) (hp : ∀i,i<n→1≤p i) (F:Fair m n p low s) (hB:BestOK (fun i=>keyC m (p i) (s i)) n B):Fair m n p low (given s B):=by
 obtain⟨f1,f2⟩:=F
 obtain⟨b1,b2,b3,b4,_⟩:=hB
 have hlt : ∀b∈B,∀j,j<n→ltK (keyC m (p j) (given s B j)) (keyC m (p b) (s b)):=by
  intro b hb j hj
  unfold given
  by_cases h:j∈B
  ·rw[if_pos h]
   exact ltK_of_lt_not (keyC_falls hm (hp j hj) (s j)) (b3 b hb j hj)
  ·rw[if_neg h]
   exact b4 j hj h b hb
 refine⟨fun i hi=>by have:=f1 i hi;unfold given;split<;>omega,fun i j hi hj hl=>?_⟩
 by_cases h:i∈B
 ·have e:given s B i - 1=s i:=by unfold given;rw[if_pos h];omega
  rw[e]
  exact hlt i h j hj
 ·have e:given s B i=s i:=by unfold given;rw[if_neg h]
  rw[e] at hl ⊢
  cases B with
  | nil=>exact absurd rfl (b1 (by omega))
  | cons b l =>
   exact ltK_trans (hlt b List.mem_cons_self j hj) (f2 i b hi (b2 b List.mem_cons_self) hl)
theorem fair_some {m n:Nat} {p low s:Nat→Nat} {B C:List Nat} (hm:11≤m∧m≤15) (hp : ∀i,i<n→1≤p i) (F:Fair m n p low s) (hB:BestOK (fun i=>keyC m (p i) (s i)) n B) (hC : ∀x∈C,x∈B) :
  ∀i j,i<n→j<n→low i<given s C i → ¬ltK (keyC m (p i) (given s C i - 1)) (keyC m (p j) (given s C j)):=by
 obtain⟨f1,f2⟩:=F
 obtain⟨b1,b2,b3,b4,_⟩:=hB
 have hle : ∀b∈B,∀j,j<n → ¬ltK (keyC m (p b) (s b)) (keyC m (p j) (given s C j)):=by
  intro b hb j hj
  unfold given
  by_cases h:j∈C
  ·rw[if_pos h]
   exact ltK_asymm (ltK_of_lt_not (keyC_falls hm (hp j hj) (s j)) (b3 b hb j hj))
  ·rw[if_neg h]
   exact b3 b hb j hj
 intro i j hi hj hl
 by_cases h:i∈C
 ·have e:given s C i - 1=s i:=by unfold given;rw[if_pos h];omega
  rw[e]
  exact hle i (hC i h) j hj
 ·have e:given s C i=s i:=by unfold given;rw[if_neg h]
  rw[e] at hl ⊢
  cases B with
  | nil=>exact absurd rfl (b1 (by omega))
  | cons b l =>
   exact ltK_neg (ltK_asymm (f2 i b hi (b2 b List.mem_cons_self) hl)) (hle b List.mem_cons_self j hj)
end Go.Id
