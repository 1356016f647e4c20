/-
  Contracts: wardmoteref08: asked, minimum. Contracts: wardmoteref08: asked.
-/
import Derived.Test.YthpefnfbnaekaaaGreatBracketTwoBp
import Derived.Test.YthpefnfbnaekaaaGreatBracketTwoAr
import Derived.Test.YthpefnfbnaekaaaGreatBracketTwoBo
import Derived.Test.YthpefnfbnaekaaaGreatBracketTwoBn
import Derived.Test.YthpefnfbnaekaaaGreatBracketTwoBl
set_option linter.unusedVariables false
set_option linter.unusedSimpArgs false
set_option linter.defProp false
set_option linter.deprecated false
namespace Go.Id
open Go
end Go.Id

namespace Go.Id
open Go
end Go.Id

namespace Go.Id
open Go
end Go.Id

namespace Go.Id
open Go
def keyS (m:Int) (x:Seat):Bool×Rat:=(postZ m.toNat x.2.toNat,rankX m.toNat x.1.1.toNat x.2.toNat)
def ltK (a b:Bool×Rat):Prop:=(a.1=false∧b.1=true)∨(a.1=b.1∧a.2<b.2)
theorem cmpR_lt (b1:Bool) (x:Rat) (b2:Bool) (y:Rat):cmpR b1 x b2 y<0↔ltK (b1,x) (b2,y):=by
 have hc:cmpQ x y<0↔x<y:=by
  unfold cmpQ
  split
  ·rename_i h;exact⟨fun _=>h,fun _=>by omega⟩
  ·rename_i h
   split
   ·exact⟨fun h=>absurd h (by omega),fun h2=>absurd h2 h⟩
   ·exact⟨fun h=>absurd h (by omega),fun h2=>absurd h2 h⟩
 unfold cmpR ltK
 cases b1<;>cases b2<;>simp[hc]
def SeatOK (x:Seat):Prop:=(1≤x.1.1∧x.1.1≤1000000000)∧0≤x.2∧x.2≤1000
theorem below_key {m:Int} (hm:11≤m∧m≤15) {a b:Seat} (ha:SeatOK a) (hb:SeatOK b):stBelow m a b=true↔ltK (keyS m a) (keyS m b):=by
 unfold stBelow aboveN
 rw[if_neg (by rw[aboveErr_eq,decide_eq_true ⟨hm,ha.2,hb.2,ha.1,hb.1⟩];simp),decide_eq_true_eq]
 exact cmpR_lt _ _ _ _
theorem ltK_trans {a b c:Bool×Rat} (h1:ltK a b) (h2:ltK b c):ltK a c:=by
 obtain⟨a1,a2⟩:=a
 obtain⟨b1,b2⟩:=b
 obtain⟨c1,c2⟩:=c
 unfold ltK at *
 cases a1<;>cases b1<;>cases c1<;>simp_all<;>grind
theorem ltK_neg {a b c:Bool×Rat} (h1 : ¬ltK a b) (h2 : ¬ltK b c) : ¬ltK a c:=by
 obtain⟨a1,a2⟩:=a
 obtain⟨b1,b2⟩:=b
 obtain⟨c1,c2⟩:=c
 unfold ltK at *
 cases a1<;>cases b1<;>cases c1<;>simp_all<;>grind
theorem leastBy_some {lt:Seat→Seat→Bool} {L:List Seat} (tr : ∀a∈L,∀b∈L,∀c∈L,lt a b=true→lt b c=true→lt a c=true) (ng : ∀a∈L,∀b∈L,∀c∈L,lt a b=false→lt b c=false→lt a c=false) (ir : ∀a∈L,lt a a=false) :
  ∀(l:List Seat) (o:Seat),(∀x∈l,x∈L)→o∈L → ∃y,leastBy lt (some o) l=some y∧y∈L∧(y=o∨y∈l)∧lt o y=false ∧ ∀x∈l,lt x y=false
 | [],o,_,ho=>⟨o,rfl,ho,.inl rfl,ir o ho,fun x hx=>by cases hx⟩
 | a :: l,o,hl,ho=>by
  have ha:=hl a List.mem_cons_self
  have hl' : ∀x∈l,x∈L:=fun x hx=>hl x (List.mem_cons_of_mem _ hx)
  by_cases c:lt a o=true
  ·obtain⟨y,h1,h2,h3,h4,h5⟩:=leastBy_some tr ng ir l a hl' ha
   refine⟨y,by rw[leastBy];show leastBy lt (if lt a o=true then some a else some o) l=_;rw[if_pos c];exact h1,h2,.inr (by rcases h3 with rfl|h3;exact List.mem_cons_self;exact List.mem_cons_of_mem _ h3),?_,fun x hx=>?_⟩
   ·cases h:lt o y
    ·rfl
    ·rw[tr a ha o ho y h2 c h] at h4;cases h4
   ·rcases List.mem_cons.1 hx with rfl|hx
    ·exact h4
    ·exact h5 x hx
  ·obtain⟨y,h1,h2,h3,h4,h5⟩:=leastBy_some tr ng ir l o hl' ho
   refine⟨y,by rw[leastBy];show leastBy lt (if lt a o=true then some a else some o) l=_;rw[if_neg c];exact h1,h2,(by rcases h3 with rfl|h3;exact .inl rfl;exact .inr (List.mem_cons_of_mem _ h3)),h4,fun x hx=>?_⟩
   rcases List.mem_cons.1 hx with rfl|hx
   ·exact ng x ha o ho y h2 (by simpa using c) h4
   ·exact h5 x hx
theorem lastS_mem : ∀{rs:List Reg} {x:Seat},x∈lastS rs ↔ ∃r∈rs,(0<r.1∧r.2.2<r.2.1)∧x=(r,r.2.1 - 1)
 | [],x=>by simp[lastS]
 | r :: l,x=>by
  unfold lastS
  have ih:=lastS_mem (rs:=l) (x:=x)
  split
  ·rename_i h
   rw[List.mem_cons,ih]
   constructor
   ·rintro(rfl|⟨y,h1,h2⟩)
    ·exact⟨r,List.mem_cons_self,h,rfl⟩
    ·exact⟨y,List.mem_cons_of_mem _ h1,h2⟩
   ·rintro⟨y,h1,h2,rfl⟩
    rcases List.mem_cons.1 h1 with rfl|h1
    ·exact .inl rfl
    ·exact .inr ⟨y,h1,h2,rfl⟩
  ·rename_i h
   rw[ih]
   constructor
   ·rintro⟨y,h1,h2⟩
    exact⟨y,List.mem_cons_of_mem _ h1,h2⟩
   ·rintro⟨y,h1,h2,rfl⟩
    rcases List.mem_cons.1 h1 with rfl|h1
    ·exact absurd h2 h
    ·exact⟨y,h1,h2,rfl⟩
theorem nextS_mem : ∀{rs:List Reg} {x:Seat},x∈nextS rs ↔ ∃r∈rs,0<r.1∧x=(r,r.2.1)
 | [],x=>by simp[nextS]
 | r :: l,x=>by
  unfold nextS
  have ih:=nextS_mem (rs:=l) (x:=x)
  split
  ·rename_i h
   rw[List.mem_cons,ih]
   constructor
   ·rintro(rfl|⟨y,h1,h2⟩)
    ·exact⟨r,List.mem_cons_self,h,rfl⟩
    ·exact⟨y,List.mem_cons_of_mem _ h1,h2⟩
   ·rintro⟨y,h1,h2,rfl⟩
    rcases List.mem_cons.1 h1 with rfl|h1
    ·exact .inl rfl
    ·exact .inr ⟨y,h1,h2,rfl⟩
  ·rename_i h
   rw[ih]
   constructor
   ·rintro⟨y,h1,h2⟩
    exact⟨y,List.mem_cons_of_mem _ h1,h2⟩
   ·rintro⟨y,h1,h2,rfl⟩
    rcases List.mem_cons.1 h1 with rfl|h1
    ·exact absurd h2 h
    ·exact⟨y,h1,h2,rfl⟩
theorem last_seat {rs:List Reg} (R:RegsOK rs) {x:Seat} (h:x∈lastS rs):SeatOK x:=by
 obtain⟨r,h1,h2,rfl⟩:=lastS_mem.1 h
 have:=R.b r h1
 exact⟨⟨by dsimp only;omega,by dsimp only;omega⟩,by dsimp only;omega,by dsimp only;omega⟩
theorem next_seat {rs:List Reg} (R:RegsOK rs) {x:Seat} (h:x∈nextS rs):SeatOK x:=by
 obtain⟨r,h1,h2,rfl⟩:=nextS_mem.1 h
 have:=R.b r h1
 exact⟨⟨by dsimp only;omega,by dsimp only;omega⟩,by dsimp only;omega,by dsimp only;omega⟩
theorem certB_iff {m:Int} {rs:List Reg} (R:RegsOK rs) (hm:11≤m∧m≤15):certB m rs=true↔(∀r∈rs,0<r.1∨r.2.1=r.2.2) ∧ ∀x∈lastS rs,∀y∈nextS rs,¬ltK (keyS m x) (keyS m y):=by
 have st:settled rs=true ↔ ∀r∈rs,0<r.1∨r.2.1=r.2.2:=by
  unfold settled
  rw[List.all_eq_true]
  simp
 unfold certB
 rw[Bool.and_eq_true,st]
 refine and_congr_right fun _=>?_
 cases hl:lastS rs with
 | nil=>simp[leastBy]
 | cons a l =>
  obtain⟨r0,hr0,h0,rfl⟩:=lastS_mem.1 (show a∈lastS rs by rw[hl];exact List.mem_cons_self)
  obtain⟨b,l2,hn⟩ : ∃b l2,nextS rs=b :: l2:=by
   cases hn:nextS rs with
   | nil=>have:=nextS_mem.2 ⟨r0,hr0,h0.1,rfl⟩;rw[hn] at this;cases this
   | cons b l2=>exact⟨b,l2,rfl⟩
  have sl : ∀x∈(r0,r0.2.1 - 1) :: l,SeatOK x:=fun x hx=>last_seat R (by rw[hl];exact hx)
  have sn : ∀x∈b :: l2,SeatOK x:=fun x hx=>next_seat R (by rw[hn];exact hx)
  have k : ∀{x y:Seat},SeatOK x→SeatOK y→(stBelow m x y=true↔ltK (keyS m x) (keyS m y)):=fun hx hy=>below_key hm hx hy
  have kf : ∀{x y:Seat},SeatOK x→SeatOK y→(stBelow m x y=false ↔ ¬ltK (keyS m x) (keyS m y)):=fun hx hy=>by rw[←k hx hy];simp
  have irr : ∀z,¬ltK z z:=fun z=>by unfold ltK;cases z.1<;>simp<;>grind
  obtain⟨lo,e1,m1,_,f1,f2⟩:=leastBy_some (lt:=stBelow m) (L:=(r0,r0.2.1 - 1) :: l) (fun a ha b hb c hc h1 h2=>(k (sl a ha) (sl c hc)).2 (ltK_trans ((k (sl a ha) (sl b hb)).1 h1) ((k (sl b hb) (sl c hc)).1 h2)))
   (fun a ha b hb c hc h1 h2=>(kf (sl a ha) (sl c hc)).2 (ltK_neg ((kf (sl a ha) (sl b hb)).1 h1) ((kf (sl b hb) (sl c hc)).1 h2))) (fun a ha=>(kf (sl a ha) (sl a ha)).2 (irr _)) l _ (fun x hx=>List.mem_cons_of_mem _ hx) List.mem_cons_self
  obtain⟨hi,e2,m2,_,g1,g2⟩:=leastBy_some (lt:=fun a b=>stBelow m b a) (L:=b :: l2) (fun a ha b hb c hc h1 h2=>(k (sn c hc) (sn a ha)).2 (ltK_trans ((k (sn c hc) (sn b hb)).1 h2) ((k (sn b hb) (sn a ha)).1 h1)))
   (fun a ha b hb c hc h1 h2=>(kf (sn c hc) (sn a ha)).2 (ltK_neg ((kf (sn c hc) (sn b hb)).1 h2) ((kf (sn b hb) (sn a ha)).1 h1))) (fun a ha=>(kf (sn a ha) (sn a ha)).2 (irr _)) l2 _ (fun x hx=>List.mem_cons_of_mem _ hx) List.mem_cons_self
  rw[hn]
  have e1':leastBy (stBelow m) none ((r0,r0.2.1 - 1) :: l)=some lo:=e1
  have e2':leastBy (fun a b=>stBelow m b a) none (b :: l2)=some hi:=e2
  rw[e1',e2']
  show(!(stBelow m lo hi))=true↔_
  rw[Bool.not_eq_true',kf (sl lo m1) (sn hi m2)]
  constructor
  ·intro h x hx y hy hxy
   have hlo : ¬ltK (keyS m x) (keyS m lo):=by
    rcases List.mem_cons.1 hx with rfl|hx2
    ·exact(kf (sl _ hx) (sl lo m1)).1 f1
    ·exact(kf (sl _ hx) (sl lo m1)).1 (f2 x hx2)
   have hhi : ¬ltK (keyS m hi) (keyS m y):=by
    rcases List.mem_cons.1 hy with rfl|hy2
    ·exact(kf (sn hi m2) (sn _ hy)).1 g1
    ·exact(kf (sn hi m2) (sn _ hy)).1 (g2 y hy2)
   exact ltK_neg (ltK_neg hlo h) hhi hxy
  ·intro h
   exact h lo m1 hi m2
end Go.Id

namespace Go.Id
open Go
end Go.Id

namespace Go.Id
open Go
def houseN (s:Nat):Nat:=if s % 8=0 then 1+s % 1000 else 1+s % 20
theorem house_ok {h:IH} {x:Value} {ps ls:List Nat} {u s:Nat} (hx:Dr6 h x ps ls u s) :
  WV Proofs.Tryz.prog (.func (.func 12) #[] #[]) [x] h fun r h'=>Ext h h'∧r=KN (houseN s):=by
 obtain⟨⟨vp,vl,rfl,sp,sl⟩,bp,bl,hu,hs,lp,ll⟩:=hx
 have e8:(s:Int) % 8=((s % 8:Nat):Int):=by omega
 have e20:(s:Int) % 20=((s % 20:Nat):Int):=by omega
 have e1k:(s:Int) % 1000=((s % 1000:Nat):Int):=by omega
 have w1:IntKind.i64.wrap (1+((s % 1000:Nat):Int))=((1+s % 1000:Nat):Int):=by rw[wrap_i64 (by omega)];omega
 have w2:IntKind.i64.wrap (1+((s % 20:Nat):Int))=((1+s % 20:Nat):Int):=by rw[wrap_i64 (by omega)];omega
 refine enter (nt:=17) (rs:=[.tmp 2]) Proofs.Tryz.func12 rfl rfl rfl (by simp) ?_
 by_cases c:s % 8=0
 ·have d:(((s % 8:Nat):Int) == 0)=true:=by simp;omega
  simp -dsimp (maxSteps:=1000000) (disch:=try exact dx) only[wpS,Nat.reduceEqDiff,fa26_3,ld24,cv24_3,e8,e1k,w1,d]
  exact⟨(Ext.refl h).new _,by unfold houseN;rw[if_pos c]⟩
 ·have d:(((s % 8:Nat):Int) == 0)=false:=by simp;omega
  simp -dsimp (maxSteps:=1000000) (disch:=try exact dx) only[wpS,Nat.reduceEqDiff,fa26_3,ld24,cv24_3,e8,e20,w2,d]
  exact⟨(Ext.refl h).new _,by unfold houseN;rw[if_neg c]⟩
end Go.Id

namespace Go.Id
open Go
open Go.Proofs.Tryz (prog)
set_option maxHeartbeats 16000000
abbrev blkV (j n:Nat):Value:=.slice (some ⟨2*j,0,none⟩) n (2*n)
theorem blk_now {h:IH} {j n:Nat} {cs:List Value} (g:h.ext.get j=some (.cells cs 1 none)) (hl:cs.length=n):SlNow h 1 (blkV j n) n cs :=
 ⟨by omega,by omega,.inr ⟨2*j,0,_,rfl,.inr ⟨cs,by rw[row_even];simp only[IH.cells,g],by rw[List.drop_zero,List.take_of_length_le (by omega)],by omega⟩⟩⟩
theorem blk_sl {h:IH} {j n:Nat} {cs:List Value} (g:h.ext.get j=some (.cells cs 1 none)) (hj:j<h.n) (hl:cs.length=n) (hn:0<n):SlOf h 1 (blkV j n) n cs :=
 sl_block g hj (by omega) (by omega) (by omega) (by omega)
theorem cloneI_ok {h:IH} {v:Value} {n:Nat} {cs:List Value} (hs:SlOf h 1 v n cs) (hp:0<n) (hc:cs.all cellOK=true) (hn:n≤1000000000) :
  WV prog (.func (.func 31) #[] #[]) [v] h fun r h'=>Ext h h' ∧ ∃j,h.n≤j∧j<h'.n∧r=blkV j n∧h'.ext.get j=some (.cells cs 1 none):=by
 obtain⟨hz,hl,⟨rfl,rfl⟩|⟨b,o,k,rfl,hh⟩⟩:=hs
 ·omega
 ·have hk:Ext h (h.new (.cells [] 1 none)):=(Ext.refl h).new _
  have hnow2:SlNow (h.new (.cells [] 1 none)) 1 (.slice (some ⟨b,o,none⟩) n k) n cs:=(SlOf.keep ⟨hz,hl,.inr ⟨b,o,k,rfl,hh⟩⟩ hk.keep).now
  refine enter (nt:=8) (rs:=[.tmp 2]) Proofs.Tryz.func31 rfl rfl rfl (by simp) ?_
  simp -dsimp (maxSteps:=1000000) (disch:=try exact dx) only[wpS,wpT,Nat.reduceEqDiff,Nat.reduceMul,bs29,ba29_29,nil_eq_some u29,append_zero ap29 _ hnow2 hp hc (by omega)]
  exact⟨hk.new _,_,by simp,by simp,rfl,get_new_same _ _ rfl⟩
def movedL (a b c:Nat) (L:List Int):List Int :=
 let i:=a % L.length
 let k:=b % L.length
 let d:=if L.getD i 0<((c % 3:Nat):Int) then L.getD i 0 else ((c % 3:Nat):Int)
 let L1:=L.set i (L.getD i 0 - d)
 L1.set k (L1.getD k 0+d)
theorem map_set' (L:List Int) (i:Nat) (x:Int):(L.map KI).set i (KI x)=(L.set i x).map KI:=by rw[List.map_set]
abbrev shiftV (a b c d:Nat) (n:Int):Value:=.agg #[B8 a,B8 b,B8 c,B8 d,KI n]
theorem all_map (L:List Int):(L.map KI).all cellOK=true:=by simp[cellOK]
theorem getD_setI (L:List Int) (i k:Nat) (x:Int) (hk:k<L.length):(L.set i x).getD k 0=if i=k then x else L.getD k 0:=by
 rw[List.getD_eq_getElem?_getD,List.getElem?_set,List.getD_eq_getElem?_getD]
 by_cases c:i=k
 ·rw[if_pos c,if_pos c,if_pos (by omega)];rfl
 ·rw[if_neg c,if_neg c]
theorem sfMoved_ok {h:IH} {a b c d:Nat} {x:Int} {v:Value} {L:List Int} (hs:SlOf h 1 v L.length (L.map KI)) (hl:L.length≤1000000) (h0:0<L.length) (ha:a<256) (hb:b<256) (hc:c<256) (hL : ∀y∈L,0≤y∧y≤1000000) :
  WV prog (.func (.func 13) #[] #[]) [shiftV a b c d x,v] h fun r h'=>Ext h h'∧SlOf h' 1 r L.length ((movedL a b c L).map KI):=by
 refine enter (nt:=47) (rs:=[.tmp 4]) Proofs.Tryz.func13 rfl rfl rfl (by simp) ?_
 simp -dsimp (maxSteps:=1000000) (disch:=try exact dx) only[wpS,Nat.reduceEqDiff,Nat.reduceAdd]
 obtain⟨H0,hH0⟩ : ∃H,H=h.new (.cells [B8 a,B8 b,B8 c,B8 d,KI x] 0 none):=⟨_,rfl⟩
 have E0:Ext h H0:=by rw[hH0];exact(Ext.refl h).new _
 have g0:H0.ext.get h.n=some (.cells [B8 a,B8 b,B8 c,B8 d,KI x] 0 none):=by rw[hH0];simp (disch:=try exact dx) only[get_new_same]
 have n0:H0.n=h.n+1:=by rw[hH0];simp
 rw[←hH0]
 clear hH0
 refine call (cloneI_ok (hs.keep E0.keep) h0 (all_map L) (by omega)) ?_
 rintro _ h1 ⟨X1,j,j1,j2,rfl,gj⟩
 have m1:=X1.n
 have k0:=X1.kept (by omega) g0
 have N1:=blk_now (n:=L.length) gj (by simp)
 obtain⟨i,hi⟩ : ∃i,i=a % L.length:=⟨_,rfl⟩
 obtain⟨k,hk⟩ : ∃i,i=b % L.length:=⟨_,rfl⟩
 have mi:i<L.length:=by rw[hi];exact Nat.mod_lt _ h0
 have mk:k<L.length:=by rw[hk];exact Nat.mod_lt _ h0
 have e1:(a:Int) % (L.length:Int)=(i:Int):=by rw[hi];rfl
 have e2:(b:Int) % (L.length:Int)=(k:Int):=by rw[hk];rfl
 have e3:(c:Int) % 3=((c % 3:Nat):Int):=by omega
 have ai:elemAddr (blkV j L.length) i=ptr (2*j) i:=by simp[elemAddr]
 have ak:elemAddr (blkV j L.length) k=ptr (2*j) k:=by simp[elemAddr]
 have li:load prog h1 3 (ptr (2*j) i)=some (KI (L.getD i 0)):=by
  have:=N1.ld (P:=prog) (t:=3) (c:=i) (by rw[List.length_map];omega) ag3
  rw[ai,map_get,at_getD mi] at this
  exact this
 have bi:=hL _ (List.mem_of_getElem? (at_getD mi))
 have bk:=hL _ (List.mem_of_getElem? (at_getD mk))
 obtain⟨dd,hdd⟩ : ∃z:Int,z=if L.getD i 0<((c % 3:Nat):Int) then L.getD i 0 else ((c % 3:Nat):Int):=⟨_,rfl⟩
 have db:0≤dd∧dd≤2∧dd≤L.getD i 0:=by rw[hdd];split<;>omega
 have w1:IntKind.i64.wrap (L.getD i 0 - dd)=L.getD i 0 - dd:=by rw[wrap_i64 (by omega)]
 obtain⟨L1,hL1⟩ : ∃l,l=L.set i (L.getD i 0 - dd):=⟨_,rfl⟩
 have l1:L1.length=L.length:=by rw[hL1,List.length_set]
 have b1:0≤L1.getD k 0∧L1.getD k 0≤1000000:=by
  rw[hL1,getD_setI _ _ _ _ mk]
  split<;>omega
 have s1:IH.splice (L.map KI) i [.int .i64 (L.getD i 0 - dd)]=L1.map KI:=by rw[splice_set (by rw[List.length_map];exact mi),map_set',←hL1]
 have gk:(L1.map KI)[k]?=some (KI (L1.getD k 0)):=by rw[map_get,at_getD (by omega)];rfl
 have w2:IntKind.i64.wrap (L1.getD k 0+dd)=L1.getD k 0+dd:=by rw[wrap_i64 (by omega)]
 have s2:IH.splice (L1.map KI) k [.int .i64 (L1.getD k 0+dd)]=(movedL a b c L).map KI:=by
  rw[splice_set (by rw[List.length_map];omega),map_set']
  rw[hL1,hdd,hi,hk];rfl
 simp -dsimp (maxSteps:=1000000) (disch:=try exact dx) only[wpS,wpT,Nat.reduceEqDiff,fa28_0,ld5,cv5_3,fa28_1,fa28_2,ld3,st3,row_of k0,N1.len sl29,e1,e2,e3,N1.idx es29 mi,N1.idx es29 mk,ai,ak,li,min_kk,←hdd,w1,w2,gj,List.length_map,s1,s2,gk,l1]
 refine⟨((E0.trans X1).put (by omega) _).put (by omega) _,?_⟩
 refine blk_sl (get_put_same _ _ rfl) (by simp;omega) ?_ h0
 rw[List.length_map]
 unfold movedL
 simp
end Go.Id

namespace Go.Proofs.YthpefnfbnaekaaaGreat
open Go.ChangeShapes Go.WideShapes Go.ChangeAt Go.RowKit Go.Id
theorem u_shift:Tryz.prog.underlying 28=some (.struct { toList:=[{ name := "From",type:=5,offset:=0,embedded:=false,tag := "",pkgPath := "",byteOffset:=0 },{ name := "To",type:=5,offset:=1,embedded:=false,tag := "",pkgPath := "",byteOffset:=1 },{ name := "Many",type:=5,offset:=2,embedded:=false,tag := "",pkgPath := "",byteOffset:=2 },{ name := "At",type:=5,offset:=3,embedded:=false,tag := "",pkgPath := "",byteOffset:=3 },{ name := "N",type:=3,offset:=4,embedded:=false,tag := "",pkgPath := "",byteOffset:=8 }] }):=by kernel_rfl
theorem u_int:Tryz.prog.underlying 3=some (.int .i64):=by kernel_rfl
theorem c_shift:Tryz.prog.cellsOf 28=5:=by kernel_rfl
theorem c_int:Tryz.prog.cellsOf 3=1:=by kernel_rfl
theorem len5 {α:Type} : ∀{l:List α},l.length=5 → ∃a b c d e,l = [a,b,c,d,e]
 | [a,b,c,d,e],_=>⟨a,b,c,d,e,rfl⟩
section
variable {H:Type} {enc:TypeId×Value→H} {W:World} {held:Bool}
theorem int_of {fuel:Nat} {cs:List Value} {x:DataW H×List MemPlace} (h:DataW.trod enc Tryz.prog W 0 (fun _=>true) held fuel 3 cs=some x) : ∃n:Int,cs = [KI n]:=by
 obtain⟨n,e,_⟩:=DataW.trod_int u_int h
 exact⟨n,e⟩
theorem shift_of {fuel:Nat} {cs:List Value} {x:DataW H×List MemPlace} (h:DataW.trod enc Tryz.prog W 0 (fun _=>true) held fuel 28 cs=some x) :
  ∃a b c d n,cs = [B8 a,B8 b,B8 c,B8 d,KI n]∧(a<256∧b<256∧c<256∧d<256):=by
 obtain⟨xs,m,_,_,hl,hn,hf⟩:=DataW.trod_struct u_shift h
 rw[c_shift] at hl
 have hn2:xs.length=5:=hn
 obtain⟨x0,hx0⟩ : ∃y,xs[0]?=some y:=⟨_,List.getElem?_eq_getElem (by omega)⟩
 have f0:DataW.trod enc Tryz.prog W 0 (fun _=>true) held m 5 ((cs.drop 0).take (Tryz.prog.cellsOf 5))=some x0:=(hf 0 { name := "From",type:=5,offset:=0,embedded:=false,tag := "",pkgPath := "",byteOffset:=0 } rfl).trans hx0
 obtain⟨x1,hx1⟩ : ∃y,xs[1]?=some y:=⟨_,List.getElem?_eq_getElem (by omega)⟩
 have f1:DataW.trod enc Tryz.prog W 0 (fun _=>true) held m 5 ((cs.drop 1).take (Tryz.prog.cellsOf 5))=some x1:=(hf 1 { name := "To",type:=5,offset:=1,embedded:=false,tag := "",pkgPath := "",byteOffset:=1 } rfl).trans hx1
 obtain⟨x2,hx2⟩ : ∃y,xs[2]?=some y:=⟨_,List.getElem?_eq_getElem (by omega)⟩
 have f2:DataW.trod enc Tryz.prog W 0 (fun _=>true) held m 5 ((cs.drop 2).take (Tryz.prog.cellsOf 5))=some x2:=(hf 2 { name := "Many",type:=5,offset:=2,embedded:=false,tag := "",pkgPath := "",byteOffset:=2 } rfl).trans hx2
 obtain⟨x3,hx3⟩ : ∃y,xs[3]?=some y:=⟨_,List.getElem?_eq_getElem (by omega)⟩
 have f3:DataW.trod enc Tryz.prog W 0 (fun _=>true) held m 5 ((cs.drop 3).take (Tryz.prog.cellsOf 5))=some x3:=(hf 3 { name := "At",type:=5,offset:=3,embedded:=false,tag := "",pkgPath := "",byteOffset:=3 } rfl).trans hx3
 obtain⟨x4,hx4⟩ : ∃y,xs[4]?=some y:=⟨_,List.getElem?_eq_getElem (by omega)⟩
 have f4:DataW.trod enc Tryz.prog W 0 (fun _=>true) held m 3 ((cs.drop 4).take (Tryz.prog.cellsOf 3))=some x4:=(hf 4 { name := "N",type:=3,offset:=4,embedded:=false,tag := "",pkgPath := "",byteOffset:=8 } rfl).trans hx4
 rw[c_u8] at f0 f1 f2 f3
 rw[c_int] at f4
 obtain⟨a,b,c,d,e,rfl⟩:=len5 hl
 obtain⟨u0,e0,h0⟩:=trod_nat (m:=255) rfl rfl u_u8 f0
 obtain⟨u1,e1,h1⟩:=trod_nat (m:=255) rfl rfl u_u8 f1
 obtain⟨u2,e2,h2⟩:=trod_nat (m:=255) rfl rfl u_u8 f2
 obtain⟨u3,e3,h3⟩:=trod_nat (m:=255) rfl rfl u_u8 f3
 obtain⟨n,e4⟩:=int_of f4
 cases e0;cases e1;cases e2;cases e3;cases e4
 exact⟨u0,u1,u2,u3,n,rfl,by omega,by omega,by omega,by omega⟩
end
end Go.Proofs.YthpefnfbnaekaaaGreat

namespace Go.Id
open Go
def idxI (x:Int):List Int→Option Nat
 | []=>none
 | y :: l=>if y=x then some 0 else (idxI x l).map (· + 1)
theorem idxI_none {x:Int} : ∀{l:List Int},(∀y∈l,y≠x)→idxI x l=none
 | [],_=>rfl
 | y :: l,h=>by rw[idxI,if_neg (h y List.mem_cons_self),idxI_none fun z hz=>h z (List.mem_cons_of_mem _ hz)];rfl
theorem idxI_at {x:Int} : ∀{l:List Int} {i:Nat},l[i]?=some x→(∀j,j<i→l[j]?≠some x)→idxI x l=some i
 | [],i,h,_=>by simp at h
 | y :: l,0,h,_=>by simp at h;subst h;rw[idxI,if_pos rfl]
 | y :: l,i+1,h,h0=>by
  have hy:y≠x:=fun e=>h0 0 (by omega) (by rw[e];rfl)
  rw[idxI,if_neg hy,idxI_at (l:=l) (i:=i) (by simpa using h) fun j hj=>by have:=h0 (j+1) (by omega);simpa using this]
  rfl
theorem idxI_get {x:Int} : ∀{l:List Int} {i:Nat},idxI x l=some i→l[i]?=some x
 | [],i,h=>by cases h
 | y :: l,i,h=>by
  rw[idxI] at h
  by_cases c:y=x
  ·rw[if_pos c] at h;cases h;rw[c];rfl
  ·rw[if_neg c] at h
   obtain⟨j,hj,rfl⟩:=Option.map_eq_some_iff.1 h
   rw[List.getElem?_cons_succ];exact idxI_get hj
theorem idxI_not {x:Int} : ∀{l:List Int},idxI x l=none→x∉l
 | [],_,hm=>by cases hm
 | y :: l,h,hm=>by
  rw[idxI] at h
  by_cases c:y=x
  ·rw[if_pos c] at h;cases h
  ·rw[if_neg c] at h
   rcases List.mem_cons.1 hm with e|hm
   ·exact c e.symm
   ·exact idxI_not (Option.map_eq_none_iff.1 h) hm
def idxV (x:Int) (l:List Int):Int:=match idxI x l with
 | some i=>i
 | none => -1
theorem indexI_ok {h:IH} {v:Value} {x:Int} {a:List Int} (ha:SlNow h 1 v a.length (a.map KI)) (la:a.length≤1000000000) :
  WV Proofs.Tryz.prog (.func (.func 69) #[] #[]) [v,KI x] h fun r h'=>h'=h∧r=KI (idxV x a):=by
 refine enter (nt:=19) (rs:=[.tmp 4]) Proofs.Tryz.func69 rfl rfl rfl (by simp) ?_
 simp -dsimp (maxSteps:=1000000) (disch:=try exact dx) only[wpS,Nat.reduceEqDiff,Nat.reduceAdd,ha.len sl29]
 refine loop (fun m fr h1=>h1=h ∧ ∃i:Nat,i+m=a.length∧fget fr 0=some v∧fget fr 1=some (KI x)∧fget fr 7=some (KI a.length)∧fget fr 8=some (KI i) ∧ ∀j,j<i→a[j]?≠some x) a.length ⟨rfl,0,by simp,by simp,by simp,by simp,by simp,by simp⟩ ?_
 rintro m fr h1 ⟨rfl,i,him,f0,f1,f7,f8,hz⟩
 by_cases hi:i<a.length
 ·obtain⟨y,hy⟩ : ∃y,a[i]?=some y:=⟨a[i],List.getElem?_eq_getElem hi⟩
  by_cases c:x=y
  ·subst c
   simp -dsimp (maxSteps:=1000000) (disch:=try exact dx) only[wpS,wpT,Nat.reduceEqDiff,f0,f1,f7,f8,ha.idx es29 hi,ha.ld (P:=Proofs.Tryz.prog) (t:=3) (c:=i) (by simpa using hi) ag3,List.getElem?_map,hy]
   rw[idxV,idxI_at hy hz]
  ·have ec:(x == y)=false:=by simpa using c
   have e2:IntKind.i64.wrap ((i:Int)+1)=((i+1:Nat):Int):=by rw[wrap_i64 (by omega)];omega
   simp -dsimp (maxSteps:=1000000) (disch:=try exact dx) only[wpS,wpT,Nat.reduceEqDiff,f0,f1,f7,f8,ha.idx es29 hi,ha.ld (P:=Proofs.Tryz.prog) (t:=3) (c:=i) (by simpa using hi) ag3,List.getElem?_map,hy,ec,e2]
   refine⟨m - 1,by omega,rfl,i+1,by omega,by simp[f0],by simp[f1],by simp[f7],by simp,fun j hj=>?_⟩
   by_cases hji:j=i
   ·subst hji;rw[hy];intro e;cases e;exact c rfl
   ·exact hz j (by omega)
 ·simp -dsimp (maxSteps:=1000000) (disch:=try exact dx) only[wpS,wpT,f7,f8]
  have:idxI x a=none:=idxI_none fun y hy e=>by
   obtain⟨j,hj⟩:=List.getElem?_of_mem hy
   have jl:=(List.getElem?_eq_some_iff.1 hj).1
   exact hz j (by omega) (by rw[hj,e])
  rw[idxV,this]
end Go.Id

namespace Go.Id
open Go
def keyC (m p s:Nat):Bool×Rat:=(postZ m s,rankX m p s)
theorem rankQ_eq {m p s:Nat} (h:postN m s≠0):rankQ m p s=Rat.divInt (((if m=13 then p*p else p)*postD m s:Nat):Int) (postN m s):=by
 unfold rankQ
 rw[Rat.divInt_mul_divInt,Int.mul_one,Int.natCast_mul]
theorem postN_mono {m:Nat} (hm:11≤m∧m≤15) (s:Nat):postN m (s+1)≠0:=by
 rcases(by omega:m=11∨m=12∨m=13∨m=14∨m=15) with rfl|rfl|rfl|rfl|rfl
 ·show s+1≠0;omega
 ·show 2*(s+1)*(s+1+1)≠0
  exact Nat.mul_ne_zero (by omega) (by omega)
 ·show(s+1)*(s+1+1)≠0
  exact Nat.mul_ne_zero (by omega) (by omega)
 ·show 2*(s+1)+1≠0;omega
 ·show s+1+1≠0;omega
theorem keyC_falls {m p:Nat} (hm:11≤m∧m≤15) (hp:1≤p) (s:Nat):ltK (keyC m p (s+1)) (keyC m p s):=by
 have h1:=postN_mono hm s
 have z1:postZ m (s+1)=false:=by unfold postZ;simp[h1]
 unfold ltK keyC
 by_cases h0:postN m s=0
 ·exact .inl ⟨z1,by unfold postZ;simp[h0]⟩
 ·have z0:postZ m s=false:=by unfold postZ;simp[h0]
  refine .inr ⟨by dsimp only;rw[z1,z0],?_⟩
  dsimp only
  unfold rankX
  rw[z1,z0,if_neg (by simp),if_neg (by simp),rankQ_eq h0,rankQ_eq h1]
  have c:=postN_cross hm s
  have ht:0<(if m=13 then p*p else p):=by
   split
   ·exact Nat.mul_pos hp hp
   ·exact hp
  refine divInt_lt (by omega) (by omega) ?_
  rw[Nat.mul_assoc,Nat.mul_assoc]
  refine Nat.mul_lt_mul_of_pos_left ?_ ht
  rw[Nat.mul_comm (postD m (s+1)),Nat.mul_comm (postD m s)]
  exact c
theorem ltK_irr (a:Bool×Rat) : ¬ltK a a:=by
 unfold ltK
 cases a.1<;>simp[Rat.lt_irrefl]
theorem ltK_asymm {a b:Bool×Rat} (h:ltK a b) : ¬ltK b a:=fun h2=>ltK_irr a (ltK_trans h h2)
theorem ltK_of_lt_not {a b c:Bool×Rat} (h:ltK a b) (h2 : ¬ltK c b):ltK a c:=by
 refine Classical.byContradiction fun h3=>?_
 exact ltK_neg h3 h2 h
theorem ltK_of_not_lt {a b c:Bool×Rat} (h : ¬ltK b a) (h2:ltK b c):ltK a c:=by
 refine Classical.byContradiction fun h3=>?_
 exact ltK_neg h h3 h2
instance (a b:Bool×Rat):Decidable (ltK a b):=by unfold ltK;infer_instance
def bestStep (ks:Nat→Bool×Rat) (B:List Nat) (x:Nat):List Nat:=match B with
 | [] => [x]
 | b :: l=>if ltK (ks b) (ks x) then [x] else if ltK (ks x) (ks b) then b :: l else b :: l ++ [x]
def bestN (ks:Nat→Bool×Rat):Nat→List Nat
 | 0 => []
 | n+1=>bestStep ks (bestN ks n) n
structure BestOK (ks:Nat→Bool×Rat) (n:Nat) (B:List Nat):Prop where
 ne:0<n→B ≠ []
 lt : ∀b∈B,b<n
 top : ∀b∈B,∀y,y<n → ¬ltK (ks b) (ks y)
 rest : ∀y,y<n→y∉B → ∀b∈B,ltK (ks y) (ks b)
 asc:B.Pairwise (· < ·)
theorem best_ok (ks:Nat→Bool×Rat) : ∀n,BestOK ks n (bestN ks n)
 | 0=>⟨fun h=>absurd h (by omega),(fun b h=>by cases h),(fun b h=>by cases h),fun y hy=>absurd hy (by omega),List.Pairwise.nil⟩
 | n+1=>by
  obtain⟨a1,a2,a3,a4,a5⟩:=best_ok ks n
  rw[bestN]
  cases hB:bestN ks n with
  | nil =>
   have hn:n=0:=by
    rcases Nat.eq_zero_or_pos n with h|h
    ·exact h
    ·exact absurd hB (a1 h)
   subst hn
   refine⟨fun _=>by simp[bestStep],fun b h=>?_,fun b h y hy=>?_,fun y hy h=>?_,by simp[bestStep]⟩
   ·simp[bestStep] at h;omega
   ·simp[bestStep] at h;subst h
    rw[show y=0 from by omega];exact ltK_irr _
   ·simp[bestStep] at h;omega
  | cons b l =>
   rw[hB] at a2 a3 a4 a5
   have hb:=a2 b List.mem_cons_self
   show BestOK ks (n+1) (if ltK (ks b) (ks n) then [n] else if ltK (ks n) (ks b) then b :: l else b :: l ++ [n])
   by_cases c1:ltK (ks b) (ks n)
   ·rw[if_pos c1]
    have up : ∀y,y<n→ltK (ks y) (ks n):=fun y hy=>ltK_of_not_lt (a3 b List.mem_cons_self y hy) c1
    refine⟨fun _=>by simp,fun x h=>?_,fun x h y hy=>?_,fun y hy h x hx=>?_,by simp⟩
    ·simp at h;omega
    ·simp at h;subst h
     rcases Nat.lt_or_ge y x with h2|h2
     ·exact ltK_asymm (up y h2)
     ·rw[show y=x from by omega];exact ltK_irr _
    ·simp at h hx;subst hx
     exact up y (by omega)
   ·rw[if_neg c1]
    have low : ∀x∈b :: l,¬ltK (ks x) (ks n):=fun x hx h=>c1 (ltK_of_not_lt (a3 x hx b hb) h)
    by_cases c2:ltK (ks n) (ks b)
    ·rw[if_pos c2]
     have dn : ∀x∈b :: l,ltK (ks n) (ks x):=fun x hx=>ltK_of_lt_not c2 (a3 x hx b hb)
     refine⟨fun _=>by simp,fun x h=>by have:=a2 x h;omega,fun x h y hy=>?_,fun y hy h x hx=>?_,a5⟩
     ·rcases Nat.lt_or_ge y n with h2|h2
      ·exact a3 x h y h2
      ·rw[show y=n from by omega];exact low x h
     ·rcases Nat.lt_or_ge y n with h2|h2
      ·exact a4 y h2 h x hx
      ·rw[show y=n from by omega];exact dn x hx
    ·rw[if_neg c2]
     have eq : ∀y,y<n → ¬ltK (ks n) (ks y):=fun y hy=>ltK_neg c2 (a3 b List.mem_cons_self y hy)
     refine⟨fun _=>by simp,fun x h=>?_,fun x h y hy=>?_,fun y hy h x hx=>?_,?_⟩
     ·rcases List.mem_append.1 h with h|h
      ·have:=a2 x h;omega
      ·simp at h;omega
     ·rcases List.mem_append.1 h with h|h
      ·rcases Nat.lt_or_ge y n with h2|h2
       ·exact a3 x h y h2
       ·rw[show y=n from by omega];exact low x h
      ·simp at h;subst h
       rcases Nat.lt_or_ge y x with h2|h2
       ·exact eq y h2
       ·rw[show y=x from by omega];exact ltK_irr _
     ·rw[List.mem_append,not_or] at h
      have hyn:y<n:=by
       rcases Nat.lt_or_ge y n with h2|h2
       ·exact h2
       ·exact absurd (by simp;omega) h.2
      rcases List.mem_append.1 hx with hx|hx
      ·exact a4 y hyn h.1 x hx
      ·simp at hx;subst hx
       exact ltK_of_lt_not (a4 y hyn h.1 b List.mem_cons_self) c2
     ·rw[List.pairwise_append]
      refine⟨a5,by simp,fun x hx y hy=>?_⟩
      simp at hy;subst hy
      exact a2 x hx
def Fair (m n:Nat) (p low s:Nat→Nat):Prop:=(∀i,i<n→low i≤s i) ∧ ∀i j,i<n→j<n→low i<s i→ltK (keyC m (p j) (s j)) (keyC m (p i) (s i - 1))
def given (s:Nat→Nat) (B:List Nat):Nat→Nat:=fun i=>if i∈B then s i+1 else s i
theorem fair_start (m n:Nat) (p low:Nat→Nat):Fair m n p low low:=⟨fun _ _=>Nat.le_refl _,fun i j _ _ h=>absurd h (by omega)⟩
theorem fair_group {m n:Nat} {p low s:Nat→Nat} {B:List Nat} (hm:11≤m∧m≤15) (hp : ∀i,i<n→1≤p i) (F:Fair m n p low s) (hB:BestOK (fun i=>keyC m (p i) (s i)) n B):Fair m n p low (given s B):=by
 obtain⟨f1,f2⟩:=F
 obtain⟨b1,b2,b3,b4,_⟩:=hB
 have hlt : ∀b∈B,∀j,j<n→ltK (keyC m (p j) (given s B j)) (keyC m (p b) (s b)):=by
  intro b hb j hj
  unfold given
  by_cases h:j∈B
  ·rw[if_pos h]
   exact ltK_of_lt_not (keyC_falls hm (hp j hj) (s j)) (b3 b hb j hj)
  ·rw[if_neg h]
   exact b4 j hj h b hb
 refine⟨fun i hi=>by have:=f1 i hi;unfold given;split<;>omega,fun i j hi hj hl=>?_⟩
 by_cases h:i∈B
 ·have e:given s B i - 1=s i:=by unfold given;rw[if_pos h];omega
  rw[e]
  exact hlt i h j hj
 ·have e:given s B i=s i:=by unfold given;rw[if_neg h]
  rw[e] at hl ⊢
  cases B with
  | nil=>exact absurd rfl (b1 (by omega))
  | cons b l =>
   exact ltK_trans (hlt b List.mem_cons_self j hj) (f2 i b hi (b2 b List.mem_cons_self) hl)
theorem fair_some {m n:Nat} {p low s:Nat→Nat} {B C:List Nat} (hm:11≤m∧m≤15) (hp : ∀i,i<n→1≤p i) (F:Fair m n p low s) (hB:BestOK (fun i=>keyC m (p i) (s i)) n B) (hC : ∀x∈C,x∈B) :
  ∀i j,i<n→j<n→low i<given s C i → ¬ltK (keyC m (p i) (given s C i - 1)) (keyC m (p j) (given s C j)):=by
 obtain⟨f1,f2⟩:=F
 obtain⟨b1,b2,b3,b4,_⟩:=hB
 have hle : ∀b∈B,∀j,j<n → ¬ltK (keyC m (p b) (s b)) (keyC m (p j) (given s C j)):=by
  intro b hb j hj
  unfold given
  by_cases h:j∈C
  ·rw[if_pos h]
   exact ltK_asymm (ltK_of_lt_not (keyC_falls hm (hp j hj) (s j)) (b3 b hb j hj))
  ·rw[if_neg h]
   exact b3 b hb j hj
 intro i j hi hj hl
 by_cases h:i∈C
 ·have e:given s C i - 1=s i:=by unfold given;rw[if_pos h];omega
  rw[e]
  exact hle i (hC i h) j hj
 ·have e:given s C i=s i:=by unfold given;rw[if_neg h]
  rw[e] at hl ⊢
  cases B with
  | nil=>exact absurd rfl (b1 (by omega))
  | cons b l =>
   exact ltK_neg (ltK_asymm (f2 i b hi (b2 b List.mem_cons_self) hl)) (hle b List.mem_cons_self j hj)
end Go.Id
