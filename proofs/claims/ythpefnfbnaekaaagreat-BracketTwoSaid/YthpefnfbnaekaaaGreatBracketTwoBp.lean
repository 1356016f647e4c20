/-
  Contracts: package bracket: the next and the last seats, one after the other. Contracts: package bracket: below, the least seat, certified.
-/
import Derived.Test.YthpefnfbnaekaaaGreatBracketTwoAr
import Derived.Test.YthpefnfbnaekaaaGreatBracketTwoBn
import Derived.Test.YthpefnfbnaekaaaGreatBracketTwoBg
import Derived.Test.YthpefnfbnaekaaaGreatBracketTwoBo
import Derived.Test.YthpefnfbnaekaaaGreatBracketTwoBm
set_option linter.unusedVariables false
set_option linter.unusedSimpArgs false
set_option linter.defProp false
set_option linter.deprecated false
namespace Go.Id
open Go
open Go.Proofs.Tryz (prog)
open Nat (reduceAdd reduceEqDiff reduceLeDiff)
set_option maxHeartbeats 16000000
abbrev seatV (r:Reg) (s:Int):Value:=.agg #[KI r.1,KI r.2.1,KI r.2.2,KI s]
theorem tk3' (a b c:Value):List.take 3 (List.drop 0 [a,b,c]) = [a,b,c]:=rfl
abbrev RegSl (h:IH) (v:Value) (rs:List Reg):Prop:=SlOf h 3 v rs.length (regL rs)
theorem RegSl.ld {h h':IH} {v:Value} {rs:List Reg} (s:RegSl h v rs) (e:Keep h h') {i:Nat} {r:Reg} (hr:rs[i]?=some r):load prog h' 121 (elemAddr v (i*3))=some (.agg #[KI r.1,KI r.2.1,KI r.2.2]):=by
 have hi:=(List.getElem?_eq_some_iff.1 hr).1
 have:=SlOf.ldAgg s e (c:=i*3) (m:=3) (by rw[regL_len];omega) (by omega) ag121 sz121
 rw[regL_at hr] at this
 exact this
theorem next_ok {h:IH} {y sv:Value} {m:Int} {rs:List Reg} (J:Nat→IH→Prop) (hJ : ∀i h,J i h→RegSl h sv rs) (hE : ∀i h h',J i h→Ext h h'→J i h') (h0:J 0 h) (hl:rs.length≤1000)
  (skip : ∀i r h,rs[i]?=some r → ¬0<r.1→J i h→J (i+1) h)
  (step : ∀i r h,rs[i]?=some r→0<r.1→J i h→WV prog y [seatV r r.2.1] h fun v h'=>v=.bool true∧J (i+1) h') :
  WV prog (.func (.func 82) #[hallV m sv] #[]) [y] h fun _ h'=>J rs.length h':=by
 have s0:=hJ 0 h h0
 have cs:=s0.cells
 have cO:cellOK sv=true:=by obtain⟨oa,ok,ho⟩:=s0.form;rw[ho];rfl
 refine enter (nt:=26) (rs:=[]) Proofs.Tryz.func82 rfl rfl rfl (by simp) ?_
 simp -dsimp (maxSteps:=1000000) (disch:=try exact dx) only[wpS,reduceEqDiff,reduceAdd,fa80_1,ld78]
 obtain⟨H0,hH0⟩ : ∃H,H=h.new (.cells [KI m,sv] 0 none):=⟨_,rfl⟩
 have E0:Ext h H0:=by rw[hH0];exact(Ext.refl h).new _
 have g0:H0.ext.get h.n=some (.cells [KI m,sv] 0 none):=by rw[hH0];simp (disch:=try exact dx) only[get_new_same]
 rw[←hH0]
 clear hH0
 simp -dsimp (maxSteps:=1000000) (disch:=try exact dx) only[wpS,s0.now.len sl78]
 refine loop (fun mm fr hh => ∃i:Nat,i+mm=rs.length∧J i hh∧fget fr 1=some y∧fget fr 7=some sv∧fget fr 8=some (KI rs.length)∧fget fr 9=some (KI i)) rs.length ⟨0,by omega,hE _ _ _ h0 E0,by simp,by simp,by simp,by simp⟩ ?_
 rintro mm fr hh ⟨i,him,hj,f1,f7,f8,f9⟩
 have s1:=hJ i hh hj
 by_cases c:i<rs.length
 ·obtain⟨r,hr⟩ : ∃r,rs[i]?=some r:=⟨rs[i],List.getElem?_eq_getElem c⟩
  have e2:IntKind.i64.wrap ((i:Int)+1)=((i+1:Nat):Int):=by rw[wrap_i64 (by omega)];omega
  have ld:=RegSl.ld s1 (Keep.refl hh) hr
  simp -dsimp (maxSteps:=1000000) (disch:=try exact dx) only[wpS,wpT,reduceEqDiff,reduceLeDiff,reduceAdd,zc121,st121,fa121_0,ld3,f7,f8,f9,s1.now.idx es78 c,ld]
  obtain⟨H1,hH1,n1,E1,g1⟩:=boxed hh [KI 0,KI 0,KI 0] [KI r.1,KI r.2.1,KI r.2.2]
  rw[←hH1]
  clear hH1
  have hj1:=hE _ _ _ hj E1
  by_cases c2:0<r.1
  ·simp -dsimp (maxSteps:=1000000) (disch:=try exact dx) only[wpS,wpT,reduceEqDiff,reduceLeDiff,reduceAdd,ld121,ld3,fa121_1,bv123,pl123_0,pl123_1,f1,row_of g1,tk3']
   refine call (step i r H1 hr c2 hj1) ?_
   rintro _ h2 ⟨rfl,hj2⟩
   simp -dsimp (maxSteps:=1000000) (disch:=try exact dx) only[wpS,wpT,reduceEqDiff,f9,e2]
   exact⟨mm - 1,by omega,i+1,by omega,hj2,by simp[f1],by simp[f7],by simp[f8],by simp⟩
  ·simp -dsimp (maxSteps:=1000000) (disch:=try exact dx) only[wpS,wpT,reduceEqDiff,f9,e2]
   exact⟨mm - 1,by omega,i+1,by omega,skip i r _ hr c2 hj1,by simp[f1],by simp[f7],by simp[f8],by simp⟩
 ·simp -dsimp (maxSteps:=1000000) (disch:=try exact dx) only[wpS,wpT,f8,f9]
  have:i=rs.length:=by omega
  rw[←this];exact hj
theorem last_ok {h:IH} {y sv:Value} {m:Int} {rs:List Reg} (J:Nat→IH→Prop) (hJ : ∀i h,J i h→RegSl h sv rs) (hE : ∀i h h',J i h→Ext h h'→J i h') (h0:J 0 h) (hl:rs.length≤1000)
  (hb : ∀r∈rs,0≤r.2.1∧r.2.1≤1000)
  (skip : ∀i r h,rs[i]?=some r → ¬(0<r.1∧r.2.2<r.2.1)→J i h→J (i+1) h)
  (step : ∀i r h,rs[i]?=some r→0<r.1∧r.2.2<r.2.1→J i h→WV prog y [seatV r (r.2.1 - 1)] h fun v h'=>v=.bool true∧J (i+1) h') :
  WV prog (.func (.func 80) #[hallV m sv] #[]) [y] h fun _ h'=>J rs.length h':=by
 have s0:=hJ 0 h h0
 have cs:=s0.cells
 have cO:cellOK sv=true:=by obtain⟨oa,ok,ho⟩:=s0.form;rw[ho];rfl
 refine enter (nt:=34) (rs:=[]) Proofs.Tryz.func80 rfl rfl rfl (by simp) ?_
 simp -dsimp (maxSteps:=1000000) (disch:=try exact dx) only[wpS,reduceEqDiff,reduceAdd,fa80_1,ld78]
 obtain⟨H0,hH0⟩ : ∃H,H=h.new (.cells [KI m,sv] 0 none):=⟨_,rfl⟩
 have E0:Ext h H0:=by rw[hH0];exact(Ext.refl h).new _
 have g0:H0.ext.get h.n=some (.cells [KI m,sv] 0 none):=by rw[hH0];simp (disch:=try exact dx) only[get_new_same]
 rw[←hH0]
 clear hH0
 simp -dsimp (maxSteps:=1000000) (disch:=try exact dx) only[wpS,s0.now.len sl78]
 refine loop (fun mm fr hh => ∃i:Nat,i+mm=rs.length∧J i hh∧fget fr 1=some y∧fget fr 7=some sv∧fget fr 8=some (KI rs.length)∧fget fr 9=some (KI i)) rs.length ⟨0,by omega,hE _ _ _ h0 E0,by simp,by simp,by simp,by simp⟩ ?_
 rintro mm fr hh ⟨i,him,hj,f1,f7,f8,f9⟩
 have s1:=hJ i hh hj
 by_cases c:i<rs.length
 ·obtain⟨r,hr⟩ : ∃r,rs[i]?=some r:=⟨rs[i],List.getElem?_eq_getElem c⟩
  have rb:=hb r (List.mem_of_getElem? hr)
  have e2:IntKind.i64.wrap ((i:Int)+1)=((i+1:Nat):Int):=by rw[wrap_i64 (by omega)];omega
  have e3:IntKind.i64.wrap (r.2.1 - 1)=r.2.1 - 1:=by rw[wrap_i64 (by omega)]
  have ld:=RegSl.ld s1 (Keep.refl hh) hr
  simp -dsimp (maxSteps:=1000000) (disch:=try exact dx) only[wpS,wpT,reduceEqDiff,reduceLeDiff,reduceAdd,zc121,st121,fa121_0,ld3,f7,f8,f9,s1.now.idx es78 c,ld]
  obtain⟨H1,hH1,n1,E1,g1⟩:=boxed hh [KI 0,KI 0,KI 0] [KI r.1,KI r.2.1,KI r.2.2]
  rw[←hH1]
  clear hH1
  have hj1:=hE _ _ _ hj E1
  by_cases c2:0<r.1
  ·by_cases c3:r.2.2<r.2.1
   ·simp -dsimp (maxSteps:=1000000) (disch:=try exact dx) only[wpS,wpT,reduceEqDiff,reduceLeDiff,reduceAdd,ld121,ld3,fa121_1,fa121_2,bv123,pl123_0,pl123_1,f1,row_of g1,e3,tk3']
    refine call (step i r H1 hr ⟨c2,c3⟩ hj1) ?_
    rintro _ h2 ⟨rfl,hj2⟩
    simp -dsimp (maxSteps:=1000000) (disch:=try exact dx) only[wpS,wpT,reduceEqDiff,f9,e2]
    exact⟨mm - 1,by omega,i+1,by omega,hj2,by simp[f1],by simp[f7],by simp[f8],by simp⟩
   ·simp -dsimp (maxSteps:=1000000) (disch:=try exact dx) only[wpS,wpT,reduceEqDiff,ld3,fa121_1,fa121_2,f9,row_of g1,e2]
    exact⟨mm - 1,by omega,i+1,by omega,skip i r _ hr (fun h=>c3 h.2) hj1,by simp[f1],by simp[f7],by simp[f8],by simp⟩
  ·simp -dsimp (maxSteps:=1000000) (disch:=try exact dx) only[wpS,wpT,reduceEqDiff,f9,e2]
   exact⟨mm - 1,by omega,i+1,by omega,skip i r _ hr (fun h=>c2 h.1) hj1,by simp[f1],by simp[f7],by simp[f8],by simp⟩
 ·simp -dsimp (maxSteps:=1000000) (disch:=try exact dx) only[wpS,wpT,f8,f9]
  have:i=rs.length:=by omega
  rw[←this];exact hj
end Go.Id

namespace Go.Id
open Go
open Go.Proofs.Tryz (prog)
open Nat (reduceAdd reduceEqDiff reduceLeDiff)
set_option maxHeartbeats 16000000
abbrev Seat:=Reg×Int
abbrev stV (x:Seat):Value:=seatV x.1 x.2
def aboveN (m p s q t:Int):Int:=if aboveErr m p s q t=true then 0 else cmpRank m.toNat p.toNat s.toNat q.toNat t.toNat
def stBelow (m:Int) (a b:Seat):Bool:=decide (aboveN m a.1.1 a.2 b.1.1 b.2<0)
theorem below_ok {h:IH} {m:Int} {sv:Value} (a b:Seat) (cs:sv.cells = #[sv]) (cO:cellOK sv=true) :
  WV prog (.func (.func 81) #[] #[]) [hallV m sv,stV a,stV b] h fun r h'=>Ext h h'∧r=.bool (stBelow m a b):=by
 refine enter (nt:=27) (rs:=[.tmp 6]) Proofs.Tryz.func81 rfl rfl rfl (by simp) ?_
 simp -dsimp (maxSteps:=1000000) (disch:=try exact dx) only[wpS,reduceEqDiff,reduceAdd,fa80_0,ld3,fa123_0,fa121_0,fa123_1]
 obtain⟨H0,hH0,n0,E0,g0,g1,g2⟩:=boxes3 h [KI m,sv] [KI a.1.1,KI a.1.2.1,KI a.1.2.2,KI a.2] [KI b.1.1,KI b.1.2.1,KI b.1.2.2,KI b.2]
 rw[←hH0]
 clear hH0
 refine call (above_ok m a.1.1 a.2 b.1.1 b.2) ?_
 rintro _ h1 ⟨X1,rfl⟩
 obtain⟨e,ht⟩ : ∃e,(if aboveErr m a.1.1 a.2 b.1.1 b.2=true then Value.tuple #[KI 0,KI 2] else .tuple #[KI (cmpRank m.toNat a.1.1.toNat a.2.toNat b.1.1.toNat b.2.toNat),KI 0])=.tuple #[KI (aboveN m a.1.1 a.2 b.1.1 b.2),KI e]:=by
  unfold aboveN
  by_cases c:aboveErr m a.1.1 a.2 b.1.1 b.2=true
  ·exact⟨2,by rw[if_pos c,if_pos c]⟩
  ·exact⟨0,by rw[if_neg c,if_neg c]⟩
 rw[ht]
 simp -dsimp (maxSteps:=1000000) (disch:=try exact dx) only[wpS,reduceEqDiff]
 exact⟨E0.trans X1,rfl⟩
theorem above1_ok {h:IH} {m:Int} {sv:Value} {k:Nat} (a b:Seat) (cs:sv.cells = #[sv]) (cO:cellOK sv=true) (g:h.ext.get k=some (.cells [KI m,sv] 0 none)) (hk:k<h.n) :
  WV prog (.func (.func 83) #[] #[ptr (2*k) 0]) [stV a,stV b] h fun r h'=>Ext h h'∧r=.bool (stBelow m b a):=by
 have gr:=row_of g
 refine enter (nt:=10) (rs:=[.tmp 5]) Proofs.Tryz.func83 rfl rfl rfl (by simp) ?_
 simp -dsimp (maxSteps:=1000000) (disch:=try exact dx) only[wpS,wpT,reduceEqDiff,reduceLeDiff,reduceAdd,ld80,ld123,gr,tk2',tk4']
 obtain⟨H0,hH0,n0,E0,g0,g1⟩:=boxes2 h [KI a.1.1,KI a.1.2.1,KI a.1.2.2,KI a.2] [KI b.1.1,KI b.1.2.1,KI b.1.2.2,KI b.2]
 rw[←hH0]
 clear hH0
 refine call (below_ok b a cs cO) ?_
 rintro _ h1 ⟨X1,rfl⟩
 simp -dsimp (maxSteps:=1000000) (disch:=try exact dx) only[wpS,wpT,reduceEqDiff]
 exact E0.trans X1
def leastBy (lt:Seat→Seat→Bool) (o:Option Seat):List Seat→Option Seat
 | []=>o
 | x :: l=>leastBy lt (match o with|none=>some x|some y=>if lt x y=true then some x else some y) l
def pick1 (lt:Seat→Seat→Bool) (o:Option Seat) (x:Seat):Option Seat:=match o with|none=>some x|some y=>if lt x y=true then some x else some y
theorem pick1_some (lt:Seat→Seat→Bool) (o x:Seat):pick1 lt (some o) x=if lt x o=true then some x else some o:=rfl
theorem leastBy_snoc (lt:Seat→Seat→Bool) : ∀(l:List Seat) (o:Option Seat) (x:Seat),leastBy lt o (l ++ [x])=pick1 lt (leastBy lt o l) x
 | [],o,x=>rfl
 | a :: l,o,x=>leastBy_snoc lt l _ x
theorem leastBy_take (lt:Seat→Seat→Bool) (l:List Seat) {i:Nat} {x:Seat} (h:l[i]?=some x):leastBy lt none (l.take (i+1))=pick1 lt (leastBy lt none (l.take i)) x:=by
 rw[List.take_succ,h]
 exact leastBy_snoc lt (l.take i) none x
abbrev seatOr (o:Option Seat):List Value:=match o with|none => [KI 0,KI 0,KI 0,KI 0]|some x => [KI x.1.1,KI x.1.2.1,KI x.1.2.2,KI x.2]
def Iter (lv:Value) (Hb:IH) (xs:List Seat):Prop :=
 ∀(y:Value) (h:IH) (J:Nat→IH→Prop),(∀i h,J i h→Ext Hb h)→(∀i h h',J i h→Ext h h'→J i h')→J 0 h →
  (∀i x h,xs[i]?=some x→J i h→WV prog y [stV x] h fun v h'=>v=.bool true∧J (i+1) h')→WV prog lv [y] h fun _ h'=>J xs.length h'
theorem boxesL (h:IH) (a b c d e:List Value) : ∃H,H=((((h.new (.cells a 0 none)).new (.cells b 0 none)).new (.cells c 0 none)).new (.cells d 0 none)).put (h.n+1+1+1) (.cells e 0 none)∧H.n=h.n+4∧Ext h H∧H.ext.get h.n=some (.cells a 0 none)∧H.ext.get (h.n+1)=some (.cells b 0 none)∧H.ext.get (h.n+2)=some (.cells c 0 none)∧H.ext.get (h.n+3)=some (.cells e 0 none) :=
 ⟨_,rfl,rfl,((((Ext.refl h).new _).new _).new _).new _ |>.put (by omega) _,by simp (disch:=try exact dx) only[get_new_same,get_new_old,get_put_old],by simp (disch:=try exact dx) only[get_new_same,get_new_old,get_put_old],by simp (disch:=try exact dx) only[get_new_same,get_new_old,get_put_old],by simp (disch:=try exact dx) only[get_put_same]⟩
theorem seatOr_some (x:Seat):seatOr (some x) = [KI x.1.1,KI x.1.2.1,KI x.1.2.2,KI x.2]:=rfl
theorem seatOr_len (o:Option Seat):(seatOr o).length=4:=by cases o<;>rfl
theorem seatOr_all (o:Option Seat):(seatOr o).all cellOK=true:=by cases o<;>rfl
theorem seatOr_take (o:Option Seat):List.take 4 (List.drop 0 (seatOr o))=seatOr o:=by cases o<;>rfl
theorem seatOr_sp (o:Option Seat) (w x y z:Value):IH.splice [w,x,y,z] 0 (seatOr o)=seatOr o:=by cases o<;>rfl
theorem leastOf_ok {h Hb:IH} {lv fv:Value} {xs:List Seat} {lt:Seat→Seat→Bool} (cF:fv.cells = #[fv]) (cO:cellOK fv=true) (hx:Iter lv Hb xs) (hb:Ext Hb h) (hf : ∀(hh:IH) (a b:Seat),Ext Hb hh→WV prog fv [stV a,stV b] hh fun r h'=>Ext hh h'∧r=.bool (lt a b)) :
  WV prog (.func (.func 79) #[] #[]) [lv,fv] h fun r h'=>Ext h h'∧r=.tuple #[.agg (seatOr (leastBy lt none xs)).toArray,.bool (leastBy lt none xs).isSome]:=by
 refine enter (nt:=22) (rs:=[.cell 4 123,.tmp 5]) Proofs.Tryz.func79 rfl rfl rfl (by simp) ?_
 simp -dsimp (maxSteps:=1000000) (disch:=try exact dx) only[wpS,wpT,reduceEqDiff,reduceLeDiff,reduceAdd,zc123,zc4,st4,cF]
 obtain⟨H1,hH1,n1,E1,g0,g1,g2,g3⟩:=boxesL h [fv] [KI 0,KI 0,KI 0,KI 0] [KI 0,KI 0,KI 0,KI 0] [.bool false] [.bool false]
 rw[←hH1]
 clear hH1
 refine range2 (p:=10) (nt:=22) rfl rfl (by decide) (fun r y hfn hnt hbd hy=>?_)
 let J:Nat→IH→Prop:=fun i hh=>Ext h hh∧H1.n<hh.n∧hh.ext.get H1.n=some (.loop r)∧hh.ext.get h.n=some (.cells [fv] 0 none)∧hh.ext.get (h.n+1)=some (.cells [KI 0,KI 0,KI 0,KI 0] 0 none) ∧
  hh.ext.get (h.n+2)=some (.cells (seatOr (leastBy lt none (xs.take i))) 0 none)∧hh.ext.get (h.n+3)=some (.cells [.bool (leastBy lt none (xs.take i)).isSome] 0 none)
 have J0:J 0 (H1.new (.loop r)):=by
  refine⟨E1.new _,by simp,get_new_same _ _ rfl,?_,?_,?_,?_⟩
  ·rw[get_new_old _ _ (by omega)];exact g0
  ·rw[get_new_old _ _ (by omega)];exact g1
  ·rw[get_new_old _ _ (by omega)];exact g2
  ·rw[get_new_old _ _ (by omega)];exact g3
 have Je : ∀i h h',J i h→Ext h h'→J i h':=by
  rintro i x x' ⟨a1,a2,a3,a4,a5,a6,a7⟩ e
  have en:=e.n
  exact⟨a1.trans e,by omega,e.kept a2 a3,e.kept (by omega) a4,e.kept (by omega) a5,e.kept (by omega) a6,e.kept (by omega) a7⟩
 refine WV.mono (hx y (H1.new (.loop r)) J (fun i hh hj=>hb.trans hj.1) Je J0 ?_) ?_
 ·rintro i x hh hi ⟨x1,x2,x3,x4,x5,x6,x7⟩
  refine hy _ hh _ x3 ?_
  simp -dsimp (maxSteps:=1000000) (disch:=try exact dx) only[wpS,wpT,reduceEqDiff,reduceLeDiff,reduceAdd,zc123,st123]
  obtain⟨H5,hH5,n5,e5,gw⟩:=boxed hh [KI 0,KI 0,KI 0,KI 0] [KI x.1.1,KI x.1.2.1,KI x.1.2.2,KI x.2]
  rw[←hH5]
  clear hH5
  obtain⟨y1,y2,y3,y4,y5,y6,y7⟩:=Je i hh H5 ⟨x1,x2,x3,x4,x5,x6,x7⟩ e5
  refine⟨rfl,y3,?_⟩
  rw[hfn,hnt,hbd]
  have eb:Ext h (H5.put H1.n (.loop (busyL r))):=y1.put (by omega) _
  obtain⟨H6,hH6⟩ : ∃H,H=H5.put H1.n (.loop (busyL r)):=⟨_,rfl⟩
  have z0 : ∀j,j≠H1.n→H6.ext.get j=H5.ext.get j:=fun j hj=>by rw[hH6];exact get_put_old _ _ hj
  have zl:H6.ext.get H1.n=some (.loop (busyL r)):=by rw[hH6];exact get_put_same _ _ rfl
  have zn:H6.n=H5.n:=by rw[hH6];rfl
  rw[←hH6] at eb ⊢
  clear hH6
  have z4:=(z0 h.n (by omega)).trans y4
  have z5:=(z0 (h.n+1) (by omega)).trans y5
  have z6:=(z0 (h.n+2) (by omega)).trans y6
  have z7:=(z0 (h.n+3) (by omega)).trans y7
  have zw:=(z0 hh.n (by omega)).trans gw
  have zt:xs.take (i+1)=xs.take i ++ [x]:=by rw[List.take_succ,hi];rfl
  have ht:=leastBy_take lt xs hi
  have fin : ∀(hf':IH) (o:Option Seat),leastBy lt none (xs.take (i+1))=o→Ext h hf'→H1.n<hf'.n→hf'.ext.get H1.n=some (.loop (busyL r))→hf'.ext.get h.n=some (.cells [fv] 0 none)→hf'.ext.get (h.n+1)=some (.cells [KI 0,KI 0,KI 0,KI 0] 0 none) →
    hf'.ext.get (h.n+2)=some (.cells (seatOr o) 0 none)→hf'.ext.get (h.n+3)=some (.cells [.bool o.isSome] 0 none)→Value.bool true=.bool true∧J (i+1) (hf'.put H1.n (.loop r)):=by
   intro hf' o ho w1 w2 w3 w4 w5 w6 w7
   refine⟨rfl,w1.put (by omega) _,w2,get_put_same _ _ rfl,?_,?_,?_,?_⟩
   ·rw[get_put_old _ _ (by omega)];exact w4
   ·rw[get_put_old _ _ (by omega)];exact w5
   ·rw[get_put_old _ _ (by omega),ho];exact w6
   ·rw[get_put_old _ _ (by omega),ho];exact w7
  cases hl:leastBy lt none (xs.take i) with
  | none =>
   rw[hl] at z6 z7 ht
   have z7:H6.ext.get (h.n+3)=some (.cells [.bool false] 0 none):=z7
   have m1:=e5.n
   simp -dsimp (maxSteps:=1000000) (disch:=try exact dx) only[wpS,wpT,reduceEqDiff,reduceLeDiff,reduceAdd,st4,st123,ld4,ld123,row_of z7,row_of zw,z6,z7,tk4']
   refine⟨by rw[get_put_old _ _ (by omega),get_put_old _ _ (by omega)];exact zl,fin _ (some x) (ht.trans rfl) ((eb.put (by omega) _).put (by omega) _) (by show H1.n<H6.n;omega) ?_ ?_ ?_ ?_ ?_⟩
   ·rw[get_put_old _ _ (by omega),get_put_old _ _ (by omega)];exact zl
   ·rw[get_put_old _ _ (by omega),get_put_old _ _ (by omega)];exact z4
   ·rw[get_put_old _ _ (by omega),get_put_old _ _ (by omega)];exact z5
   ·rw[get_put_old _ _ (by omega)];exact get_put_same _ _ rfl
   ·exact get_put_same _ _ rfl
  | some o =>
   rw[hl] at z6 z7 ht
   rw[seatOr_some] at z6
   have z7:H6.ext.get (h.n+3)=some (.cells [.bool true] 0 none):=z7
   simp -dsimp (maxSteps:=1000000) (disch:=try exact dx) only[wpS,wpT,reduceEqDiff,reduceLeDiff,reduceAdd,ld4,ld127,ld123,row_of z7,row_of zw,row_of z6,row_of z4,tk4']
   have ebb:Ext Hb H6:=hb.trans eb
   refine call (hf H6 x o ebb) ?_
   rintro _ h7 ⟨X7,rfl⟩
   have m7:=X7.n
   cases hc:lt x o
   ·simp -dsimp (maxSteps:=1000000) (disch:=try exact dx) only[wpS,reduceEqDiff]
    refine⟨X7.kept (by omega) zl,fin h7 (some o) (ht.trans (by rw[pick1_some,hc];rfl)) (eb.trans X7) (by omega) (X7.kept (by omega) zl) (X7.kept (by omega) z4) (X7.kept (by omega) z5) (X7.kept (by omega) z6) (X7.kept (by omega) z7)⟩
   ·have q6:=X7.kept (by omega) z6
    have q7:=X7.kept (by omega) z7
    simp -dsimp (maxSteps:=1000000) (disch:=try exact dx) only[wpS,wpT,reduceEqDiff,reduceLeDiff,reduceAdd,st4,st123,ld123,row_of (X7.kept (by omega) zw),q6,q7,tk4']
    refine⟨by rw[get_put_old _ _ (by omega),get_put_old _ _ (by omega)];exact X7.kept (by omega) zl,fin _ (some x) (ht.trans (by rw[pick1_some,hc];rfl)) (((eb.trans X7).put (by omega) _).put (by omega) _) (by show H1.n<h7.n;omega) ?_ ?_ ?_ ?_ ?_⟩
    ·rw[get_put_old _ _ (by omega),get_put_old _ _ (by omega)];exact X7.kept (by omega) zl
    ·rw[get_put_old _ _ (by omega),get_put_old _ _ (by omega)];exact X7.kept (by omega) z4
    ·rw[get_put_old _ _ (by omega),get_put_old _ _ (by omega)];exact X7.kept (by omega) z5
    ·rw[get_put_old _ _ (by omega)];exact get_put_same _ _ rfl
    ·exact get_put_same _ _ rfl
 ·rintro _ hd ⟨x1,x2,x3,x4,x5,x6,x7⟩
  rw[List.take_of_length_le (Nat.le_refl _)] at x6 x7
  refine .inl ⟨x3,?_⟩
  have ed:Ext h (hd.put H1.n .dead):=x1.put (by omega) _
  obtain⟨K0,hK0⟩ : ∃K0,K0=hd.put H1.n .dead:=⟨_,rfl⟩
  have z0 : ∀j,j≠H1.n→K0.ext.get j=hd.ext.get j:=fun j hj=>by rw[hK0];exact get_put_old _ _ hj
  have z5:=(z0 (h.n+1) (by omega)).trans x5
  have z6:=(z0 (h.n+2) (by omega)).trans x6
  have z7:=(z0 (h.n+3) (by omega)).trans x7
  rw[←hK0] at ed ⊢
  clear hK0
  simp -dsimp (maxSteps:=1000000) (disch:=try exact dx) only[wpS]
  refine drawn [(1,[4])] (by kernel_rfl) (by kernel_rfl) rfl ?_
  simp -dsimp (maxSteps:=1000000) (disch:=try exact dx) only[wpS,wpT,reduceEqDiff,reduceLeDiff,reduceAdd,st123,ld4,ld123,row_of z6,row_of z7,z5,seatOr_len,seatOr_all,seatOr_take,seatOr_sp]
  refine⟨wpSteady_one rfl rfl rfl rfl (steady_load (av:=ptr (2*(h.n+1+1+1)) 0) (v:=.bool (leastBy lt none xs).isSome) (by simp) ?_ ?_),?_⟩
  ·simp -dsimp (maxSteps:=1000000) (disch:=try exact dx) only[wpS,ld4,row_of z7]
  ·simp -dsimp (maxSteps:=1000000) (disch:=try exact dx) only[wpS,ld4,row_of z7]
  ·simp -dsimp (maxSteps:=1000000) (disch:=try exact dx) only[wpS,wpT,reduceEqDiff,reduceLeDiff,reduceAdd,ld123,seatOr_take,seatOr_len]
   exact ed.put (by omega) _
end Go.Id

namespace Go.Id
open Go
open Nat (reduceAdd reduceEqDiff reduceLeDiff)
set_option maxHeartbeats 16000000
theorem wv_bound {P:Program} {f:FuncId} {first cap:Array Value} {vs:List Value} {h:IH} {K:Value→IH→Prop} (w:WV P (.func (.func f) #[] #[]) (first.toList ++ (vs ++ cap.toList)) h K):WV P (.func (.func f) first cap) vs h K:=by
 obtain⟨a,⟨N,hN⟩,k⟩:=w
 refine⟨a,⟨N+1,fun n hn=>?_⟩,k⟩
 obtain⟨n,rfl⟩ : ∃m,n=m+1:=⟨n - 1,by omega⟩
 have:=hN (n+1) (by omega)
 unfold callV at this ⊢
 simpa using this
def lastS:List Reg→List Seat
 | [] => []
 | r :: l=>if 0<r.1∧r.2.2<r.2.1 then (r,r.2.1 - 1) :: lastS l else lastS l
def nextS:List Reg→List Seat
 | [] => []
 | r :: l=>if 0<r.1 then (r,r.2.1) :: nextS l else nextS l
theorem lastS_app : ∀(a b:List Reg),lastS (a ++ b)=lastS a ++ lastS b
 | [],b=>rfl
 | r :: a,b=>by rw[List.cons_append,lastS,lastS,lastS_app a b];split<;>rfl
theorem nextS_app : ∀(a b:List Reg),nextS (a ++ b)=nextS a ++ nextS b
 | [],b=>rfl
 | r :: a,b=>by rw[List.cons_append,nextS,nextS,nextS_app a b];split<;>rfl
theorem take_split {α:Type} {l:List α} {i:Nat} {r:α} (h:l[i]?=some r):l=l.take i ++ r :: l.drop (i+1):=by
 conv=>lhs;rw[←List.take_append_drop i l]
 rw[List.drop_eq_getElem?_toList_append,h];rfl
theorem last_iter {Hb:IH} {sv:Value} {m:Int} {rs:List Reg} (s:RegSl Hb sv rs) (hl:rs.length≤1000) (hb : ∀r∈rs,0≤r.2.1∧r.2.1≤1000):Iter (.func (.func 80) #[hallV m sv] #[]) Hb (lastS rs):=by
 intro y h J hJ hE h0 step
 have key:=last_ok (h:=h) (y:=y) (sv:=sv) (m:=m) (rs:=rs) (fun i h=>J (lastS (rs.take i)).length h) (fun i h hj=>s.keep (hJ _ _ hj).keep) (fun i a b hj e=>hE _ _ _ hj e) (by simpa [lastS] using h0) hl hb ?_ ?_
 ·rw[List.take_of_length_le (Nat.le_refl _)] at key
  exact key
 ·intro i r h hr hc hj
  rw[List.take_add_one,hr,lastS_app]
  simpa [lastS,hc] using hj
 ·intro i r h hr hc hj
  have e:lastS (rs.take (i+1))=lastS (rs.take i) ++ [(r,r.2.1 - 1)]:=by
   rw[List.take_add_one,hr,lastS_app];simp[lastS,hc]
  have g:(lastS rs)[(lastS (rs.take i)).length]?=some (r,r.2.1 - 1):=by
   have e9:lastS rs=lastS (rs.take i) ++ lastS (r :: rs.drop (i+1)):=by rw[←lastS_app];exact congrArg lastS (take_split hr)
   rw[e9,List.getElem?_append_right (Nat.le_refl _),Nat.sub_self,lastS,if_pos hc];rfl
  refine(step _ _ h g hj).mono fun v h' hv=>⟨hv.1,?_⟩
  rw[e,List.length_append]
  exact hv.2
theorem next_iter {Hb:IH} {sv:Value} {m:Int} {rs:List Reg} (s:RegSl Hb sv rs) (hl:rs.length≤1000):Iter (.func (.func 82) #[hallV m sv] #[]) Hb (nextS rs):=by
 intro y h J hJ hE h0 step
 have key:=next_ok (h:=h) (y:=y) (sv:=sv) (m:=m) (rs:=rs) (fun i h=>J (nextS (rs.take i)).length h) (fun i h hj=>s.keep (hJ _ _ hj).keep) (fun i a b hj e=>hE _ _ _ hj e) (by simpa [nextS] using h0) hl ?_ ?_
 ·rw[List.take_of_length_le (Nat.le_refl _)] at key
  exact key
 ·intro i r h hr hc hj
  rw[List.take_add_one,hr,nextS_app]
  simpa [nextS,hc] using hj
 ·intro i r h hr hc hj
  have e:nextS (rs.take (i+1))=nextS (rs.take i) ++ [(r,r.2.1)]:=by
   rw[List.take_add_one,hr,nextS_app];simp[nextS,hc]
  have g:(nextS rs)[(nextS (rs.take i)).length]?=some (r,r.2.1):=by
   have e9:nextS rs=nextS (rs.take i) ++ nextS (r :: rs.drop (i+1)):=by rw[←nextS_app];exact congrArg nextS (take_split hr)
   rw[e9,List.getElem?_append_right (Nat.le_refl _),Nat.sub_self,nextS,if_pos hc];rfl
  refine(step _ _ h g hj).mono fun v h' hv=>⟨hv.1,?_⟩
  rw[e,List.length_append]
  exact hv.2
theorem all_snoc {p:Reg→Bool} {rs:List Reg} {i:Nat} {r:Reg} (hr:rs[i]?=some r) (h : ∀x∈rs.take i,p x=true) (hp:p r=true) : ∀x∈rs.take (i+1),p x=true:=by
 intro x hx
 rw[List.take_add_one,hr] at hx
 simp at hx
 rcases hx with hx|rfl
 ·exact h x hx
 ·exact hp
def zeroSeat:Seat:=((0,0,0),0)
def settled (rs:List Reg):Bool:=rs.all fun r=>decide (0<r.1) || r.2.1 == r.2.2
def certB (m:Int) (rs:List Reg):Bool:=settled rs && match leastBy (stBelow m) none (lastS rs) with
 | none=>true
 | some lo => !(stBelow m lo ((leastBy (fun a b=>stBelow m b a) none (nextS rs)).getD zeroSeat))
theorem seatOr_get (o:Option Seat):Value.agg (seatOr o).toArray=stV (o.getD zeroSeat):=by cases o<;>rfl
theorem certified_ok {h:IH} {sv:Value} {m:Int} {rs:List Reg} (s:RegSl h sv rs) (hl:rs.length≤1000) (hb : ∀r∈rs,0≤r.2.1∧r.2.1≤1000) :
  WV Proofs.Tryz.prog (.func (.func 37) #[] #[]) [hallV m sv] h fun r h'=>Ext h h'∧r=.bool (certB m rs):=by
 have cs:=s.cells
 have cO:cellOK sv=true:=by obtain⟨oa,ok,ho⟩:=s.form;rw[ho];rfl
 refine enter (nt:=51) (rs:=[.tmp 2]) Proofs.Tryz.func37 rfl rfl rfl (by simp) ?_
 simp -dsimp (maxSteps:=1000000) (disch:=try exact dx) only[wpS,reduceEqDiff,fa80_1,ld78]
 obtain⟨H0,hH0⟩ : ∃H,H=h.new (.cells [KI m,sv] 0 none):=⟨_,rfl⟩
 have E0:Ext h H0:=by rw[hH0];exact(Ext.refl h).new _
 have g0:H0.ext.get h.n=some (.cells [KI m,sv] 0 none):=by rw[hH0];simp (disch:=try exact dx) only[get_new_same]
 have n0:H0.n=h.n+1:=by rw[hH0];simp
 rw[←hH0]
 clear hH0
 simp -dsimp (maxSteps:=1000000) (disch:=try exact dx) only[wpS,(s.keep E0.keep).now.len sl78]
 refine loop (fun mm fr hh => ∃i:Nat,i+mm=rs.length∧Ext H0 hh∧(∀r∈rs.take i,(decide (0<r.1) || r.2.1 == r.2.2)=true)∧fget fr 1=some (ptr (2*h.n) 0)∧fget fr 10=some sv∧fget fr 11=some (KI rs.length)∧fget fr 12=some (KI i)) rs.length ⟨0,by omega,Ext.refl _,fun r hr=>by simp at hr,by simp,by simp,by simp,by simp⟩ ?_
 rintro mm fr hh ⟨i,him,E,hz,f1,f10,f11,f12⟩
 have s1:=s.keep (E0.trans E).keep
 by_cases c:i<rs.length
 ·obtain⟨r,hr⟩ : ∃r,rs[i]?=some r:=⟨rs[i],List.getElem?_eq_getElem c⟩
  have e2:IntKind.i64.wrap ((i:Int)+1)=((i+1:Nat):Int):=by rw[wrap_i64 (by omega)];omega
  have ld:=RegSl.ld s1 (Keep.refl hh) hr
  obtain⟨H1,hH1,n1,E1,g1⟩:=boxed hh [KI 0,KI 0,KI 0] [KI r.1,KI r.2.1,KI r.2.2]
  by_cases c2:0<r.1
  ·simp -dsimp (maxSteps:=1000000) (disch:=try exact dx) only[wpS,wpT,reduceEqDiff,reduceLeDiff,reduceAdd,zc121,st121,fa121_0,ld3,f10,f11,f12,s1.now.idx es78 c,ld,e2]
   rw[←hH1]
   exact⟨mm - 1,by omega,i+1,by omega,E.trans E1,all_snoc hr hz (by simp[c2]),by simp[f1],by simp[f10],by simp[f11],by simp⟩
  ·by_cases c3:r.2.1=r.2.2
   ·have d3:(r.2.1 == r.2.2)=true:=by simpa using c3
    simp -dsimp (maxSteps:=1000000) (disch:=try exact dx) only[wpS,wpT,reduceEqDiff,reduceLeDiff,reduceAdd,zc121,st121,fa121_0,ld3,fa121_1,fa121_2,f10,f11,f12,s1.now.idx es78 c,ld,e2,d3]
    rw[←hH1]
    exact⟨mm - 1,by omega,i+1,by omega,E.trans E1,all_snoc hr hz (by simp[c3]),by simp[f1],by simp[f10],by simp[f11],by simp⟩
   ·have d3:(r.2.1 == r.2.2)=false:=by simpa using c3
    simp -dsimp (maxSteps:=1000000) (disch:=try exact dx) only[wpS,wpT,reduceEqDiff,reduceLeDiff,reduceAdd,zc121,st121,fa121_0,ld3,fa121_1,fa121_2,f10,f11,f12,s1.now.idx es78 c,ld,d3]
    rw[←hH1]
    refine⟨E0.trans (E.trans E1),?_⟩
    have hst:settled rs=false:=by
     cases hs:settled rs
     ·rfl
     ·have:=List.all_eq_true.1 hs r (List.mem_of_getElem? hr)
      rw[d3] at this;simp[c2] at this
    unfold certB
    rw[hst];rfl
 ·have hin:i=rs.length:=by omega
  have hst:settled rs=true:=by
   rw[hin,List.take_of_length_le (Nat.le_refl _)] at hz
   exact List.all_eq_true.2 hz
  have g1:=E.kept (by omega) g0
  have En:=E.n
  simp -dsimp (maxSteps:=1000000) (disch:=try exact dx) only[wpS,wpT,reduceEqDiff,reduceLeDiff,reduceAdd,ld80,f1,f11,f12,row_of g1,tk2']
  refine call (leastOf_ok (Hb:=hh) (xs:=lastS rs) (lt:=stBelow m) rfl rfl (last_iter s1 hl hb) (Ext.refl _) (fun h9 a b _=>wv_bound (below_ok a b cs cO))) ?_
  rintro _ h2 ⟨X2,rfl⟩
  have m2:=X2.n
  have g2:=X2.kept (by omega) g1
  rw[seatOr_get]
  obtain⟨lo,hlo⟩ : ∃o,o=leastBy (stBelow m) none (lastS rs):=⟨_,rfl⟩
  rw[←hlo]
  obtain⟨fb,hfb⟩ : ∃b,b=lo.isSome:=⟨_,rfl⟩
  rw[←hfb]
  obtain⟨H3,hH3,n3,E3,g3⟩:=boxed h2 [KI 0,KI 0,KI 0,KI 0] [KI (lo.getD zeroSeat).1.1,KI (lo.getD zeroSeat).1.2.1,KI (lo.getD zeroSeat).1.2.2,KI (lo.getD zeroSeat).2]
  simp -dsimp (maxSteps:=1000000) (disch:=try exact dx) only[wpS,wpT,reduceEqDiff,reduceLeDiff,reduceAdd,ld80,zc123,st123,f1,row_of g2,tk2']
  rw[←hH3]
  clear hH3
  have Y3:=X2.trans E3
  refine call (leastOf_ok (Hb:=H3) (xs:=nextS rs) (lt:=fun a b=>stBelow m b a) rfl rfl (next_iter (s1.keep Y3.keep) hl) (Ext.refl _) (fun h9 a b e9=>above1_ok a b cs cO (e9.kept (by have:=E3.n;omega) (E3.kept (by omega) g2)) (by have:=e9.n;have:=E3.n;omega))) ?_
  rintro _ h4 ⟨X4,rfl⟩
  have m4:=X4.n
  rw[seatOr_get]
  obtain⟨hi,hhi⟩ : ∃o,o=leastBy (fun a b=>stBelow m b a) none (nextS rs):=⟨_,rfl⟩
  rw[←hhi]
  obtain⟨H5,hH5,n5,E5,g5⟩:=boxed h4 [KI 0,KI 0,KI 0,KI 0] [KI (hi.getD zeroSeat).1.1,KI (hi.getD zeroSeat).1.2.1,KI (hi.getD zeroSeat).1.2.2,KI (hi.getD zeroSeat).2]
  have k1:=(Y3.trans X4).kept (by omega) g1
  have k3:=X4.kept (by omega) g3
  cases fb with
  | false =>
   simp -dsimp (maxSteps:=1000000) (disch:=try exact dx) only[wpS,wpT,reduceEqDiff,reduceLeDiff,reduceAdd,zc123,st123]
   rw[←hH5]
   refine⟨E0.trans (E.trans (Y3.trans (X4.trans E5))),?_⟩
   have hl0:lo=none:=by cases lo with
    | none=>rfl
    | some x=>cases hfb
   unfold certB
   rw[hst,←hlo,hl0];rfl
  | true =>
   obtain⟨x,hx⟩ : ∃x,lo=some x:=by cases lo with
    | none=>cases hfb
    | some x=>exact⟨x,rfl⟩
   simp -dsimp (maxSteps:=1000000) (disch:=try exact dx) only[wpS,wpT,reduceEqDiff,reduceLeDiff,reduceAdd,ld80,zc123,st123,ld123,f1,row_of k1,row_of k3,tk2',tk4']
   rw[←hH5]
   refine call (below_ok (lo.getD zeroSeat) (hi.getD zeroSeat) cs cO) ?_
   rintro _ h6 ⟨X6,rfl⟩
   simp -dsimp (maxSteps:=1000000) (disch:=try exact dx) only[wpS,wpT,reduceEqDiff]
   refine⟨E0.trans (E.trans (Y3.trans (X4.trans (E5.trans X6)))),?_⟩
   unfold certB
   rw[hst,←hlo,hx,←hhi];rfl
end Go.Id

namespace Go.Id
open Go
open Nat (reduceAdd reduceEqDiff reduceLeDiff)
set_option maxHeartbeats 16000000
theorem openErr_ok {people won least:List Int} {m:Int} (h:openErr people won m least=0):(people.length≤60 ∧ ∀n∈people,0≤n∧n≤1000000000)∧won.length=people.length∧(∀n∈won,0≤n∧n≤1000)∧(11≤m∧m≤15)∧(leastOr people.length least).length=people.length∧lowOK won (leastOr people.length least) people.length:=by
 unfold openErr at h
 by_cases c1:quotaOK people=false
 ·rw[if_pos c1] at h;omega
 ·rw[if_neg c1] at h
  by_cases c2:won.length≠people.length∨inR 0 1000 won=false
  ·rw[if_pos c2] at h;omega
  ·rw[if_neg c2] at h
   by_cases c3:inR 11 15 [m]=false∨(leastOr people.length least).length≠people.length
   ·rw[if_pos c3] at h;omega
   ·rw[if_neg c3] at h
    by_cases c4 : ¬lowOK won (leastOr people.length least) people.length
    ·rw[if_pos c4] at h;omega
    ·have d1:quotaOK people=true:=by simpa using c1
     have d2:inR 0 1000 won=true:=by
      cases hh:inR 0 1000 won
      ·exact absurd (.inr hh) c2
      ·rfl
     have d3:inR 11 15 [m]=true:=by
      cases hh:inR 11 15 [m]
      ·exact absurd (.inl hh) c3
      ·rfl
     unfold quotaOK at d1
     simp only[Bool.and_eq_true,decide_eq_true_eq] at d1
     refine⟨⟨d1.1,inR_iff.1 d1.2.1⟩,?_,inR_iff.1 d2,inR_iff.1 d3 m (by simp),?_,Classical.not_not.1 c4⟩
     ·exact Classical.not_not.1 fun e=>c2 (.inl e)
     ·exact Classical.not_not.1 fun e=>c3 (.inr e)
structure RegsOK (rs:List Reg):Prop where
 len:rs.length≤60
 b : ∀r∈rs,(0≤r.1∧r.1≤1000000000)∧(0≤r.2.1∧r.2.1≤1000)∧0≤r.2.2∧r.2.2≤r.2.1
abbrev regsV (people won least:List Int):List Reg:=regsOf people won (leastOr people.length least) people.length
theorem regs_ok {people won least:List Int} {m:Int} (h:openErr people won m least=0):RegsOK (regsV people won least):=by
 obtain⟨h1,h2,h3,h4,h5,h6⟩:=openErr_ok h
 refine⟨by rw[regsOf_len];exact h1.1,fun r hr=>?_⟩
 obtain⟨i,hi,rfl⟩:=List.mem_map.1 hr
 rw[List.mem_range] at hi
 exact⟨h1.2 _ (List.mem_of_getElem? (at_getD hi)),h3 _ (List.mem_of_getElem? (at_getD (by omega))),h6 i hi⟩
theorem OpenV.ok {h':IH} {r:Value} {people won least:List Int} {m:Int} (o:OpenV h' r people won m least) (h:openErr people won m least=0) : ∃s,r=.tuple #[hallV m s,KI 0]∧RegSl h' s (regsV people won least):=by
 unfold OpenV at o
 rw[if_pos h] at o
 obtain⟨s,e,hs⟩:=o
 refine⟨s,e,?_⟩
 unfold RegSl regsV
 rw[regsOf_len]
 exact hs
theorem OpenV.no {h':IH} {r:Value} {people won least:List Int} {m:Int} (o:OpenV h' r people won m least) (h:openErr people won m least≠0):r=.tuple #[hallV 0 (.slice none 0 0),KI (openErr people won m least)]:=by
 unfold OpenV at o
 rwa [if_neg h] at o
def certifyB (people won:List Int) (m:Int) (least:List Int):Bool:=decide (openErr people won m least=0) && certB m (regsV people won least)
theorem certify_ok {h:IH} {vp vw vl:Value} {m:Int} {people won least:List Int} (hp:SlOf h 1 vp people.length (people.map KI)) (hw:SlOf h 1 vw won.length (won.map KI)) (hl:SlOf h 1 vl least.length (least.map KI)) (lp:people.length≤1000000000) (lw:won.length≤1000000000) (ll:least.length≤1000000000) :
  WV Proofs.Tryz.prog (.func (.func 17) #[] #[]) [vp,vw,KI m,vl] h fun r h'=>Ext h h'∧r=.tuple #[.bool (certifyB people won m least),KI (openErr people won m least)]:=by
 refine enter (nt:=25) (rs:=[.tmp 8,.tmp 9]) Proofs.Tryz.func17 rfl rfl rfl (by simp) ?_
 simp -dsimp (maxSteps:=1000000) (disch:=try exact dx) only[wpS,reduceEqDiff,reduceAdd]
 refine call (open_ok hp hw hl lp lw ll) ?_
 rintro r h1 ⟨X1,o⟩
 by_cases c:openErr people won m least=0
 ·obtain⟨s,rfl,hs⟩:=o.ok c
  have cs:=hs.cells
  have cO:cellOK s=true:=by obtain⟨oa,ok,ho⟩:=hs.form;rw[ho];rfl
  have R:=regs_ok c
  obtain⟨H2,hH2,n2,E2,g2⟩:=boxed h1 [KI 0,.slice none 0 0] [KI m,s]
  simp -dsimp (maxSteps:=1000000) (disch:=try exact dx) only[wpS,wpT,reduceEqDiff,reduceLeDiff,reduceAdd,zc80,st80,ld80,cO,tk2']
  rw[←hH2]
  refine call (certified_ok (hs.keep E2.keep) (by have:=R.len;omega) (fun r hr=>(R.b r hr).2.1)) ?_
  rintro _ h3 ⟨X3,rfl⟩
  simp -dsimp (maxSteps:=1000000) (disch:=try exact dx) only[wpS,reduceEqDiff]
  refine⟨X1.trans (E2.trans X3),?_⟩
  unfold certifyB
  rw[c];rfl
 ·have hr:=o.no c
  subst hr
  have d:((openErr people won m least) != 0)=true:=by simpa using c
  simp -dsimp (maxSteps:=1000000) (disch:=try exact dx) only[wpS,wpT,reduceEqDiff,reduceLeDiff,reduceAdd,zc80,st80,d]
  refine⟨(X1.new _).put (by have:=X1.n;omega) _,?_⟩
  unfold certifyB
  rw[decide_eq_false c];rfl
end Go.Id

namespace Go.Id
open Go
def brC (lo hi:Nat×Nat) (en sc sq:Bool):List Value:=shC lo.1 lo.2 ++ (shC hi.1 hi.2 ++ [.bool en,.bool sc,.bool sq])
abbrev brV (lo hi:Nat×Nat) (en sc sq:Bool):Value:=.agg (brC lo hi en sc sq).toArray
end Go.Id

namespace Go.Id
open Go
end Go.Id

namespace Go.Id
open Go
structure Brk where
 lo:Rat
 hi:Rat
 en:Bool
 sc:Bool
 sq:Bool
def Brk.v (b:Brk):Value:=brV (shq b.lo) (shq b.hi) b.en b.sc b.sq
end Go.Id

namespace Go.Id
open Go
end Go.Id

namespace Go.Id
open Go
theorem inR1 (a b m:Int):inR a b [m]=decide (a≤m∧m≤b):=by
 rw[Bool.eq_iff_iff,inR_iff]
 simp
theorem quotaOK_iff {l:List Int}:quotaOK l=true↔l.length≤60∧(∀n∈l,0≤n∧n≤1000000000)∧l.sum≠0:=by
 unfold quotaOK
 rw[Bool.and_eq_true,Bool.and_eq_true,inR_iff,decide_eq_true_eq]
 simp
end Go.Id

namespace Go.Id
open Go
end Go.Id

namespace Go.Id
open Go
theorem aboveErr_eq (m p s q t:Int):aboveErr m p s q t = !(decide ((11≤m∧m≤15)∧(0≤s∧s≤1000)∧(0≤t∧t≤1000)∧(1≤p∧p≤1000000000)∧(1≤q∧q≤1000000000))):=by
 have e1:inR 0 1000 [s,t]=decide ((0≤s∧s≤1000)∧(0≤t∧t≤1000)):=by rw[Bool.eq_iff_iff,inR_iff];simp
 have e2:inR 1 1000000000 [p,q]=decide ((1≤p∧p≤1000000000)∧(1≤q∧q≤1000000000)):=by rw[Bool.eq_iff_iff,inR_iff];simp
 unfold aboveErr
 rw[inR1,e1,e2,Bool.eq_iff_iff]
 simp
 omega
end Go.Id
