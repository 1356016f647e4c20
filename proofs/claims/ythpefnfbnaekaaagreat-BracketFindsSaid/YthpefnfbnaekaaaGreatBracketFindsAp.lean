/-
  Contracts: package bracket: below, the least seat, certified. Contracts: package bracket: certified, Certify. Contracts: package bracket: Certify, rank. Contracts: package bracket: the bracket of an allocation; Find. Contracts: package bracket: the bracket of an allocation. Contracts: package bracket: brackets compared; Find. Contracts: wardmoteref02: Cmp, Div, Max, Min. Contracts: wardmoteref06, wardmoteref07: censuses, signposts, ranks.
-/
import Derived.Test.YthpefnfbnaekaaaGreatBracketFindsAo
import Derived.Test.YthpefnfbnaekaaaGreatBracketFindsAl
set_option linter.unusedVariables false
set_option linter.unusedSimpArgs false
set_option linter.defProp false
set_option linter.deprecated false
/-! Contracts: package bracket: below, the least seat, certified. -/
namespace Go.Id
open Go
abbrev Seat:=Reg×Int
abbrev stV (x:Seat):Value:=seatV x.1 x.2
def aboveN (m p s q t:Int):Int:=if aboveErr m p s q t=true then 0 else cmpRank m.toNat p.toNat s.toNat q.toNat t.toNat
def stBelow (m:Int) (a b:Seat):Bool:=decide (aboveN m a.1.1 a.2 b.1.1 b.2<0)
set_option maxHeartbeats 2000000 in
theorem below_ok {h:IH} {m:Int} {sv:Value} (a b:Seat) (cs:sv.cells = #[sv]) (cO:cellOK sv=true) :
  WV Proofs.Tryz.prog (.func (.func 81) #[] #[]) [hallV m sv,stV a,stV b] h fun r h'=>Ext h h'∧r=.bool (stBelow m a b):=by
 refine enter (nt:=27) (rs:=[.tmp 6]) Proofs.Tryz.func81 rfl rfl rfl (by simp) ?_
 simp -dsimp (maxSteps:=1000000) (disch:=first|omega|(simp only[new_n,put_n];omega)|decide +kernel|(repeat first|rw[new_n]|rw[put_n])) only[wpS,Nat.reduceEqDiff,Nat.reduceAdd,fa80_0,ld3,fa123_0,fa121_0,fa123_1]
 obtain⟨H0,hH0,n0,E0,g0,g1,g2⟩:=boxes3 h [KI m,sv] [KI a.1.1,KI a.1.2.1,KI a.1.2.2,KI a.2] [KI b.1.1,KI b.1.2.1,KI b.1.2.2,KI b.2]
 rw[←hH0]
 clear hH0
 refine call (above_ok m a.1.1 a.2 b.1.1 b.2) ?_
 rintro _ h1 ⟨X1,rfl⟩
 obtain⟨e,ht⟩ : ∃e,(if aboveErr m a.1.1 a.2 b.1.1 b.2=true then Value.tuple #[KI 0,KI 2] else .tuple #[KI (cmpRank m.toNat a.1.1.toNat a.2.toNat b.1.1.toNat b.2.toNat),KI 0])=.tuple #[KI (aboveN m a.1.1 a.2 b.1.1 b.2),KI e]:=by
  unfold aboveN
  by_cases c:aboveErr m a.1.1 a.2 b.1.1 b.2=true
  ·exact⟨2,by rw[if_pos c,if_pos c]⟩
  ·exact⟨0,by rw[if_neg c,if_neg c]⟩
 rw[ht]
 simp -dsimp (maxSteps:=1000000) (disch:=first|omega|(simp only[new_n,put_n];omega)|decide +kernel|(repeat first|rw[new_n]|rw[put_n])) only[wpS,Nat.reduceEqDiff]
 exact⟨E0.trans X1,rfl⟩
theorem above1_ok {h:IH} {m:Int} {sv:Value} {k:Nat} (a b:Seat) (cs:sv.cells = #[sv]) (cO:cellOK sv=true) (g:h.ext.get k=some (.cells [KI m,sv] 0 none)) (hk:k<h.n) :
  WV Proofs.Tryz.prog (.func (.func 83) #[] #[ptr (2*k) 0]) [stV a,stV b] h fun r h'=>Ext h h'∧r=.bool (stBelow m b a):=by
 have gr:=row_of g
 refine enter (nt:=10) (rs:=[.tmp 5]) Proofs.Tryz.func83 rfl rfl rfl (by simp) ?_
 simp -dsimp (maxSteps:=1000000) (disch:=first|omega|(simp only[new_n,put_n];omega)|decide +kernel|(repeat first|rw[new_n]|rw[put_n])) only[wpS,wpT,Nat.reduceEqDiff,Nat.reduceLeDiff,Nat.reduceAdd,ld80,ld123,gr,tk2',tk4']
 obtain⟨H0,hH0,n0,E0,g0,g1⟩:=boxes2 h [KI a.1.1,KI a.1.2.1,KI a.1.2.2,KI a.2] [KI b.1.1,KI b.1.2.1,KI b.1.2.2,KI b.2]
 rw[←hH0]
 clear hH0
 refine call (below_ok b a cs cO) ?_
 rintro _ h1 ⟨X1,rfl⟩
 simp -dsimp (maxSteps:=1000000) (disch:=first|omega|(simp only[new_n,put_n];omega)|decide +kernel|(repeat first|rw[new_n]|rw[put_n])) only[wpS,wpT,Nat.reduceEqDiff]
 exact E0.trans X1
def leastBy (lt:Seat→Seat→Bool) (o:Option Seat):List Seat→Option Seat
 | []=>o
 | x :: l=>leastBy lt (match o with|none=>some x|some y=>if lt x y=true then some x else some y) l
def pick1 (lt:Seat→Seat→Bool) (o:Option Seat) (x:Seat):Option Seat:=match o with|none=>some x|some y=>if lt x y=true then some x else some y
theorem pick1_some (lt:Seat→Seat→Bool) (o x:Seat):pick1 lt (some o) x=if lt x o=true then some x else some o:=rfl
theorem leastBy_snoc (lt:Seat→Seat→Bool) : ∀(l:List Seat) (o:Option Seat) (x:Seat),leastBy lt o (l ++ [x])=pick1 lt (leastBy lt o l) x
 | [],o,x=>rfl
 | a :: l,o,x=>leastBy_snoc lt l _ x
theorem leastBy_take (lt:Seat→Seat→Bool) (l:List Seat) {i:Nat} {x:Seat} (h:l[i]?=some x):leastBy lt none (l.take (i+1))=pick1 lt (leastBy lt none (l.take i)) x:=by
 rw[List.take_succ,h]
 exact leastBy_snoc lt (l.take i) none x
abbrev seatOr (o:Option Seat):List Value:=match o with|none => [KI 0,KI 0,KI 0,KI 0]|some x => [KI x.1.1,KI x.1.2.1,KI x.1.2.2,KI x.2]
def Iter (lv:Value) (Hb:IH) (xs:List Seat):Prop :=
 ∀(y:Value) (h:IH) (J:Nat→IH→Prop),(∀i h,J i h→Ext Hb h)→(∀i h h',J i h→Ext h h'→J i h')→J 0 h →
  (∀i x h,xs[i]?=some x→J i h→WV Proofs.Tryz.prog y [stV x] h fun v h'=>v=.bool true∧J (i+1) h')→WV Proofs.Tryz.prog lv [y] h fun _ h'=>J xs.length h'
theorem boxesL (h:IH) (a b c d e:List Value) : ∃H,H=((((h.new (.cells a 0 none)).new (.cells b 0 none)).new (.cells c 0 none)).new (.cells d 0 none)).put (h.n+1+1+1) (.cells e 0 none)∧H.n=h.n+4∧Ext h H∧H.ext.get h.n=some (.cells a 0 none)∧H.ext.get (h.n+1)=some (.cells b 0 none)∧H.ext.get (h.n+2)=some (.cells c 0 none)∧H.ext.get (h.n+3)=some (.cells e 0 none) :=
 ⟨_,rfl,rfl,((((Ext.refl h).new _).new _).new _).new _ |>.put (by omega) _,by simp (disch:=first|omega|(simp only[new_n,put_n];omega)|(repeat first|rw[new_n]|rw[put_n])) only[get_new_same,get_new_old,get_put_old],by simp (disch:=first|omega|(simp only[new_n,put_n];omega)|(repeat first|rw[new_n]|rw[put_n])) only[get_new_same,get_new_old,get_put_old],by simp (disch:=first|omega|(simp only[new_n,put_n];omega)|(repeat first|rw[new_n]|rw[put_n])) only[get_new_same,get_new_old,get_put_old],by simp (disch:=first|omega|(simp only[new_n,put_n];omega)|(repeat first|rw[new_n]|rw[put_n])) only[get_put_same]⟩
theorem seatOr_some (x:Seat):seatOr (some x) = [KI x.1.1,KI x.1.2.1,KI x.1.2.2,KI x.2]:=rfl
theorem seatOr_len (o:Option Seat):(seatOr o).length=4:=by cases o<;>rfl
theorem seatOr_all (o:Option Seat):(seatOr o).all cellOK=true:=by cases o<;>rfl
theorem seatOr_take (o:Option Seat):List.take 4 (List.drop 0 (seatOr o))=seatOr o:=by cases o<;>rfl
theorem seatOr_sp (o:Option Seat) (w x y z:Value):IH.splice [w,x,y,z] 0 (seatOr o)=seatOr o:=by cases o<;>rfl
set_option maxHeartbeats 4000000 in
theorem leastOf_ok {h Hb:IH} {lv fv:Value} {xs:List Seat} {lt:Seat→Seat→Bool} (cF:fv.cells = #[fv]) (cO:cellOK fv=true) (hx:Iter lv Hb xs) (hb:Ext Hb h) (hf : ∀(hh:IH) (a b:Seat),Ext Hb hh→WV Proofs.Tryz.prog fv [stV a,stV b] hh fun r h'=>Ext hh h'∧r=.bool (lt a b)) :
  WV Proofs.Tryz.prog (.func (.func 79) #[] #[]) [lv,fv] h fun r h'=>Ext h h'∧r=.tuple #[.agg (seatOr (leastBy lt none xs)).toArray,.bool (leastBy lt none xs).isSome]:=by
 refine enter (nt:=22) (rs:=[.cell 4 123,.tmp 5]) Proofs.Tryz.func79 rfl rfl rfl (by simp) ?_
 simp -dsimp (disch:=omega) only[wpS,wpT,Nat.reduceEqDiff,Nat.reduceLeDiff,Nat.reduceAdd,zc123,zc4,st4,cF]
 obtain⟨H1,hH1,n1,E1,g0,g1,g2,g3⟩:=boxesL h [fv] [KI 0,KI 0,KI 0,KI 0] [KI 0,KI 0,KI 0,KI 0] [.bool false] [.bool false]
 rw[←hH1]
 clear hH1
 refine range2 (p:=10) (nt:=22) rfl rfl (by decide) (fun r y hfn hnt hbd hy=>?_)
 let J:Nat→IH→Prop:=fun i hh=>Ext h hh∧H1.n<hh.n∧hh.ext.get H1.n=some (.loop r)∧hh.ext.get h.n=some (.cells [fv] 0 none)∧hh.ext.get (h.n+1)=some (.cells [KI 0,KI 0,KI 0,KI 0] 0 none) ∧
  hh.ext.get (h.n+2)=some (.cells (seatOr (leastBy lt none (xs.take i))) 0 none)∧hh.ext.get (h.n+3)=some (.cells [.bool (leastBy lt none (xs.take i)).isSome] 0 none)
 have J0:J 0 (H1.new (.loop r)):=by
  refine⟨E1.new _,by simp,get_new_same _ _ rfl,?_,?_,?_,?_⟩
  ·rw[get_new_old _ _ (by omega)];exact g0
  ·rw[get_new_old _ _ (by omega)];exact g1
  ·rw[get_new_old _ _ (by omega)];exact g2
  ·rw[get_new_old _ _ (by omega)];exact g3
 have Je : ∀i h h',J i h→Ext h h'→J i h':=by
  rintro i x x' ⟨a1,a2,a3,a4,a5,a6,a7⟩ e
  have en:=e.n
  exact⟨a1.trans e,by omega,e.kept a2 a3,e.kept (by omega) a4,e.kept (by omega) a5,e.kept (by omega) a6,e.kept (by omega) a7⟩
 refine WV.mono (hx y (H1.new (.loop r)) J (fun i hh hj=>hb.trans hj.1) Je J0 ?_) ?_
 ·rintro i x hh hi ⟨x1,x2,x3,x4,x5,x6,x7⟩
  refine hy _ hh _ x3 ?_
  simp -dsimp (disch:=omega) only[wpS,wpT,Nat.reduceEqDiff,Nat.reduceLeDiff,Nat.reduceAdd,zc123,st123]
  obtain⟨H5,hH5,n5,e5,gw⟩:=boxed hh [KI 0,KI 0,KI 0,KI 0] [KI x.1.1,KI x.1.2.1,KI x.1.2.2,KI x.2]
  rw[←hH5]
  clear hH5
  obtain⟨y1,y2,y3,y4,y5,y6,y7⟩:=Je i hh H5 ⟨x1,x2,x3,x4,x5,x6,x7⟩ e5
  refine⟨rfl,y3,?_⟩
  rw[hfn,hnt,hbd]
  have eb:Ext h (H5.put H1.n (.loop (busyL r))):=y1.put (by omega) _
  obtain⟨H6,hH6⟩ : ∃H,H=H5.put H1.n (.loop (busyL r)):=⟨_,rfl⟩
  have z0 : ∀j,j≠H1.n→H6.ext.get j=H5.ext.get j:=fun j hj=>by rw[hH6];exact get_put_old _ _ hj
  have zl:H6.ext.get H1.n=some (.loop (busyL r)):=by rw[hH6];exact get_put_same _ _ rfl
  have zn:H6.n=H5.n:=by rw[hH6];rfl
  rw[←hH6] at eb ⊢
  clear hH6
  have z4:=(z0 h.n (by omega)).trans y4
  have z5:=(z0 (h.n+1) (by omega)).trans y5
  have z6:=(z0 (h.n+2) (by omega)).trans y6
  have z7:=(z0 (h.n+3) (by omega)).trans y7
  have zw:=(z0 hh.n (by omega)).trans gw
  have zt:xs.take (i+1)=xs.take i ++ [x]:=by rw[List.take_succ,hi];rfl
  have ht:=leastBy_take lt xs hi
  have fin : ∀(hf':IH) (o:Option Seat),leastBy lt none (xs.take (i+1))=o→Ext h hf'→H1.n<hf'.n→hf'.ext.get H1.n=some (.loop (busyL r))→hf'.ext.get h.n=some (.cells [fv] 0 none)→hf'.ext.get (h.n+1)=some (.cells [KI 0,KI 0,KI 0,KI 0] 0 none) →
    hf'.ext.get (h.n+2)=some (.cells (seatOr o) 0 none)→hf'.ext.get (h.n+3)=some (.cells [.bool o.isSome] 0 none)→Value.bool true=.bool true∧J (i+1) (hf'.put H1.n (.loop r)):=by
   intro hf' o ho w1 w2 w3 w4 w5 w6 w7
   refine⟨rfl,w1.put (by omega) _,w2,get_put_same _ _ rfl,?_,?_,?_,?_⟩
   ·rw[get_put_old _ _ (by omega)];exact w4
   ·rw[get_put_old _ _ (by omega)];exact w5
   ·rw[get_put_old _ _ (by omega),ho];exact w6
   ·rw[get_put_old _ _ (by omega),ho];exact w7
  cases hl:leastBy lt none (xs.take i) with
  | none =>
   rw[hl] at z6 z7 ht
   have z7:H6.ext.get (h.n+3)=some (.cells [.bool false] 0 none):=z7
   have m1:=e5.n
   simp -dsimp (disch:=omega) only[wpS,wpT,Nat.reduceEqDiff,Nat.reduceLeDiff,Nat.reduceAdd,st4,st123,ld4,ld123,row_of z7,row_of zw,z6,z7,tk4']
   refine⟨by rw[get_put_old _ _ (by omega),get_put_old _ _ (by omega)];exact zl,fin _ (some x) (ht.trans rfl) ((eb.put (by omega) _).put (by omega) _) (by show H1.n<H6.n;omega) ?_ ?_ ?_ ?_ ?_⟩
   ·rw[get_put_old _ _ (by omega),get_put_old _ _ (by omega)];exact zl
   ·rw[get_put_old _ _ (by omega),get_put_old _ _ (by omega)];exact z4
   ·rw[get_put_old _ _ (by omega),get_put_old _ _ (by omega)];exact z5
   ·rw[get_put_old _ _ (by omega)];exact get_put_same _ _ rfl
   ·exact get_put_same _ _ rfl
  | some o =>
   rw[hl] at z6 z7 ht
   rw[seatOr_some] at z6
   have z7:H6.ext.get (h.n+3)=some (.cells [.bool true] 0 none):=z7
   simp -dsimp (disch:=omega) only[wpS,wpT,Nat.reduceEqDiff,Nat.reduceLeDiff,Nat.reduceAdd,ld4,ld127,ld123,row_of z7,row_of zw,row_of z6,row_of z4,tk4']
   have ebb:Ext Hb H6:=hb.trans eb
   refine call (hf H6 x o ebb) ?_
   rintro _ h7 ⟨X7,rfl⟩
   have m7:=X7.n
   cases hc:lt x o
   ·simp -dsimp (disch:=omega) only[wpS,Nat.reduceEqDiff]
    refine⟨X7.kept (by omega) zl,fin h7 (some o) (ht.trans (by rw[pick1_some,hc];rfl)) (eb.trans X7) (by omega) (X7.kept (by omega) zl) (X7.kept (by omega) z4) (X7.kept (by omega) z5) (X7.kept (by omega) z6) (X7.kept (by omega) z7)⟩
   ·have q6:=X7.kept (by omega) z6
    have q7:=X7.kept (by omega) z7
    simp -dsimp (disch:=omega) only[wpS,wpT,Nat.reduceEqDiff,Nat.reduceLeDiff,Nat.reduceAdd,st4,st123,ld123,row_of (X7.kept (by omega) zw),q6,q7,tk4']
    refine⟨by rw[get_put_old _ _ (by omega),get_put_old _ _ (by omega)];exact X7.kept (by omega) zl,fin _ (some x) (ht.trans (by rw[pick1_some,hc];rfl)) (((eb.trans X7).put (by omega) _).put (by omega) _) (by show H1.n<h7.n;omega) ?_ ?_ ?_ ?_ ?_⟩
    ·rw[get_put_old _ _ (by omega),get_put_old _ _ (by omega)];exact X7.kept (by omega) zl
    ·rw[get_put_old _ _ (by omega),get_put_old _ _ (by omega)];exact X7.kept (by omega) z4
    ·rw[get_put_old _ _ (by omega),get_put_old _ _ (by omega)];exact X7.kept (by omega) z5
    ·rw[get_put_old _ _ (by omega)];exact get_put_same _ _ rfl
    ·exact get_put_same _ _ rfl
 ·rintro _ hd ⟨x1,x2,x3,x4,x5,x6,x7⟩
  rw[List.take_of_length_le (Nat.le_refl _)] at x6 x7
  refine .inl ⟨x3,?_⟩
  have ed:Ext h (hd.put H1.n .dead):=x1.put (by omega) _
  obtain⟨K0,hK0⟩ : ∃K0,K0=hd.put H1.n .dead:=⟨_,rfl⟩
  have z0 : ∀j,j≠H1.n→K0.ext.get j=hd.ext.get j:=fun j hj=>by rw[hK0];exact get_put_old _ _ hj
  have z5:=(z0 (h.n+1) (by omega)).trans x5
  have z6:=(z0 (h.n+2) (by omega)).trans x6
  have z7:=(z0 (h.n+3) (by omega)).trans x7
  rw[←hK0] at ed ⊢
  clear hK0
  simp -dsimp (disch:=omega) only[wpS]
  refine drawn [(1,[4])] (by kernel_rfl) (by kernel_rfl) rfl ?_
  simp -dsimp (disch:=omega) only[wpS,wpT,Nat.reduceEqDiff,Nat.reduceLeDiff,Nat.reduceAdd,st123,ld4,ld123,row_of z6,row_of z7,z5,seatOr_len,seatOr_all,seatOr_take,seatOr_sp]
  refine⟨wpSteady_one rfl rfl rfl rfl (steady_load (av:=ptr (2*(h.n+1+1+1)) 0) (v:=.bool (leastBy lt none xs).isSome) (by simp) ?_ ?_),?_⟩
  ·simp -dsimp (disch:=omega) only[wpS,ld4,row_of z7]
  ·simp -dsimp (disch:=omega) only[wpS,ld4,row_of z7]
  ·simp -dsimp (disch:=omega) only[wpS,wpT,Nat.reduceEqDiff,Nat.reduceLeDiff,Nat.reduceAdd,ld123,seatOr_take,seatOr_len]
   exact ed.put (by omega) _
end Go.Id

/-! Contracts: package bracket: certified, Certify. -/
namespace Go.Id
open Go
theorem wv_bound {P:Program} {f:FuncId} {first cap:Array Value} {vs:List Value} {h:IH} {K:Value→IH→Prop} (w:WV P (.func (.func f) #[] #[]) (first.toList ++ (vs ++ cap.toList)) h K):WV P (.func (.func f) first cap) vs h K:=by
 obtain⟨a,⟨N,hN⟩,k⟩:=w
 refine⟨a,⟨N+1,fun n hn=>?_⟩,k⟩
 obtain⟨n,rfl⟩ : ∃m,n=m+1:=⟨n - 1,by omega⟩
 have:=hN (n+1) (by omega)
 unfold callV at this ⊢
 simpa using this
def lastS:List Reg→List Seat
 | [] => []
 | r :: l=>if 0<r.1∧r.2.2<r.2.1 then (r,r.2.1 - 1) :: lastS l else lastS l
def nextS:List Reg→List Seat
 | [] => []
 | r :: l=>if 0<r.1 then (r,r.2.1) :: nextS l else nextS l
theorem lastS_app : ∀(a b:List Reg),lastS (a ++ b)=lastS a ++ lastS b
 | [],b=>rfl
 | r :: a,b=>by rw[List.cons_append,lastS,lastS,lastS_app a b];split<;>rfl
theorem nextS_app : ∀(a b:List Reg),nextS (a ++ b)=nextS a ++ nextS b
 | [],b=>rfl
 | r :: a,b=>by rw[List.cons_append,nextS,nextS,nextS_app a b];split<;>rfl
theorem take_split {α:Type} {l:List α} {i:Nat} {r:α} (h:l[i]?=some r):l=l.take i ++ r :: l.drop (i+1):=by
 conv=>lhs;rw[←List.take_append_drop i l]
 rw[List.drop_eq_getElem?_toList_append,h];rfl
theorem last_iter {Hb:IH} {sv:Value} {m:Int} {rs:List Reg} (s:RegSl Hb sv rs) (hl:rs.length≤1000) (hb : ∀r∈rs,0≤r.2.1∧r.2.1≤1000):Iter (.func (.func 80) #[hallV m sv] #[]) Hb (lastS rs):=by
 intro y h J hJ hE h0 step
 have key:=last_ok (h:=h) (y:=y) (sv:=sv) (m:=m) (rs:=rs) (fun i h=>J (lastS (rs.take i)).length h) (fun i h hj=>s.keep (hJ _ _ hj).keep) (fun i a b hj e=>hE _ _ _ hj e) (by simpa [lastS] using h0) hl hb ?_ ?_
 ·rw[List.take_of_length_le (Nat.le_refl _)] at key
  exact key
 ·intro i r h hr hc hj
  rw[List.take_add_one,hr,lastS_app]
  simpa [lastS,hc] using hj
 ·intro i r h hr hc hj
  have e:lastS (rs.take (i+1))=lastS (rs.take i) ++ [(r,r.2.1 - 1)]:=by
   rw[List.take_add_one,hr,lastS_app];simp[lastS,hc]
  have g:(lastS rs)[(lastS (rs.take i)).length]?=some (r,r.2.1 - 1):=by
   have e9:lastS rs=lastS (rs.take i) ++ lastS (r :: rs.drop (i+1)):=by rw[←lastS_app];exact congrArg lastS (take_split hr)
   rw[e9,List.getElem?_append_right (Nat.le_refl _),Nat.sub_self,lastS,if_pos hc];rfl
  refine(step _ _ h g hj).mono fun v h' hv=>⟨hv.1,?_⟩
  rw[e,List.length_append]
  exact hv.2
theorem next_iter {Hb:IH} {sv:Value} {m:Int} {rs:List Reg} (s:RegSl Hb sv rs) (hl:rs.length≤1000):Iter (.func (.func 82) #[hallV m sv] #[]) Hb (nextS rs):=by
 intro y h J hJ hE h0 step
 have key:=next_ok (h:=h) (y:=y) (sv:=sv) (m:=m) (rs:=rs) (fun i h=>J (nextS (rs.take i)).length h) (fun i h hj=>s.keep (hJ _ _ hj).keep) (fun i a b hj e=>hE _ _ _ hj e) (by simpa [nextS] using h0) hl ?_ ?_
 ·rw[List.take_of_length_le (Nat.le_refl _)] at key
  exact key
 ·intro i r h hr hc hj
  rw[List.take_add_one,hr,nextS_app]
  simpa [nextS,hc] using hj
 ·intro i r h hr hc hj
  have e:nextS (rs.take (i+1))=nextS (rs.take i) ++ [(r,r.2.1)]:=by
   rw[List.take_add_one,hr,nextS_app];simp[nextS,hc]
  have g:(nextS rs)[(nextS (rs.take i)).length]?=some (r,r.2.1):=by
   have e9:nextS rs=nextS (rs.take i) ++ nextS (r :: rs.drop (i+1)):=by rw[←nextS_app];exact congrArg nextS (take_split hr)
   rw[e9,List.getElem?_append_right (Nat.le_refl _),Nat.sub_self,nextS,if_pos hc];rfl
  refine(step _ _ h g hj).mono fun v h' hv=>⟨hv.1,?_⟩
  rw[e,List.length_append]
  exact hv.2
theorem all_snoc {p:Reg→Bool} {rs:List Reg} {i:Nat} {r:Reg} (hr:rs[i]?=some r) (h : ∀x∈rs.take i,p x=true) (hp:p r=true) : ∀x∈rs.take (i+1),p x=true:=by
 intro x hx
 rw[List.take_add_one,hr] at hx
 simp at hx
 rcases hx with hx|rfl
 ·exact h x hx
 ·exact hp
def zeroSeat:Seat:=((0,0,0),0)
def settled (rs:List Reg):Bool:=rs.all fun r=>decide (0<r.1) || r.2.1 == r.2.2
def certB (m:Int) (rs:List Reg):Bool:=settled rs && match leastBy (stBelow m) none (lastS rs) with
 | none=>true
 | some lo => !(stBelow m lo ((leastBy (fun a b=>stBelow m b a) none (nextS rs)).getD zeroSeat))
theorem seatOr_get (o:Option Seat):Value.agg (seatOr o).toArray=stV (o.getD zeroSeat):=by cases o<;>rfl
set_option maxHeartbeats 4000000 in
theorem certified_ok {h:IH} {sv:Value} {m:Int} {rs:List Reg} (s:RegSl h sv rs) (hl:rs.length≤1000) (hb : ∀r∈rs,0≤r.2.1∧r.2.1≤1000) :
  WV Proofs.Tryz.prog (.func (.func 37) #[] #[]) [hallV m sv] h fun r h'=>Ext h h'∧r=.bool (certB m rs):=by
 have cs:=s.cells
 have cO:cellOK sv=true:=by obtain⟨oa,ok,ho⟩:=s.form;rw[ho];rfl
 refine enter (nt:=51) (rs:=[.tmp 2]) Proofs.Tryz.func37 rfl rfl rfl (by simp) ?_
 simp -dsimp (disch:=omega) only[wpS,Nat.reduceEqDiff,fa80_1,ld78]
 obtain⟨H0,hH0⟩ : ∃H,H=h.new (.cells [KI m,sv] 0 none):=⟨_,rfl⟩
 have E0:Ext h H0:=by rw[hH0];exact(Ext.refl h).new _
 have g0:H0.ext.get h.n=some (.cells [KI m,sv] 0 none):=by rw[hH0];simp (disch:=first|omega|(simp only[new_n,put_n];omega)|(repeat first|rw[new_n]|rw[put_n])) only[get_new_same]
 have n0:H0.n=h.n+1:=by rw[hH0];simp
 rw[←hH0]
 clear hH0
 simp -dsimp (disch:=omega) only[wpS,(s.keep E0.keep).now.len sl78]
 refine loop (fun mm fr hh => ∃i:Nat,i+mm=rs.length∧Ext H0 hh∧(∀r∈rs.take i,(decide (0<r.1) || r.2.1 == r.2.2)=true)∧fget fr 1=some (ptr (2*h.n) 0)∧fget fr 10=some sv∧fget fr 11=some (KI rs.length)∧fget fr 12=some (KI i)) rs.length ⟨0,by omega,Ext.refl _,fun r hr=>by simp at hr,by simp,by simp,by simp,by simp⟩ ?_
 rintro mm fr hh ⟨i,him,E,hz,f1,f10,f11,f12⟩
 have s1:=s.keep (E0.trans E).keep
 by_cases c:i<rs.length
 ·obtain⟨r,hr⟩ : ∃r,rs[i]?=some r:=⟨rs[i],List.getElem?_eq_getElem c⟩
  have e2:IntKind.i64.wrap ((i:Int)+1)=((i+1:Nat):Int):=by rw[wrap_i64 (by omega)];omega
  have ld:=RegSl.ld s1 (Keep.refl hh) hr
  obtain⟨H1,hH1,n1,E1,g1⟩:=boxed hh [KI 0,KI 0,KI 0] [KI r.1,KI r.2.1,KI r.2.2]
  by_cases c2:0<r.1
  ·simp -dsimp (disch:=omega) only[wpS,wpT,Nat.reduceEqDiff,Nat.reduceLeDiff,Nat.reduceAdd,zc121,st121,fa121_0,ld3,f10,f11,f12,s1.now.idx es78 c,ld,e2]
   rw[←hH1]
   exact⟨mm - 1,by omega,i+1,by omega,E.trans E1,all_snoc hr hz (by simp[c2]),by simp[f1],by simp[f10],by simp[f11],by simp⟩
  ·by_cases c3:r.2.1=r.2.2
   ·have d3:(r.2.1 == r.2.2)=true:=by simpa using c3
    simp -dsimp (disch:=omega) only[wpS,wpT,Nat.reduceEqDiff,Nat.reduceLeDiff,Nat.reduceAdd,zc121,st121,fa121_0,ld3,fa121_1,fa121_2,f10,f11,f12,s1.now.idx es78 c,ld,e2,d3]
    rw[←hH1]
    exact⟨mm - 1,by omega,i+1,by omega,E.trans E1,all_snoc hr hz (by simp[c3]),by simp[f1],by simp[f10],by simp[f11],by simp⟩
   ·have d3:(r.2.1 == r.2.2)=false:=by simpa using c3
    simp -dsimp (disch:=omega) only[wpS,wpT,Nat.reduceEqDiff,Nat.reduceLeDiff,Nat.reduceAdd,zc121,st121,fa121_0,ld3,fa121_1,fa121_2,f10,f11,f12,s1.now.idx es78 c,ld,d3]
    rw[←hH1]
    refine⟨E0.trans (E.trans E1),?_⟩
    have hst:settled rs=false:=by
     cases hs:settled rs
     ·rfl
     ·have:=List.all_eq_true.1 hs r (List.mem_of_getElem? hr)
      rw[d3] at this;simp[c2] at this
    unfold certB
    rw[hst];rfl
 ·have hin:i=rs.length:=by omega
  have hst:settled rs=true:=by
   rw[hin,List.take_of_length_le (Nat.le_refl _)] at hz
   exact List.all_eq_true.2 hz
  have g1:=E.kept (by omega) g0
  have En:=E.n
  simp -dsimp (disch:=omega) only[wpS,wpT,Nat.reduceEqDiff,Nat.reduceLeDiff,Nat.reduceAdd,ld80,f1,f11,f12,row_of g1,tk2']
  refine call (leastOf_ok (Hb:=hh) (xs:=lastS rs) (lt:=stBelow m) rfl rfl (last_iter s1 hl hb) (Ext.refl _) (fun h9 a b _=>wv_bound (below_ok a b cs cO))) ?_
  rintro _ h2 ⟨X2,rfl⟩
  have m2:=X2.n
  have g2:=X2.kept (by omega) g1
  rw[seatOr_get]
  obtain⟨lo,hlo⟩ : ∃o,o=leastBy (stBelow m) none (lastS rs):=⟨_,rfl⟩
  rw[←hlo]
  obtain⟨fb,hfb⟩ : ∃b,b=lo.isSome:=⟨_,rfl⟩
  rw[←hfb]
  obtain⟨H3,hH3,n3,E3,g3⟩:=boxed h2 [KI 0,KI 0,KI 0,KI 0] [KI (lo.getD zeroSeat).1.1,KI (lo.getD zeroSeat).1.2.1,KI (lo.getD zeroSeat).1.2.2,KI (lo.getD zeroSeat).2]
  simp -dsimp (disch:=omega) only[wpS,wpT,Nat.reduceEqDiff,Nat.reduceLeDiff,Nat.reduceAdd,ld80,zc123,st123,f1,row_of g2,tk2']
  rw[←hH3]
  clear hH3
  have Y3:=X2.trans E3
  refine call (leastOf_ok (Hb:=H3) (xs:=nextS rs) (lt:=fun a b=>stBelow m b a) rfl rfl (next_iter (s1.keep Y3.keep) hl) (Ext.refl _) (fun h9 a b e9=>above1_ok a b cs cO (e9.kept (by have:=E3.n;omega) (E3.kept (by omega) g2)) (by have:=e9.n;have:=E3.n;omega))) ?_
  rintro _ h4 ⟨X4,rfl⟩
  have m4:=X4.n
  rw[seatOr_get]
  obtain⟨hi,hhi⟩ : ∃o,o=leastBy (fun a b=>stBelow m b a) none (nextS rs):=⟨_,rfl⟩
  rw[←hhi]
  obtain⟨H5,hH5,n5,E5,g5⟩:=boxed h4 [KI 0,KI 0,KI 0,KI 0] [KI (hi.getD zeroSeat).1.1,KI (hi.getD zeroSeat).1.2.1,KI (hi.getD zeroSeat).1.2.2,KI (hi.getD zeroSeat).2]
  have k1:=(Y3.trans X4).kept (by omega) g1
  have k3:=X4.kept (by omega) g3
  cases fb with
  | false =>
   simp -dsimp (disch:=omega) only[wpS,wpT,Nat.reduceEqDiff,Nat.reduceLeDiff,Nat.reduceAdd,zc123,st123]
   rw[←hH5]
   refine⟨E0.trans (E.trans (Y3.trans (X4.trans E5))),?_⟩
   have hl0:lo=none:=by cases lo with
    | none=>rfl
    | some x=>cases hfb
   unfold certB
   rw[hst,←hlo,hl0];rfl
  | true =>
   obtain⟨x,hx⟩ : ∃x,lo=some x:=by cases lo with
    | none=>cases hfb
    | some x=>exact⟨x,rfl⟩
   simp -dsimp (disch:=omega) only[wpS,wpT,Nat.reduceEqDiff,Nat.reduceLeDiff,Nat.reduceAdd,ld80,zc123,st123,ld123,f1,row_of k1,row_of k3,tk2',tk4']
   rw[←hH5]
   refine call (below_ok (lo.getD zeroSeat) (hi.getD zeroSeat) cs cO) ?_
   rintro _ h6 ⟨X6,rfl⟩
   simp -dsimp (disch:=omega) only[wpS,wpT,Nat.reduceEqDiff]
   refine⟨E0.trans (E.trans (Y3.trans (X4.trans (E5.trans X6)))),?_⟩
   unfold certB
   rw[hst,←hlo,hx,←hhi];rfl
end Go.Id

/-! Contracts: package bracket: Certify, rank. -/
namespace Go.Id
open Go
theorem openErr_ok {people won least:List Int} {m:Int} (h:openErr people won m least=0):(people.length≤60 ∧ ∀n∈people,0≤n∧n≤1000000000)∧won.length=people.length∧(∀n∈won,0≤n∧n≤1000)∧(11≤m∧m≤15)∧(leastOr people.length least).length=people.length∧lowOK won (leastOr people.length least) people.length:=by
 unfold openErr at h
 by_cases c1:quotaOK people=false
 ·rw[if_pos c1] at h;omega
 ·rw[if_neg c1] at h
  by_cases c2:won.length≠people.length∨inR 0 1000 won=false
  ·rw[if_pos c2] at h;omega
  ·rw[if_neg c2] at h
   by_cases c3:inR 11 15 [m]=false∨(leastOr people.length least).length≠people.length
   ·rw[if_pos c3] at h;omega
   ·rw[if_neg c3] at h
    by_cases c4 : ¬lowOK won (leastOr people.length least) people.length
    ·rw[if_pos c4] at h;omega
    ·have d1:quotaOK people=true:=by simpa using c1
     have d2:inR 0 1000 won=true:=by
      cases hh:inR 0 1000 won
      ·exact absurd (.inr hh) c2
      ·rfl
     have d3:inR 11 15 [m]=true:=by
      cases hh:inR 11 15 [m]
      ·exact absurd (.inl hh) c3
      ·rfl
     unfold quotaOK at d1
     simp only[Bool.and_eq_true,decide_eq_true_eq] at d1
     refine⟨⟨d1.1,inR_iff.1 d1.2.1⟩,?_,inR_iff.1 d2,inR_iff.1 d3 m (by simp),?_,Classical.not_not.1 c4⟩
     ·exact Classical.not_not.1 fun e=>c2 (.inl e)
     ·exact Classical.not_not.1 fun e=>c3 (.inr e)
structure RegsOK (rs:List Reg):Prop where
 len:rs.length≤60
 b : ∀r∈rs,(0≤r.1∧r.1≤1000000000)∧(0≤r.2.1∧r.2.1≤1000)∧0≤r.2.2∧r.2.2≤r.2.1
abbrev regsV (people won least:List Int):List Reg:=regsOf people won (leastOr people.length least) people.length
theorem regs_ok {people won least:List Int} {m:Int} (h:openErr people won m least=0):RegsOK (regsV people won least):=by
 obtain⟨h1,h2,h3,h4,h5,h6⟩:=openErr_ok h
 refine⟨by rw[regsOf_len];exact h1.1,fun r hr=>?_⟩
 obtain⟨i,hi,rfl⟩:=List.mem_map.1 hr
 rw[List.mem_range] at hi
 exact⟨h1.2 _ (List.mem_of_getElem? (at_getD hi)),h3 _ (List.mem_of_getElem? (at_getD (by omega))),h6 i hi⟩
theorem OpenV.ok {h':IH} {r:Value} {people won least:List Int} {m:Int} (o:OpenV h' r people won m least) (h:openErr people won m least=0) : ∃s,r=.tuple #[hallV m s,KI 0]∧RegSl h' s (regsV people won least):=by
 unfold OpenV at o
 rw[if_pos h] at o
 obtain⟨s,e,hs⟩:=o
 refine⟨s,e,?_⟩
 unfold RegSl regsV
 rw[regsOf_len]
 exact hs
theorem OpenV.no {h':IH} {r:Value} {people won least:List Int} {m:Int} (o:OpenV h' r people won m least) (h:openErr people won m least≠0):r=.tuple #[hallV 0 (.slice none 0 0),KI (openErr people won m least)]:=by
 unfold OpenV at o
 rwa [if_neg h] at o
def certifyB (people won:List Int) (m:Int) (least:List Int):Bool:=decide (openErr people won m least=0) && certB m (regsV people won least)
set_option maxHeartbeats 2000000 in
theorem certify_ok {h:IH} {vp vw vl:Value} {m:Int} {people won least:List Int} (hp:SlOf h 1 vp people.length (people.map KI)) (hw:SlOf h 1 vw won.length (won.map KI)) (hl:SlOf h 1 vl least.length (least.map KI)) (lp:people.length≤1000000000) (lw:won.length≤1000000000) (ll:least.length≤1000000000) :
  WV Proofs.Tryz.prog (.func (.func 17) #[] #[]) [vp,vw,KI m,vl] h fun r h'=>Ext h h'∧r=.tuple #[.bool (certifyB people won m least),KI (openErr people won m least)]:=by
 refine enter (nt:=25) (rs:=[.tmp 8,.tmp 9]) Proofs.Tryz.func17 rfl rfl rfl (by simp) ?_
 simp -dsimp (disch:=omega) only[wpS,Nat.reduceEqDiff,Nat.reduceAdd]
 refine call (open_ok hp hw hl lp lw ll) ?_
 rintro r h1 ⟨X1,o⟩
 by_cases c:openErr people won m least=0
 ·obtain⟨s,rfl,hs⟩:=o.ok c
  have cs:=hs.cells
  have cO:cellOK s=true:=by obtain⟨oa,ok,ho⟩:=hs.form;rw[ho];rfl
  have R:=regs_ok c
  obtain⟨H2,hH2,n2,E2,g2⟩:=boxed h1 [KI 0,.slice none 0 0] [KI m,s]
  simp -dsimp (disch:=omega) only[wpS,wpT,Nat.reduceEqDiff,Nat.reduceLeDiff,Nat.reduceAdd,zc80,st80,ld80,cO,tk2']
  rw[←hH2]
  refine call (certified_ok (hs.keep E2.keep) (by have:=R.len;omega) (fun r hr=>(R.b r hr).2.1)) ?_
  rintro _ h3 ⟨X3,rfl⟩
  simp -dsimp (disch:=omega) only[wpS,Nat.reduceEqDiff]
  refine⟨X1.trans (E2.trans X3),?_⟩
  unfold certifyB
  rw[c];rfl
 ·have hr:=o.no c
  subst hr
  have d:((openErr people won m least) != 0)=true:=by simpa using c
  simp -dsimp (disch:=omega) only[wpS,wpT,Nat.reduceEqDiff,Nat.reduceLeDiff,Nat.reduceAdd,zc80,st80,d]
  refine⟨(X1.new _).put (by have:=X1.n;omega) _,?_⟩
  unfold certifyB
  rw[decide_eq_false c];rfl
abbrev rkE (m:Int) (x:Seat):Int:=rankErr m x.1.1 x.2
abbrev rkQ (m:Int) (x:Seat):Rat:=rankQ m.toNat x.1.1.toNat x.2.toNat
def rkV2 (m:Int) (x:Seat):Value:=if rkE m x=0 then shV (shq (rkQ m x)).1 (shq (rkQ m x)).2 else shV 0 0
theorem rank_ok {h:IH} {sv:Value} {m:Int} (x:Seat) (cs:sv.cells = #[sv]) (cO:cellOK sv=true) :
  WV Proofs.Tryz.prog (.func (.func 84) #[] #[]) [hallV m sv,stV x] h fun r h'=>Ext h h'∧r=.tuple #[rkV2 m x,.bool (decide (rkE m x=0))]:=by
 refine enter (nt:=22) (rs:=[.cell 4 47,.tmp 5]) Proofs.Tryz.func84 rfl rfl rfl (by simp) ?_
 simp -dsimp (maxSteps:=1000000) (disch:=first|omega|(simp only[new_n,put_n];omega)|decide +kernel|(repeat first|rw[new_n]|rw[put_n])) only[wpS,Nat.reduceEqDiff,Nat.reduceAdd,zc47,fa80_0,ld3,fa123_0,fa121_0,fa123_1]
 obtain⟨H0,hH0,n0,E0,g0,g1,g2⟩:=boxes3 h [KI m,sv] [KI x.1.1,KI x.1.2.1,KI x.1.2.2,KI x.2] Z16
 rw[←hH0]
 clear hH0
 refine call (dRank_ok m x.1.1 x.2) ?_
 rintro r h1 ⟨X1,hr⟩
 have hr2 : ∃n d e,r=.tuple #[shV n d,KI e]∧shV n d=rkV2 m x∧(e == 0)=decide (rkE m x=0):=by
  unfold rkV2
  by_cases c:rkE m x=0
  ·rw[if_pos c] at hr ⊢
   exact⟨_,_,0,hr,rfl,by rw[decide_eq_true c];rfl⟩
  ·rw[if_neg c] at hr ⊢
   exact⟨_,_,_,hr,rfl,by rw[decide_eq_false c];simpa using c⟩
 obtain⟨n,d,e,rfl,e1,e2⟩:=hr2
 have m1:=X1.n
 have k2:=X1.kept (by omega) g2
 simp -dsimp (maxSteps:=1000000) (disch:=first|omega|(simp only[new_n,put_n];omega)|decide +kernel|(repeat first|rw[new_n]|rw[put_n])) only[wpS,wpT,Nat.reduceEqDiff,Nat.reduceLeDiff,Nat.reduceAdd,zc47,st47,ld47,shV_cells,shC_len,shC_all,sh_sp3,sh_take,k2]
 refine⟨(((E0.trans X1).new _).put (by omega) _).put (by omega) _,?_⟩
 rw[e2,←e1];rfl
end Go.Id

/-! Contracts: package bracket: the bracket of an allocation; Find. -/
namespace Go.Id
open Go
theorem splice_left (a b c:List Value) (h:c.length=a.length):IH.splice (a ++ b) 0 c=c ++ b:=by
 show List.take 0 (a ++ b) ++ (c ++ List.drop (0+c.length) (a ++ b))=_
 rw[h,Nat.zero_add,List.drop_left];rfl
theorem splice_right (a b c:List Value) (n k:Nat) (h:n=a.length+k):IH.splice (a ++ b) n c=a ++ IH.splice b k c:=by
 subst h
 show List.take (a.length+k) (a ++ b) ++ (c ++ List.drop (a.length+k+c.length) (a ++ b))=a ++ (List.take k b ++ (c ++ List.drop (k+c.length) b))
 rw[List.take_append,List.drop_append,List.take_of_length_le (by omega),List.drop_of_length_le (by omega),show a.length+k - a.length=k from by omega,show a.length+k+c.length - a.length=k+c.length from by omega,List.append_assoc];rfl
def brC (lo hi:Nat×Nat) (en sc sq:Bool):List Value:=shC lo.1 lo.2 ++ (shC hi.1 hi.2 ++ [.bool en,.bool sc,.bool sq])
abbrev brV (lo hi:Nat×Nat) (en sc sq:Bool):Value:=.agg (brC lo hi en sc sq).toArray
theorem brC_len (lo hi:Nat×Nat) (en sc sq:Bool):(brC lo hi en sc sq).length=35:=by simp[brC,shC_len]
theorem brC_all (lo hi:Nat×Nat) (en sc sq:Bool):(brC lo hi en sc sq).all cellOK=true:=by simp[brC,shC_all,cellOK]
theorem brC_take (lo hi:Nat×Nat) (en sc sq:Bool):List.take 35 (List.drop 0 (brC lo hi en sc sq))=brC lo hi en sc sq:=by rw[List.drop_zero,List.take_of_length_le (by rw[brC_len];omega)]
theorem brC_lo (lo hi:Nat×Nat) (en sc sq:Bool):List.take 16 (List.drop 0 (brC lo hi en sc sq))=shC lo.1 lo.2:=by
 rw[List.drop_zero,brC,List.take_append_of_le_length (by rw[shC_len];omega),List.take_of_length_le (by rw[shC_len];omega)]
theorem brC_hi (lo hi:Nat×Nat) (en sc sq:Bool):List.take 16 (List.drop 16 (brC lo hi en sc sq))=shC hi.1 hi.2:=by
 rw[brC,List.drop_append,List.drop_of_length_le (by rw[shC_len];omega),shC_len,List.nil_append,List.drop_zero,List.take_append_of_le_length (by rw[shC_len];omega),List.take_of_length_le (by rw[shC_len];omega)]
theorem brC_32 (lo hi:Nat×Nat) (en sc sq:Bool):(brC lo hi en sc sq)[32]?=some (.bool en):=by
 rw[brC,List.getElem?_append_right (by rw[shC_len];omega),shC_len,List.getElem?_append_right (by rw[shC_len];omega),shC_len];rfl
theorem brC_33 (lo hi:Nat×Nat) (en sc sq:Bool):(brC lo hi en sc sq)[33]?=some (.bool sc):=by
 rw[brC,List.getElem?_append_right (by rw[shC_len];omega),shC_len,List.getElem?_append_right (by rw[shC_len];omega),shC_len];rfl
theorem brC_slo (lo hi:Nat×Nat) (en sc sq:Bool) (a b:Nat):IH.splice (brC lo hi en sc sq) 0 (shC a b)=brC (a,b) hi en sc sq:=splice_left _ _ _ (by rw[shC_len,shC_len])
theorem brC_shi (lo hi:Nat×Nat) (en sc sq:Bool) (a b:Nat):IH.splice (brC lo hi en sc sq) 16 (shC a b)=brC lo (a,b) en sc sq:=by
 rw[brC,splice_right _ _ _ 16 0 (by rw[shC_len]),splice_left _ _ _ (by rw[shC_len,shC_len])];rfl
theorem brC_s32 (lo hi:Nat×Nat) (en sc sq b:Bool):IH.splice (brC lo hi en sc sq) 32 [.bool b]=brC lo hi b sc sq:=by
 rw[brC,splice_right _ _ _ 32 16 (by rw[shC_len]),splice_right _ _ _ 16 0 (by rw[shC_len])];rfl
theorem brC_s33 (lo hi:Nat×Nat) (en sc sq b:Bool):IH.splice (brC lo hi en sc sq) 33 [.bool b]=brC lo hi en b sq:=by
 rw[brC,splice_right _ _ _ 33 17 (by rw[shC_len]),splice_right _ _ _ 17 1 (by rw[shC_len])];rfl
abbrev Z35:List Value:=[ZW,ZW,ZW,ZW,ZW,ZW,ZW,ZW,ZW,ZW,ZW,ZW,ZW,ZW,ZW,ZW,ZW,ZW,ZW,ZW,ZW,ZW,ZW,ZW,ZW,ZW,ZW,ZW,ZW,ZW,ZW,ZW,.bool false,.bool false,.bool false]
theorem brC_all0 (lo hi:Nat×Nat) (en sc sq:Bool):IH.splice Z35 0 (brC lo hi en sc sq)=brC lo hi en sc sq:=splice_all (by rw[brC_len];rfl)
theorem br_zero:Z35=brC (0,0) (0,0) false false false:=by rw[brC,←sh_zero];rfl
theorem brC_s34 (lo hi:Nat×Nat) (en sc sq b:Bool):IH.splice (brC lo hi en sc sq) 34 [.bool b]=brC lo hi en sc b:=by
 rw[brC,splice_right _ _ _ 34 18 (by rw[shC_len]),splice_right _ _ _ 18 2 (by rw[shC_len])];rfl
theorem br_s0 (a b:Nat):IH.splice Z35 0 (shC a b)=brC (a,b) (0,0) false false false:=by rw[br_zero,brC_slo]
def nextF (m:Int) (st:Rat×Bool) (x:Seat):Rat×Bool:=if rkE m x=0 then (qmax st.1 (rkQ m x),st.2) else (st.1,true)
def lastF (m:Int) (st:Rat×Bool) (x:Seat):Rat×Bool:=if rkE m x=0 then (if st.2=true∨rkQ m x<st.1 then rkQ m x else st.1,false) else st
def brN (m:Int) (rs:List Reg):Rat×Bool:=(nextS rs).foldl (nextF m) (0,false)
def brL (m:Int) (rs:List Reg):Rat×Bool:=(lastS rs).foldl (lastF m) (0,true)
def brkV (m:Int) (rs:List Reg):Value:=brV (shq (if (brN m rs).2=true then 0 else (brN m rs).1)) (shq (brL m rs).1) (brL m rs).2 (brN m rs).2 (m == 13)
theorem qw_zero:QW 0:=by have:=qw_small (n:=0) (d:=1) (by decide) (by decide) (by decide);rwa [Rat.zero_divInt] at this
theorem qw_max {x y:Rat} (hx:QW x) (hy:QW y):QW (qmax x y):=by unfold qmax;split<;>assumption
theorem rkQ_qw {m:Int} {x:Seat} (h:rkE m x=0):QW (rkQ m x):=by
 unfold rkE rankErr at h
 split at h
 ·omega
 ·rename_i h1
  split at h
  ·omega
  ·rename_i h2
   obtain⟨b,c⟩:inR 0 1000 [x.2]=true∧inR 0 1000000000 [x.1.1]=true:=by
    generalize inR 11 15 [m]=a at h1
    generalize inR 0 1000 [x.2]=b at h1 ⊢
    generalize inR 0 1000000000 [x.1.1]=c at h1 ⊢
    revert h1
    cases a<;>cases b<;>cases c<;>decide
   have d1:=inR_iff.1 b x.2 (by simp)
   have d2:=inR_iff.1 c x.1.1 (by simp)
   exact rankQ_qw (by omega) (by omega) (fun e=>h2 (by unfold postZ;rw[e];rfl))
theorem nextF_qw {m:Int} {st:Rat×Bool} {x:Seat} (h:QW st.1):QW (nextF m st x).1:=by
 unfold nextF
 split
 ·rename_i c;exact qw_max h (rkQ_qw c)
 ·exact h
theorem lastF_qw {m:Int} {st:Rat×Bool} {x:Seat} (h:QW st.1):QW (lastF m st x).1:=by
 unfold lastF
 split
 ·rename_i c;dsimp only;split
  ·exact rkQ_qw c
  ·exact h
 ·exact h
theorem fold_take {α:Type} {f:α→Seat→α} {a:α} {l:List Seat} {i:Nat} {x:Seat} (h:l[i]?=some x):(l.take (i+1)).foldl f a=f ((l.take i).foldl f a) x:=by
 rw[List.take_add_one,h,List.foldl_append];rfl
end Go.Id

/-! Contracts: package bracket: the bracket of an allocation. -/
namespace Go.Id
open Go
theorem qmax_rOf {x y:Rat} (hx:QW x) (hy:QW y):qmax (rOf (shq x)) (rOf (shq y))=qmax x y:=by rw[(shq_rOf hx).1,(shq_rOf hy).1]
theorem cmpQ_lt (x y:Rat):(cmpQ x y<0)↔x<y:=by
 unfold cmpQ
 split
 ·rename_i h;exact⟨fun _=>h,fun _=>by omega⟩
 ·rename_i h
  split
  ·exact⟨fun h=>absurd h (by omega),fun h2=>absurd h2 h⟩
  ·exact⟨fun h=>absurd h (by omega),fun h2=>absurd h2 h⟩
theorem box3p (h:IH) (a b c d e f:List Value) : ∃H,H=((((((h.new (.cells a 0 none)).put h.n (.cells b 0 none)).new (.cells c 0 none)).put (h.n+1) (.cells d 0 none)).new (.cells e 0 none)).put (h.n+1+1) (.cells f 0 none))∧H.n=h.n+3∧Ext h H∧H.ext.get h.n=some (.cells b 0 none)∧H.ext.get (h.n+1)=some (.cells d 0 none)∧H.ext.get (h.n+2)=some (.cells f 0 none) :=
 ⟨_,rfl,rfl,((((((Ext.refl h).new _).put (by omega) _).new _).put (by omega) _).new _).put (by omega) _,by simp (disch:=first|omega|(simp only[new_n,put_n];omega)|(repeat first|rw[new_n]|rw[put_n])) only[get_new_old,get_put_same,get_put_old],by simp (disch:=first|omega|(simp only[new_n,put_n];omega)|(repeat first|rw[new_n]|rw[put_n])) only[get_new_old,get_put_same,get_put_old],by simp (disch:=first|omega|(simp only[new_n,put_n];omega)|(repeat first|rw[new_n]|rw[put_n])) only[get_put_same]⟩
abbrev rkF (m:Int) (sv:Value):Value:=.func (.func 84) #[hallV m sv] #[]
set_option maxHeartbeats 8000000 in
set_option maxRecDepth 20000 in
theorem bracket_ok {h:IH} {sv:Value} {m:Int} {rs:List Reg} (s:RegSl h sv rs) (hl:rs.length≤1000) (hb : ∀r∈rs,0≤r.2.1∧r.2.1≤1000) :
  WV Proofs.Tryz.prog (.func (.func 38) #[] #[]) [hallV m sv] h fun r h'=>Ext h h'∧r=brkV m rs:=by
 have cs:=s.cells
 have cO:cellOK sv=true:=by obtain⟨oa,ok,ho⟩:=s.form;rw[ho];rfl
 have q0:=qw_zero
 refine enter (nt:=78) (rs:=[.cell 2 49]) Proofs.Tryz.func38 rfl rfl rfl (by simp) ?_
 simp -dsimp (maxSteps:=1000000) (disch:=first|omega|(simp only[new_n,put_n];omega)|decide +kernel|(repeat first|rw[new_n]|rw[put_n])) only[wpS,zc49]
 obtain⟨H0,hH0,n0,E0,g1,g2⟩:=boxes2 h [KI m,sv] Z35
 rw[←hH0]
 clear hH0
 refine call (shof_ok 0 1 ⟨by omega,by omega⟩ ⟨by omega,by omega⟩ (by omega)) ?_
 rintro _ h1 ⟨X1,rfl⟩
 rw[Rat.zero_divInt,shareV_shq]
 have m1:=X1.n
 have k1:=X1.kept (by omega) g1
 have k2:=X1.kept (by omega) g2
 simp -dsimp (maxSteps:=1000000) (disch:=first|omega|(simp only[new_n,put_n];omega)|decide +kernel|(repeat first|rw[new_n]|rw[put_n])) only[wpS,wpT,Nat.reduceEqDiff,Nat.reduceLeDiff,Nat.reduceAdd,zc49,zc47,st47,ld47,fa80_0,ld3,bv49,pl49_0,pl49_1,pl49_2,pl49_4,st49,ld80,zc128,st128,shV_cells,shC_len,shC_all,sh_sp3,sh_take,row_of k1,br_s0,brC_shi,brC_s32,brC_s34,brC_len,brC_all,brC_all0,tk2']
 obtain⟨H3,hH3,n3,E3,g3,g4,g5⟩:=box3p h1 Z16 (shC (shq 0).1 (shq 0).2) Z35 (brC (shq 0) (shq 0) true false (m == 13)) [.nilFunc] [rkF m sv]
 rw[show brC ((shq 0).1,(shq 0).2) ((shq 0).1,(shq 0).2) true false (m == 13)=brC (shq 0) (shq 0) true false (m == 13) from rfl]
 rw[←hH3]
 clear hH3
 refine range2 (p:=29) (nt:=78) rfl rfl (by decide) (fun r y hfn hnt hbd hy=>?_)
 obtain⟨xs,hxs⟩ : ∃l,l=nextS rs:=⟨_,rfl⟩
 let F:Nat→Rat×Bool:=fun i=>(xs.take i).foldl (nextF m) (0,false)
 have qF : ∀i,QW (F i).1:=by
  intro i
  have : ∀(l:List Seat) (a:Rat×Bool),QW a.1→QW (l.foldl (nextF m) a).1:=by
   intro l
   induction l with
   | nil=>intro a h;exact h
   | cons x l ih=>intro a h;exact ih _ (nextF_qw h)
  exact this _ _ q0
 let J:Nat→IH→Prop:=fun i hh=>Ext h1 hh∧H3.n<hh.n∧hh.ext.get H3.n=some (.loop r)∧hh.ext.get h1.n=some (.cells (shC (shq 0).1 (shq 0).2) 0 none)∧hh.ext.get (h1.n+1)=some (.cells (brC (shq (F i).1) (shq 0) true (F i).2 (m == 13)) 0 none)∧hh.ext.get (h1.n+2)=some (.cells [rkF m sv] 0 none)
 have J0:J 0 (H3.new (.loop r)):=by
  refine⟨E3.new _,by simp,get_new_same _ _ rfl,?_,?_,?_⟩
  ·rw[get_new_old _ _ (by omega)];exact g3
  ·rw[get_new_old _ _ (by omega)];exact g4
  ·rw[get_new_old _ _ (by omega)];exact g5
 have Je : ∀i h h',J i h→Ext h h'→J i h':=by
  rintro i x x' ⟨a1,a2,a3,a4,a5,a6⟩ e
  have en:=e.n
  exact⟨a1.trans e,by omega,e.kept a2 a3,e.kept (by omega) a4,e.kept (by omega) a5,e.kept (by omega) a6⟩
 have it:=next_iter (m:=m) (s.keep (E0.trans X1).keep) hl
 rw[←hxs] at it
 refine WV.mono (it y (H3.new (.loop r)) J (fun i hh hj=>hj.1) Je J0 ?_) ?_
 ·rintro i x hh hi ⟨x1,x2,x3,x4,x5,x6⟩
  refine hy _ hh _ x3 ?_
  simp -dsimp (maxSteps:=1000000) (disch:=first|omega|(simp only[new_n,put_n];omega)|decide +kernel|(repeat first|rw[new_n]|rw[put_n])) only[wpS,wpT,Nat.reduceEqDiff,Nat.reduceLeDiff,Nat.reduceAdd,zc123,st123]
  obtain⟨H5,hH5,n5,e5,gw⟩:=boxed hh [KI 0,KI 0,KI 0,KI 0] [KI x.1.1,KI x.1.2.1,KI x.1.2.2,KI x.2]
  rw[←hH5]
  clear hH5
  obtain⟨y1,y2,y3,y4,y5,y6⟩:=Je i hh H5 ⟨x1,x2,x3,x4,x5,x6⟩ e5
  refine⟨rfl,y3,?_⟩
  rw[hfn,hnt,hbd]
  have eb:Ext h1 (H5.put H3.n (.loop (busyL r))):=y1.put (by omega) _
  obtain⟨H6,hH6⟩ : ∃H,H=H5.put H3.n (.loop (busyL r)):=⟨_,rfl⟩
  have z0 : ∀j,j≠H3.n→H6.ext.get j=H5.ext.get j:=fun j hj=>by rw[hH6];exact get_put_old _ _ hj
  have zl:H6.ext.get H3.n=some (.loop (busyL r)):=by rw[hH6];exact get_put_same _ _ rfl
  have zn:H6.n=H5.n:=by rw[hH6];rfl
  rw[←hH6] at eb ⊢
  clear hH6
  have z4:=(z0 h1.n (by omega)).trans y4
  have z5:=(z0 (h1.n+1) (by omega)).trans y5
  have z6:=(z0 (h1.n+2) (by omega)).trans y6
  have zw:=(z0 hh.n (by omega)).trans gw
  have ft:F (i+1)=nextF m (F i) x:=fold_take hi
  have fin : ∀(hf':IH) (o:Rat×Bool),F (i+1)=o→Ext h1 hf'→H3.n<hf'.n→hf'.ext.get H3.n=some (.loop (busyL r))→hf'.ext.get h1.n=some (.cells (shC (shq 0).1 (shq 0).2) 0 none)→hf'.ext.get (h1.n+1)=some (.cells (brC (shq o.1) (shq 0) true o.2 (m == 13)) 0 none)→hf'.ext.get (h1.n+2)=some (.cells [rkF m sv] 0 none)→Value.bool true=.bool true∧J (i+1) (hf'.put H3.n (.loop r)):=by
   intro hf' o ho w1 w2 w3 w4 w5 w6
   refine⟨rfl,w1.put (by omega) _,w2,get_put_same _ _ rfl,?_,?_,?_⟩
   ·rw[get_put_old _ _ (by omega)];exact w4
   ·rw[get_put_old _ _ (by omega),ho];exact w5
   ·rw[get_put_old _ _ (by omega)];exact w6
  simp -dsimp (maxSteps:=1000000) (disch:=first|omega|(simp only[new_n,put_n];omega)|decide +kernel|(repeat first|rw[new_n]|rw[put_n])) only[wpS,wpT,Nat.reduceEqDiff,Nat.reduceLeDiff,Nat.reduceAdd,ld128,ld123,row_of z6,row_of zw,tk4']
  refine call (wv_bound (rank_ok x cs cO)) ?_
  rintro _ h7 ⟨X7,rfl⟩
  have m7:=X7.n
  have v4:=X7.kept (by omega) z4
  have v5:=X7.kept (by omega) z5
  have v6:=X7.kept (by omega) z6
  have vl:=X7.kept (by omega) zl
  by_cases c:rkE m x=0
  ·have qr:=rkQ_qw c
   have e9:nextF m (F i) x=(qmax (F i).1 (rkQ m x),(F i).2):=by unfold nextF;rw[if_pos c]
   rw[show rkV2 m x=shV (shq (rkQ m x)).1 (shq (rkQ m x)).2 from by unfold rkV2;rw[if_pos c],decide_eq_true c]
   simp -dsimp (maxSteps:=1000000) (disch:=first|omega|(simp only[new_n,put_n];omega)|decide +kernel|(repeat first|rw[new_n]|rw[put_n])) only[wpS,wpT,Nat.reduceEqDiff,Nat.reduceLeDiff,Nat.reduceAdd,zc47,st47,ld47,fa49_0,shV_cells,shC_len,shC_all,sh_sp3,sh_take,row_of v5,brC_len,brC_lo]
   obtain⟨H8,hH8,n8,e8,g8⟩:=boxed h7 Z16 (shC (shq (rkQ m x)).1 (shq (rkQ m x)).2)
   rw[←hH8]
   clear hH8
   refine call (shmax_ok (p1:=shq (F i).1) (p2:=shq (rkQ m x)) (shq_lt (qF i)) (shq_lt qr) (shq_rOf (qF i)).2 (shq_rOf qr).2) ?_
   rintro _ h9 ⟨X9,rfl⟩
   rw[qmax_rOf (qF i) qr,toldV_qw (qw_max (qF i) qr)]
   have e79:=e8.trans X9
   have m9:=e79.n
   have u5:=e79.kept (by omega) v5
   have ul:=e79.kept (by omega) vl
   simp -dsimp (maxSteps:=1000000) (disch:=first|omega|(simp only[new_n,put_n];omega)|decide +kernel|(repeat first|rw[new_n]|rw[put_n])) only[wpS,wpT,Nat.reduceEqDiff,Nat.reduceLeDiff,st47,fa49_0,shV_cells,shC_len,shC_all,u5,brC_len,brC_slo]
   refine⟨by rw[get_put_old _ _ (by omega)];exact ul,fin _ _ (ft.trans e9) ((eb.trans (X7.trans e79)).put (by omega) _) (by show H3.n<h9.n;omega) ?_ ?_ ?_ ?_⟩
   ·rw[get_put_old _ _ (by omega)];exact ul
   ·rw[get_put_old _ _ (by omega)];exact e79.kept (by omega) v4
   ·exact get_put_same _ _ rfl
   ·rw[get_put_old _ _ (by omega)];exact e79.kept (by omega) v6
  ·have e9:nextF m (F i) x=((F i).1,true):=by unfold nextF;rw[if_neg c]
   rw[show rkV2 m x=shV 0 0 from by unfold rkV2;rw[if_neg c],decide_eq_false c]
   simp -dsimp (maxSteps:=1000000) (disch:=first|omega|(simp only[new_n,put_n];omega)|decide +kernel|(repeat first|rw[new_n]|rw[put_n])) only[wpS,wpT,Nat.reduceEqDiff,Nat.reduceLeDiff,Nat.reduceAdd,zc47,st47,fa49_3,st4,shV_cells,shC_len,shC_all,sh_sp3,v5,brC_len,brC_s33]
   obtain⟨H8,hH8,n8,e8,g8⟩:=boxed h7 Z16 (shC 0 0)
   rw[←hH8]
   clear hH8
   have m8:=e8.n
   refine⟨by rw[get_put_old _ _ (by omega)];exact e8.kept (by omega) vl,fin _ _ (ft.trans e9) ((eb.trans (X7.trans e8)).put (by omega) _) (by show H3.n<H8.n;omega) ?_ ?_ ?_ ?_⟩
   ·rw[get_put_old _ _ (by omega)];exact e8.kept (by omega) vl
   ·rw[get_put_old _ _ (by omega)];exact e8.kept (by omega) v4
   ·exact get_put_same _ _ rfl
   ·rw[get_put_old _ _ (by omega)];exact e8.kept (by omega) v6
 ·rintro _ hd ⟨x1,x2,x3,x4,x5,x6⟩
  refine .inl ⟨x3,?_⟩
  have ed:Ext h1 (hd.put H3.n .dead):=x1.put (by omega) _
  obtain⟨K0,hK0⟩ : ∃K0,K0=hd.put H3.n .dead:=⟨_,rfl⟩
  have z0 : ∀j,j≠H3.n→K0.ext.get j=hd.ext.get j:=fun j hj=>by rw[hK0];exact get_put_old _ _ hj
  have z4:=(z0 h1.n (by omega)).trans x4
  have z5:=(z0 (h1.n+1) (by omega)).trans x5
  have z6:=(z0 (h1.n+2) (by omega)).trans x6
  have zn:K0.n=hd.n:=by rw[hK0];rfl
  have fN:F xs.length=brN m rs:=by
   show(xs.take xs.length).foldl (nextF m) (0,false)=_
   rw[List.take_of_length_le (Nat.le_refl _),hxs];rfl
  have qN:QW (brN m rs).1:=by rw[←fN];exact qF _
  rw[fN] at z5
  rw[←hK0] at ed ⊢
  clear hK0 x1 x3 x4 x5 x6 Je J0
  have a1:=ed.kept (by omega) k1
  have a2:=ed.kept (by omega) k2
  simp -dsimp (maxSteps:=1000000) (disch:=first|omega|(simp only[new_n,put_n];omega)|decide +kernel|(repeat first|rw[new_n]|rw[put_n])) only[wpS,wpT,Nat.reduceEqDiff,Nat.reduceLeDiff,Nat.reduceAdd,ld80,row_of a1,tk2']
  obtain⟨lo,hlo⟩ : ∃q,q=(brN m rs).1:=⟨_,rfl⟩
  obtain⟨sc,hsc⟩ : ∃b,b=(brN m rs).2:=⟨_,rfl⟩
  rw[←hlo] at z5 qN
  rw[←hsc] at z5
  refine range2 (p:=49) (nt:=78) rfl rfl (by decide) (fun r y hfn hnt hbd hy=>?_)
  obtain⟨ys,hys⟩ : ∃l,l=lastS rs:=⟨_,rfl⟩
  let G:Nat→Rat×Bool:=fun i=>(ys.take i).foldl (lastF m) (0,true)
  have qG : ∀i,QW (G i).1:=by
   intro i
   have : ∀(l:List Seat) (a:Rat×Bool),QW a.1→QW (l.foldl (lastF m) a).1:=by
    intro l
    induction l with
    | nil=>intro a h;exact h
    | cons x l ih=>intro a h;exact ih _ (lastF_qw h)
   exact this _ _ q0
  let J2:Nat→IH→Prop:=fun i hh=>Ext h1 hh∧K0.n<hh.n∧hh.ext.get K0.n=some (.loop r)∧hh.ext.get h1.n=some (.cells (shC (shq 0).1 (shq 0).2) 0 none)∧hh.ext.get (h1.n+1)=some (.cells (brC (shq lo) (shq (G i).1) (G i).2 sc (m == 13)) 0 none)∧hh.ext.get (h1.n+2)=some (.cells [rkF m sv] 0 none)
  have J0:J2 0 (K0.new (.loop r)):=by
   refine⟨ed.new _,by simp,get_new_same _ _ rfl,?_,?_,?_⟩
   ·rw[get_new_old _ _ (by omega)];exact z4
   ·rw[get_new_old _ _ (by omega)];exact z5
   ·rw[get_new_old _ _ (by omega)];exact z6
  have Je : ∀i h h',J2 i h→Ext h h'→J2 i h':=by
   rintro i x x' ⟨a1,a2,a3,a4,a5,a6⟩ e
   have en:=e.n
   exact⟨a1.trans e,by omega,e.kept a2 a3,e.kept (by omega) a4,e.kept (by omega) a5,e.kept (by omega) a6⟩
  have it2:=last_iter (m:=m) (s.keep (E0.trans X1).keep) hl hb
  rw[←hys] at it2
  refine WV.mono (it2 y (K0.new (.loop r)) J2 (fun i hh hj=>hj.1) Je J0 ?_) ?_
  ·rintro i x hh hi ⟨x1,x2,x3,x4,x5,x6⟩
   refine hy _ hh _ x3 ?_
   simp -dsimp (maxSteps:=1000000) (disch:=first|omega|(simp only[new_n,put_n];omega)|decide +kernel|(repeat first|rw[new_n]|rw[put_n])) only[wpS,wpT,Nat.reduceEqDiff,Nat.reduceLeDiff,Nat.reduceAdd,zc123,st123]
   obtain⟨H5,hH5,n5,e5,gw⟩:=boxed hh [KI 0,KI 0,KI 0,KI 0] [KI x.1.1,KI x.1.2.1,KI x.1.2.2,KI x.2]
   rw[←hH5]
   clear hH5
   obtain⟨y1,y2,y3,y4,y5,y6⟩:=Je i hh H5 ⟨x1,x2,x3,x4,x5,x6⟩ e5
   refine⟨rfl,y3,?_⟩
   rw[hfn,hnt,hbd]
   have eb:Ext h1 (H5.put K0.n (.loop (busyL r))):=y1.put (by omega) _
   obtain⟨H6,hH6⟩ : ∃H,H=H5.put K0.n (.loop (busyL r)):=⟨_,rfl⟩
   have z0 : ∀j,j≠K0.n→H6.ext.get j=H5.ext.get j:=fun j hj=>by rw[hH6];exact get_put_old _ _ hj
   have zl:H6.ext.get K0.n=some (.loop (busyL r)):=by rw[hH6];exact get_put_same _ _ rfl
   have zn:H6.n=H5.n:=by rw[hH6];rfl
   rw[←hH6] at eb ⊢
   clear hH6
   have z4:=(z0 h1.n (by omega)).trans y4
   have z5:=(z0 (h1.n+1) (by omega)).trans y5
   have z6:=(z0 (h1.n+2) (by omega)).trans y6
   have zw:=(z0 hh.n (by omega)).trans gw
   have ft:G (i+1)=lastF m (G i) x:=fold_take hi
   have fin : ∀(hf':IH) (o:Rat×Bool),G (i+1)=o→Ext h1 hf'→K0.n<hf'.n→hf'.ext.get K0.n=some (.loop (busyL r))→hf'.ext.get h1.n=some (.cells (shC (shq 0).1 (shq 0).2) 0 none)→hf'.ext.get (h1.n+1)=some (.cells (brC (shq lo) (shq o.1) o.2 sc (m == 13)) 0 none)→hf'.ext.get (h1.n+2)=some (.cells [rkF m sv] 0 none)→Value.bool true=.bool true∧J2 (i+1) (hf'.put K0.n (.loop r)):=by
    intro hf' o ho w1 w2 w3 w4 w5 w6
    refine⟨rfl,w1.put (by omega) _,w2,get_put_same _ _ rfl,?_,?_,?_⟩
    ·rw[get_put_old _ _ (by omega)];exact w4
    ·rw[get_put_old _ _ (by omega),ho];exact w5
    ·rw[get_put_old _ _ (by omega)];exact w6
   simp -dsimp (maxSteps:=1000000) (disch:=first|omega|(simp only[new_n,put_n];omega)|decide +kernel|(repeat first|rw[new_n]|rw[put_n])) only[wpS,wpT,Nat.reduceEqDiff,Nat.reduceLeDiff,Nat.reduceAdd,ld128,ld123,row_of z6,row_of zw,tk4']
   refine call (wv_bound (rank_ok x cs cO)) ?_
   rintro _ h7 ⟨X7,rfl⟩
   have m7:=X7.n
   have v4:=X7.kept (by omega) z4
   have v5:=X7.kept (by omega) z5
   have v6:=X7.kept (by omega) z6
   have vl:=X7.kept (by omega) zl
   by_cases c:rkE m x=0
   ·have qr:=rkQ_qw c
    rw[show rkV2 m x=shV (shq (rkQ m x)).1 (shq (rkQ m x)).2 from by unfold rkV2;rw[if_pos c],decide_eq_true c]
    simp -dsimp (maxSteps:=1000000) (disch:=first|omega|(simp only[new_n,put_n];omega)|decide +kernel|(repeat first|rw[new_n]|rw[put_n])) only[wpS,wpT,Nat.reduceEqDiff,Nat.reduceLeDiff,Nat.reduceAdd,zc47,st47,ld47,fa49_1,shV_cells,shC_len,shC_all,sh_sp3,sh_take,row_of v5,brC_len,brC_hi]
    obtain⟨H8,hH8,n8,e8,g8⟩:=boxed h7 Z16 (shC (shq (rkQ m x)).1 (shq (rkQ m x)).2)
    rw[←hH8]
    clear hH8
    refine call (shcmp_ok (p1:=shq (rkQ m x)) (p2:=shq (G i).1) (shq_lt qr) (shq_lt (qG i)) (shq_rOf qr).2 (shq_rOf (qG i)).2) ?_
    rintro _ h9 ⟨X9,rfl⟩
    rw[cmpQ_rOf qr (qG i)]
    have e79:=e8.trans X9
    have m9:=e79.n
    have m8:=e8.n
    have u4:=e79.kept (by omega) v4
    have u5:=e79.kept (by omega) v5
    have u6:=e79.kept (by omega) v6
    have ul:=e79.kept (by omega) vl
    have u8:=X9.kept (by omega) g8
    have ee:=eb.trans (X7.trans e79)
    obtain⟨hi9,hhi⟩ : ∃q,q=(G i).1:=⟨_,rfl⟩
    obtain⟨en,hen⟩ : ∃b,b=(G i).2:=⟨_,rfl⟩
    have e9:lastF m (G i) x=(if en=true∨rkQ m x<hi9 then rkQ m x else hi9,false):=by unfold lastF;rw[if_pos c,hhi,hen]
    rw[←hhi,←hen] at u5
    rw[←hhi]
    by_cases d:en=true∨rkQ m x<hi9
    ·rw[if_pos d] at e9
     have dd:(en=true)∨(en=false∧decide (cmpQ (rkQ m x) hi9<0)=true):=by
      cases en
      ·exact .inr ⟨rfl,decide_eq_true ((cmpQ_lt _ _).2 (by simpa using d))⟩
      ·exact .inl rfl
     rcases dd with rfl|⟨rfl,d2⟩
     ·clear d
      simp -dsimp (maxSteps:=1000000) (disch:=first|omega|(simp only[new_n,put_n];omega)|decide +kernel|(repeat first|rw[new_n]|rw[put_n])) only[wpS,wpT,Nat.reduceEqDiff,Nat.reduceLeDiff,Nat.reduceAdd,st47,ld47,st4,fa49_1,fa49_2,ld4,row_of u5,u5,row_of u8,brC_32,brC_len,brC_shi,brC_s32,shC_len,shC_all,sh_take]
      refine⟨by rw[get_put_old _ _ (by omega),get_put_old _ _ (by omega)];exact ul,fin _ _ (ft.trans e9) ((ee.put (by omega) _).put (by omega) _) (by show K0.n<h9.n;omega) ?_ ?_ ?_ ?_⟩
      ·rw[get_put_old _ _ (by omega),get_put_old _ _ (by omega)];exact ul
      ·rw[get_put_old _ _ (by omega),get_put_old _ _ (by omega)];exact u4
      ·exact get_put_same _ _ rfl
      ·rw[get_put_old _ _ (by omega),get_put_old _ _ (by omega)];exact u6
     ·clear d
      simp -dsimp (maxSteps:=1000000) (disch:=first|omega|(simp only[new_n,put_n];omega)|decide +kernel|(repeat first|rw[new_n]|rw[put_n])) only[wpS,wpT,Nat.reduceEqDiff,Nat.reduceLeDiff,Nat.reduceAdd,st47,ld47,st4,fa49_1,fa49_2,ld4,row_of u5,u5,row_of u8,brC_32,d2,brC_len,brC_shi,brC_s32,shC_len,shC_all,sh_take]
      refine⟨by rw[get_put_old _ _ (by omega),get_put_old _ _ (by omega)];exact ul,fin _ _ (ft.trans e9) ((ee.put (by omega) _).put (by omega) _) (by show K0.n<h9.n;omega) ?_ ?_ ?_ ?_⟩
      ·rw[get_put_old _ _ (by omega),get_put_old _ _ (by omega)];exact ul
      ·rw[get_put_old _ _ (by omega),get_put_old _ _ (by omega)];exact u4
      ·exact get_put_same _ _ rfl
      ·rw[get_put_old _ _ (by omega),get_put_old _ _ (by omega)];exact u6
    ·rw[if_neg d] at e9
     have d1:en=false:=by cases en;rfl;exact absurd (.inl rfl) d
     have d2:decide (cmpQ (rkQ m x) hi9<0)=false:=decide_eq_false fun e=>d (.inr ((cmpQ_lt _ _).1 e))
     rw[d1] at u5
     simp -dsimp (maxSteps:=1000000) (disch:=first|omega|(simp only[new_n,put_n];omega)|decide +kernel|(repeat first|rw[new_n]|rw[put_n])) only[wpS,wpT,Nat.reduceEqDiff,Nat.reduceLeDiff,Nat.reduceAdd,st4,fa49_2,ld4,row_of u5,brC_32,d2,u5,brC_s32,brC_len]
     refine⟨by rw[get_put_old _ _ (by omega)];exact ul,fin _ _ (ft.trans e9) (ee.put (by omega) _) (by show K0.n<h9.n;omega) ?_ ?_ ?_ ?_⟩
     ·rw[get_put_old _ _ (by omega)];exact ul
     ·rw[get_put_old _ _ (by omega)];exact u4
     ·exact get_put_same _ _ rfl
     ·rw[get_put_old _ _ (by omega)];exact u6
   ·have e9:lastF m (G i) x=G i:=by unfold lastF;rw[if_neg c]
    rw[show rkV2 m x=shV 0 0 from by unfold rkV2;rw[if_neg c],decide_eq_false c]
    simp -dsimp (maxSteps:=1000000) (disch:=first|omega|(simp only[new_n,put_n];omega)|decide +kernel|(repeat first|rw[new_n]|rw[put_n])) only[wpS,wpT,Nat.reduceEqDiff,Nat.reduceLeDiff,Nat.reduceAdd,zc47,st47,shV_cells,shC_len,shC_all,sh_sp3]
    obtain⟨H8,hH8,n8,e8,g8⟩:=boxed h7 Z16 (shC 0 0)
    rw[←hH8]
    clear hH8
    have m8:=e8.n
    exact⟨e8.kept (by omega) vl,fin _ _ (ft.trans e9) (eb.trans (X7.trans e8)) (by show K0.n<H8.n;omega) (e8.kept (by omega) vl) (e8.kept (by omega) v4) (e8.kept (by omega) v5) (e8.kept (by omega) v6)⟩
  ·rintro _ hd ⟨x1,x2,x3,x4,x5,x6⟩
   refine .inl ⟨x3,?_⟩
   have ed2:Ext h1 (hd.put K0.n .dead):=x1.put (by omega) _
   obtain⟨K1,hK1⟩ : ∃K1,K1=hd.put K0.n .dead:=⟨_,rfl⟩
   have z0 : ∀j,j≠K0.n→K1.ext.get j=hd.ext.get j:=fun j hj=>by rw[hK1];exact get_put_old _ _ hj
   have w4:=(z0 h1.n (by omega)).trans x4
   have w5:=(z0 (h1.n+1) (by omega)).trans x5
   have gN:G ys.length=brL m rs:=by
    show(ys.take ys.length).foldl (lastF m) (0,true)=_
    rw[List.take_of_length_le (Nat.le_refl _),hys];rfl
   rw[gN] at w5
   rw[←hK1] at ed2 ⊢
   clear hK1
   have b2:=ed2.kept (by omega) k2
   have bn:=ed2.n
   cases sc with
   | false =>
    simp -dsimp (maxSteps:=1000000) (disch:=first|omega|(simp only[new_n,put_n];omega)|decide +kernel|(repeat first|rw[new_n]|rw[put_n])) only[wpS,wpT,Nat.reduceEqDiff,Nat.reduceLeDiff,Nat.reduceAdd,st49,fa49_3,ld4,ld49,row_of w5,brC_33,brC_take,brC_len,brC_all,brC_all0,b2]
    refine⟨(E0.trans (X1.trans ed2)).put (by omega) _,?_⟩
    unfold brkV
    rw[←hsc,←hlo];rfl
   | true =>
    simp -dsimp (maxSteps:=1000000) (disch:=first|omega|(simp only[new_n,put_n];omega)|decide +kernel|(repeat first|rw[new_n]|rw[put_n])) only[wpS,wpT,Nat.reduceEqDiff,Nat.reduceLeDiff,Nat.reduceAdd,st47,ld47,st49,fa49_3,fa49_0,ld4,ld49,row_of w5,row_of w4,w5,shC_len,shC_all,sh_take,brC_33,brC_take,brC_len,brC_all,brC_all0,brC_slo,b2]
    refine⟨((E0.trans (X1.trans ed2)).put (by omega) _).put (by omega) _,?_⟩
    unfold brkV
    rw[←hsc];rfl
end Go.Id

/-! Contracts: package bracket: brackets compared; Find. -/
namespace Go.Id
open Go
theorem brC_plain (lo hi:Nat×Nat) (en sc sq:Bool):plain (brV lo hi en sc sq)=true:=by
 have h1:=sh_plain lo.1 lo.2
 have h2:=sh_plain hi.1 hi.2
 simp only[plain,List.all_toArray,brC,List.all_append] at h1 h2 ⊢
 rw[h1,h2];rfl
theorem ex_lo (lo hi:Nat×Nat) (en sc sq:Bool):((brC lo hi en sc sq).toArray).extract 0 (0+16)=(shC lo.1 lo.2).toArray:=by
 simp only[List.extract_toArray,List.extract_eq_take_drop]
 exact congrArg List.toArray (brC_lo lo hi en sc sq)
theorem ex_hi (lo hi:Nat×Nat) (en sc sq:Bool):((brC lo hi en sc sq).toArray).extract 16 (16+16)=(shC hi.1 hi.2).toArray:=by
 simp only[List.extract_toArray,List.extract_eq_take_drop]
 exact congrArg List.toArray (brC_hi lo hi en sc sq)
theorem brC_34 (lo hi:Nat×Nat) (en sc sq:Bool):(brC lo hi en sc sq)[34]?=some (.bool sq):=by
 rw[brC,List.getElem?_append_right (by rw[shC_len];omega),shC_len,List.getElem?_append_right (by rw[shC_len];omega),shC_len];rfl
abbrev InP (p:Nat×Nat):Prop:=p.1<W8∧p.2<W8
def brSame (lo hi:Nat×Nat) (en sc sq:Bool) (lo' hi':Nat×Nat) (en' sc' sq':Bool):Bool:=decide (lo.1=lo'.1∧lo.2=lo'.2) && (decide (hi.1=hi'.1∧hi.2=hi'.2) && ((en == en') && ((sc == sc') && (sq == sq'))))
theorem br_equalIn {lo hi lo' hi':Nat×Nat} (a1:InP lo) (a2:InP hi) (a3:InP lo') (a4:InP hi') (en sc sq en' sc' sq':Bool):pureRun Proofs.Tryz.prog (Op.equal 49 (brV lo hi en sc sq) (brV lo' hi' en' sc' sq'))=some (brSame lo hi en sc sq lo' hi' en' sc' sq'):=by
 have key:=pr_equal_struct (P:=Proofs.Tryz.prog) u49 (by kernel_rfl) 9999 (brC lo hi en sc sq).toArray (brC lo' hi' en' sc' sq').toArray (fun f=>if f.name = "Low" then decide (lo.1=lo'.1∧lo.2=lo'.2) else if f.name = "High" then decide (hi.1=hi'.1∧hi.2=hi'.2) else if f.name = "Endless" then en == en' else if f.name = "Scarce" then sc == sc' else sq == sq') (by
  intro f hf
  simp only[List.mem_cons,List.not_mem_nil,or_false] at hf
  rcases hf with rfl|rfl|rfl|rfl|rfl
  ·exact⟨by decide,.agg (shC lo.1 lo.2).toArray,.agg (shC lo'.1 lo'.2).toArray,
    (pr_part_agg ag47 sz47 _ 0).trans (by rw[ex_lo]),(pr_part_agg ag47 sz47 _ 0).trans (by rw[ex_lo]),sh_equalIn a1.1 a1.2 a3.1 a3.2 9996⟩
  ·exact⟨by decide,.agg (shC hi.1 hi.2).toArray,.agg (shC hi'.1 hi'.2).toArray,
    (pr_part_agg ag47 sz47 _ 16).trans (by rw[ex_hi]),(pr_part_agg ag47 sz47 _ 16).trans (by rw[ex_hi]),sh_equalIn a2.1 a2.2 a4.1 a4.2 9996⟩
  ·exact⟨by decide,.bool en,.bool en',pr_part_scal ag4 (by rw[List.getElem?_toArray];exact brC_32 _ _ _ _ _),pr_part_scal ag4 (by rw[List.getElem?_toArray];exact brC_32 _ _ _ _ _),pr_equal_bool u4 _ _ _⟩
  ·exact⟨by decide,.bool sc,.bool sc',pr_part_scal ag4 (by rw[List.getElem?_toArray];exact brC_33 _ _ _ _ _),pr_part_scal ag4 (by rw[List.getElem?_toArray];exact brC_33 _ _ _ _ _),pr_equal_bool u4 _ _ _⟩
  ·exact⟨by decide,.bool sq,.bool sq',pr_part_scal ag4 (by rw[List.getElem?_toArray];exact brC_34 _ _ _ _ _),pr_part_scal ag4 (by rw[List.getElem?_toArray];exact brC_34 _ _ _ _ _),pr_equal_bool u4 _ _ _⟩)
 refine key.trans (congrArg some ?_)
 simp only[List.all_cons,List.all_nil,Bool.and_true,if_true]
 rw[if_neg (by decide),if_neg (by decide),if_neg (by decide),if_neg (by decide),if_neg (by decide),if_neg (by decide),if_neg (by decide),if_neg (by decide),if_neg (by decide),if_neg (by decide)]
 rfl
theorem br_eql {lo hi lo' hi':Nat×Nat} (a1:InP lo) (a2:InP hi) (a3:InP lo') (a4:InP hi') (en sc sq en' sc' sq':Bool) (ox oy:Operand):binop Proofs.Tryz.prog .eql 49 ox oy (brV lo hi en sc sq) (brV lo' hi' en' sc' sq')=some (.bool (brSame lo hi en sc sq lo' hi' en' sc' sq')) :=
 binop_eql_gen (by kernel_rfl) (brC_plain _ _ _ _ _) (brC_plain _ _ _ _ _) (br_equalIn a1 a2 a3 a4 _ _ _ _ _ _) ox oy
theorem br_neq {lo hi lo' hi':Nat×Nat} (a1:InP lo) (a2:InP hi) (a3:InP lo') (a4:InP hi') (en sc sq en' sc' sq':Bool) (ox oy:Operand):binop Proofs.Tryz.prog .neq 49 ox oy (brV lo hi en sc sq) (brV lo' hi' en' sc' sq')=some (.bool (!(brSame lo hi en sc sq lo' hi' en' sc' sq'))) :=
 binop_neq_gen (by kernel_rfl) (brC_plain _ _ _ _ _) (brC_plain _ _ _ _ _) (br_equalIn a1 a2 a3 a4 _ _ _ _ _ _) ox oy
theorem brSame_zero {q:Rat} (h:QW q) (hi:Nat×Nat) (en sc sq:Bool):brSame (shq q) hi en sc sq (0,0) (0,0) false false false=false:=by
 have h2:=(shq_rOf h).2.1
 unfold brSame
 rw[decide_eq_false]
 ·rfl
 ·rintro⟨_,e⟩
  have e:(shq q).2=0:=e
  rw[e,show wdI 0=0 from by decide +kernel] at h2
  exact absurd h2 (by decide)
theorem br_lit:Value.agg #[ZW,ZW,ZW,ZW,ZW,ZW,ZW,ZW,ZW,ZW,ZW,ZW,ZW,ZW,ZW,ZW,ZW,ZW,ZW,ZW,ZW,ZW,ZW,ZW,ZW,ZW,ZW,ZW,ZW,ZW,ZW,ZW,.bool false,.bool false,.bool false]=brV (0,0) (0,0) false false false:=by rw[brV,←br_zero]
theorem br_eql0 {q:Rat} {hi:Nat×Nat} (h:QW q) (h2:InP hi) (en sc sq:Bool) (ox oy:Operand):binop Proofs.Tryz.prog .eql 49 ox oy (brV (shq q) hi en sc sq) (.agg #[ZW,ZW,ZW,ZW,ZW,ZW,ZW,ZW,ZW,ZW,ZW,ZW,ZW,ZW,ZW,ZW,ZW,ZW,ZW,ZW,ZW,ZW,ZW,ZW,ZW,ZW,ZW,ZW,ZW,ZW,ZW,ZW,.bool false,.bool false,.bool false])=some (.bool false):=by
 rw[br_lit,br_eql (shq_lt h) h2 ⟨by decide +kernel,by decide +kernel⟩ ⟨by decide +kernel,by decide +kernel⟩,brSame_zero h]
theorem brN_qw (m:Int) (rs:List Reg):QW (brN m rs).1:=by
 have : ∀(l:List Seat) (a:Rat×Bool),QW a.1→QW (l.foldl (nextF m) a).1:=by
  intro l
  induction l with
  | nil=>intro a h;exact h
  | cons x l ih=>intro a h;exact ih _ (nextF_qw h)
 exact this _ _ qw_zero
theorem brL_qw (m:Int) (rs:List Reg):QW (brL m rs).1:=by
 have : ∀(l:List Seat) (a:Rat×Bool),QW a.1→QW (l.foldl (lastF m) a).1:=by
  intro l
  induction l with
  | nil=>intro a h;exact h
  | cons x l ih=>intro a h;exact ih _ (lastF_qw h)
 exact this _ _ qw_zero
structure Brk where
 lo:Rat
 hi:Rat
 en:Bool
 sc:Bool
 sq:Bool
def Brk.ok (b:Brk):Prop:=QW b.lo∧QW b.hi
def Brk.v (b:Brk):Value:=brV (shq b.lo) (shq b.hi) b.en b.sc b.sq
def brk (m:Int) (rs:List Reg):Brk:=⟨if (brN m rs).2=true then 0 else (brN m rs).1,(brL m rs).1,(brL m rs).2,(brN m rs).2,m == 13⟩
theorem brk_ok (m:Int) (rs:List Reg):(brk m rs).ok:=⟨by unfold brk;dsimp only;split;exact qw_zero;exact brN_qw m rs,brL_qw m rs⟩
theorem brkV_v (m:Int) (rs:List Reg):brkV m rs=(brk m rs).v:=rfl
def findE (people won:List Int) (m:Int) (least:List Int):Int:=if openErr people won m least≠0 then openErr people won m least else if certB m (regsV people won least)=true then 0 else 9
def findV (people won:List Int) (m:Int) (least:List Int):Value:=if findE people won m least=0 then (brk m (regsV people won least)).v else brV (0,0) (0,0) false false false
set_option maxHeartbeats 2000000 in
theorem find_ok {h:IH} {vp vw vl:Value} {m:Int} {people won least:List Int} (hp:SlOf h 1 vp people.length (people.map KI)) (hw:SlOf h 1 vw won.length (won.map KI)) (hl:SlOf h 1 vl least.length (least.map KI)) (lp:people.length≤1000000000) (lw:won.length≤1000000000) (ll:least.length≤1000000000) :
  WV Proofs.Tryz.prog (.func (.func 15) #[] #[]) [vp,vw,KI m,vl] h fun r h'=>Ext h h'∧r=.tuple #[findV people won m least,KI (findE people won m least)]:=by
 refine enter (nt:=36) (rs:=[.cell 8 49,.tmp 9]) Proofs.Tryz.func15 rfl rfl rfl (by simp) ?_
 simp -dsimp (disch:=omega) only[wpS,Nat.reduceEqDiff,Nat.reduceAdd,zc49]
 obtain⟨H0,hH0⟩ : ∃H,H=h.new (.cells Z35 0 none):=⟨_,rfl⟩
 have E0:Ext h H0:=by rw[hH0];exact(Ext.refl h).new _
 have g0:H0.ext.get h.n=some (.cells Z35 0 none):=by rw[hH0];simp (disch:=first|omega|(simp only[new_n,put_n];omega)|(repeat first|rw[new_n]|rw[put_n])) only[get_new_same]
 have n0:H0.n=h.n+1:=by rw[hH0];simp
 rw[←hH0]
 clear hH0
 refine call (open_ok (hp.keep E0.keep) (hw.keep E0.keep) (hl.keep E0.keep) lp lw ll) ?_
 rintro r h1 ⟨X1,o⟩
 have m1:=X1.n
 by_cases c:openErr people won m least=0
 ·obtain⟨s,rfl,hs⟩:=o.ok c
  have cs:=hs.cells
  have cO:cellOK s=true:=by obtain⟨oa,ok,ho⟩:=hs.form;rw[ho];rfl
  have R:=regs_ok c
  obtain⟨H2,hH2,n2,E2,g2⟩:=boxed h1 [KI 0,.slice none 0 0] [KI m,s]
  simp -dsimp (disch:=omega) only[wpS,wpT,Nat.reduceEqDiff,Nat.reduceLeDiff,Nat.reduceAdd,zc80,st80,ld80,cO,tk2']
  rw[←hH2]
  clear hH2
  refine call (certified_ok (hs.keep E2.keep) (by have:=R.len;omega) (fun r hr=>(R.b r hr).2.1)) ?_
  rintro _ h3 ⟨X3,rfl⟩
  have m3:=X3.n
  have Y3:=X1.trans (E2.trans X3)
  cases d:certB m (regsV people won least)
  ·have e:findE people won m least=9:=by unfold findE;rw[c,d];rfl
   simp -dsimp (disch:=omega) only[wpS,wpT,Nat.reduceEqDiff,Nat.reduceLeDiff,Nat.reduceAdd,bv49,st49,ld49,Y3.kept (by omega) g0]
   refine⟨(E0.trans Y3).put (by omega) _,?_⟩
   unfold findV
   rw[e,if_neg (by decide),←br_lit];rfl
  ·have e:findE people won m least=0:=by unfold findE;rw[c,d];rfl
   simp -dsimp (disch:=omega) only[wpS,wpT,Nat.reduceEqDiff,Nat.reduceLeDiff,Nat.reduceAdd,ld80,tk2',row_of (X3.kept (by omega) g2)]
   refine call (bracket_ok (hs.keep (E2.trans X3).keep) (by have:=R.len;omega) (fun r hr=>(R.b r hr).2.1)) ?_
   rintro _ h4 ⟨X4,rfl⟩
   have m4:=X4.n
   have Y4:=Y3.trans X4
   have Bk:=brk_ok m (regsV people won least)
   rw[brkV_v]
   obtain⟨b,hb⟩ : ∃b,b=brk m (regsV people won least):=⟨_,rfl⟩
   rw[←hb] at Bk ⊢
   rw[show b.v=brV (shq b.lo) (shq b.hi) b.en b.sc b.sq from rfl]
   have q0:=fun ox oy=>br_eql0 Bk.1 (shq_lt Bk.2) b.en b.sc b.sq ox oy
   simp -dsimp (disch:=omega) only[wpS,wpT,Nat.reduceEqDiff,Nat.reduceLeDiff,Nat.reduceAdd,zc49,bv49,st49,ld49,brC_len,brC_all,brC_take,brC_all0,q0,Y4.kept (by omega) g0]
   refine⟨((E0.trans Y4).new _).put (by omega) _ |>.put (by omega) _,?_⟩
   unfold findV
   rw[e,if_pos rfl,←hb];rfl
 ·have hr:=o.no c
  subst hr
  have d:((openErr people won m least) != 0)=true:=by simpa using c
  have e:findE people won m least=openErr people won m least:=by unfold findE;rw[if_pos c]
  simp -dsimp (disch:=omega) only[wpS,wpT,Nat.reduceEqDiff,Nat.reduceLeDiff,Nat.reduceAdd,zc80,st80,bv49,st49,ld49,d,X1.kept (by omega) g0]
  refine⟨((E0.trans X1).new _).put (by omega) _ |>.put (by omega) _,?_⟩
  unfold findV
  rw[e,if_neg c,←br_lit];rfl
end Go.Id

/-! Contracts: wardmoteref02: Cmp, Div, Max, Min. -/
namespace Go.Id
open Go
theorem box_one (h:IH) (a b:List Value) : ∃H,H=(h.new (.cells a 0 none)).put h.n (.cells b 0 none)∧H.n=h.n+1∧Ext h H∧H.ext.get h.n=some (.cells b 0 none) :=
 ⟨_,rfl,by simp,((Ext.refl h).new _).put (by omega) _,by simp (disch:=first|omega|(simp only[new_n,put_n];omega)|(repeat first|rw[new_n]|rw[put_n])) only[get_put_same]⟩
theorem RPair.rat {h:IH} {v:Value} {n d:Nat} (p:RPair h v (wdI n) (wdI d)) (ok:okS n d):RRat h v (rOf (n,d)):=by
 obtain⟨e1,e2⟩:=rOf_parts (p:=(n,d)) ok
 unfold RRat
 rw[e1,e2];exact p
set_option maxHeartbeats 1000000 in
theorem refcmp_ok {h:IH} {p1 p2:Nat×Nat} (h1:p1.1<W8∧p1.2<W8) (h2:p2.1<W8∧p2.2<W8) (ok1:okS p1.1 p1.2) (ok2:okS p2.1 p2.2):WV Proofs.Tryz.prog (.func (.func 89) #[] #[]) [shV p1.1 p1.2,shV p2.1 p2.2] h fun r h'=>Ext h h'∧r=.tuple #[KI (if rOf p1<rOf p2 then -1 else if rOf p1=rOf p2 then 0 else 1),KI 0]:=by
 have q1:=qb512 (p:=p1) h1.1 h1.2 ok1
 have q2:=qb512 (p:=p2) h2.1 h2.2 ok2
 refine enter (nt:=19) (rs:=[.tmp 4,.tmp 5]) Proofs.Tryz.func89 rfl rfl rfl (by simp) ?_
 simp -dsimp (maxSteps:=1000000) (disch:=first|omega|(simp only[new_n,put_n];omega)|decide +kernel|(repeat first|rw[new_n]|rw[put_n])) only[wpS,Nat.reduceEqDiff,Nat.reduceAdd,ld47,shV_cells]
 obtain⟨H0,hH0,n0,E0,g0,g1⟩:=boxes2 h (shC p1.1 p1.2) (shC p2.1 p2.2)
 rw[←hH0]
 clear hH0
 simp -dsimp (maxSteps:=1000000) (disch:=first|omega|(simp only[new_n,put_n];omega)|decide +kernel|(repeat first|rw[new_n]|rw[put_n])) only[wpS,Nat.reduceEqDiff,Nat.reduceLeDiff,shC_len,sh_take]
 refine call (refright_ok p1.1 p1.2 h1.1 h1.2) ?_
 rintro _ k1 ⟨X1,rfl⟩
 rw[decide_eq_true ok1]
 have m1:=X1.n
 simp -dsimp (maxSteps:=1000000) (disch:=first|omega|(simp only[new_n,put_n];omega)|decide +kernel|(repeat first|rw[new_n]|rw[put_n])) only[wpS,wpT,Nat.reduceEqDiff,Nat.reduceLeDiff,ld47,row_of (X1.kept (by omega) g1),shC_len,sh_take]
 refine call (refright_ok p2.1 p2.2 h2.1 h2.2) ?_
 rintro _ k2 ⟨X2,rfl⟩
 rw[decide_eq_true ok2]
 have Y2:=X1.trans X2
 have m2:=Y2.n
 have r0:=Y2.kept (by omega) g0
 have r1:=Y2.kept (by omega) g1
 simp -dsimp (maxSteps:=1000000) (disch:=first|omega|(simp only[new_n,put_n];omega)|decide +kernel|(repeat first|rw[new_n]|rw[put_n])) only[wpS,wpT,Nat.reduceEqDiff]
 refine drawn [(2,[1])] (by kernel_rfl) (by kernel_rfl) rfl ?_
 simp -dsimp (maxSteps:=1000000) (disch:=first|omega|(simp only[new_n,put_n];omega)|decide +kernel|(repeat first|rw[new_n]|rw[put_n])) only[wpS,Nat.reduceEqDiff,Nat.reduceLeDiff,ld47,row_of r0,shC_len,sh_take]
 refine call (refin_ok p1.1 p1.2 h1.1 h1.2) ?_
 rintro v1 k3 ⟨X3,P1⟩
 have R1:=P1.rat ok1
 have s1:=X3.kept (by omega) r1
 simp -dsimp (maxSteps:=1000000) (disch:=first|omega|(simp only[new_n,put_n];omega)|decide +kernel|(repeat first|rw[new_n]|rw[put_n])) only[wpS,Nat.reduceEqDiff,Nat.reduceLeDiff,ld47,row_of s1,shC_len,sh_take]
 refine call (refin_ok p2.1 p2.2 h2.1 h2.2) ?_
 rintro v2 k4 ⟨X4,P2⟩
 have R2:=P2.rat ok2
 simp -dsimp (maxSteps:=1000000) (disch:=first|omega|(simp only[new_n,put_n];omega)|decide +kernel|(repeat first|rw[new_n]|rw[put_n])) only[wpS,Nat.reduceEqDiff]
 refine call (qorder_ok (R1.keep X4.keep) R2 q1 q2 (by omega)) ?_
 rintro _ k5 ⟨X5,rfl⟩
 simp -dsimp (maxSteps:=1000000) (disch:=first|omega|(simp only[new_n,put_n];omega)|decide +kernel|(repeat first|rw[new_n]|rw[put_n])) only[wpS,Nat.reduceEqDiff]
 refine⟨wpSteady_one rfl rfl rfl rfl (steady_load (av:=ptr (2*(h.n+1)) 0) (v:=shV p2.1 p2.2) (by simp) (psh s1).2.2 (psh r1).2.2),?_⟩
 simp -dsimp (maxSteps:=1000000) (disch:=first|omega|(simp only[new_n,put_n];omega)|decide +kernel|(repeat first|rw[new_n]|rw[put_n])) only[wpS,wpT,Nat.reduceEqDiff,Nat.reduceAdd]
 exact E0.trans (Y2.trans (X3.trans (X4.trans X5)))
set_option maxHeartbeats 1000000 in
theorem refmax_ok {h:IH} {p1 p2:Nat×Nat} (h1:p1.1<W8∧p1.2<W8) (h2:p2.1<W8∧p2.2<W8) (ok1:okS p1.1 p1.2) (ok2:okS p2.1 p2.2):WV Proofs.Tryz.prog (.func (.func 43) #[] #[]) [shV p1.1 p1.2,shV p2.1 p2.2] h fun r h'=>Ext h h'∧r=.tuple #[if rOf p1<rOf p2 then shV p2.1 p2.2 else shV p1.1 p1.2,KI 0]:=by
 refine enter (nt:=22) (rs:=[.cell 4 47,.tmp 5]) Proofs.Tryz.func43 rfl rfl rfl (by simp) ?_
 simp -dsimp (maxSteps:=1000000) (disch:=first|omega|(simp only[new_n,put_n];omega)|decide +kernel|(repeat first|rw[new_n]|rw[put_n])) only[wpS,Nat.reduceEqDiff,Nat.reduceAdd,zc47,ld47,shV_cells]
 obtain⟨H0,hH0,n0,E0,g0,g1,g2⟩:=boxes3 h (shC p1.1 p1.2) (shC p2.1 p2.2) Z16
 rw[←hH0]
 clear hH0
 simp -dsimp (maxSteps:=1000000) (disch:=first|omega|(simp only[new_n,put_n];omega)|decide +kernel|(repeat first|rw[new_n]|rw[put_n])) only[wpS,Nat.reduceEqDiff,Nat.reduceLeDiff,ld47,row_of g1,shC_len,sh_take]
 refine call (refcmp_ok (p1:=p1) (p2:=p2) h1 h2 ok1 ok2) ?_
 rintro _ k1 ⟨X1,rfl⟩
 have m1:=X1.n
 obtain⟨c,hc⟩ : ∃c:Int,c=(if rOf p1<rOf p2 then -1 else if rOf p1=rOf p2 then 0 else 1):=⟨_,rfl⟩
 rw[←hc]
 have r0:=X1.kept (by omega) g0
 have r1:=X1.kept (by omega) g1
 have r2:=X1.kept (by omega) g2
 by_cases d:rOf p1<rOf p2
 ·have e:decide (c<0)=true:=by
   rw[hc,decide_eq_true_eq]
   rw[if_pos d];omega
  simp -dsimp (maxSteps:=1000000) (disch:=first|omega|(simp only[new_n,put_n];omega)|decide +kernel|(repeat first|rw[new_n]|rw[put_n])) only[wpS,wpT,Nat.reduceEqDiff,Nat.reduceLeDiff,Nat.reduceAdd,ld47,st47,e,row_of r1,r2,shC_len,shC_all,sh_take,sh_sp3]
  refine⟨(E0.trans X1).put (by omega) _,?_⟩
  rw[if_pos d];rfl
 ·have e:decide (c<0)=false:=by
   rw[hc,decide_eq_false_iff_not]
   rw[if_neg d];split<;>omega
  simp -dsimp (maxSteps:=1000000) (disch:=first|omega|(simp only[new_n,put_n];omega)|decide +kernel|(repeat first|rw[new_n]|rw[put_n])) only[wpS,wpT,Nat.reduceEqDiff,Nat.reduceLeDiff,Nat.reduceAdd,ld47,st47,e,row_of r0,r2,shC_len,shC_all,sh_take,sh_sp3]
  refine⟨(E0.trans X1).put (by omega) _,?_⟩
  rw[if_neg d];rfl
set_option maxHeartbeats 1000000 in
theorem refmin_ok {h:IH} {p1 p2:Nat×Nat} (h1:p1.1<W8∧p1.2<W8) (h2:p2.1<W8∧p2.2<W8) (ok1:okS p1.1 p1.2) (ok2:okS p2.1 p2.2):WV Proofs.Tryz.prog (.func (.func 45) #[] #[]) [shV p1.1 p1.2,shV p2.1 p2.2] h fun r h'=>Ext h h'∧r=.tuple #[if rOf p2<rOf p1 then shV p2.1 p2.2 else shV p1.1 p1.2,KI 0]:=by
 refine enter (nt:=22) (rs:=[.cell 4 47,.tmp 5]) Proofs.Tryz.func45 rfl rfl rfl (by simp) ?_
 simp -dsimp (maxSteps:=1000000) (disch:=first|omega|(simp only[new_n,put_n];omega)|decide +kernel|(repeat first|rw[new_n]|rw[put_n])) only[wpS,Nat.reduceEqDiff,Nat.reduceAdd,zc47,ld47,shV_cells]
 obtain⟨H0,hH0,n0,E0,g0,g1,g2⟩:=boxes3 h (shC p1.1 p1.2) (shC p2.1 p2.2) Z16
 rw[←hH0]
 clear hH0
 simp -dsimp (maxSteps:=1000000) (disch:=first|omega|(simp only[new_n,put_n];omega)|decide +kernel|(repeat first|rw[new_n]|rw[put_n])) only[wpS,Nat.reduceEqDiff,Nat.reduceLeDiff,ld47,row_of g1,shC_len,sh_take]
 refine call (refcmp_ok (p1:=p1) (p2:=p2) h1 h2 ok1 ok2) ?_
 rintro _ k1 ⟨X1,rfl⟩
 have m1:=X1.n
 obtain⟨c,hc⟩ : ∃c:Int,c=(if rOf p1<rOf p2 then -1 else if rOf p1=rOf p2 then 0 else 1):=⟨_,rfl⟩
 rw[←hc]
 have r0:=X1.kept (by omega) g0
 have r1:=X1.kept (by omega) g1
 have r2:=X1.kept (by omega) g2
 by_cases d:rOf p2<rOf p1
 ·have e:decide (0<c)=true:=by
   rw[hc,decide_eq_true_eq]
   rw[if_neg (by grind),if_neg (by grind)];omega
  simp -dsimp (maxSteps:=1000000) (disch:=first|omega|(simp only[new_n,put_n];omega)|decide +kernel|(repeat first|rw[new_n]|rw[put_n])) only[wpS,wpT,Nat.reduceEqDiff,Nat.reduceLeDiff,Nat.reduceAdd,ld47,st47,e,row_of r1,r2,shC_len,shC_all,sh_take,sh_sp3]
  refine⟨(E0.trans X1).put (by omega) _,?_⟩
  rw[if_pos d];rfl
 ·have e:decide (0<c)=false:=by
   rw[hc,decide_eq_false_iff_not]
   split
   ·omega
   ·rw[if_pos (by grind)];omega
  simp -dsimp (maxSteps:=1000000) (disch:=first|omega|(simp only[new_n,put_n];omega)|decide +kernel|(repeat first|rw[new_n]|rw[put_n])) only[wpS,wpT,Nat.reduceEqDiff,Nat.reduceLeDiff,Nat.reduceAdd,ld47,st47,e,row_of r0,r2,shC_len,shC_all,sh_take,sh_sp3]
  refine⟨(E0.trans X1).put (by omega) _,?_⟩
  rw[if_neg d];rfl
set_option maxHeartbeats 1000000 in
theorem refdiv_ok {h:IH} {p1 p2:Nat×Nat} (h1:p1.1<W8∧p1.2<W8) (h2:p2.1<W8∧p2.2<W8) (ok1:okS p1.1 p1.2) (ok2:okS p2.1 p2.2) (n0:rOf p2≠0):WV Proofs.Tryz.prog (.func (.func 88) #[] #[]) [shV p1.1 p1.2,shV p2.1 p2.2] h fun r h'=>Ext h h'∧r=toldV (rOf p1 / rOf p2):=by
 have q1:=qb512 (p:=p1) h1.1 h1.2 ok1
 have q2:=qb512 (p:=p2) h2.1 h2.2 ok2
 obtain⟨n,d,e,ht⟩:=toldV_form (rOf p1 / rOf p2)
 refine enter (nt:=28) (rs:=[.cell 4 47,.tmp 5]) Proofs.Tryz.func88 rfl rfl rfl (by simp) ?_
 simp -dsimp (maxSteps:=1000000) (disch:=first|omega|(simp only[new_n,put_n];omega)|decide +kernel|(repeat first|rw[new_n]|rw[put_n])) only[wpS,Nat.reduceEqDiff,Nat.reduceAdd,zc47,ld47,shV_cells]
 obtain⟨H0,hH0,n0',E0,g0,g1,g2⟩:=boxes3 h (shC p1.1 p1.2) (shC p2.1 p2.2) Z16
 rw[←hH0]
 clear hH0
 simp -dsimp (maxSteps:=1000000) (disch:=first|omega|(simp only[new_n,put_n];omega)|decide +kernel|(repeat first|rw[new_n]|rw[put_n])) only[wpS,Nat.reduceEqDiff,Nat.reduceLeDiff,shC_len,sh_take]
 refine call (refright_ok p1.1 p1.2 h1.1 h1.2) ?_
 rintro _ k1 ⟨X1,rfl⟩
 rw[decide_eq_true ok1]
 have m1:=X1.n
 simp -dsimp (maxSteps:=1000000) (disch:=first|omega|(simp only[new_n,put_n];omega)|decide +kernel|(repeat first|rw[new_n]|rw[put_n])) only[wpS,wpT,Nat.reduceEqDiff,Nat.reduceLeDiff,ld47,row_of (X1.kept (by omega) g1),shC_len,sh_take]
 refine call (refright_ok p2.1 p2.2 h2.1 h2.2) ?_
 rintro _ k2 ⟨X2,rfl⟩
 rw[decide_eq_true ok2]
 have Y2:=X1.trans X2
 have m2:=Y2.n
 have r0:=Y2.kept (by omega) g0
 have r1:=Y2.kept (by omega) g1
 simp -dsimp (maxSteps:=1000000) (disch:=first|omega|(simp only[new_n,put_n];omega)|decide +kernel|(repeat first|rw[new_n]|rw[put_n])) only[wpS,wpT,Nat.reduceEqDiff,Nat.reduceLeDiff,ld47,row_of r1,shC_len,sh_take]
 refine call (refin_ok p2.1 p2.2 h2.1 h2.2) ?_
 rintro v2 k3 ⟨X3,P2⟩
 have R2:=P2.rat ok2
 have m3:=X3.n
 obtain⟨a1,s1,b1,t1,rfl,hn1,hd1,c1,o1,c2,o2,o3,o4⟩:=R2.parts
 obtain⟨H4,hH4,n4,E4,g4⟩:=box_one k3 [.bool false,.slice none 0 0,.bool false,.slice none 0 0] [a1,s1,b1,t1]
 simp -dsimp (maxSteps:=1000000) (disch:=first|omega|(simp only[new_n,put_n];omega)|decide +kernel|(repeat first|rw[new_n]|rw[put_n])) only[wpS,wpT,Nat.reduceEqDiff,Nat.reduceLeDiff,Nat.reduceAdd,zc135,st135,ld135,o1,o2,o3,o4,tk4']
 rw[←hH4]
 clear hH4
 have X4:=X3.trans E4
 refine call (zero_ok (R2.keep E4.keep)) ?_
 rintro _ k5 ⟨X5,rfl⟩
 rw[decide_eq_false n0]
 have Y5:=X4.trans X5
 have m5:=Y5.n
 have m5':=X5.n
 have u4:=X5.kept (by omega) g4
 have u0:=Y5.kept (by omega) r0
 simp -dsimp (maxSteps:=1000000) (disch:=first|omega|(simp only[new_n,put_n];omega)|decide +kernel|(repeat first|rw[new_n]|rw[put_n])) only[wpS,Nat.reduceEqDiff]
 refine drawn [(2,[1])] (by kernel_rfl) (by kernel_rfl) rfl ?_
 simp -dsimp (maxSteps:=1000000) (disch:=first|omega|(simp only[new_n,put_n];omega)|decide +kernel|(repeat first|rw[new_n]|rw[put_n])) only[wpS,Nat.reduceEqDiff,Nat.reduceLeDiff,ld47,row_of u0,shC_len,sh_take]
 refine call (refin_ok p1.1 p1.2 h1.1 h1.2) ?_
 rintro v1 k6 ⟨X6,P1⟩
 have R1:=P1.rat ok1
 have u6:=X6.kept (by omega) u4
 simp -dsimp (maxSteps:=1000000) (disch:=first|omega|(simp only[new_n,put_n];omega)|decide +kernel|(repeat first|rw[new_n]|rw[put_n])) only[wpS,wpT,Nat.reduceEqDiff,Nat.reduceLeDiff,Nat.reduceAdd,ld135,row_of u6,tk4']
 refine call (qover_ok R1 (R2.keep (E4.trans (X5.trans X6)).keep) q1 q2 (by omega) n0) ?_
 rintro v7 k7 ⟨X7,R7⟩
 simp -dsimp (maxSteps:=1000000) (disch:=first|omega|(simp only[new_n,put_n];omega)|decide +kernel|(repeat first|rw[new_n]|rw[put_n])) only[wpS,Nat.reduceEqDiff]
 refine call (refout_ok R7) ?_
 rintro r k8 ⟨X8,hr⟩
 have hr2:r=toldV (rOf p1 / rOf p2):=by rw[hr];rfl
 subst hr2
 rw[ht]
 have Y8:=(Y2.trans Y5).trans (X6.trans (X7.trans X8))
 have m8:=Y8.n
 simp -dsimp (maxSteps:=1000000) (disch:=first|omega|(simp only[new_n,put_n];omega)|decide +kernel|(repeat first|rw[new_n]|rw[put_n])) only[wpS,wpT,Nat.reduceEqDiff,Nat.reduceLeDiff,Nat.reduceAdd,st47,shV_cells,shC_len,shC_all,sh_sp3,Y8.kept (by omega) g2]
 refine⟨wpSteady_one rfl rfl rfl rfl (steady_load (av:=ptr (2*k3.n) 0) (v:=.agg #[a1,s1,b1,t1]) (by simp) (ql4 u6).2.2 (ql4 u4).2.2),?_⟩
 simp -dsimp (maxSteps:=1000000) (disch:=first|omega|(simp only[new_n,put_n];omega)|decide +kernel|(repeat first|rw[new_n]|rw[put_n])) only[wpS,wpT,Nat.reduceEqDiff,Nat.reduceLeDiff,Nat.reduceAdd,ld47,shC_len,sh_take]
 exact⟨(E0.trans Y8).put (by omega) _,rfl⟩
end Go.Id

/-! Contracts: wardmoteref06, wardmoteref07: censuses, signposts, ranks. -/
namespace Go.Id
open Go
theorem inR1 (a b m:Int):inR a b [m]=decide (a≤m∧m≤b):=by
 rw[Bool.eq_iff_iff,inR_iff]
 simp
theorem quotaOK_iff {l:List Int}:quotaOK l=true↔l.length≤60∧(∀n∈l,0≤n∧n≤1000000000)∧l.sum≠0:=by
 unfold quotaOK
 rw[Bool.and_eq_true,Bool.and_eq_true,inR_iff,decide_eq_true_eq]
 simp
set_option maxHeartbeats 1000000 in
theorem total6_ok {h:IH} {v:Value} {l:List Int} (hv:SlOf h 1 v l.length (l.map KI)) (hl:l.length≤1000000) :
  WV Proofs.Tryz.prog (.func (.func 145) #[] #[]) [v] h fun r h'=>h'=h ∧ ∃t:Int,r=.tuple #[KI t,.bool (quotaOK l)]:=by
 have P0:=hv.now
 refine enter (nt:=38) (rs:=[.tmp 2,.tmp 3]) Proofs.Tryz.func145 rfl rfl rfl (by simp) ?_
 simp -dsimp (disch:=omega) only[wpS]
 refine loop (fun m fr hh => ∃i:Nat,i+m=l.length∧hh=h∧(∀n∈l.take i,0≤n∧n≤1000000000)∧fget fr 0=some v∧fget fr 4=some (KI (l.take i).sum)∧fget fr 5=some (KN i)) l.length ⟨0,by omega,rfl,fun n hn=>by simp at hn,by simp,by simp,by simp⟩ ?_
 rintro m fr _ ⟨i,him,rfl,hz,f0,f4,f5⟩
 have sb:=sum_bound _ hz
 have tl:(l.take i).length≤1000000:=by rw[List.length_take];omega
 by_cases c:i<l.length
 ·obtain⟨n,hn⟩ : ∃n,l[i]?=some n:=⟨_,List.getElem?_eq_getElem c⟩
  have lP:=P0.ld (P:=Proofs.Tryz.prog) (t:=3) (c:=i) (by simp<;>omega) ag3
  rw[map_get,hn] at lP
  have bad : ¬(0≤n∧n≤1000000000)→quotaOK l=false:=fun h=>by
   cases hq:quotaOK l
   ·rfl
   ·exact absurd ((quotaOK_iff.1 hq).2.1 n (List.mem_of_getElem? hn)) h
  by_cases c1:n<0
  ·simp -dsimp (disch:=omega) only[wpS,wpT,Nat.reduceEqDiff,f0,f5,P0.len sl29,P0.idx es29 c,lP]
   exact⟨0,by rw[bad (by omega)]⟩
  ·by_cases c2:1000000000<n
   ·simp -dsimp (disch:=omega) only[wpS,wpT,Nat.reduceEqDiff,f0,f5,P0.len sl29,P0.idx es29 c,lP]
    exact⟨0,by rw[bad (by omega)]⟩
   ·have e2:IntKind.i64.wrap ((i:Int)+1)=((i+1:Nat):Int):=by rw[wrap_i64 (by omega)];omega
    have e3:IntKind.i64.wrap ((l.take i).sum+n)=(l.take (i+1)).sum:=by rw[sum_take_succ l hn,wrap_i64 (by omega)]
    simp -dsimp (disch:=omega) only[wpS,wpT,Nat.reduceEqDiff,f0,f4,f5,P0.len sl29,P0.idx es29 c,lP,e2,e3]
    refine⟨m - 1,by omega,i+1,by omega,rfl,fun x hx=>?_,by simp[f0],by simp,by simp⟩
    rw[List.take_add_one,hn] at hx
    simp at hx
    rcases hx with hx|rfl
    ·exact hz x hx
    ·omega
 ·have hin:l.take i=l:=List.take_of_length_le (by omega)
  rw[hin] at hz sb f4
  by_cases c1:l.length≤60
  ·by_cases c2:0<l.sum
   ·have q:quotaOK l=true:=quotaOK_iff.2 ⟨c1,hz,by omega⟩
    simp -dsimp (disch:=omega) only[wpS,wpT,Nat.reduceEqDiff,f0,f4,f5,P0.len sl29]
    exact⟨_,by rw[q]⟩
   ·have q:quotaOK l=false:=by
     cases hq:quotaOK l
     ·rfl
     ·have:=(quotaOK_iff.1 hq).2.2;omega
    simp -dsimp (disch:=omega) only[wpS,wpT,Nat.reduceEqDiff,f0,f4,f5,P0.len sl29]
    exact⟨_,by rw[q]⟩
  ·have q:quotaOK l=false:=by
    cases hq:quotaOK l
    ·rfl
    ·exact absurd (quotaOK_iff.1 hq).1 c1
   simp -dsimp (disch:=omega) only[wpS,wpT,Nat.reduceEqDiff,f0,f4,f5,P0.len sl29]
   exact⟨_,by rw[q]⟩
theorem right6_ok {h:IH} {v:Value} {l:List Int} (hv:SlOf h 1 v l.length (l.map KI)) (hl:l.length≤1000000) :
  WV Proofs.Tryz.prog (.func (.func 113) #[] #[]) [v] h fun r h'=>h'=h∧r=.bool (quotaOK l):=by
 refine enter (nt:=11) (rs:=[.tmp 2]) Proofs.Tryz.func113 rfl rfl rfl (by simp) ?_
 simp -dsimp (disch:=omega) only[wpS,Nat.reduceEqDiff]
 refine call (total6_ok hv hl) ?_
 rintro _ _ ⟨rfl,t,rfl⟩
 simp -dsimp (disch:=omega) only[wpS,wpT,Nat.reduceEqDiff]
theorem check6_ok {h:IH} {v:Value} {l:List Int} (hv:SlOf h 1 v l.length (l.map KI)) (hl:l.length≤1000000) :
  WV Proofs.Tryz.prog (.func (.func 75) #[] #[]) [v] h fun r h'=>h'=h∧r=KI (if quotaOK l=true then 0 else 60):=by
 refine enter (nt:=5) (rs:=[.tmp 2]) Proofs.Tryz.func75 rfl rfl rfl (by simp) ?_
 simp -dsimp (disch:=omega) only[wpS,Nat.reduceEqDiff]
 refine call (right6_ok hv hl) ?_
 rintro _ _ ⟨rfl,rfl⟩
 cases quotaOK l
 ·simp -dsimp (disch:=omega) only[wpS,wpT,Nat.reduceEqDiff]
  rfl
 ·simp -dsimp (disch:=omega) only[wpS,wpT,Nat.reduceEqDiff]
theorem known7_ok {h:IH} (m:Int):WV Proofs.Tryz.prog (.func (.func 76) #[] #[]) [KI m] h fun r h'=>h'=h∧r=.bool (inR 11 15 [m]):=by
 rw[inR1]
 refine enter (nt:=9) (rs:=[.tmp 2]) Proofs.Tryz.func76 rfl rfl rfl (by simp) ?_
 by_cases c1:11≤m
 ·by_cases c2:m≤15
  ·simp -dsimp (disch:=omega) only[wpS,wpT,Nat.reduceEqDiff]
   rw[decide_eq_true ⟨c1,c2⟩]
  ·simp -dsimp (disch:=omega) only[wpS,wpT,Nat.reduceEqDiff]
   rw[decide_eq_false (by omega)]
 ·simp -dsimp (disch:=omega) only[wpS,wpT,Nat.reduceEqDiff]
  rw[decide_eq_false (by omega)]
def zeroB (m s:Int):Bool:=decide (s=0) && decide (m≤13)
theorem zero7_ok {h:IH} (m s:Int):WV Proofs.Tryz.prog (.func (.func 87) #[] #[]) [KI m,KI s] h fun r h'=>h'=h∧r=.bool (zeroB m s):=by
 unfold zeroB
 refine enter (nt:=11) (rs:=[.tmp 4]) Proofs.Tryz.func87 rfl rfl rfl (by simp) ?_
 by_cases c1:s=0
 ·have e:(s == 0)=true:=by simpa using c1
  simp -dsimp (disch:=omega) only[wpS,wpT,Nat.reduceEqDiff,Nat.reduceAdd,e]
  rw[decide_eq_true c1];rfl
 ·have e:(s == 0)=false:=by simpa using c1
  simp -dsimp (disch:=omega) only[wpS,wpT,Nat.reduceEqDiff,Nat.reduceAdd,e]
  rw[decide_eq_false c1];rfl
theorem zeroB_eq {a b:Nat} (ha:11≤a∧a≤15):zeroB (a:Int) (b:Int)=postZ a b:=by
 unfold zeroB postZ postN
 rcases(by omega:a=11∨a=12∨a=13∨a=14∨a=15) with rfl|rfl|rfl|rfl|rfl
 ·rw[Bool.eq_iff_iff];simp
 ·rw[Bool.eq_iff_iff];simp[Nat.mul_eq_zero]
 ·rw[Bool.eq_iff_iff];simp[Nat.mul_eq_zero]
 ·simp
 ·simp
end Go.Id
