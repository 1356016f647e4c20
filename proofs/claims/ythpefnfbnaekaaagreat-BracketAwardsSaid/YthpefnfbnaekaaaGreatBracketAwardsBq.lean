/-
  Contracts: package bracket: the bracket of an allocation; Find. Contracts: package bracket: the bracket of an allocation.
-/
import Derived.Test.YthpefnfbnaekaaaGreatBracketAwardsBp
import Derived.Test.YthpefnfbnaekaaaGreatBracketAwardsBg
import Derived.Test.YthpefnfbnaekaaaGreatBracketAwardsAr
import Derived.Test.YthpefnfbnaekaaaGreatBracketAwardsBo
import Derived.Test.YthpefnfbnaekaaaGreatBracketAwardsBm
set_option linter.unusedVariables false
set_option linter.unusedSimpArgs false
set_option linter.defProp false
set_option linter.deprecated false
namespace Go.Id
open Go
theorem splice_left (a b c:List Value) (h:c.length=a.length):IH.splice (a ++ b) 0 c=c ++ b:=by
 show List.take 0 (a ++ b) ++ (c ++ List.drop (0+c.length) (a ++ b))=_
 rw[h,Nat.zero_add,List.drop_left];rfl
theorem splice_right (a b c:List Value) (n k:Nat) (h:n=a.length+k):IH.splice (a ++ b) n c=a ++ IH.splice b k c:=by
 subst h
 show List.take (a.length+k) (a ++ b) ++ (c ++ List.drop (a.length+k+c.length) (a ++ b))=a ++ (List.take k b ++ (c ++ List.drop (k+c.length) b))
 rw[List.take_append,List.drop_append,List.take_of_length_le (by omega),List.drop_of_length_le (by omega),show a.length+k - a.length=k from by omega,show a.length+k+c.length - a.length=k+c.length from by omega,List.append_assoc];rfl
def brC (lo hi:Nat×Nat) (en sc sq:Bool):List Value:=shC lo.1 lo.2 ++ (shC hi.1 hi.2 ++ [.bool en,.bool sc,.bool sq])
abbrev brV (lo hi:Nat×Nat) (en sc sq:Bool):Value:=.agg (brC lo hi en sc sq).toArray
theorem brC_len (lo hi:Nat×Nat) (en sc sq:Bool):(brC lo hi en sc sq).length=35:=by simp[brC,shC_len]
theorem brC_all (lo hi:Nat×Nat) (en sc sq:Bool):(brC lo hi en sc sq).all cellOK=true:=by simp[brC,shC_all,cellOK]
theorem brC_take (lo hi:Nat×Nat) (en sc sq:Bool):List.take 35 (List.drop 0 (brC lo hi en sc sq))=brC lo hi en sc sq:=by rw[List.drop_zero,List.take_of_length_le (by rw[brC_len];omega)]
theorem brC_lo (lo hi:Nat×Nat) (en sc sq:Bool):List.take 16 (List.drop 0 (brC lo hi en sc sq))=shC lo.1 lo.2:=by
 rw[List.drop_zero,brC,List.take_append_of_le_length (by rw[shC_len];omega),List.take_of_length_le (by rw[shC_len];omega)]
theorem brC_hi (lo hi:Nat×Nat) (en sc sq:Bool):List.take 16 (List.drop 16 (brC lo hi en sc sq))=shC hi.1 hi.2:=by
 rw[brC,List.drop_append,List.drop_of_length_le (by rw[shC_len];omega),shC_len,List.nil_append,List.drop_zero,List.take_append_of_le_length (by rw[shC_len];omega),List.take_of_length_le (by rw[shC_len];omega)]
theorem brC_32 (lo hi:Nat×Nat) (en sc sq:Bool):(brC lo hi en sc sq)[32]?=some (.bool en):=by
 rw[brC,List.getElem?_append_right (by rw[shC_len];omega),shC_len,List.getElem?_append_right (by rw[shC_len];omega),shC_len];rfl
theorem brC_33 (lo hi:Nat×Nat) (en sc sq:Bool):(brC lo hi en sc sq)[33]?=some (.bool sc):=by
 rw[brC,List.getElem?_append_right (by rw[shC_len];omega),shC_len,List.getElem?_append_right (by rw[shC_len];omega),shC_len];rfl
theorem brC_slo (lo hi:Nat×Nat) (en sc sq:Bool) (a b:Nat):IH.splice (brC lo hi en sc sq) 0 (shC a b)=brC (a,b) hi en sc sq:=splice_left _ _ _ (by rw[shC_len,shC_len])
theorem brC_shi (lo hi:Nat×Nat) (en sc sq:Bool) (a b:Nat):IH.splice (brC lo hi en sc sq) 16 (shC a b)=brC lo (a,b) en sc sq:=by
 rw[brC,splice_right _ _ _ 16 0 (by rw[shC_len]),splice_left _ _ _ (by rw[shC_len,shC_len])];rfl
theorem brC_s32 (lo hi:Nat×Nat) (en sc sq b:Bool):IH.splice (brC lo hi en sc sq) 32 [.bool b]=brC lo hi b sc sq:=by
 rw[brC,splice_right _ _ _ 32 16 (by rw[shC_len]),splice_right _ _ _ 16 0 (by rw[shC_len])];rfl
theorem brC_s33 (lo hi:Nat×Nat) (en sc sq b:Bool):IH.splice (brC lo hi en sc sq) 33 [.bool b]=brC lo hi en b sq:=by
 rw[brC,splice_right _ _ _ 33 17 (by rw[shC_len]),splice_right _ _ _ 17 1 (by rw[shC_len])];rfl
abbrev Z35:List Value:=[ZW,ZW,ZW,ZW,ZW,ZW,ZW,ZW,ZW,ZW,ZW,ZW,ZW,ZW,ZW,ZW,ZW,ZW,ZW,ZW,ZW,ZW,ZW,ZW,ZW,ZW,ZW,ZW,ZW,ZW,ZW,ZW,.bool false,.bool false,.bool false]
theorem brC_all0 (lo hi:Nat×Nat) (en sc sq:Bool):IH.splice Z35 0 (brC lo hi en sc sq)=brC lo hi en sc sq:=splice_all (by rw[brC_len];rfl)
theorem br_zero:Z35=brC (0,0) (0,0) false false false:=by rw[brC,←sh_zero];rfl
theorem brC_s34 (lo hi:Nat×Nat) (en sc sq b:Bool):IH.splice (brC lo hi en sc sq) 34 [.bool b]=brC lo hi en sc b:=by
 rw[brC,splice_right _ _ _ 34 18 (by rw[shC_len]),splice_right _ _ _ 18 2 (by rw[shC_len])];rfl
theorem br_s0 (a b:Nat):IH.splice Z35 0 (shC a b)=brC (a,b) (0,0) false false false:=by rw[br_zero,brC_slo]
def nextF (m:Int) (st:Rat×Bool) (x:Seat):Rat×Bool:=if rkE m x=0 then (qmax st.1 (rkQ m x),st.2) else (st.1,true)
def lastF (m:Int) (st:Rat×Bool) (x:Seat):Rat×Bool:=if rkE m x=0 then (if st.2=true∨rkQ m x<st.1 then rkQ m x else st.1,false) else st
def brN (m:Int) (rs:List Reg):Rat×Bool:=(nextS rs).foldl (nextF m) (0,false)
def brL (m:Int) (rs:List Reg):Rat×Bool:=(lastS rs).foldl (lastF m) (0,true)
def brkV (m:Int) (rs:List Reg):Value:=brV (shq (if (brN m rs).2=true then 0 else (brN m rs).1)) (shq (brL m rs).1) (brL m rs).2 (brN m rs).2 (m == 13)
theorem qw_zero:QW 0:=by have:=qw_small (n:=0) (d:=1) (by decide) (by decide) (by decide);rwa [Rat.zero_divInt] at this
theorem qw_max {x y:Rat} (hx:QW x) (hy:QW y):QW (qmax x y):=by unfold qmax;split<;>assumption
theorem rkQ_qw {m:Int} {x:Seat} (h:rkE m x=0):QW (rkQ m x):=by
 unfold rkE rankErr at h
 split at h
 ·omega
 ·rename_i h1
  split at h
  ·omega
  ·rename_i h2
   obtain⟨b,c⟩:inR 0 1000 [x.2]=true∧inR 0 1000000000 [x.1.1]=true:=by
    generalize inR 11 15 [m]=a at h1
    generalize inR 0 1000 [x.2]=b at h1 ⊢
    generalize inR 0 1000000000 [x.1.1]=c at h1 ⊢
    revert h1
    cases a<;>cases b<;>cases c<;>decide
   have d1:=inR_iff.1 b x.2 (by simp)
   have d2:=inR_iff.1 c x.1.1 (by simp)
   exact rankQ_qw (by omega) (by omega) (fun e=>h2 (by unfold postZ;rw[e];rfl))
theorem nextF_qw {m:Int} {st:Rat×Bool} {x:Seat} (h:QW st.1):QW (nextF m st x).1:=by
 unfold nextF
 split
 ·rename_i c;exact qw_max h (rkQ_qw c)
 ·exact h
theorem lastF_qw {m:Int} {st:Rat×Bool} {x:Seat} (h:QW st.1):QW (lastF m st x).1:=by
 unfold lastF
 split
 ·rename_i c;dsimp only;split
  ·exact rkQ_qw c
  ·exact h
 ·exact h
theorem fold_take {α:Type} {f:α→Seat→α} {a:α} {l:List Seat} {i:Nat} {x:Seat} (h:l[i]?=some x):(l.take (i+1)).foldl f a=f ((l.take i).foldl f a) x:=by
 rw[List.take_add_one,h,List.foldl_append];rfl
end Go.Id

namespace Go.Id
open Go
open Nat (reduceAdd reduceEqDiff reduceLeDiff)
set_option maxHeartbeats 16000000
theorem qmax_rOf {x y:Rat} (hx:QW x) (hy:QW y):qmax (rOf (shq x)) (rOf (shq y))=qmax x y:=by rw[(shq_rOf hx).1,(shq_rOf hy).1]
theorem cmpQ_lt (x y:Rat):(cmpQ x y<0)↔x<y:=by
 unfold cmpQ
 split
 ·rename_i h;exact⟨fun _=>h,fun _=>by omega⟩
 ·rename_i h
  split
  ·exact⟨fun h=>absurd h (by omega),fun h2=>absurd h2 h⟩
  ·exact⟨fun h=>absurd h (by omega),fun h2=>absurd h2 h⟩
theorem box3p (h:IH) (a b c d e f:List Value) : ∃H,H=((((((h.new (.cells a 0 none)).put h.n (.cells b 0 none)).new (.cells c 0 none)).put (h.n+1) (.cells d 0 none)).new (.cells e 0 none)).put (h.n+1+1) (.cells f 0 none))∧H.n=h.n+3∧Ext h H∧H.ext.get h.n=some (.cells b 0 none)∧H.ext.get (h.n+1)=some (.cells d 0 none)∧H.ext.get (h.n+2)=some (.cells f 0 none) :=
 ⟨_,rfl,rfl,((((((Ext.refl h).new _).put (by omega) _).new _).put (by omega) _).new _).put (by omega) _,by simp (disch:=try exact dx) only[get_new_old,get_put_same,get_put_old],by simp (disch:=try exact dx) only[get_new_old,get_put_same,get_put_old],by simp (disch:=try exact dx) only[get_put_same]⟩
abbrev rkF (m:Int) (sv:Value):Value:=.func (.func 84) #[hallV m sv] #[]
set_option maxRecDepth 20000 in
theorem bracket_ok {h:IH} {sv:Value} {m:Int} {rs:List Reg} (s:RegSl h sv rs) (hl:rs.length≤1000) (hb : ∀r∈rs,0≤r.2.1∧r.2.1≤1000) :
  WV Proofs.Tryz.prog (.func (.func 38) #[] #[]) [hallV m sv] h fun r h'=>Ext h h'∧r=brkV m rs:=by
 have cs:=s.cells
 have cO:cellOK sv=true:=by obtain⟨oa,ok,ho⟩:=s.form;rw[ho];rfl
 have q0:=qw_zero
 refine enter (nt:=78) (rs:=[.cell 2 49]) Proofs.Tryz.func38 rfl rfl rfl (by simp) ?_
 simp -dsimp (maxSteps:=1000000) (disch:=try exact dx) only[wpS,zc49]
 obtain⟨H0,hH0,n0,E0,g1,g2⟩:=boxes2 h [KI m,sv] Z35
 rw[←hH0]
 clear hH0
 refine call (shof_ok 0 1 ⟨by omega,by omega⟩ ⟨by omega,by omega⟩ (by omega)) ?_
 rintro _ h1 ⟨X1,rfl⟩
 rw[Rat.zero_divInt,shareV_shq]
 have m1:=X1.n
 have k1:=X1.kept (by omega) g1
 have k2:=X1.kept (by omega) g2
 simp -dsimp (maxSteps:=1000000) (disch:=try exact dx) only[wpS,wpT,reduceEqDiff,reduceLeDiff,reduceAdd,zc49,zc47,st47,ld47,fa80_0,ld3,bv49,pl49_0,pl49_1,pl49_2,pl49_4,st49,ld80,zc128,st128,shV_cells,shC_len,shC_all,sh_sp3,sh_take,row_of k1,br_s0,brC_shi,brC_s32,brC_s34,brC_len,brC_all,brC_all0,tk2']
 obtain⟨H3,hH3,n3,E3,g3,g4,g5⟩:=box3p h1 Z16 (shC (shq 0).1 (shq 0).2) Z35 (brC (shq 0) (shq 0) true false (m == 13)) [.nilFunc] [rkF m sv]
 rw[show brC ((shq 0).1,(shq 0).2) ((shq 0).1,(shq 0).2) true false (m == 13)=brC (shq 0) (shq 0) true false (m == 13) from rfl]
 rw[←hH3]
 clear hH3
 refine range2 (p:=29) (nt:=78) rfl rfl (by decide) (fun r y hfn hnt hbd hy=>?_)
 obtain⟨xs,hxs⟩ : ∃l,l=nextS rs:=⟨_,rfl⟩
 let F:Nat→Rat×Bool:=fun i=>(xs.take i).foldl (nextF m) (0,false)
 have qF : ∀i,QW (F i).1:=by
  intro i
  have : ∀(l:List Seat) (a:Rat×Bool),QW a.1→QW (l.foldl (nextF m) a).1:=by
   intro l
   induction l with
   | nil=>intro a h;exact h
   | cons x l ih=>intro a h;exact ih _ (nextF_qw h)
  exact this _ _ q0
 let J:Nat→IH→Prop:=fun i hh=>Ext h1 hh∧H3.n<hh.n∧hh.ext.get H3.n=some (.loop r)∧hh.ext.get h1.n=some (.cells (shC (shq 0).1 (shq 0).2) 0 none)∧hh.ext.get (h1.n+1)=some (.cells (brC (shq (F i).1) (shq 0) true (F i).2 (m == 13)) 0 none)∧hh.ext.get (h1.n+2)=some (.cells [rkF m sv] 0 none)
 have J0:J 0 (H3.new (.loop r)):=by
  refine⟨E3.new _,by simp,get_new_same _ _ rfl,?_,?_,?_⟩
  ·rw[get_new_old _ _ (by omega)];exact g3
  ·rw[get_new_old _ _ (by omega)];exact g4
  ·rw[get_new_old _ _ (by omega)];exact g5
 have Je : ∀i h h',J i h→Ext h h'→J i h':=by
  rintro i x x' ⟨a1,a2,a3,a4,a5,a6⟩ e
  have en:=e.n
  exact⟨a1.trans e,by omega,e.kept a2 a3,e.kept (by omega) a4,e.kept (by omega) a5,e.kept (by omega) a6⟩
 have it:=next_iter (m:=m) (s.keep (E0.trans X1).keep) hl
 rw[←hxs] at it
 refine WV.mono (it y (H3.new (.loop r)) J (fun i hh hj=>hj.1) Je J0 ?_) ?_
 ·rintro i x hh hi ⟨x1,x2,x3,x4,x5,x6⟩
  refine hy _ hh _ x3 ?_
  simp -dsimp (maxSteps:=1000000) (disch:=try exact dx) only[wpS,wpT,reduceEqDiff,reduceLeDiff,reduceAdd,zc123,st123]
  obtain⟨H5,hH5,n5,e5,gw⟩:=boxed hh [KI 0,KI 0,KI 0,KI 0] [KI x.1.1,KI x.1.2.1,KI x.1.2.2,KI x.2]
  rw[←hH5]
  clear hH5
  obtain⟨y1,y2,y3,y4,y5,y6⟩:=Je i hh H5 ⟨x1,x2,x3,x4,x5,x6⟩ e5
  refine⟨rfl,y3,?_⟩
  rw[hfn,hnt,hbd]
  have eb:Ext h1 (H5.put H3.n (.loop (busyL r))):=y1.put (by omega) _
  obtain⟨H6,hH6⟩ : ∃H,H=H5.put H3.n (.loop (busyL r)):=⟨_,rfl⟩
  have z0 : ∀j,j≠H3.n→H6.ext.get j=H5.ext.get j:=fun j hj=>by rw[hH6];exact get_put_old _ _ hj
  have zl:H6.ext.get H3.n=some (.loop (busyL r)):=by rw[hH6];exact get_put_same _ _ rfl
  have zn:H6.n=H5.n:=by rw[hH6];rfl
  rw[←hH6] at eb ⊢
  clear hH6
  have z4:=(z0 h1.n (by omega)).trans y4
  have z5:=(z0 (h1.n+1) (by omega)).trans y5
  have z6:=(z0 (h1.n+2) (by omega)).trans y6
  have zw:=(z0 hh.n (by omega)).trans gw
  have ft:F (i+1)=nextF m (F i) x:=fold_take hi
  have fin : ∀(hf':IH) (o:Rat×Bool),F (i+1)=o→Ext h1 hf'→H3.n<hf'.n→hf'.ext.get H3.n=some (.loop (busyL r))→hf'.ext.get h1.n=some (.cells (shC (shq 0).1 (shq 0).2) 0 none)→hf'.ext.get (h1.n+1)=some (.cells (brC (shq o.1) (shq 0) true o.2 (m == 13)) 0 none)→hf'.ext.get (h1.n+2)=some (.cells [rkF m sv] 0 none)→Value.bool true=.bool true∧J (i+1) (hf'.put H3.n (.loop r)):=by
   intro hf' o ho w1 w2 w3 w4 w5 w6
   refine⟨rfl,w1.put (by omega) _,w2,get_put_same _ _ rfl,?_,?_,?_⟩
   ·rw[get_put_old _ _ (by omega)];exact w4
   ·rw[get_put_old _ _ (by omega),ho];exact w5
   ·rw[get_put_old _ _ (by omega)];exact w6
  simp -dsimp (maxSteps:=1000000) (disch:=try exact dx) only[wpS,wpT,reduceEqDiff,reduceLeDiff,reduceAdd,ld128,ld123,row_of z6,row_of zw,tk4']
  refine call (wv_bound (rank_ok x cs cO)) ?_
  rintro _ h7 ⟨X7,rfl⟩
  have m7:=X7.n
  have v4:=X7.kept (by omega) z4
  have v5:=X7.kept (by omega) z5
  have v6:=X7.kept (by omega) z6
  have vl:=X7.kept (by omega) zl
  by_cases c:rkE m x=0
  ·have qr:=rkQ_qw c
   have e9:nextF m (F i) x=(qmax (F i).1 (rkQ m x),(F i).2):=by unfold nextF;rw[if_pos c]
   rw[show rkV2 m x=shV (shq (rkQ m x)).1 (shq (rkQ m x)).2 from by unfold rkV2;rw[if_pos c],decide_eq_true c]
   simp -dsimp (maxSteps:=1000000) (disch:=try exact dx) only[wpS,wpT,reduceEqDiff,reduceLeDiff,reduceAdd,zc47,st47,ld47,fa49_0,shV_cells,shC_len,shC_all,sh_sp3,sh_take,row_of v5,brC_len,brC_lo]
   obtain⟨H8,hH8,n8,e8,g8⟩:=boxed h7 Z16 (shC (shq (rkQ m x)).1 (shq (rkQ m x)).2)
   rw[←hH8]
   clear hH8
   refine call (shmax_ok (p1:=shq (F i).1) (p2:=shq (rkQ m x)) (shq_lt (qF i)) (shq_lt qr) (shq_rOf (qF i)).2 (shq_rOf qr).2) ?_
   rintro _ h9 ⟨X9,rfl⟩
   rw[qmax_rOf (qF i) qr,toldV_qw (qw_max (qF i) qr)]
   have e79:=e8.trans X9
   have m9:=e79.n
   have u5:=e79.kept (by omega) v5
   have ul:=e79.kept (by omega) vl
   simp -dsimp (maxSteps:=1000000) (disch:=try exact dx) only[wpS,wpT,reduceEqDiff,reduceLeDiff,st47,fa49_0,shV_cells,shC_len,shC_all,u5,brC_len,brC_slo]
   refine⟨by rw[get_put_old _ _ (by omega)];exact ul,fin _ _ (ft.trans e9) ((eb.trans (X7.trans e79)).put (by omega) _) (by show H3.n<h9.n;omega) ?_ ?_ ?_ ?_⟩
   ·rw[get_put_old _ _ (by omega)];exact ul
   ·rw[get_put_old _ _ (by omega)];exact e79.kept (by omega) v4
   ·exact get_put_same _ _ rfl
   ·rw[get_put_old _ _ (by omega)];exact e79.kept (by omega) v6
  ·have e9:nextF m (F i) x=((F i).1,true):=by unfold nextF;rw[if_neg c]
   rw[show rkV2 m x=shV 0 0 from by unfold rkV2;rw[if_neg c],decide_eq_false c]
   simp -dsimp (maxSteps:=1000000) (disch:=try exact dx) only[wpS,wpT,reduceEqDiff,reduceLeDiff,reduceAdd,zc47,st47,fa49_3,st4,shV_cells,shC_len,shC_all,sh_sp3,v5,brC_len,brC_s33]
   obtain⟨H8,hH8,n8,e8,g8⟩:=boxed h7 Z16 (shC 0 0)
   rw[←hH8]
   clear hH8
   have m8:=e8.n
   refine⟨by rw[get_put_old _ _ (by omega)];exact e8.kept (by omega) vl,fin _ _ (ft.trans e9) ((eb.trans (X7.trans e8)).put (by omega) _) (by show H3.n<H8.n;omega) ?_ ?_ ?_ ?_⟩
   ·rw[get_put_old _ _ (by omega)];exact e8.kept (by omega) vl
   ·rw[get_put_old _ _ (by omega)];exact e8.kept (by omega) v4
   ·exact get_put_same _ _ rfl
   ·rw[get_put_old _ _ (by omega)];exact e8.kept (by omega) v6
 ·rintro _ hd ⟨x1,x2,x3,x4,x5,x6⟩
  refine .inl ⟨x3,?_⟩
  have ed:Ext h1 (hd.put H3.n .dead):=x1.put (by omega) _
  obtain⟨K0,hK0⟩ : ∃K0,K0=hd.put H3.n .dead:=⟨_,rfl⟩
  have z0 : ∀j,j≠H3.n→K0.ext.get j=hd.ext.get j:=fun j hj=>by rw[hK0];exact get_put_old _ _ hj
  have z4:=(z0 h1.n (by omega)).trans x4
  have z5:=(z0 (h1.n+1) (by omega)).trans x5
  have z6:=(z0 (h1.n+2) (by omega)).trans x6
  have zn:K0.n=hd.n:=by rw[hK0];rfl
  have fN:F xs.length=brN m rs:=by
   show(xs.take xs.length).foldl (nextF m) (0,false)=_
   rw[List.take_of_length_le (Nat.le_refl _),hxs];rfl
  have qN:QW (brN m rs).1:=by rw[←fN];exact qF _
  rw[fN] at z5
  rw[←hK0] at ed ⊢
  clear hK0 x1 x3 x4 x5 x6 Je J0
  have a1:=ed.kept (by omega) k1
  have a2:=ed.kept (by omega) k2
  simp -dsimp (maxSteps:=1000000) (disch:=try exact dx) only[wpS,wpT,reduceEqDiff,reduceLeDiff,reduceAdd,ld80,row_of a1,tk2']
  obtain⟨lo,hlo⟩ : ∃q,q=(brN m rs).1:=⟨_,rfl⟩
  obtain⟨sc,hsc⟩ : ∃b,b=(brN m rs).2:=⟨_,rfl⟩
  rw[←hlo] at z5 qN
  rw[←hsc] at z5
  refine range2 (p:=49) (nt:=78) rfl rfl (by decide) (fun r y hfn hnt hbd hy=>?_)
  obtain⟨ys,hys⟩ : ∃l,l=lastS rs:=⟨_,rfl⟩
  let G:Nat→Rat×Bool:=fun i=>(ys.take i).foldl (lastF m) (0,true)
  have qG : ∀i,QW (G i).1:=by
   intro i
   have : ∀(l:List Seat) (a:Rat×Bool),QW a.1→QW (l.foldl (lastF m) a).1:=by
    intro l
    induction l with
    | nil=>intro a h;exact h
    | cons x l ih=>intro a h;exact ih _ (lastF_qw h)
   exact this _ _ q0
  let J2:Nat→IH→Prop:=fun i hh=>Ext h1 hh∧K0.n<hh.n∧hh.ext.get K0.n=some (.loop r)∧hh.ext.get h1.n=some (.cells (shC (shq 0).1 (shq 0).2) 0 none)∧hh.ext.get (h1.n+1)=some (.cells (brC (shq lo) (shq (G i).1) (G i).2 sc (m == 13)) 0 none)∧hh.ext.get (h1.n+2)=some (.cells [rkF m sv] 0 none)
  have J0:J2 0 (K0.new (.loop r)):=by
   refine⟨ed.new _,by simp,get_new_same _ _ rfl,?_,?_,?_⟩
   ·rw[get_new_old _ _ (by omega)];exact z4
   ·rw[get_new_old _ _ (by omega)];exact z5
   ·rw[get_new_old _ _ (by omega)];exact z6
  have Je : ∀i h h',J2 i h→Ext h h'→J2 i h':=by
   rintro i x x' ⟨a1,a2,a3,a4,a5,a6⟩ e
   have en:=e.n
   exact⟨a1.trans e,by omega,e.kept a2 a3,e.kept (by omega) a4,e.kept (by omega) a5,e.kept (by omega) a6⟩
  have it2:=last_iter (m:=m) (s.keep (E0.trans X1).keep) hl hb
  rw[←hys] at it2
  refine WV.mono (it2 y (K0.new (.loop r)) J2 (fun i hh hj=>hj.1) Je J0 ?_) ?_
  ·rintro i x hh hi ⟨x1,x2,x3,x4,x5,x6⟩
   refine hy _ hh _ x3 ?_
   simp -dsimp (maxSteps:=1000000) (disch:=try exact dx) only[wpS,wpT,reduceEqDiff,reduceLeDiff,reduceAdd,zc123,st123]
   obtain⟨H5,hH5,n5,e5,gw⟩:=boxed hh [KI 0,KI 0,KI 0,KI 0] [KI x.1.1,KI x.1.2.1,KI x.1.2.2,KI x.2]
   rw[←hH5]
   clear hH5
   obtain⟨y1,y2,y3,y4,y5,y6⟩:=Je i hh H5 ⟨x1,x2,x3,x4,x5,x6⟩ e5
   refine⟨rfl,y3,?_⟩
   rw[hfn,hnt,hbd]
   have eb:Ext h1 (H5.put K0.n (.loop (busyL r))):=y1.put (by omega) _
   obtain⟨H6,hH6⟩ : ∃H,H=H5.put K0.n (.loop (busyL r)):=⟨_,rfl⟩
   have z0 : ∀j,j≠K0.n→H6.ext.get j=H5.ext.get j:=fun j hj=>by rw[hH6];exact get_put_old _ _ hj
   have zl:H6.ext.get K0.n=some (.loop (busyL r)):=by rw[hH6];exact get_put_same _ _ rfl
   have zn:H6.n=H5.n:=by rw[hH6];rfl
   rw[←hH6] at eb ⊢
   clear hH6
   have z4:=(z0 h1.n (by omega)).trans y4
   have z5:=(z0 (h1.n+1) (by omega)).trans y5
   have z6:=(z0 (h1.n+2) (by omega)).trans y6
   have zw:=(z0 hh.n (by omega)).trans gw
   have ft:G (i+1)=lastF m (G i) x:=fold_take hi
   have fin : ∀(hf':IH) (o:Rat×Bool),G (i+1)=o→Ext h1 hf'→K0.n<hf'.n→hf'.ext.get K0.n=some (.loop (busyL r))→hf'.ext.get h1.n=some (.cells (shC (shq 0).1 (shq 0).2) 0 none)→hf'.ext.get (h1.n+1)=some (.cells (brC (shq lo) (shq o.1) o.2 sc (m == 13)) 0 none)→hf'.ext.get (h1.n+2)=some (.cells [rkF m sv] 0 none)→Value.bool true=.bool true∧J2 (i+1) (hf'.put K0.n (.loop r)):=by
    intro hf' o ho w1 w2 w3 w4 w5 w6
    refine⟨rfl,w1.put (by omega) _,w2,get_put_same _ _ rfl,?_,?_,?_⟩
    ·rw[get_put_old _ _ (by omega)];exact w4
    ·rw[get_put_old _ _ (by omega),ho];exact w5
    ·rw[get_put_old _ _ (by omega)];exact w6
   simp -dsimp (maxSteps:=1000000) (disch:=try exact dx) only[wpS,wpT,reduceEqDiff,reduceLeDiff,reduceAdd,ld128,ld123,row_of z6,row_of zw,tk4']
   refine call (wv_bound (rank_ok x cs cO)) ?_
   rintro _ h7 ⟨X7,rfl⟩
   have m7:=X7.n
   have v4:=X7.kept (by omega) z4
   have v5:=X7.kept (by omega) z5
   have v6:=X7.kept (by omega) z6
   have vl:=X7.kept (by omega) zl
   by_cases c:rkE m x=0
   ·have qr:=rkQ_qw c
    rw[show rkV2 m x=shV (shq (rkQ m x)).1 (shq (rkQ m x)).2 from by unfold rkV2;rw[if_pos c],decide_eq_true c]
    simp -dsimp (maxSteps:=1000000) (disch:=try exact dx) only[wpS,wpT,reduceEqDiff,reduceLeDiff,reduceAdd,zc47,st47,ld47,fa49_1,shV_cells,shC_len,shC_all,sh_sp3,sh_take,row_of v5,brC_len,brC_hi]
    obtain⟨H8,hH8,n8,e8,g8⟩:=boxed h7 Z16 (shC (shq (rkQ m x)).1 (shq (rkQ m x)).2)
    rw[←hH8]
    clear hH8
    refine call (shcmp_ok (p1:=shq (rkQ m x)) (p2:=shq (G i).1) (shq_lt qr) (shq_lt (qG i)) (shq_rOf qr).2 (shq_rOf (qG i)).2) ?_
    rintro _ h9 ⟨X9,rfl⟩
    rw[cmpQ_rOf qr (qG i)]
    have e79:=e8.trans X9
    have m9:=e79.n
    have m8:=e8.n
    have u4:=e79.kept (by omega) v4
    have u5:=e79.kept (by omega) v5
    have u6:=e79.kept (by omega) v6
    have ul:=e79.kept (by omega) vl
    have u8:=X9.kept (by omega) g8
    have ee:=eb.trans (X7.trans e79)
    obtain⟨hi9,hhi⟩ : ∃q,q=(G i).1:=⟨_,rfl⟩
    obtain⟨en,hen⟩ : ∃b,b=(G i).2:=⟨_,rfl⟩
    have e9:lastF m (G i) x=(if en=true∨rkQ m x<hi9 then rkQ m x else hi9,false):=by unfold lastF;rw[if_pos c,hhi,hen]
    rw[←hhi,←hen] at u5
    rw[←hhi]
    by_cases d:en=true∨rkQ m x<hi9
    ·rw[if_pos d] at e9
     have dd:(en=true)∨(en=false∧decide (cmpQ (rkQ m x) hi9<0)=true):=by
      cases en
      ·exact .inr ⟨rfl,decide_eq_true ((cmpQ_lt _ _).2 (by simpa using d))⟩
      ·exact .inl rfl
     rcases dd with rfl|⟨rfl,d2⟩
     ·clear d
      simp -dsimp (maxSteps:=1000000) (disch:=try exact dx) only[wpS,wpT,reduceEqDiff,reduceLeDiff,reduceAdd,st47,ld47,st4,fa49_1,fa49_2,ld4,row_of u5,u5,row_of u8,brC_32,brC_len,brC_shi,brC_s32,shC_len,shC_all,sh_take]
      refine⟨by rw[get_put_old _ _ (by omega),get_put_old _ _ (by omega)];exact ul,fin _ _ (ft.trans e9) ((ee.put (by omega) _).put (by omega) _) (by show K0.n<h9.n;omega) ?_ ?_ ?_ ?_⟩
      ·rw[get_put_old _ _ (by omega),get_put_old _ _ (by omega)];exact ul
      ·rw[get_put_old _ _ (by omega),get_put_old _ _ (by omega)];exact u4
      ·exact get_put_same _ _ rfl
      ·rw[get_put_old _ _ (by omega),get_put_old _ _ (by omega)];exact u6
     ·clear d
      simp -dsimp (maxSteps:=1000000) (disch:=try exact dx) only[wpS,wpT,reduceEqDiff,reduceLeDiff,reduceAdd,st47,ld47,st4,fa49_1,fa49_2,ld4,row_of u5,u5,row_of u8,brC_32,d2,brC_len,brC_shi,brC_s32,shC_len,shC_all,sh_take]
      refine⟨by rw[get_put_old _ _ (by omega),get_put_old _ _ (by omega)];exact ul,fin _ _ (ft.trans e9) ((ee.put (by omega) _).put (by omega) _) (by show K0.n<h9.n;omega) ?_ ?_ ?_ ?_⟩
      ·rw[get_put_old _ _ (by omega),get_put_old _ _ (by omega)];exact ul
      ·rw[get_put_old _ _ (by omega),get_put_old _ _ (by omega)];exact u4
      ·exact get_put_same _ _ rfl
      ·rw[get_put_old _ _ (by omega),get_put_old _ _ (by omega)];exact u6
    ·rw[if_neg d] at e9
     have d1:en=false:=by cases en;rfl;exact absurd (.inl rfl) d
     have d2:decide (cmpQ (rkQ m x) hi9<0)=false:=decide_eq_false fun e=>d (.inr ((cmpQ_lt _ _).1 e))
     rw[d1] at u5
     simp -dsimp (maxSteps:=1000000) (disch:=try exact dx) only[wpS,wpT,reduceEqDiff,reduceLeDiff,reduceAdd,st4,fa49_2,ld4,row_of u5,brC_32,d2,u5,brC_s32,brC_len]
     refine⟨by rw[get_put_old _ _ (by omega)];exact ul,fin _ _ (ft.trans e9) (ee.put (by omega) _) (by show K0.n<h9.n;omega) ?_ ?_ ?_ ?_⟩
     ·rw[get_put_old _ _ (by omega)];exact ul
     ·rw[get_put_old _ _ (by omega)];exact u4
     ·exact get_put_same _ _ rfl
     ·rw[get_put_old _ _ (by omega)];exact u6
   ·have e9:lastF m (G i) x=G i:=by unfold lastF;rw[if_neg c]
    rw[show rkV2 m x=shV 0 0 from by unfold rkV2;rw[if_neg c],decide_eq_false c]
    simp -dsimp (maxSteps:=1000000) (disch:=try exact dx) only[wpS,wpT,reduceEqDiff,reduceLeDiff,reduceAdd,zc47,st47,shV_cells,shC_len,shC_all,sh_sp3]
    obtain⟨H8,hH8,n8,e8,g8⟩:=boxed h7 Z16 (shC 0 0)
    rw[←hH8]
    clear hH8
    have m8:=e8.n
    exact⟨e8.kept (by omega) vl,fin _ _ (ft.trans e9) (eb.trans (X7.trans e8)) (by show K0.n<H8.n;omega) (e8.kept (by omega) vl) (e8.kept (by omega) v4) (e8.kept (by omega) v5) (e8.kept (by omega) v6)⟩
  ·rintro _ hd ⟨x1,x2,x3,x4,x5,x6⟩
   refine .inl ⟨x3,?_⟩
   have ed2:Ext h1 (hd.put K0.n .dead):=x1.put (by omega) _
   obtain⟨K1,hK1⟩ : ∃K1,K1=hd.put K0.n .dead:=⟨_,rfl⟩
   have z0 : ∀j,j≠K0.n→K1.ext.get j=hd.ext.get j:=fun j hj=>by rw[hK1];exact get_put_old _ _ hj
   have w4:=(z0 h1.n (by omega)).trans x4
   have w5:=(z0 (h1.n+1) (by omega)).trans x5
   have gN:G ys.length=brL m rs:=by
    show(ys.take ys.length).foldl (lastF m) (0,true)=_
    rw[List.take_of_length_le (Nat.le_refl _),hys];rfl
   rw[gN] at w5
   rw[←hK1] at ed2 ⊢
   clear hK1
   have b2:=ed2.kept (by omega) k2
   have bn:=ed2.n
   cases sc with
   | false =>
    simp -dsimp (maxSteps:=1000000) (disch:=try exact dx) only[wpS,wpT,reduceEqDiff,reduceLeDiff,reduceAdd,st49,fa49_3,ld4,ld49,row_of w5,brC_33,brC_take,brC_len,brC_all,brC_all0,b2]
    refine⟨(E0.trans (X1.trans ed2)).put (by omega) _,?_⟩
    unfold brkV
    rw[←hsc,←hlo];rfl
   | true =>
    simp -dsimp (maxSteps:=1000000) (disch:=try exact dx) only[wpS,wpT,reduceEqDiff,reduceLeDiff,reduceAdd,st47,ld47,st49,fa49_3,fa49_0,ld4,ld49,row_of w5,row_of w4,w5,shC_len,shC_all,sh_take,brC_33,brC_take,brC_len,brC_all,brC_all0,brC_slo,b2]
    refine⟨((E0.trans (X1.trans ed2)).put (by omega) _).put (by omega) _,?_⟩
    unfold brkV
    rw[←hsc];rfl
end Go.Id

namespace Go.Id
open Go
open Go.Proofs.Tryz (prog)
open Nat (reduceAdd reduceEqDiff reduceLeDiff)
set_option maxHeartbeats 16000000
theorem brC_plain (lo hi:Nat×Nat) (en sc sq:Bool):plain (brV lo hi en sc sq)=true:=by
 have h1:=sh_plain lo.1 lo.2
 have h2:=sh_plain hi.1 hi.2
 simp only[plain,List.all_toArray,brC,List.all_append] at h1 h2 ⊢
 rw[h1,h2];rfl
theorem ex_lo (lo hi:Nat×Nat) (en sc sq:Bool):((brC lo hi en sc sq).toArray).extract 0 (0+16)=(shC lo.1 lo.2).toArray:=by
 simp only[List.extract_toArray,List.extract_eq_take_drop]
 exact congrArg List.toArray (brC_lo lo hi en sc sq)
theorem ex_hi (lo hi:Nat×Nat) (en sc sq:Bool):((brC lo hi en sc sq).toArray).extract 16 (16+16)=(shC hi.1 hi.2).toArray:=by
 simp only[List.extract_toArray,List.extract_eq_take_drop]
 exact congrArg List.toArray (brC_hi lo hi en sc sq)
theorem brC_34 (lo hi:Nat×Nat) (en sc sq:Bool):(brC lo hi en sc sq)[34]?=some (.bool sq):=by
 rw[brC,List.getElem?_append_right (by rw[shC_len];omega),shC_len,List.getElem?_append_right (by rw[shC_len];omega),shC_len];rfl
abbrev InP (p:Nat×Nat):Prop:=p.1<W8∧p.2<W8
def brSame (lo hi:Nat×Nat) (en sc sq:Bool) (lo' hi':Nat×Nat) (en' sc' sq':Bool):Bool:=decide (lo.1=lo'.1∧lo.2=lo'.2) && (decide (hi.1=hi'.1∧hi.2=hi'.2) && ((en == en') && ((sc == sc') && (sq == sq'))))
theorem br_equalIn {lo hi lo' hi':Nat×Nat} (a1:InP lo) (a2:InP hi) (a3:InP lo') (a4:InP hi') (en sc sq en' sc' sq':Bool):pureRun prog (Op.equal 49 (brV lo hi en sc sq) (brV lo' hi' en' sc' sq'))=some (brSame lo hi en sc sq lo' hi' en' sc' sq'):=by
 have key:=pr_equal_struct (P:=prog) u49 (by kernel_rfl) 9999 (brC lo hi en sc sq).toArray (brC lo' hi' en' sc' sq').toArray (fun f=>if f.name = "Low" then decide (lo.1=lo'.1∧lo.2=lo'.2) else if f.name = "High" then decide (hi.1=hi'.1∧hi.2=hi'.2) else if f.name = "Endless" then en == en' else if f.name = "Scarce" then sc == sc' else sq == sq') (by
  intro f hf
  simp only[List.mem_cons,List.not_mem_nil,or_false] at hf
  rcases hf with rfl|rfl|rfl|rfl|rfl
  ·exact⟨by decide,.agg (shC lo.1 lo.2).toArray,.agg (shC lo'.1 lo'.2).toArray,
    (pr_part_agg ag47 sz47 _ 0).trans (by rw[ex_lo]),(pr_part_agg ag47 sz47 _ 0).trans (by rw[ex_lo]),sh_equalIn a1.1 a1.2 a3.1 a3.2 9996⟩
  ·exact⟨by decide,.agg (shC hi.1 hi.2).toArray,.agg (shC hi'.1 hi'.2).toArray,
    (pr_part_agg ag47 sz47 _ 16).trans (by rw[ex_hi]),(pr_part_agg ag47 sz47 _ 16).trans (by rw[ex_hi]),sh_equalIn a2.1 a2.2 a4.1 a4.2 9996⟩
  ·exact⟨by decide,.bool en,.bool en',pr_part_scal ag4 (by rw[List.getElem?_toArray];exact brC_32 _ _ _ _ _),pr_part_scal ag4 (by rw[List.getElem?_toArray];exact brC_32 _ _ _ _ _),pr_equal_bool u4 _ _ _⟩
  ·exact⟨by decide,.bool sc,.bool sc',pr_part_scal ag4 (by rw[List.getElem?_toArray];exact brC_33 _ _ _ _ _),pr_part_scal ag4 (by rw[List.getElem?_toArray];exact brC_33 _ _ _ _ _),pr_equal_bool u4 _ _ _⟩
  ·exact⟨by decide,.bool sq,.bool sq',pr_part_scal ag4 (by rw[List.getElem?_toArray];exact brC_34 _ _ _ _ _),pr_part_scal ag4 (by rw[List.getElem?_toArray];exact brC_34 _ _ _ _ _),pr_equal_bool u4 _ _ _⟩)
 refine key.trans (congrArg some ?_)
 simp only[List.all_cons,List.all_nil,Bool.and_true,if_true]
 rw[if_neg (by decide),if_neg (by decide),if_neg (by decide),if_neg (by decide),if_neg (by decide),if_neg (by decide),if_neg (by decide),if_neg (by decide),if_neg (by decide),if_neg (by decide)]
 rfl
theorem br_eql {lo hi lo' hi':Nat×Nat} (a1:InP lo) (a2:InP hi) (a3:InP lo') (a4:InP hi') (en sc sq en' sc' sq':Bool) (ox oy:Operand):binop prog .eql 49 ox oy (brV lo hi en sc sq) (brV lo' hi' en' sc' sq')=some (.bool (brSame lo hi en sc sq lo' hi' en' sc' sq')) :=
 binop_eql_gen (by kernel_rfl) (brC_plain _ _ _ _ _) (brC_plain _ _ _ _ _) (br_equalIn a1 a2 a3 a4 _ _ _ _ _ _) ox oy
theorem brSame_zero {q:Rat} (h:QW q) (hi:Nat×Nat) (en sc sq:Bool):brSame (shq q) hi en sc sq (0,0) (0,0) false false false=false:=by
 have h2:=(shq_rOf h).2.1
 unfold brSame
 rw[decide_eq_false]
 ·rfl
 ·rintro⟨_,e⟩
  have e:(shq q).2=0:=e
  rw[e,show wdI 0=0 from by decide +kernel] at h2
  exact absurd h2 (by decide)
theorem br_lit:Value.agg #[ZW,ZW,ZW,ZW,ZW,ZW,ZW,ZW,ZW,ZW,ZW,ZW,ZW,ZW,ZW,ZW,ZW,ZW,ZW,ZW,ZW,ZW,ZW,ZW,ZW,ZW,ZW,ZW,ZW,ZW,ZW,ZW,.bool false,.bool false,.bool false]=brV (0,0) (0,0) false false false:=by rw[brV,←br_zero]
theorem br_eql0 {q:Rat} {hi:Nat×Nat} (h:QW q) (h2:InP hi) (en sc sq:Bool) (ox oy:Operand):binop prog .eql 49 ox oy (brV (shq q) hi en sc sq) (.agg #[ZW,ZW,ZW,ZW,ZW,ZW,ZW,ZW,ZW,ZW,ZW,ZW,ZW,ZW,ZW,ZW,ZW,ZW,ZW,ZW,ZW,ZW,ZW,ZW,ZW,ZW,ZW,ZW,ZW,ZW,ZW,ZW,.bool false,.bool false,.bool false])=some (.bool false):=by
 rw[br_lit,br_eql (shq_lt h) h2 ⟨by decide +kernel,by decide +kernel⟩ ⟨by decide +kernel,by decide +kernel⟩,brSame_zero h]
theorem brN_qw (m:Int) (rs:List Reg):QW (brN m rs).1:=by
 have : ∀(l:List Seat) (a:Rat×Bool),QW a.1→QW (l.foldl (nextF m) a).1:=by
  intro l
  induction l with
  | nil=>intro a h;exact h
  | cons x l ih=>intro a h;exact ih _ (nextF_qw h)
 exact this _ _ qw_zero
theorem brL_qw (m:Int) (rs:List Reg):QW (brL m rs).1:=by
 have : ∀(l:List Seat) (a:Rat×Bool),QW a.1→QW (l.foldl (lastF m) a).1:=by
  intro l
  induction l with
  | nil=>intro a h;exact h
  | cons x l ih=>intro a h;exact ih _ (lastF_qw h)
 exact this _ _ qw_zero
structure Brk where
 lo:Rat
 hi:Rat
 en:Bool
 sc:Bool
 sq:Bool
def Brk.ok (b:Brk):Prop:=QW b.lo∧QW b.hi
def Brk.v (b:Brk):Value:=brV (shq b.lo) (shq b.hi) b.en b.sc b.sq
def brk (m:Int) (rs:List Reg):Brk:=⟨if (brN m rs).2=true then 0 else (brN m rs).1,(brL m rs).1,(brL m rs).2,(brN m rs).2,m == 13⟩
theorem brk_ok (m:Int) (rs:List Reg):(brk m rs).ok:=⟨by unfold brk;dsimp only;split;exact qw_zero;exact brN_qw m rs,brL_qw m rs⟩
theorem brkV_v (m:Int) (rs:List Reg):brkV m rs=(brk m rs).v:=rfl
def findE (people won:List Int) (m:Int) (least:List Int):Int:=if openErr people won m least≠0 then openErr people won m least else if certB m (regsV people won least)=true then 0 else 9
def findV (people won:List Int) (m:Int) (least:List Int):Value:=if findE people won m least=0 then (brk m (regsV people won least)).v else brV (0,0) (0,0) false false false
theorem find_ok {h:IH} {vp vw vl:Value} {m:Int} {people won least:List Int} (hp:SlOf h 1 vp people.length (people.map KI)) (hw:SlOf h 1 vw won.length (won.map KI)) (hl:SlOf h 1 vl least.length (least.map KI)) (lp:people.length≤1000000000) (lw:won.length≤1000000000) (ll:least.length≤1000000000) :
  WV prog (.func (.func 15) #[] #[]) [vp,vw,KI m,vl] h fun r h'=>Ext h h'∧r=.tuple #[findV people won m least,KI (findE people won m least)]:=by
 refine enter (nt:=36) (rs:=[.cell 8 49,.tmp 9]) Proofs.Tryz.func15 rfl rfl rfl (by simp) ?_
 simp -dsimp (maxSteps:=1000000) (disch:=try exact dx) only[wpS,reduceEqDiff,reduceAdd,zc49]
 obtain⟨H0,hH0⟩ : ∃H,H=h.new (.cells Z35 0 none):=⟨_,rfl⟩
 have E0:Ext h H0:=by rw[hH0];exact(Ext.refl h).new _
 have g0:H0.ext.get h.n=some (.cells Z35 0 none):=by rw[hH0];simp (disch:=try exact dx) only[get_new_same]
 have n0:H0.n=h.n+1:=by rw[hH0];simp
 rw[←hH0]
 clear hH0
 refine call (open_ok (hp.keep E0.keep) (hw.keep E0.keep) (hl.keep E0.keep) lp lw ll) ?_
 rintro r h1 ⟨X1,o⟩
 have m1:=X1.n
 by_cases c:openErr people won m least=0
 ·obtain⟨s,rfl,hs⟩:=o.ok c
  have cs:=hs.cells
  have cO:cellOK s=true:=by obtain⟨oa,ok,ho⟩:=hs.form;rw[ho];rfl
  have R:=regs_ok c
  obtain⟨H2,hH2,n2,E2,g2⟩:=boxed h1 [KI 0,.slice none 0 0] [KI m,s]
  simp -dsimp (maxSteps:=1000000) (disch:=try exact dx) only[wpS,wpT,reduceEqDiff,reduceLeDiff,reduceAdd,zc80,st80,ld80,cO,tk2']
  rw[←hH2]
  clear hH2
  refine call (certified_ok (hs.keep E2.keep) (by have:=R.len;omega) (fun r hr=>(R.b r hr).2.1)) ?_
  rintro _ h3 ⟨X3,rfl⟩
  have m3:=X3.n
  have Y3:=X1.trans (E2.trans X3)
  cases d:certB m (regsV people won least)
  ·have e:findE people won m least=9:=by unfold findE;rw[c,d];rfl
   simp -dsimp (maxSteps:=1000000) (disch:=try exact dx) only[wpS,wpT,reduceEqDiff,reduceLeDiff,reduceAdd,bv49,st49,ld49,Y3.kept (by omega) g0]
   refine⟨(E0.trans Y3).put (by omega) _,?_⟩
   unfold findV
   rw[e,if_neg (by decide),←br_lit];rfl
  ·have e:findE people won m least=0:=by unfold findE;rw[c,d];rfl
   simp -dsimp (maxSteps:=1000000) (disch:=try exact dx) only[wpS,wpT,reduceEqDiff,reduceLeDiff,reduceAdd,ld80,tk2',row_of (X3.kept (by omega) g2)]
   refine call (bracket_ok (hs.keep (E2.trans X3).keep) (by have:=R.len;omega) (fun r hr=>(R.b r hr).2.1)) ?_
   rintro _ h4 ⟨X4,rfl⟩
   have m4:=X4.n
   have Y4:=Y3.trans X4
   have Bk:=brk_ok m (regsV people won least)
   rw[brkV_v]
   obtain⟨b,hb⟩ : ∃b,b=brk m (regsV people won least):=⟨_,rfl⟩
   rw[←hb] at Bk ⊢
   rw[show b.v=brV (shq b.lo) (shq b.hi) b.en b.sc b.sq from rfl]
   have q0:=fun ox oy=>br_eql0 Bk.1 (shq_lt Bk.2) b.en b.sc b.sq ox oy
   simp -dsimp (maxSteps:=1000000) (disch:=try exact dx) only[wpS,wpT,reduceEqDiff,reduceLeDiff,reduceAdd,zc49,bv49,st49,ld49,brC_len,brC_all,brC_take,brC_all0,q0,Y4.kept (by omega) g0]
   refine⟨((E0.trans Y4).new _).put (by omega) _ |>.put (by omega) _,?_⟩
   unfold findV
   rw[e,if_pos rfl,←hb];rfl
 ·have hr:=o.no c
  subst hr
  have d:((openErr people won m least) != 0)=true:=by simpa using c
  have e:findE people won m least=openErr people won m least:=by unfold findE;rw[if_pos c]
  simp -dsimp (maxSteps:=1000000) (disch:=try exact dx) only[wpS,wpT,reduceEqDiff,reduceLeDiff,reduceAdd,zc80,st80,bv49,st49,ld49,d,X1.kept (by omega) g0]
  refine⟨((E0.trans X1).new _).put (by omega) _ |>.put (by omega) _,?_⟩
  unfold findV
  rw[e,if_neg c,←br_lit];rfl
end Go.Id

namespace Go.Id
open Go
end Go.Id

namespace Go.Id
open Go
theorem inR1 (a b m:Int):inR a b [m]=decide (a≤m∧m≤b):=by
 rw[Bool.eq_iff_iff,inR_iff]
 simp
theorem quotaOK_iff {l:List Int}:quotaOK l=true↔l.length≤60∧(∀n∈l,0≤n∧n≤1000000000)∧l.sum≠0:=by
 unfold quotaOK
 rw[Bool.and_eq_true,Bool.and_eq_true,inR_iff,decide_eq_true_eq]
 simp
end Go.Id

namespace Go.Id
open Go
end Go.Id

namespace Go.Id
open Go
theorem aboveErr_eq (m p s q t:Int):aboveErr m p s q t = !(decide ((11≤m∧m≤15)∧(0≤s∧s≤1000)∧(0≤t∧t≤1000)∧(1≤p∧p≤1000000000)∧(1≤q∧q≤1000000000))):=by
 have e1:inR 0 1000 [s,t]=decide ((0≤s∧s≤1000)∧(0≤t∧t≤1000)):=by rw[Bool.eq_iff_iff,inR_iff];simp
 have e2:inR 1 1000000000 [p,q]=decide ((1≤p∧p≤1000000000)∧(1≤q∧q≤1000000000)):=by rw[Bool.eq_iff_iff,inR_iff];simp
 unfold aboveErr
 rw[inR1,e1,e2,Bool.eq_iff_iff]
 simp
 omega
end Go.Id

namespace Go.Id
open Go
end Go.Id

namespace Go.Id
open Go
end Go.Id

namespace Go.Id
open Go
end Go.Id
