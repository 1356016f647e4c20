/-
  Contracts: package bracket: the bracket of an allocation; Find. Contracts: package bracket: the bracket of an allocation.
-/
import Derived.Test.YthpefnfbnaekaaaGreatBracketDividesAo
import Derived.Test.YthpefnfbnaekaaaGreatBracketDividesAl
import Derived.Test.YthpefnfbnaekaaaGreatBracketDividesAg
import Derived.Test.YthpefnfbnaekaaaGreatBracketDividesAn
import Derived.Test.YthpefnfbnaekaaaGreatBracketDividesAm
set_option linter.unusedVariables false
set_option linter.unusedSimpArgs false
set_option linter.defProp false
set_option linter.deprecated false
namespace Go.Id
open Go
theorem splice_left (a b c:List Value) (h:c.length=a.length):IH.splice (a ++ b) 0 c=c ++ b:=by
 show List.take 0 (a ++ b) ++ (c ++ List.drop (0+c.length) (a ++ b))=_
 rw[h,Nat.zero_add,List.drop_left];rfl
theorem splice_right (a b c:List Value) (n k:Nat) (h:n=a.length+k):IH.splice (a ++ b) n c=a ++ IH.splice b k c:=by
 subst h
 show List.take (a.length+k) (a ++ b) ++ (c ++ List.drop (a.length+k+c.length) (a ++ b))=a ++ (List.take k b ++ (c ++ List.drop (k+c.length) b))
 rw[List.take_append,List.drop_append,List.take_of_length_le (by omega),List.drop_of_length_le (by omega),show a.length+k - a.length=k from by omega,show a.length+k+c.length - a.length=k+c.length from by omega,List.append_assoc];rfl
def brC (lo hi:Nat×Nat) (en sc sq:Bool):List Value:=shC lo.1 lo.2 ++ (shC hi.1 hi.2 ++ [.bool en,.bool sc,.bool sq])
abbrev brV (lo hi:Nat×Nat) (en sc sq:Bool):Value:=.agg (brC lo hi en sc sq).toArray
theorem brC_len (lo hi:Nat×Nat) (en sc sq:Bool):(brC lo hi en sc sq).length=35:=by simp[brC,shC_len]
theorem brC_all (lo hi:Nat×Nat) (en sc sq:Bool):(brC lo hi en sc sq).all cellOK=true:=by simp[brC,shC_all,cellOK]
theorem brC_take (lo hi:Nat×Nat) (en sc sq:Bool):List.take 35 (List.drop 0 (brC lo hi en sc sq))=brC lo hi en sc sq:=by rw[List.drop_zero,List.take_of_length_le (by rw[brC_len];omega)]
theorem brC_lo (lo hi:Nat×Nat) (en sc sq:Bool):List.take 16 (List.drop 0 (brC lo hi en sc sq))=shC lo.1 lo.2:=by
 rw[List.drop_zero,brC,List.take_append_of_le_length (by rw[shC_len];omega),List.take_of_length_le (by rw[shC_len];omega)]
theorem brC_hi (lo hi:Nat×Nat) (en sc sq:Bool):List.take 16 (List.drop 16 (brC lo hi en sc sq))=shC hi.1 hi.2:=by
 rw[brC,List.drop_append,List.drop_of_length_le (by rw[shC_len];omega),shC_len,List.nil_append,List.drop_zero,List.take_append_of_le_length (by rw[shC_len];omega),List.take_of_length_le (by rw[shC_len];omega)]
theorem brC_32 (lo hi:Nat×Nat) (en sc sq:Bool):(brC lo hi en sc sq)[32]?=some (.bool en):=by
 rw[brC,List.getElem?_append_right (by rw[shC_len];omega),shC_len,List.getElem?_append_right (by rw[shC_len];omega),shC_len];rfl
theorem brC_33 (lo hi:Nat×Nat) (en sc sq:Bool):(brC lo hi en sc sq)[33]?=some (.bool sc):=by
 rw[brC,List.getElem?_append_right (by rw[shC_len];omega),shC_len,List.getElem?_append_right (by rw[shC_len];omega),shC_len];rfl
theorem brC_slo (lo hi:Nat×Nat) (en sc sq:Bool) (a b:Nat):IH.splice (brC lo hi en sc sq) 0 (shC a b)=brC (a,b) hi en sc sq:=splice_left _ _ _ (by rw[shC_len,shC_len])
theorem brC_shi (lo hi:Nat×Nat) (en sc sq:Bool) (a b:Nat):IH.splice (brC lo hi en sc sq) 16 (shC a b)=brC lo (a,b) en sc sq:=by
 rw[brC,splice_right _ _ _ 16 0 (by rw[shC_len]),splice_left _ _ _ (by rw[shC_len,shC_len])];rfl
theorem brC_s32 (lo hi:Nat×Nat) (en sc sq b:Bool):IH.splice (brC lo hi en sc sq) 32 [.bool b]=brC lo hi b sc sq:=by
 rw[brC,splice_right _ _ _ 32 16 (by rw[shC_len]),splice_right _ _ _ 16 0 (by rw[shC_len])];rfl
theorem brC_s33 (lo hi:Nat×Nat) (en sc sq b:Bool):IH.splice (brC lo hi en sc sq) 33 [.bool b]=brC lo hi en b sq:=by
 rw[brC,splice_right _ _ _ 33 17 (by rw[shC_len]),splice_right _ _ _ 17 1 (by rw[shC_len])];rfl
abbrev Z35:List Value:=[ZW,ZW,ZW,ZW,ZW,ZW,ZW,ZW,ZW,ZW,ZW,ZW,ZW,ZW,ZW,ZW,ZW,ZW,ZW,ZW,ZW,ZW,ZW,ZW,ZW,ZW,ZW,ZW,ZW,ZW,ZW,ZW,.bool false,.bool false,.bool false]
theorem brC_all0 (lo hi:Nat×Nat) (en sc sq:Bool):IH.splice Z35 0 (brC lo hi en sc sq)=brC lo hi en sc sq:=splice_all (by rw[brC_len];rfl)
theorem br_zero:Z35=brC (0,0) (0,0) false false false:=by rw[brC,←sh_zero];rfl
theorem brC_s34 (lo hi:Nat×Nat) (en sc sq b:Bool):IH.splice (brC lo hi en sc sq) 34 [.bool b]=brC lo hi en sc b:=by
 rw[brC,splice_right _ _ _ 34 18 (by rw[shC_len]),splice_right _ _ _ 18 2 (by rw[shC_len])];rfl
theorem br_s0 (a b:Nat):IH.splice Z35 0 (shC a b)=brC (a,b) (0,0) false false false:=by rw[br_zero,brC_slo]
def nextF (m:Int) (st:Rat×Bool) (x:Seat):Rat×Bool:=if rkE m x=0 then (qmax st.1 (rkQ m x),st.2) else (st.1,true)
def lastF (m:Int) (st:Rat×Bool) (x:Seat):Rat×Bool:=if rkE m x=0 then (if st.2=true∨rkQ m x<st.1 then rkQ m x else st.1,false) else st
def brN (m:Int) (rs:List Reg):Rat×Bool:=(nextS rs).foldl (nextF m) (0,false)
def brL (m:Int) (rs:List Reg):Rat×Bool:=(lastS rs).foldl (lastF m) (0,true)
def brkV (m:Int) (rs:List Reg):Value:=brV (shq (if (brN m rs).2=true then 0 else (brN m rs).1)) (shq (brL m rs).1) (brL m rs).2 (brN m rs).2 (m == 13)
theorem qw_zero:QW 0:=by have:=qw_small (n:=0) (d:=1) (by decide) (by decide) (by decide);rwa [Rat.zero_divInt] at this
theorem qw_max {x y:Rat} (hx:QW x) (hy:QW y):QW (qmax x y):=by unfold qmax;split<;>assumption
theorem rkQ_qw {m:Int} {x:Seat} (h:rkE m x=0):QW (rkQ m x):=by
 unfold rkE rankErr at h
 split at h
 ·omega
 ·rename_i h1
  split at h
  ·omega
  ·rename_i h2
   obtain⟨b,c⟩:inR 0 1000 [x.2]=true∧inR 0 1000000000 [x.1.1]=true:=by
    generalize inR 11 15 [m]=a at h1
    generalize inR 0 1000 [x.2]=b at h1 ⊢
    generalize inR 0 1000000000 [x.1.1]=c at h1 ⊢
    revert h1
    cases a<;>cases b<;>cases c<;>decide
   have d1:=inR_iff.1 b x.2 (by simp)
   have d2:=inR_iff.1 c x.1.1 (by simp)
   exact rankQ_qw (by omega) (by omega) (fun e=>h2 (by unfold postZ;rw[e];rfl))
theorem nextF_qw {m:Int} {st:Rat×Bool} {x:Seat} (h:QW st.1):QW (nextF m st x).1:=by
 unfold nextF
 split
 ·rename_i c;exact qw_max h (rkQ_qw c)
 ·exact h
theorem lastF_qw {m:Int} {st:Rat×Bool} {x:Seat} (h:QW st.1):QW (lastF m st x).1:=by
 unfold lastF
 split
 ·rename_i c;dsimp only;split
  ·exact rkQ_qw c
  ·exact h
 ·exact h
theorem fold_take {α:Type} {f:α→Seat→α} {a:α} {l:List Seat} {i:Nat} {x:Seat} (h:l[i]?=some x):(l.take (i+1)).foldl f a=f ((l.take i).foldl f a) x:=by
 rw[List.take_add_one,h,List.foldl_append];rfl
end Go.Id

namespace Go.Id
open Go
open Nat (reduceAdd reduceEqDiff reduceLeDiff)
set_option maxHeartbeats 16000000
theorem qmax_rOf {x y:Rat} (hx:QW x) (hy:QW y):qmax (rOf (shq x)) (rOf (shq y))=qmax x y:=by rw[(shq_rOf hx).1,(shq_rOf hy).1]
theorem cmpQ_lt (x y:Rat):(cmpQ x y<0)↔x<y:=by
 unfold cmpQ
 split
 ·rename_i h;exact⟨fun _=>h,fun _=>by omega⟩
 ·rename_i h
  split
  ·exact⟨fun h=>absurd h (by omega),fun h2=>absurd h2 h⟩
  ·exact⟨fun h=>absurd h (by omega),fun h2=>absurd h2 h⟩
theorem box3p (h:IH) (a b c d e f:List Value) : ∃H,H=((((((h.new (.cells a 0 none)).put h.n (.cells b 0 none)).new (.cells c 0 none)).put (h.n+1) (.cells d 0 none)).new (.cells e 0 none)).put (h.n+1+1) (.cells f 0 none))∧H.n=h.n+3∧Ext h H∧H.ext.get h.n=some (.cells b 0 none)∧H.ext.get (h.n+1)=some (.cells d 0 none)∧H.ext.get (h.n+2)=some (.cells f 0 none) :=
 ⟨_,rfl,rfl,((((((Ext.refl h).new _).put (by omega) _).new _).put (by omega) _).new _).put (by omega) _,by simp (disch:=try exact dx) only[get_new_old,get_put_same,get_put_old],by simp (disch:=try exact dx) only[get_new_old,get_put_same,get_put_old],by simp (disch:=try exact dx) only[get_put_same]⟩
abbrev rkF (m:Int) (sv:Value):Value:=.func (.func 84) #[hallV m sv] #[]
set_option maxRecDepth 20000 in
theorem bracket_ok {h:IH} {sv:Value} {m:Int} {rs:List Reg} (s:RegSl h sv rs) (hl:rs.length≤1000) (hb : ∀r∈rs,0≤r.2.1∧r.2.1≤1000) :
  WV Proofs.Tryz.prog (.func (.func 38) #[] #[]) [hallV m sv] h fun r h'=>Ext h h'∧r=brkV m rs:=by
 have cs:=s.cells
 have cO:cellOK sv=true:=by obtain⟨oa,ok,ho⟩:=s.form;rw[ho];rfl
 have q0:=qw_zero
 refine enter (nt:=78) (rs:=[.cell 2 49]) Proofs.Tryz.func38 rfl rfl rfl (by simp) ?_
 simp -dsimp (maxSteps:=1000000) (disch:=try exact dx) only[wpS,zc49]
 obtain⟨H0,hH0,n0,E0,g1,g2⟩:=boxes2 h [KI m,sv] Z35
 rw[←hH0]
 clear hH0
 refine call (shof_ok 0 1 ⟨by omega,by omega⟩ ⟨by omega,by omega⟩ (by omega)) ?_
 rintro _ h1 ⟨X1,rfl⟩
 rw[Rat.zero_divInt,shareV_shq]
 have m1:=X1.n
 have k1:=X1.kept (by omega) g1
 have k2:=X1.kept (by omega) g2
 simp -dsimp (maxSteps:=1000000) (disch:=try exact dx) only[wpS,wpT,reduceEqDiff,reduceLeDiff,reduceAdd,zc49,zc47,st47,ld47,fa80_0,ld3,bv49,pl49_0,pl49_1,pl49_2,pl49_4,st49,ld80,zc128,st128,shV_cells,shC_len,shC_all,sh_sp3,sh_take,row_of k1,br_s0,brC_shi,brC_s32,brC_s34,brC_len,brC_all,brC_all0,tk2']
 obtain⟨H3,hH3,n3,E3,g3,g4,g5⟩:=box3p h1 Z16 (shC (shq 0).1 (shq 0).2) Z35 (brC (shq 0) (shq 0) true false (m == 13)) [.nilFunc] [rkF m sv]
 rw[show brC ((shq 0).1,(shq 0).2) ((shq 0).1,(shq 0).2) true false (m == 13)=brC (shq 0) (shq 0) true false (m == 13) from rfl]
 rw[←hH3]
 clear hH3
 refine range2 (p:=29) (nt:=78) rfl rfl (by decide) (fun r y hfn hnt hbd hy=>?_)
 obtain⟨xs,hxs⟩ : ∃l,l=nextS rs:=⟨_,rfl⟩
 let F:Nat→Rat×Bool:=fun i=>(xs.take i).foldl (nextF m) (0,false)
 have qF : ∀i,QW (F i).1:=by
  intro i
  have : ∀(l:List Seat) (a:Rat×Bool),QW a.1→QW (l.foldl (nextF m) a).1:=by
   intro l
   induction l with
   | nil=>intro a h;exact h
   | cons x l ih=>intro a h;exact ih _ (nextF_qw h)
  exact this _ _ q0
 let J:Nat→IH→Prop:=fun i hh=>Ext h1 hh∧H3.n<hh.n∧hh.ext.get H3.n=some (.loop r)∧hh.ext.get h1.n=some (.cells (shC (shq 0).1 (shq 0).2) 0 none)∧hh.ext.get (h1.n+1)=some (.cells (brC (shq (F i).1) (shq 0) true (F i).2 (m == 13)) 0 none)∧hh.ext.get (h1.n+2)=some (.cells [rkF m sv] 0 none)
 have J0:J 0 (H3.new (.loop r)):=by
  refine⟨E3.new _,by simp,get_new_same _ _ rfl,?_,?_,?_⟩
  ·rw[get_new_old _ _ (by omega)];exact g3
  ·rw[get_new_old _ _ (by omega)];exact g4
  ·rw[get_new_old _ _ (by omega)];exact g5
 have Je : ∀i h h',J i h→Ext h h'→J i h':=by
  rintro i x x' ⟨a1,a2,a3,a4,a5,a6⟩ e
  have en:=e.n
  exact⟨a1.trans e,by omega,e.kept a2 a3,e.kept (by omega) a4,e.kept (by omega) a5,e.kept (by omega) a6⟩
 have it:=next_iter (m:=m) (s.keep (E0.trans X1).keep) hl
 rw[←hxs] at it
 refine WV.mono (it y (H3.new (.loop r)) J (fun i hh hj=>hj.1) Je J0 ?_) ?_
 ·rintro i x hh hi ⟨x1,x2,x3,x4,x5,x6⟩
  refine hy _ hh _ x3 ?_
  simp -dsimp (maxSteps:=1000000) (disch:=try exact dx) only[wpS,wpT,reduceEqDiff,reduceLeDiff,reduceAdd,zc123,st123]
  obtain⟨H5,hH5,n5,e5,gw⟩:=boxed hh [KI 0,KI 0,KI 0,KI 0] [KI x.1.1,KI x.1.2.1,KI x.1.2.2,KI x.2]
  rw[←hH5]
  clear hH5
  obtain⟨y1,y2,y3,y4,y5,y6⟩:=Je i hh H5 ⟨x1,x2,x3,x4,x5,x6⟩ e5
  refine⟨rfl,y3,?_⟩
  rw[hfn,hnt,hbd]
  have eb:Ext h1 (H5.put H3.n (.loop (busyL r))):=y1.put (by omega) _
  obtain⟨H6,hH6⟩ : ∃H,H=H5.put H3.n (.loop (busyL r)):=⟨_,rfl⟩
  have z0 : ∀j,j≠H3.n→H6.ext.get j=H5.ext.get j:=fun j hj=>by rw[hH6];exact get_put_old _ _ hj
  have zl:H6.ext.get H3.n=some (.loop (busyL r)):=by rw[hH6];exact get_put_same _ _ rfl
  have zn:H6.n=H5.n:=by rw[hH6];rfl
  rw[←hH6] at eb ⊢
  clear hH6
  have z4:=(z0 h1.n (by omega)).trans y4
  have z5:=(z0 (h1.n+1) (by omega)).trans y5
  have z6:=(z0 (h1.n+2) (by omega)).trans y6
  have zw:=(z0 hh.n (by omega)).trans gw
  have ft:F (i+1)=nextF m (F i) x:=fold_take hi
  have fin : ∀(hf':IH) (o:Rat×Bool),F (i+1)=o→Ext h1 hf'→H3.n<hf'.n→hf'.ext.get H3.n=some (.loop (busyL r))→hf'.ext.get h1.n=some (.cells (shC (shq 0).1 (shq 0).2) 0 none)→hf'.ext.get (h1.n+1)=some (.cells (brC (shq o.1) (shq 0) true o.2 (m == 13)) 0 none)→hf'.ext.get (h1.n+2)=some (.cells [rkF m sv] 0 none)→Value.bool true=.bool true∧J (i+1) (hf'.put H3.n (.loop r)):=by
   intro hf' o ho w1 w2 w3 w4 w5 w6
   refine⟨rfl,w1.put (by omega) _,w2,get_put_same _ _ rfl,?_,?_,?_⟩
   ·rw[get_put_old _ _ (by omega)];exact w4
   ·rw[get_put_old _ _ (by omega),ho];exact w5
   ·rw[get_put_old _ _ (by omega)];exact w6
  simp -dsimp (maxSteps:=1000000) (disch:=try exact dx) only[wpS,wpT,reduceEqDiff,reduceLeDiff,reduceAdd,ld128,ld123,row_of z6,row_of zw,tk4']
  refine call (wv_bound (rank_ok x cs cO)) ?_
  rintro _ h7 ⟨X7,rfl⟩
  have m7:=X7.n
  have v4:=X7.kept (by omega) z4
  have v5:=X7.kept (by omega) z5
  have v6:=X7.kept (by omega) z6
  have vl:=X7.kept (by omega) zl
  by_cases c:rkE m x=0
  ·have qr:=rkQ_qw c
   have e9:nextF m (F i) x=(qmax (F i).1 (rkQ m x),(F i).2):=by unfold nextF;rw[if_pos c]
   rw[show rkV2 m x=shV (shq (rkQ m x)).1 (shq (rkQ m x)).2 from by unfold rkV2;rw[if_pos c],decide_eq_true c]
   simp -dsimp (maxSteps:=1000000) (disch:=try exact dx) only[wpS,wpT,reduceEqDiff,reduceLeDiff,reduceAdd,zc47,st47,ld47,fa49_0,shV_cells,shC_len,shC_all,sh_sp3,sh_take,row_of v5,brC_len,brC_lo]
   obtain⟨H8,hH8,n8,e8,g8⟩:=boxed h7 Z16 (shC (shq (rkQ m x)).1 (shq (rkQ m x)).2)
   rw[←hH8]
   clear hH8
   refine call (shmax_ok (p1:=shq (F i).1) (p2:=shq (rkQ m x)) (shq_lt (qF i)) (shq_lt qr) (shq_rOf (qF i)).2 (shq_rOf qr).2) ?_
   rintro _ h9 ⟨X9,rfl⟩
   rw[qmax_rOf (qF i) qr,toldV_qw (qw_max (qF i) qr)]
   have e79:=e8.trans X9
   have m9:=e79.n
   have u5:=e79.kept (by omega) v5
   have ul:=e79.kept (by omega) vl
   simp -dsimp (maxSteps:=1000000) (disch:=try exact dx) only[wpS,wpT,reduceEqDiff,reduceLeDiff,st47,fa49_0,shV_cells,shC_len,shC_all,u5,brC_len,brC_slo]
   refine⟨by rw[get_put_old _ _ (by omega)];exact ul,fin _ _ (ft.trans e9) ((eb.trans (X7.trans e79)).put (by omega) _) (by show H3.n<h9.n;omega) ?_ ?_ ?_ ?_⟩
   ·rw[get_put_old _ _ (by omega)];exact ul
   ·rw[get_put_old _ _ (by omega)];exact e79.kept (by omega) v4
   ·exact get_put_same _ _ rfl
   ·rw[get_put_old _ _ (by omega)];exact e79.kept (by omega) v6
  ·have e9:nextF m (F i) x=((F i).1,true):=by unfold nextF;rw[if_neg c]
   rw[show rkV2 m x=shV 0 0 from by unfold rkV2;rw[if_neg c],decide_eq_false c]
   simp -dsimp (maxSteps:=1000000) (disch:=try exact dx) only[wpS,wpT,reduceEqDiff,reduceLeDiff,reduceAdd,zc47,st47,fa49_3,st4,shV_cells,shC_len,shC_all,sh_sp3,v5,brC_len,brC_s33]
   obtain⟨H8,hH8,n8,e8,g8⟩:=boxed h7 Z16 (shC 0 0)
   rw[←hH8]
   clear hH8
   have m8:=e8.n
   refine⟨by rw[get_put_old _ _ (by omega)];exact e8.kept (by omega) vl,fin _ _ (ft.trans e9) ((eb.trans (X7.trans e8)).put (by omega) _) (by show H3.n<H8.n;omega) ?_ ?_ ?_ ?_⟩
   ·rw[get_put_old _ _ (by omega)];exact e8.kept (by omega) vl
   ·rw[get_put_old _ _ (by omega)];exact e8.kept (by omega) v4
   ·exact get_put_same _ _ rfl
   ·rw[get_put_old _ _ (by omega)];exact e8.kept (by omega) v6
 ·rintro _ hd ⟨x1,x2,x3,x4,x5,x6⟩
  refine .inl ⟨x3,?_⟩
  have ed:Ext h1 (hd.put H3.n .dead):=x1.put (by omega) _
  obtain⟨K0,hK0⟩ : ∃K0,K0=hd.put H3.n .dead:=⟨_,rfl⟩
  have z0 : ∀j,j≠H3.n→K0.ext.get j=hd.ext.get j:=fun j hj=>by rw[hK0];exact get_put_old _ _ hj
  have z4:=(z0 h1.n (by omega)).trans x4
  have z5:=(z0 (h1.n+1) (by omega)).trans x5
  have z6:=(z0 (h1.n+2) (by omega)).trans x6
  have zn:K0.n=hd.n:=by rw[hK0];rfl
  have fN:F xs.length=brN m rs:=by
   show(xs.take xs.length).foldl (nextF m) (0,false)=_
   rw[List.take_of_length_le (Nat.le_refl _),hxs];rfl
  have qN:QW (brN m rs).1:=by rw[←fN];exact qF _
  rw[fN] at z5
  rw[←hK0] at ed ⊢
  clear hK0 x1 x3 x4 x5 x6 Je J0
  have a1:=ed.kept (by omega) k1
  have a2:=ed.kept (by omega) k2
  simp -dsimp (maxSteps:=1000000) (disch:=try exact dx) only[wpS,wpT,reduceEqDiff,reduceLeDiff,reduceAdd,ld80,row_of a1,tk2']
  obtain⟨lo,hlo⟩ : ∃q,q=(brN m rs).1:=⟨_,rfl⟩
  obtain⟨sc,hsc⟩ : ∃b,b=(brN m rs).2:=⟨_,rfl⟩
  rw[←hlo] at z5 qN
  rw[←hsc] at z5
  refine range2 (p:=49) (nt:=78) rfl rfl (by decide) (fun r y hfn hnt hbd hy=>?_)
  obtain⟨ys,hys⟩ : ∃l,l=lastS rs:=⟨_,rfl⟩
  let G:Nat→Rat×Bool:=fun i=>(ys.take i).foldl (lastF m) (0,true)
  have qG : ∀i,QW (G i).1:=by
   intro i
   have : ∀(l:List Seat) (a:Rat×Bool),QW a.1→QW (l.foldl (lastF m) a).1:=by
    intro l
    induction l with
    | nil=>intro a h;exact h
    | cons x l ih=>intro a h;exact ih _ (lastF_qw h)
   exact this _ _ q0
  let J2:Nat→IH→Prop:=fun i hh=>Ext h1 hh∧K0.n<hh.n∧hh.ext.get K0.n=some (.loop r)∧hh.ext.get h1.n=some (.cells (shC (shq 0).1 (shq 0).2) 0 none)∧hh.ext.get (h1.n+1)=some (.cells (brC (shq lo) (shq (G i).1) (G i).2 sc (m == 13)) 0 none)∧hh.ext.get (h1.n+2)=some (.cells [rkF m sv] 0 none)
  have J0:J2 0 (K0.new (.loop r)):=by
   refine⟨ed.new _,by simp,get_new_same _ _ rfl,?_,?_,?_⟩
   ·rw[get_new_old _ _ (by omega)];exact z4
   ·rw[get_new_old _ _ (by omega)];exact z5
   ·rw[get_new_old _ _ (by omega)];exact z6
  have Je : ∀i h h',J2 i h→Ext h h'→J2 i h':=by
   rintro i x x' ⟨a1,a2,a3,a4,a5,a6⟩ e
   have en:=e.n
   exact⟨a1.trans e,by omega,e.kept a2 a3,e.kept (by omega) a4,e.kept (by omega) a5,e.kept (by omega) a6⟩
  have it2:=last_iter (m:=m) (s.keep (E0.trans X1).keep) hl hb
  rw[←hys] at it2
  refine WV.mono (it2 y (K0.new (.loop r)) J2 (fun i hh hj=>hj.1) Je J0 ?_) ?_
  ·rintro i x hh hi ⟨x1,x2,x3,x4,x5,x6⟩
   refine hy _ hh _ x3 ?_
   simp -dsimp (maxSteps:=1000000) (disch:=try exact dx) only[wpS,wpT,reduceEqDiff,reduceLeDiff,reduceAdd,zc123,st123]
   obtain⟨H5,hH5,n5,e5,gw⟩:=boxed hh [KI 0,KI 0,KI 0,KI 0] [KI x.1.1,KI x.1.2.1,KI x.1.2.2,KI x.2]
   rw[←hH5]
   clear hH5
   obtain⟨y1,y2,y3,y4,y5,y6⟩:=Je i hh H5 ⟨x1,x2,x3,x4,x5,x6⟩ e5
   refine⟨rfl,y3,?_⟩
   rw[hfn,hnt,hbd]
   have eb:Ext h1 (H5.put K0.n (.loop (busyL r))):=y1.put (by omega) _
   obtain⟨H6,hH6⟩ : ∃H,H=H5.put K0.n (.loop (busyL r)):=⟨_,rfl⟩
   have z0 : ∀j,j≠K0.n→H6.ext.get j=H5.ext.get j:=fun j hj=>by rw[hH6];exact get_put_old _ _ hj
   have zl:H6.ext.get K0.n=some (.loop (busyL r)):=by rw[hH6];exact get_put_same _ _ rfl
   have zn:H6.n=H5.n:=by rw[hH6];rfl
   rw[←hH6] at eb ⊢
   clear hH6
   have z4:=(z0 h1.n (by omega)).trans y4
   have z5:=(z0 (h1.n+1) (by omega)).trans y5
   have z6:=(z0 (h1.n+2) (by omega)).trans y6
   have zw:=(z0 hh.n (by omega)).trans gw
   have ft:G (i+1)=lastF m (G i) x:=fold_take hi
   have fin : ∀(hf':IH) (o:Rat×Bool),G (i+1)=o→Ext h1 hf'→K0.n<hf'.n→hf'.ext.get K0.n=some (.loop (busyL r))→hf'.ext.get h1.n=some (.cells (shC (shq 0).1 (shq 0).2) 0 none)→hf'.ext.get (h1.n+1)=some (.cells (brC (shq lo) (shq o.1) o.2 sc (m == 13)) 0 none)→hf'.ext.get (h1.n+2)=some (.cells [rkF m sv] 0 none)→Value.bool true=.bool true∧J2 (i+1) (hf'.put K0.n (.loop r)):=by
    intro hf' o ho w1 w2 w3 w4 w5 w6
    refine⟨rfl,w1.put (by omega) _,w2,get_put_same _ _ rfl,?_,?_,?_⟩
    ·rw[get_put_old _ _ (by omega)];exact w4
    ·rw[get_put_old _ _ (by omega),ho];exact w5
    ·rw[get_put_old _ _ (by omega)];exact w6
   simp -dsimp (maxSteps:=1000000) (disch:=try exact dx) only[wpS,wpT,reduceEqDiff,reduceLeDiff,reduceAdd,ld128,ld123,row_of z6,row_of zw,tk4']
   refine call (wv_bound (rank_ok x cs cO)) ?_
   rintro _ h7 ⟨X7,rfl⟩
   have m7:=X7.n
   have v4:=X7.kept (by omega) z4
   have v5:=X7.kept (by omega) z5
   have v6:=X7.kept (by omega) z6
   have vl:=X7.kept (by omega) zl
   by_cases c:rkE m x=0
   ·have qr:=rkQ_qw c
    rw[show rkV2 m x=shV (shq (rkQ m x)).1 (shq (rkQ m x)).2 from by unfold rkV2;rw[if_pos c],decide_eq_true c]
    simp -dsimp (maxSteps:=1000000) (disch:=try exact dx) only[wpS,wpT,reduceEqDiff,reduceLeDiff,reduceAdd,zc47,st47,ld47,fa49_1,shV_cells,shC_len,shC_all,sh_sp3,sh_take,row_of v5,brC_len,brC_hi]
    obtain⟨H8,hH8,n8,e8,g8⟩:=boxed h7 Z16 (shC (shq (rkQ m x)).1 (shq (rkQ m x)).2)
    rw[←hH8]
    clear hH8
    refine call (shcmp_ok (p1:=shq (rkQ m x)) (p2:=shq (G i).1) (shq_lt qr) (shq_lt (qG i)) (shq_rOf qr).2 (shq_rOf (qG i)).2) ?_
    rintro _ h9 ⟨X9,rfl⟩
    rw[cmpQ_rOf qr (qG i)]
    have e79:=e8.trans X9
    have m9:=e79.n
    have m8:=e8.n
    have u4:=e79.kept (by omega) v4
    have u5:=e79.kept (by omega) v5
    have u6:=e79.kept (by omega) v6
    have ul:=e79.kept (by omega) vl
    have u8:=X9.kept (by omega) g8
    have ee:=eb.trans (X7.trans e79)
    obtain⟨hi9,hhi⟩ : ∃q,q=(G i).1:=⟨_,rfl⟩
    obtain⟨en,hen⟩ : ∃b,b=(G i).2:=⟨_,rfl⟩
    have e9:lastF m (G i) x=(if en=true∨rkQ m x<hi9 then rkQ m x else hi9,false):=by unfold lastF;rw[if_pos c,hhi,hen]
    rw[←hhi,←hen] at u5
    rw[←hhi]
    by_cases d:en=true∨rkQ m x<hi9
    ·rw[if_pos d] at e9
     have dd:(en=true)∨(en=false∧decide (cmpQ (rkQ m x) hi9<0)=true):=by
      cases en
      ·exact .inr ⟨rfl,decide_eq_true ((cmpQ_lt _ _).2 (by simpa using d))⟩
      ·exact .inl rfl
     rcases dd with rfl|⟨rfl,d2⟩
     ·clear d
      simp -dsimp (maxSteps:=1000000) (disch:=try exact dx) only[wpS,wpT,reduceEqDiff,reduceLeDiff,reduceAdd,st47,ld47,st4,fa49_1,fa49_2,ld4,row_of u5,u5,row_of u8,brC_32,brC_len,brC_shi,brC_s32,shC_len,shC_all,sh_take]
      refine⟨by rw[get_put_old _ _ (by omega),get_put_old _ _ (by omega)];exact ul,fin _ _ (ft.trans e9) ((ee.put (by omega) _).put (by omega) _) (by show K0.n<h9.n;omega) ?_ ?_ ?_ ?_⟩
      ·rw[get_put_old _ _ (by omega),get_put_old _ _ (by omega)];exact ul
      ·rw[get_put_old _ _ (by omega),get_put_old _ _ (by omega)];exact u4
      ·exact get_put_same _ _ rfl
      ·rw[get_put_old _ _ (by omega),get_put_old _ _ (by omega)];exact u6
     ·clear d
      simp -dsimp (maxSteps:=1000000) (disch:=try exact dx) only[wpS,wpT,reduceEqDiff,reduceLeDiff,reduceAdd,st47,ld47,st4,fa49_1,fa49_2,ld4,row_of u5,u5,row_of u8,brC_32,d2,brC_len,brC_shi,brC_s32,shC_len,shC_all,sh_take]
      refine⟨by rw[get_put_old _ _ (by omega),get_put_old _ _ (by omega)];exact ul,fin _ _ (ft.trans e9) ((ee.put (by omega) _).put (by omega) _) (by show K0.n<h9.n;omega) ?_ ?_ ?_ ?_⟩
      ·rw[get_put_old _ _ (by omega),get_put_old _ _ (by omega)];exact ul
      ·rw[get_put_old _ _ (by omega),get_put_old _ _ (by omega)];exact u4
      ·exact get_put_same _ _ rfl
      ·rw[get_put_old _ _ (by omega),get_put_old _ _ (by omega)];exact u6
    ·rw[if_neg d] at e9
     have d1:en=false:=by cases en;rfl;exact absurd (.inl rfl) d
     have d2:decide (cmpQ (rkQ m x) hi9<0)=false:=decide_eq_false fun e=>d (.inr ((cmpQ_lt _ _).1 e))
     rw[d1] at u5
     simp -dsimp (maxSteps:=1000000) (disch:=try exact dx) only[wpS,wpT,reduceEqDiff,reduceLeDiff,reduceAdd,st4,fa49_2,ld4,row_of u5,brC_32,d2,u5,brC_s32,brC_len]
     refine⟨by rw[get_put_old _ _ (by omega)];exact ul,fin _ _ (ft.trans e9) (ee.put (by omega) _) (by show K0.n<h9.n;omega) ?_ ?_ ?_ ?_⟩
     ·rw[get_put_old _ _ (by omega)];exact ul
     ·rw[get_put_old _ _ (by omega)];exact u4
     ·exact get_put_same _ _ rfl
     ·rw[get_put_old _ _ (by omega)];exact u6
   ·have e9:lastF m (G i) x=G i:=by unfold lastF;rw[if_neg c]
    rw[show rkV2 m x=shV 0 0 from by unfold rkV2;rw[if_neg c],decide_eq_false c]
    simp -dsimp (maxSteps:=1000000) (disch:=try exact dx) only[wpS,wpT,reduceEqDiff,reduceLeDiff,reduceAdd,zc47,st47,shV_cells,shC_len,shC_all,sh_sp3]
    obtain⟨H8,hH8,n8,e8,g8⟩:=boxed h7 Z16 (shC 0 0)
    rw[←hH8]
    clear hH8
    have m8:=e8.n
    exact⟨e8.kept (by omega) vl,fin _ _ (ft.trans e9) (eb.trans (X7.trans e8)) (by show K0.n<H8.n;omega) (e8.kept (by omega) vl) (e8.kept (by omega) v4) (e8.kept (by omega) v5) (e8.kept (by omega) v6)⟩
  ·rintro _ hd ⟨x1,x2,x3,x4,x5,x6⟩
   refine .inl ⟨x3,?_⟩
   have ed2:Ext h1 (hd.put K0.n .dead):=x1.put (by omega) _
   obtain⟨K1,hK1⟩ : ∃K1,K1=hd.put K0.n .dead:=⟨_,rfl⟩
   have z0 : ∀j,j≠K0.n→K1.ext.get j=hd.ext.get j:=fun j hj=>by rw[hK1];exact get_put_old _ _ hj
   have w4:=(z0 h1.n (by omega)).trans x4
   have w5:=(z0 (h1.n+1) (by omega)).trans x5
   have gN:G ys.length=brL m rs:=by
    show(ys.take ys.length).foldl (lastF m) (0,true)=_
    rw[List.take_of_length_le (Nat.le_refl _),hys];rfl
   rw[gN] at w5
   rw[←hK1] at ed2 ⊢
   clear hK1
   have b2:=ed2.kept (by omega) k2
   have bn:=ed2.n
   cases sc with
   | false =>
    simp -dsimp (maxSteps:=1000000) (disch:=try exact dx) only[wpS,wpT,reduceEqDiff,reduceLeDiff,reduceAdd,st49,fa49_3,ld4,ld49,row_of w5,brC_33,brC_take,brC_len,brC_all,brC_all0,b2]
    refine⟨(E0.trans (X1.trans ed2)).put (by omega) _,?_⟩
    unfold brkV
    rw[←hsc,←hlo];rfl
   | true =>
    simp -dsimp (maxSteps:=1000000) (disch:=try exact dx) only[wpS,wpT,reduceEqDiff,reduceLeDiff,reduceAdd,st47,ld47,st49,fa49_3,fa49_0,ld4,ld49,row_of w5,row_of w4,w5,shC_len,shC_all,sh_take,brC_33,brC_take,brC_len,brC_all,brC_all0,brC_slo,b2]
    refine⟨((E0.trans (X1.trans ed2)).put (by omega) _).put (by omega) _,?_⟩
    unfold brkV
    rw[←hsc];rfl
end Go.Id

namespace Go.Id
open Go
open Go.Proofs.Tryz (prog)
open Nat (reduceAdd reduceEqDiff reduceLeDiff)
set_option maxHeartbeats 16000000
theorem brC_plain (lo hi:Nat×Nat) (en sc sq:Bool):plain (brV lo hi en sc sq)=true:=by
 have h1:=sh_plain lo.1 lo.2
 have h2:=sh_plain hi.1 hi.2
 simp only[plain,List.all_toArray,brC,List.all_append] at h1 h2 ⊢
 rw[h1,h2];rfl
theorem ex_lo (lo hi:Nat×Nat) (en sc sq:Bool):((brC lo hi en sc sq).toArray).extract 0 (0+16)=(shC lo.1 lo.2).toArray:=by
 simp only[List.extract_toArray,List.extract_eq_take_drop]
 exact congrArg List.toArray (brC_lo lo hi en sc sq)
theorem ex_hi (lo hi:Nat×Nat) (en sc sq:Bool):((brC lo hi en sc sq).toArray).extract 16 (16+16)=(shC hi.1 hi.2).toArray:=by
 simp only[List.extract_toArray,List.extract_eq_take_drop]
 exact congrArg List.toArray (brC_hi lo hi en sc sq)
theorem brC_34 (lo hi:Nat×Nat) (en sc sq:Bool):(brC lo hi en sc sq)[34]?=some (.bool sq):=by
 rw[brC,List.getElem?_append_right (by rw[shC_len];omega),shC_len,List.getElem?_append_right (by rw[shC_len];omega),shC_len];rfl
abbrev InP (p:Nat×Nat):Prop:=p.1<W8∧p.2<W8
def brSame (lo hi:Nat×Nat) (en sc sq:Bool) (lo' hi':Nat×Nat) (en' sc' sq':Bool):Bool:=decide (lo.1=lo'.1∧lo.2=lo'.2) && (decide (hi.1=hi'.1∧hi.2=hi'.2) && ((en == en') && ((sc == sc') && (sq == sq'))))
theorem br_equalIn {lo hi lo' hi':Nat×Nat} (a1:InP lo) (a2:InP hi) (a3:InP lo') (a4:InP hi') (en sc sq en' sc' sq':Bool):pureRun prog (Op.equal 49 (brV lo hi en sc sq) (brV lo' hi' en' sc' sq'))=some (brSame lo hi en sc sq lo' hi' en' sc' sq'):=by
 have key:=pr_equal_struct (P:=prog) u49 (by kernel_rfl) 9999 (brC lo hi en sc sq).toArray (brC lo' hi' en' sc' sq').toArray (fun f=>if f.name = "Low" then decide (lo.1=lo'.1∧lo.2=lo'.2) else if f.name = "High" then decide (hi.1=hi'.1∧hi.2=hi'.2) else if f.name = "Endless" then en == en' else if f.name = "Scarce" then sc == sc' else sq == sq') (by
  intro f hf
  simp only[List.mem_cons,List.not_mem_nil,or_false] at hf
  rcases hf with rfl|rfl|rfl|rfl|rfl
  ·exact⟨by decide,.agg (shC lo.1 lo.2).toArray,.agg (shC lo'.1 lo'.2).toArray,
    (pr_part_agg ag47 sz47 _ 0).trans (by rw[ex_lo]),(pr_part_agg ag47 sz47 _ 0).trans (by rw[ex_lo]),sh_equalIn a1.1 a1.2 a3.1 a3.2 9996⟩
  ·exact⟨by decide,.agg (shC hi.1 hi.2).toArray,.agg (shC hi'.1 hi'.2).toArray,
    (pr_part_agg ag47 sz47 _ 16).trans (by rw[ex_hi]),(pr_part_agg ag47 sz47 _ 16).trans (by rw[ex_hi]),sh_equalIn a2.1 a2.2 a4.1 a4.2 9996⟩
  ·exact⟨by decide,.bool en,.bool en',pr_part_scal ag4 (by rw[List.getElem?_toArray];exact brC_32 _ _ _ _ _),pr_part_scal ag4 (by rw[List.getElem?_toArray];exact brC_32 _ _ _ _ _),pr_equal_bool u4 _ _ _⟩
  ·exact⟨by decide,.bool sc,.bool sc',pr_part_scal ag4 (by rw[List.getElem?_toArray];exact brC_33 _ _ _ _ _),pr_part_scal ag4 (by rw[List.getElem?_toArray];exact brC_33 _ _ _ _ _),pr_equal_bool u4 _ _ _⟩
  ·exact⟨by decide,.bool sq,.bool sq',pr_part_scal ag4 (by rw[List.getElem?_toArray];exact brC_34 _ _ _ _ _),pr_part_scal ag4 (by rw[List.getElem?_toArray];exact brC_34 _ _ _ _ _),pr_equal_bool u4 _ _ _⟩)
 refine key.trans (congrArg some ?_)
 simp only[List.all_cons,List.all_nil,Bool.and_true,if_true]
 rw[if_neg (by decide),if_neg (by decide),if_neg (by decide),if_neg (by decide),if_neg (by decide),if_neg (by decide),if_neg (by decide),if_neg (by decide),if_neg (by decide),if_neg (by decide)]
 rfl
theorem br_eql {lo hi lo' hi':Nat×Nat} (a1:InP lo) (a2:InP hi) (a3:InP lo') (a4:InP hi') (en sc sq en' sc' sq':Bool) (ox oy:Operand):binop prog .eql 49 ox oy (brV lo hi en sc sq) (brV lo' hi' en' sc' sq')=some (.bool (brSame lo hi en sc sq lo' hi' en' sc' sq')) :=
 binop_eql_gen (by kernel_rfl) (brC_plain _ _ _ _ _) (brC_plain _ _ _ _ _) (br_equalIn a1 a2 a3 a4 _ _ _ _ _ _) ox oy
theorem brSame_zero {q:Rat} (h:QW q) (hi:Nat×Nat) (en sc sq:Bool):brSame (shq q) hi en sc sq (0,0) (0,0) false false false=false:=by
 have h2:=(shq_rOf h).2.1
 unfold brSame
 rw[decide_eq_false]
 ·rfl
 ·rintro⟨_,e⟩
  have e:(shq q).2=0:=e
  rw[e,show wdI 0=0 from by decide +kernel] at h2
  exact absurd h2 (by decide)
theorem br_lit:Value.agg #[ZW,ZW,ZW,ZW,ZW,ZW,ZW,ZW,ZW,ZW,ZW,ZW,ZW,ZW,ZW,ZW,ZW,ZW,ZW,ZW,ZW,ZW,ZW,ZW,ZW,ZW,ZW,ZW,ZW,ZW,ZW,ZW,.bool false,.bool false,.bool false]=brV (0,0) (0,0) false false false:=by rw[brV,←br_zero]
theorem br_eql0 {q:Rat} {hi:Nat×Nat} (h:QW q) (h2:InP hi) (en sc sq:Bool) (ox oy:Operand):binop prog .eql 49 ox oy (brV (shq q) hi en sc sq) (.agg #[ZW,ZW,ZW,ZW,ZW,ZW,ZW,ZW,ZW,ZW,ZW,ZW,ZW,ZW,ZW,ZW,ZW,ZW,ZW,ZW,ZW,ZW,ZW,ZW,ZW,ZW,ZW,ZW,ZW,ZW,ZW,ZW,.bool false,.bool false,.bool false])=some (.bool false):=by
 rw[br_lit,br_eql (shq_lt h) h2 ⟨by decide +kernel,by decide +kernel⟩ ⟨by decide +kernel,by decide +kernel⟩,brSame_zero h]
theorem brN_qw (m:Int) (rs:List Reg):QW (brN m rs).1:=by
 have : ∀(l:List Seat) (a:Rat×Bool),QW a.1→QW (l.foldl (nextF m) a).1:=by
  intro l
  induction l with
  | nil=>intro a h;exact h
  | cons x l ih=>intro a h;exact ih _ (nextF_qw h)
 exact this _ _ qw_zero
theorem brL_qw (m:Int) (rs:List Reg):QW (brL m rs).1:=by
 have : ∀(l:List Seat) (a:Rat×Bool),QW a.1→QW (l.foldl (lastF m) a).1:=by
  intro l
  induction l with
  | nil=>intro a h;exact h
  | cons x l ih=>intro a h;exact ih _ (lastF_qw h)
 exact this _ _ qw_zero
structure Brk where
 lo:Rat
 hi:Rat
 en:Bool
 sc:Bool
 sq:Bool
def Brk.ok (b:Brk):Prop:=QW b.lo∧QW b.hi
def Brk.v (b:Brk):Value:=brV (shq b.lo) (shq b.hi) b.en b.sc b.sq
def brk (m:Int) (rs:List Reg):Brk:=⟨if (brN m rs).2=true then 0 else (brN m rs).1,(brL m rs).1,(brL m rs).2,(brN m rs).2,m == 13⟩
theorem brk_ok (m:Int) (rs:List Reg):(brk m rs).ok:=⟨by unfold brk;dsimp only;split;exact qw_zero;exact brN_qw m rs,brL_qw m rs⟩
theorem brkV_v (m:Int) (rs:List Reg):brkV m rs=(brk m rs).v:=rfl
def findE (people won:List Int) (m:Int) (least:List Int):Int:=if openErr people won m least≠0 then openErr people won m least else if certB m (regsV people won least)=true then 0 else 9
def findV (people won:List Int) (m:Int) (least:List Int):Value:=if findE people won m least=0 then (brk m (regsV people won least)).v else brV (0,0) (0,0) false false false
theorem find_ok {h:IH} {vp vw vl:Value} {m:Int} {people won least:List Int} (hp:SlOf h 1 vp people.length (people.map KI)) (hw:SlOf h 1 vw won.length (won.map KI)) (hl:SlOf h 1 vl least.length (least.map KI)) (lp:people.length≤1000000000) (lw:won.length≤1000000000) (ll:least.length≤1000000000) :
  WV prog (.func (.func 15) #[] #[]) [vp,vw,KI m,vl] h fun r h'=>Ext h h'∧r=.tuple #[findV people won m least,KI (findE people won m least)]:=by
 refine enter (nt:=36) (rs:=[.cell 8 49,.tmp 9]) Proofs.Tryz.func15 rfl rfl rfl (by simp) ?_
 simp -dsimp (maxSteps:=1000000) (disch:=try exact dx) only[wpS,reduceEqDiff,reduceAdd,zc49]
 obtain⟨H0,hH0⟩ : ∃H,H=h.new (.cells Z35 0 none):=⟨_,rfl⟩
 have E0:Ext h H0:=by rw[hH0];exact(Ext.refl h).new _
 have g0:H0.ext.get h.n=some (.cells Z35 0 none):=by rw[hH0];simp (disch:=try exact dx) only[get_new_same]
 have n0:H0.n=h.n+1:=by rw[hH0];simp
 rw[←hH0]
 clear hH0
 refine call (open_ok (hp.keep E0.keep) (hw.keep E0.keep) (hl.keep E0.keep) lp lw ll) ?_
 rintro r h1 ⟨X1,o⟩
 have m1:=X1.n
 by_cases c:openErr people won m least=0
 ·obtain⟨s,rfl,hs⟩:=o.ok c
  have cs:=hs.cells
  have cO:cellOK s=true:=by obtain⟨oa,ok,ho⟩:=hs.form;rw[ho];rfl
  have R:=regs_ok c
  obtain⟨H2,hH2,n2,E2,g2⟩:=boxed h1 [KI 0,.slice none 0 0] [KI m,s]
  simp -dsimp (maxSteps:=1000000) (disch:=try exact dx) only[wpS,wpT,reduceEqDiff,reduceLeDiff,reduceAdd,zc80,st80,ld80,cO,tk2']
  rw[←hH2]
  clear hH2
  refine call (certified_ok (hs.keep E2.keep) (by have:=R.len;omega) (fun r hr=>(R.b r hr).2.1)) ?_
  rintro _ h3 ⟨X3,rfl⟩
  have m3:=X3.n
  have Y3:=X1.trans (E2.trans X3)
  cases d:certB m (regsV people won least)
  ·have e:findE people won m least=9:=by unfold findE;rw[c,d];rfl
   simp -dsimp (maxSteps:=1000000) (disch:=try exact dx) only[wpS,wpT,reduceEqDiff,reduceLeDiff,reduceAdd,bv49,st49,ld49,Y3.kept (by omega) g0]
   refine⟨(E0.trans Y3).put (by omega) _,?_⟩
   unfold findV
   rw[e,if_neg (by decide),←br_lit];rfl
  ·have e:findE people won m least=0:=by unfold findE;rw[c,d];rfl
   simp -dsimp (maxSteps:=1000000) (disch:=try exact dx) only[wpS,wpT,reduceEqDiff,reduceLeDiff,reduceAdd,ld80,tk2',row_of (X3.kept (by omega) g2)]
   refine call (bracket_ok (hs.keep (E2.trans X3).keep) (by have:=R.len;omega) (fun r hr=>(R.b r hr).2.1)) ?_
   rintro _ h4 ⟨X4,rfl⟩
   have m4:=X4.n
   have Y4:=Y3.trans X4
   have Bk:=brk_ok m (regsV people won least)
   rw[brkV_v]
   obtain⟨b,hb⟩ : ∃b,b=brk m (regsV people won least):=⟨_,rfl⟩
   rw[←hb] at Bk ⊢
   rw[show b.v=brV (shq b.lo) (shq b.hi) b.en b.sc b.sq from rfl]
   have q0:=fun ox oy=>br_eql0 Bk.1 (shq_lt Bk.2) b.en b.sc b.sq ox oy
   simp -dsimp (maxSteps:=1000000) (disch:=try exact dx) only[wpS,wpT,reduceEqDiff,reduceLeDiff,reduceAdd,zc49,bv49,st49,ld49,brC_len,brC_all,brC_take,brC_all0,q0,Y4.kept (by omega) g0]
   refine⟨((E0.trans Y4).new _).put (by omega) _ |>.put (by omega) _,?_⟩
   unfold findV
   rw[e,if_pos rfl,←hb];rfl
 ·have hr:=o.no c
  subst hr
  have d:((openErr people won m least) != 0)=true:=by simpa using c
  have e:findE people won m least=openErr people won m least:=by unfold findE;rw[if_pos c]
  simp -dsimp (maxSteps:=1000000) (disch:=try exact dx) only[wpS,wpT,reduceEqDiff,reduceLeDiff,reduceAdd,zc80,st80,bv49,st49,ld49,d,X1.kept (by omega) g0]
  refine⟨((E0.trans X1).new _).put (by omega) _ |>.put (by omega) _,?_⟩
  unfold findV
  rw[e,if_neg c,←br_lit];rfl
end Go.Id

namespace Go.Id
open Go
end Go.Id

namespace Go.Id
open Go
theorem inR1 (a b m:Int):inR a b [m]=decide (a≤m∧m≤b):=by
 rw[Bool.eq_iff_iff,inR_iff]
 simp
theorem quotaOK_iff {l:List Int}:quotaOK l=true↔l.length≤60∧(∀n∈l,0≤n∧n≤1000000000)∧l.sum≠0:=by
 unfold quotaOK
 rw[Bool.and_eq_true,Bool.and_eq_true,inR_iff,decide_eq_true_eq]
 simp
end Go.Id

namespace Go.Id
open Go
end Go.Id

namespace Go.Id
open Go
theorem aboveErr_eq (m p s q t:Int):aboveErr m p s q t = !(decide ((11≤m∧m≤15)∧(0≤s∧s≤1000)∧(0≤t∧t≤1000)∧(1≤p∧p≤1000000000)∧(1≤q∧q≤1000000000))):=by
 have e1:inR 0 1000 [s,t]=decide ((0≤s∧s≤1000)∧(0≤t∧t≤1000)):=by rw[Bool.eq_iff_iff,inR_iff];simp
 have e2:inR 1 1000000000 [p,q]=decide ((1≤p∧p≤1000000000)∧(1≤q∧q≤1000000000)):=by rw[Bool.eq_iff_iff,inR_iff];simp
 unfold aboveErr
 rw[inR1,e1,e2,Bool.eq_iff_iff]
 simp
 omega
end Go.Id

namespace Go.Id
open Go
end Go.Id

namespace Go.Id
open Go
end Go.Id

namespace Go.Id
open Go
end Go.Id

namespace Go.Id
open Go
def keyS (m:Int) (x:Seat):Bool×Rat:=(postZ m.toNat x.2.toNat,rankX m.toNat x.1.1.toNat x.2.toNat)
def ltK (a b:Bool×Rat):Prop:=(a.1=false∧b.1=true)∨(a.1=b.1∧a.2<b.2)
theorem cmpR_lt (b1:Bool) (x:Rat) (b2:Bool) (y:Rat):cmpR b1 x b2 y<0↔ltK (b1,x) (b2,y):=by
 have hc:cmpQ x y<0↔x<y:=by
  unfold cmpQ
  split
  ·rename_i h;exact⟨fun _=>h,fun _=>by omega⟩
  ·rename_i h
   split
   ·exact⟨fun h=>absurd h (by omega),fun h2=>absurd h2 h⟩
   ·exact⟨fun h=>absurd h (by omega),fun h2=>absurd h2 h⟩
 unfold cmpR ltK
 cases b1<;>cases b2<;>simp[hc]
def SeatOK (x:Seat):Prop:=(1≤x.1.1∧x.1.1≤1000000000)∧0≤x.2∧x.2≤1000
theorem below_key {m:Int} (hm:11≤m∧m≤15) {a b:Seat} (ha:SeatOK a) (hb:SeatOK b):stBelow m a b=true↔ltK (keyS m a) (keyS m b):=by
 unfold stBelow aboveN
 rw[if_neg (by rw[aboveErr_eq,decide_eq_true ⟨hm,ha.2,hb.2,ha.1,hb.1⟩];simp),decide_eq_true_eq]
 exact cmpR_lt _ _ _ _
theorem ltK_trans {a b c:Bool×Rat} (h1:ltK a b) (h2:ltK b c):ltK a c:=by
 obtain⟨a1,a2⟩:=a
 obtain⟨b1,b2⟩:=b
 obtain⟨c1,c2⟩:=c
 unfold ltK at *
 cases a1<;>cases b1<;>cases c1<;>simp_all<;>grind
theorem ltK_neg {a b c:Bool×Rat} (h1 : ¬ltK a b) (h2 : ¬ltK b c) : ¬ltK a c:=by
 obtain⟨a1,a2⟩:=a
 obtain⟨b1,b2⟩:=b
 obtain⟨c1,c2⟩:=c
 unfold ltK at *
 cases a1<;>cases b1<;>cases c1<;>simp_all<;>grind
theorem leastBy_some {lt:Seat→Seat→Bool} {L:List Seat} (tr : ∀a∈L,∀b∈L,∀c∈L,lt a b=true→lt b c=true→lt a c=true) (ng : ∀a∈L,∀b∈L,∀c∈L,lt a b=false→lt b c=false→lt a c=false) (ir : ∀a∈L,lt a a=false) :
  ∀(l:List Seat) (o:Seat),(∀x∈l,x∈L)→o∈L → ∃y,leastBy lt (some o) l=some y∧y∈L∧(y=o∨y∈l)∧lt o y=false ∧ ∀x∈l,lt x y=false
 | [],o,_,ho=>⟨o,rfl,ho,.inl rfl,ir o ho,fun x hx=>by cases hx⟩
 | a :: l,o,hl,ho=>by
  have ha:=hl a List.mem_cons_self
  have hl' : ∀x∈l,x∈L:=fun x hx=>hl x (List.mem_cons_of_mem _ hx)
  by_cases c:lt a o=true
  ·obtain⟨y,h1,h2,h3,h4,h5⟩:=leastBy_some tr ng ir l a hl' ha
   refine⟨y,by rw[leastBy];show leastBy lt (if lt a o=true then some a else some o) l=_;rw[if_pos c];exact h1,h2,.inr (by rcases h3 with rfl|h3;exact List.mem_cons_self;exact List.mem_cons_of_mem _ h3),?_,fun x hx=>?_⟩
   ·cases h:lt o y
    ·rfl
    ·rw[tr a ha o ho y h2 c h] at h4;cases h4
   ·rcases List.mem_cons.1 hx with rfl|hx
    ·exact h4
    ·exact h5 x hx
  ·obtain⟨y,h1,h2,h3,h4,h5⟩:=leastBy_some tr ng ir l o hl' ho
   refine⟨y,by rw[leastBy];show leastBy lt (if lt a o=true then some a else some o) l=_;rw[if_neg c];exact h1,h2,(by rcases h3 with rfl|h3;exact .inl rfl;exact .inr (List.mem_cons_of_mem _ h3)),h4,fun x hx=>?_⟩
   rcases List.mem_cons.1 hx with rfl|hx
   ·exact ng x ha o ho y h2 (by simpa using c) h4
   ·exact h5 x hx
theorem lastS_mem : ∀{rs:List Reg} {x:Seat},x∈lastS rs ↔ ∃r∈rs,(0<r.1∧r.2.2<r.2.1)∧x=(r,r.2.1 - 1)
 | [],x=>by simp[lastS]
 | r :: l,x=>by
  unfold lastS
  have ih:=lastS_mem (rs:=l) (x:=x)
  split
  ·rename_i h
   rw[List.mem_cons,ih]
   constructor
   ·rintro(rfl|⟨y,h1,h2⟩)
    ·exact⟨r,List.mem_cons_self,h,rfl⟩
    ·exact⟨y,List.mem_cons_of_mem _ h1,h2⟩
   ·rintro⟨y,h1,h2,rfl⟩
    rcases List.mem_cons.1 h1 with rfl|h1
    ·exact .inl rfl
    ·exact .inr ⟨y,h1,h2,rfl⟩
  ·rename_i h
   rw[ih]
   constructor
   ·rintro⟨y,h1,h2⟩
    exact⟨y,List.mem_cons_of_mem _ h1,h2⟩
   ·rintro⟨y,h1,h2,rfl⟩
    rcases List.mem_cons.1 h1 with rfl|h1
    ·exact absurd h2 h
    ·exact⟨y,h1,h2,rfl⟩
theorem nextS_mem : ∀{rs:List Reg} {x:Seat},x∈nextS rs ↔ ∃r∈rs,0<r.1∧x=(r,r.2.1)
 | [],x=>by simp[nextS]
 | r :: l,x=>by
  unfold nextS
  have ih:=nextS_mem (rs:=l) (x:=x)
  split
  ·rename_i h
   rw[List.mem_cons,ih]
   constructor
   ·rintro(rfl|⟨y,h1,h2⟩)
    ·exact⟨r,List.mem_cons_self,h,rfl⟩
    ·exact⟨y,List.mem_cons_of_mem _ h1,h2⟩
   ·rintro⟨y,h1,h2,rfl⟩
    rcases List.mem_cons.1 h1 with rfl|h1
    ·exact .inl rfl
    ·exact .inr ⟨y,h1,h2,rfl⟩
  ·rename_i h
   rw[ih]
   constructor
   ·rintro⟨y,h1,h2⟩
    exact⟨y,List.mem_cons_of_mem _ h1,h2⟩
   ·rintro⟨y,h1,h2,rfl⟩
    rcases List.mem_cons.1 h1 with rfl|h1
    ·exact absurd h2 h
    ·exact⟨y,h1,h2,rfl⟩
theorem last_seat {rs:List Reg} (R:RegsOK rs) {x:Seat} (h:x∈lastS rs):SeatOK x:=by
 obtain⟨r,h1,h2,rfl⟩:=lastS_mem.1 h
 have:=R.b r h1
 exact⟨⟨by dsimp only;omega,by dsimp only;omega⟩,by dsimp only;omega,by dsimp only;omega⟩
theorem next_seat {rs:List Reg} (R:RegsOK rs) {x:Seat} (h:x∈nextS rs):SeatOK x:=by
 obtain⟨r,h1,h2,rfl⟩:=nextS_mem.1 h
 have:=R.b r h1
 exact⟨⟨by dsimp only;omega,by dsimp only;omega⟩,by dsimp only;omega,by dsimp only;omega⟩
theorem certB_iff {m:Int} {rs:List Reg} (R:RegsOK rs) (hm:11≤m∧m≤15):certB m rs=true↔(∀r∈rs,0<r.1∨r.2.1=r.2.2) ∧ ∀x∈lastS rs,∀y∈nextS rs,¬ltK (keyS m x) (keyS m y):=by
 have st:settled rs=true ↔ ∀r∈rs,0<r.1∨r.2.1=r.2.2:=by
  unfold settled
  rw[List.all_eq_true]
  simp
 unfold certB
 rw[Bool.and_eq_true,st]
 refine and_congr_right fun _=>?_
 cases hl:lastS rs with
 | nil=>simp[leastBy]
 | cons a l =>
  obtain⟨r0,hr0,h0,rfl⟩:=lastS_mem.1 (show a∈lastS rs by rw[hl];exact List.mem_cons_self)
  obtain⟨b,l2,hn⟩ : ∃b l2,nextS rs=b :: l2:=by
   cases hn:nextS rs with
   | nil=>have:=nextS_mem.2 ⟨r0,hr0,h0.1,rfl⟩;rw[hn] at this;cases this
   | cons b l2=>exact⟨b,l2,rfl⟩
  have sl : ∀x∈(r0,r0.2.1 - 1) :: l,SeatOK x:=fun x hx=>last_seat R (by rw[hl];exact hx)
  have sn : ∀x∈b :: l2,SeatOK x:=fun x hx=>next_seat R (by rw[hn];exact hx)
  have k : ∀{x y:Seat},SeatOK x→SeatOK y→(stBelow m x y=true↔ltK (keyS m x) (keyS m y)):=fun hx hy=>below_key hm hx hy
  have kf : ∀{x y:Seat},SeatOK x→SeatOK y→(stBelow m x y=false ↔ ¬ltK (keyS m x) (keyS m y)):=fun hx hy=>by rw[←k hx hy];simp
  have irr : ∀z,¬ltK z z:=fun z=>by unfold ltK;cases z.1<;>simp<;>grind
  obtain⟨lo,e1,m1,_,f1,f2⟩:=leastBy_some (lt:=stBelow m) (L:=(r0,r0.2.1 - 1) :: l) (fun a ha b hb c hc h1 h2=>(k (sl a ha) (sl c hc)).2 (ltK_trans ((k (sl a ha) (sl b hb)).1 h1) ((k (sl b hb) (sl c hc)).1 h2)))
   (fun a ha b hb c hc h1 h2=>(kf (sl a ha) (sl c hc)).2 (ltK_neg ((kf (sl a ha) (sl b hb)).1 h1) ((kf (sl b hb) (sl c hc)).1 h2))) (fun a ha=>(kf (sl a ha) (sl a ha)).2 (irr _)) l _ (fun x hx=>List.mem_cons_of_mem _ hx) List.mem_cons_self
  obtain⟨hi,e2,m2,_,g1,g2⟩:=leastBy_some (lt:=fun a b=>stBelow m b a) (L:=b :: l2) (fun a ha b hb c hc h1 h2=>(k (sn c hc) (sn a ha)).2 (ltK_trans ((k (sn c hc) (sn b hb)).1 h2) ((k (sn b hb) (sn a ha)).1 h1)))
   (fun a ha b hb c hc h1 h2=>(kf (sn c hc) (sn a ha)).2 (ltK_neg ((kf (sn c hc) (sn b hb)).1 h2) ((kf (sn b hb) (sn a ha)).1 h1))) (fun a ha=>(kf (sn a ha) (sn a ha)).2 (irr _)) l2 _ (fun x hx=>List.mem_cons_of_mem _ hx) List.mem_cons_self
  rw[hn]
  have e1':leastBy (stBelow m) none ((r0,r0.2.1 - 1) :: l)=some lo:=e1
  have e2':leastBy (fun a b=>stBelow m b a) none (b :: l2)=some hi:=e2
  rw[e1',e2']
  show(!(stBelow m lo hi))=true↔_
  rw[Bool.not_eq_true',kf (sl lo m1) (sn hi m2)]
  constructor
  ·intro h x hx y hy hxy
   have hlo : ¬ltK (keyS m x) (keyS m lo):=by
    rcases List.mem_cons.1 hx with rfl|hx2
    ·exact(kf (sl _ hx) (sl lo m1)).1 f1
    ·exact(kf (sl _ hx) (sl lo m1)).1 (f2 x hx2)
   have hhi : ¬ltK (keyS m hi) (keyS m y):=by
    rcases List.mem_cons.1 hy with rfl|hy2
    ·exact(kf (sn hi m2) (sn _ hy)).1 g1
    ·exact(kf (sn hi m2) (sn _ hy)).1 (g2 y hy2)
   exact ltK_neg (ltK_neg hlo h) hhi hxy
  ·intro h
   exact h lo m1 hi m2
end Go.Id

namespace Go.Id
open Go
def keyC (m p s:Nat):Bool×Rat:=(postZ m s,rankX m p s)
theorem rankQ_eq {m p s:Nat} (h:postN m s≠0):rankQ m p s=Rat.divInt (((if m=13 then p*p else p)*postD m s:Nat):Int) (postN m s):=by
 unfold rankQ
 rw[Rat.divInt_mul_divInt,Int.mul_one,Int.natCast_mul]
theorem postN_mono {m:Nat} (hm:11≤m∧m≤15) (s:Nat):postN m (s+1)≠0:=by
 rcases(by omega:m=11∨m=12∨m=13∨m=14∨m=15) with rfl|rfl|rfl|rfl|rfl
 ·show s+1≠0;omega
 ·show 2*(s+1)*(s+1+1)≠0
  exact Nat.mul_ne_zero (by omega) (by omega)
 ·show(s+1)*(s+1+1)≠0
  exact Nat.mul_ne_zero (by omega) (by omega)
 ·show 2*(s+1)+1≠0;omega
 ·show s+1+1≠0;omega
theorem keyC_falls {m p:Nat} (hm:11≤m∧m≤15) (hp:1≤p) (s:Nat):ltK (keyC m p (s+1)) (keyC m p s):=by
 have h1:=postN_mono hm s
 have z1:postZ m (s+1)=false:=by unfold postZ;simp[h1]
 unfold ltK keyC
 by_cases h0:postN m s=0
 ·exact .inl ⟨z1,by unfold postZ;simp[h0]⟩
 ·have z0:postZ m s=false:=by unfold postZ;simp[h0]
  refine .inr ⟨by dsimp only;rw[z1,z0],?_⟩
  dsimp only
  unfold rankX
  rw[z1,z0,if_neg (by simp),if_neg (by simp),rankQ_eq h0,rankQ_eq h1]
  have c:=postN_cross hm s
  have ht:0<(if m=13 then p*p else p):=by
   split
   ·exact Nat.mul_pos hp hp
   ·exact hp
  refine divInt_lt (by omega) (by omega) ?_
  rw[Nat.mul_assoc,Nat.mul_assoc]
  refine Nat.mul_lt_mul_of_pos_left ?_ ht
  rw[Nat.mul_comm (postD m (s+1)),Nat.mul_comm (postD m s)]
  exact c
theorem ltK_irr (a:Bool×Rat) : ¬ltK a a:=by
 unfold ltK
 cases a.1<;>simp[Rat.lt_irrefl]
theorem ltK_asymm {a b:Bool×Rat} (h:ltK a b) : ¬ltK b a:=fun h2=>ltK_irr a (ltK_trans h h2)
theorem ltK_of_lt_not {a b c:Bool×Rat} (h:ltK a b) (h2 : ¬ltK c b):ltK a c:=by
 refine Classical.byContradiction fun h3=>?_
 exact ltK_neg h3 h2 h
theorem ltK_of_not_lt {a b c:Bool×Rat} (h : ¬ltK b a) (h2:ltK b c):ltK a c:=by
 refine Classical.byContradiction fun h3=>?_
 exact ltK_neg h h3 h2
instance (a b:Bool×Rat):Decidable (ltK a b):=by unfold ltK;infer_instance
def bestStep (ks:Nat→Bool×Rat) (B:List Nat) (x:Nat):List Nat:=match B with
 | [] => [x]
 | b :: l=>if ltK (ks b) (ks x) then [x] else if ltK (ks x) (ks b) then b :: l else b :: l ++ [x]
def bestN (ks:Nat→Bool×Rat):Nat→List Nat
 | 0 => []
 | n+1=>bestStep ks (bestN ks n) n
structure BestOK (ks:Nat→Bool×Rat) (n:Nat) (B:List Nat):Prop where
 ne:0<n→B ≠ []
 lt : ∀b∈B,b<n
 top : ∀b∈B,∀y,y<n → ¬ltK (ks b) (ks y)
 rest : ∀y,y<n→y∉B → ∀b∈B,ltK (ks y) (ks b)
 asc:B.Pairwise (· < ·)
theorem best_ok (ks:Nat→Bool×Rat) : ∀n,BestOK ks n (bestN ks n)
 | 0=>⟨fun h=>absurd h (by omega),(fun b h=>by cases h),(fun b h=>by cases h),fun y hy=>absurd hy (by omega),List.Pairwise.nil⟩
 | n+1=>by
  obtain⟨a1,a2,a3,a4,a5⟩:=best_ok ks n
  rw[bestN]
  cases hB:bestN ks n with
  | nil =>
   have hn:n=0:=by
    rcases Nat.eq_zero_or_pos n with h|h
    ·exact h
    ·exact absurd hB (a1 h)
   subst hn
   refine⟨fun _=>by simp[bestStep],fun b h=>?_,fun b h y hy=>?_,fun y hy h=>?_,by simp[bestStep]⟩
   ·simp[bestStep] at h;omega
   ·simp[bestStep] at h;subst h
    rw[show y=0 from by omega];exact ltK_irr _
   ·simp[bestStep] at h;omega
  | cons b l =>
   rw[hB] at a2 a3 a4 a5
   have hb:=a2 b List.mem_cons_self
   show BestOK ks (n+1) (if ltK (ks b) (ks n) then [n] else if ltK (ks n) (ks b) then b :: l else b :: l ++ [n])
   by_cases c1:ltK (ks b) (ks n)
   ·rw[if_pos c1]
    have up : ∀y,y<n→ltK (ks y) (ks n):=fun y hy=>ltK_of_not_lt (a3 b List.mem_cons_self y hy) c1
    refine⟨fun _=>by simp,fun x h=>?_,fun x h y hy=>?_,fun y hy h x hx=>?_,by simp⟩
    ·simp at h;omega
    ·simp at h;subst h
     rcases Nat.lt_or_ge y x with h2|h2
     ·exact ltK_asymm (up y h2)
     ·rw[show y=x from by omega];exact ltK_irr _
    ·simp at h hx;subst hx
     exact up y (by omega)
   ·rw[if_neg c1]
    have low : ∀x∈b :: l,¬ltK (ks x) (ks n):=fun x hx h=>c1 (ltK_of_not_lt (a3 x hx b hb) h)
    by_cases c2:ltK (ks n) (ks b)
    ·rw[if_pos c2]
     have dn : ∀x∈b :: l,ltK (ks n) (ks x):=fun x hx=>ltK_of_lt_not c2 (a3 x hx b hb)
     refine⟨fun _=>by simp,fun x h=>by have:=a2 x h;omega,fun x h y hy=>?_,fun y hy h x hx=>?_,a5⟩
     ·rcases Nat.lt_or_ge y n with h2|h2
      ·exact a3 x h y h2
      ·rw[show y=n from by omega];exact low x h
     ·rcases Nat.lt_or_ge y n with h2|h2
      ·exact a4 y h2 h x hx
      ·rw[show y=n from by omega];exact dn x hx
    ·rw[if_neg c2]
     have eq : ∀y,y<n → ¬ltK (ks n) (ks y):=fun y hy=>ltK_neg c2 (a3 b List.mem_cons_self y hy)
     refine⟨fun _=>by simp,fun x h=>?_,fun x h y hy=>?_,fun y hy h x hx=>?_,?_⟩
     ·rcases List.mem_append.1 h with h|h
      ·have:=a2 x h;omega
      ·simp at h;omega
     ·rcases List.mem_append.1 h with h|h
      ·rcases Nat.lt_or_ge y n with h2|h2
       ·exact a3 x h y h2
       ·rw[show y=n from by omega];exact low x h
      ·simp at h;subst h
       rcases Nat.lt_or_ge y x with h2|h2
       ·exact eq y h2
       ·rw[show y=x from by omega];exact ltK_irr _
     ·rw[List.mem_append,not_or] at h
      have hyn:y<n:=by
       rcases Nat.lt_or_ge y n with h2|h2
       ·exact h2
       ·exact absurd (by simp;omega) h.2
      rcases List.mem_append.1 hx with hx|hx
      ·exact a4 y hyn h.1 x hx
      ·simp at hx;subst hx
       exact ltK_of_lt_not (a4 y hyn h.1 b List.mem_cons_self) c2
     ·rw[List.pairwise_append]
      refine⟨a5,by simp,fun x hx y hy=>?_⟩
      simp at hy;subst hy
      exact a2 x hx
def Fair (m n:Nat) (p low s:Nat→Nat):Prop:=(∀i,i<n→low i≤s i) ∧ ∀i j,i<n→j<n→low i<s i→ltK (keyC m (p j) (s j)) (keyC m (p i) (s i - 1))
def given (s:Nat→Nat) (B:List Nat):Nat→Nat:=fun i=>if i∈B then s i+1 else s i
theorem fair_start (m n:Nat) (p low:Nat→Nat):Fair m n p low low:=⟨fun _ _=>Nat.le_refl _,fun i j _ _ h=>absurd h (by omega)⟩
theorem fair_group {m n:Nat} {p low s:Nat→Nat} {B:List Nat} (hm:11≤m∧m≤15) (hp : ∀i,i<n→1≤p i) (F:Fair m n p low s) (hB:BestOK (fun i=>keyC m (p i) (s i)) n B):Fair m n p low (given s B):=by
 obtain⟨f1,f2⟩:=F
 obtain⟨b1,b2,b3,b4,_⟩:=hB
 have hlt : ∀b∈B,∀j,j<n→ltK (keyC m (p j) (given s B j)) (keyC m (p b) (s b)):=by
  intro b hb j hj
  unfold given
  by_cases h:j∈B
  ·rw[if_pos h]
   exact ltK_of_lt_not (keyC_falls hm (hp j hj) (s j)) (b3 b hb j hj)
  ·rw[if_neg h]
   exact b4 j hj h b hb
 refine⟨fun i hi=>by have:=f1 i hi;unfold given;split<;>omega,fun i j hi hj hl=>?_⟩
 by_cases h:i∈B
 ·have e:given s B i - 1=s i:=by unfold given;rw[if_pos h];omega
  rw[e]
  exact hlt i h j hj
 ·have e:given s B i=s i:=by unfold given;rw[if_neg h]
  rw[e] at hl ⊢
  cases B with
  | nil=>exact absurd rfl (b1 (by omega))
  | cons b l =>
   exact ltK_trans (hlt b List.mem_cons_self j hj) (f2 i b hi (b2 b List.mem_cons_self) hl)
end Go.Id

namespace Go.Id
open Go
def RAcc (h:IH) (n0:Nat) (v:Value) (n:Nat) (cs:List Value):Prop :=
 cs.length=n∧((v=.slice none 0 0∧n=0) ∨ ∃k fam tl,v=.slice (some ⟨2*k,0,none⟩) n (2*(n+tl.length))∧0<n+tl.length∧n0≤k∧k<h.n∧h.ext.get k=some (.cells (cs ++ tl) 1 fam)∧TopFam h n0 k fam)
theorem RAcc.nil (h:IH) (n0:Nat):RAcc h n0 (.slice none 0 0) 0 []:=⟨rfl,.inl ⟨rfl,rfl⟩⟩
theorem RAcc.sl {h:IH} {n0:Nat} {v:Value} {n:Nat} {cs:List Value} (a:RAcc h n0 v n cs):SlOf h 1 v n cs:=by
 obtain⟨hl,a|⟨k,fam,tl,rfl,hn,h1,h2,h3,h4⟩⟩:=a
 ·exact⟨by omega,by omega,.inl a⟩
 ·refine⟨by omega,by omega,.inr ⟨2*k,0,2*(n+tl.length),rfl,.inr ⟨by omega,by omega,cs ++ tl,.inr ⟨by omega,by omega,fam,?_⟩,?_,?_,?_⟩⟩⟩
  ·rw[show 2*k / 2=k from by omega,h3]
  ·rw[row_even];simp[IH.cells,h3]
  ·rw[List.drop_zero,Nat.mul_one,List.take_append_of_le_length (by omega),List.take_of_length_le (by omega)]
  ·rw[List.length_append];omega
theorem TopFam.ext {h h':IH} {n0 k:Nat} {fam:Option Nat} (t:TopFam h n0 k fam) (e:Ext h h'):TopFam h' n0 k fam:=by
 cases fam with
 | none=>trivial
 | some f =>
  obtain⟨a1,a2,rest,a3,a4⟩:=t
  exact⟨a1,by have:=e.n;omega,rest,by rw[e.fams f a2];exact a3,a4⟩
theorem RAcc.ext {h h':IH} {n0:Nat} {v:Value} {n:Nat} {cs:List Value} (a:RAcc h n0 v n cs) (e:Ext h h'):RAcc h' n0 v n cs:=by
 obtain⟨hl,a|⟨k,fam,tl,rfl,hn,h1,h2,h3,h4⟩⟩:=a
 ·exact⟨hl,.inl a⟩
 ·exact⟨hl,.inr ⟨k,fam,tl,rfl,hn,h1,by have:=e.n;omega,by rw[e.get k h2];exact h3,h4.ext e⟩⟩
theorem RAcc.cut {h:IH} {n0:Nat} {v:Value} {n:Nat} {cs:List Value} (a:RAcc h n0 v n cs) {P:Program} {t e:TypeId} (hu:P.underlying t=some (.slice e)) (hT:sizeT P e=some 1) {kd:IntKind} :
  ∃v',sliceOp P h t v none (some (.int kd 0)) none=some v'∧RAcc h n0 v' 0 []:=by
 obtain⟨hl,⟨rfl,rfl⟩|⟨k,fam,tl,rfl,hn,h1,h2,h3,h4⟩⟩:=a
 ·refine⟨.slice none 0 0,?_,RAcc.nil h n0⟩
  have b0:Nat.ble 0 0=true:=rfl
  simp[sliceOp,hu,hT,resliced,boundsOf,hiOf,loOf,natOf,b0]
 ·refine⟨.slice (some ⟨2*k,0,none⟩) 0 (2*(n+tl.length)),?_,rfl,.inr ⟨k,fam,cs ++ tl,by rw[List.length_append,Nat.zero_add,hl],by rw[List.length_append];omega,h1,h2,by rw[List.nil_append];exact h3,h4⟩⟩
  have hr:roomy h 1 (.slice (some ⟨2*k,0,none⟩) n (2*(n+tl.length)))=true:=by simp[roomy,h3]
  have c1:(2*(n+tl.length) == 0)=false:=by simp;omega
  have c2:((0:Nat) == 2*(n+tl.length) / 2)=false:=by
   rw[show 2*(n+tl.length) / 2=n+tl.length from by omega]
   simp;omega
  have b0:hiOf (some (.int kd 0)) n (2*(n+tl.length) / 2)=some 0:=rfl
  simp only[sliceOp,hu,hT,resliced,boundsOf,b0,loOf,hr,c1,c2,cond_true,cond_false,Bool.or_true,Nat.zero_mul,Nat.mul_zero,Nat.sub_zero,Nat.zero_add]
theorem RAcc.app1 {h:IH} {n0:Nat} {v:Value} {n:Nat} {cs:List Value} (a:RAcc h n0 v n cs) {P:Program} {t:TypeId} {bytes:Nat} (hT:appT P t=some (1,bytes)) {x:Value}
  (hc:cellOK x=true) (hsz:(n+1)*(bytes+1)≤1099511627776) (h0:n0≤h.n) {h0':IH} (e0:Ext h0' h) (hn0:h0'.n≤n0) :
  ∃v' h',append P (h.new (.cells [x] 1 none)) t v (.slice (some ⟨2*h.n,0,none⟩) 1 3)=some (v',h')∧RAcc h' n0 v' (n+1) (cs ++ [x])∧Ext h0' h'∧h.n≤h'.n:=by
 obtain⟨hl,⟨rfl,rfl⟩|⟨k,fam,tl,rfl,hn,h1,h2,h3,h4⟩⟩:=a
 ·obtain rfl:cs = []:=List.length_eq_zero_iff.1 hl
  obtain⟨v',h',b1,b2,b3,b4⟩:=(Acc.nil h n0 (sz:=1) (by omega)).app1 hT hc hsz h0 e0 hn0
  refine⟨v',h',b1,?_,b4,b3.n⟩
  obtain⟨_,c2,⟨_,c3⟩|⟨k,fam,rfl,c4,c5,c6,c7,c8⟩⟩:=b2
  ·omega
  ·exact⟨by omega,.inr ⟨k,fam,[],by simp,by simp,c5,c6,by rw[List.append_nil];exact c7,c8⟩⟩
 ·cases tl with
  | nil =>
   rw[List.append_nil] at h3
   have A:Acc h n0 1 (.slice (some ⟨2*k,0,none⟩) n (2*n)) n cs:=⟨by omega,by omega,.inr ⟨k,fam,rfl,by simpa using hn,h1,h2,h3,h4⟩⟩
   obtain⟨v',h',b1,b2,b3,b4⟩:=A.app1 hT hc hsz h0 e0 hn0
   refine⟨v',h',b1,?_,b4,b3.n⟩
   obtain⟨_,c2,⟨_,c3⟩|⟨k,fam,rfl,c4,c5,c6,c7,c8⟩⟩:=b2
   ·omega
   ·exact⟨by omega,.inr ⟨k,fam,[],by simp,by simp,c5,c6,by rw[List.append_nil];exact c7,c8⟩⟩
  | cons y tl =>
   unfold appT at hT
   split at hT
   case h_2=>cases hT
   rename_i e hu
   split at hT
   case h_2=>cases hT
   rename_i zs z1 z2 z3
   simp only[cond_eq_ite] at hT
   split at hT
   case isTrue=>cases hT
   rename_i hbad
   cases hT
   have hbad':((1:Nat) == 0 || (!(Nat.ble bytes 65536) || !(zs.length == 1)))=false:=by simpa using hbad
   have hk:(h.new (.cells [x] 1 none)).ext.get k=some (.cells (cs ++ y :: tl) 1 fam):=by rw[get_new_old _ _ (by omega)];exact h3
   have k1:(2*k % 2 == 1)=false:=by simp
   have k2:2*k / 2=k:=by omega
   have hfirst:firstOf (h.new (.cells [x] 1 none)) 1 1 (.slice (some ⟨2*h.n,0,none⟩) 1 3)=some [x]:=by
    have hr:(h.new (.cells [x] 1 none)).row (2*h.n)=some [x]:=row_new_same _ _ _ _ rfl
    simp only[firstOf,cond_eq_ite,Nat.ble_eq,Nat.le_refl,if_true,beq_iff_eq]
    rw[if_neg (by omega),rd_of hr,if_pos (by simp)]
    rfl
   have hroom:Nat.ble (n+1) (2*(n+(y :: tl).length) / 2)=true:=by rw[Nat.ble_eq,List.length_cons];omega
   have hble:Nat.ble ((n+1)*(bytes+1)) sizeMost=true:=by rw[Nat.ble_eq];exact hsz
   have hok:([x].all cellOK)=true:=by simp[hc]
   have hle:Nat.ble (0+n*1 + [x].length) (cs ++ y :: tl).length=true:=by rw[Nat.ble_eq,List.length_append,List.length_cons,List.length_cons,List.length_nil];omega
   have hsp:IH.splice (cs ++ y :: tl) (0+n*1) [x]=cs ++ [x] ++ tl:=by
    rw[show 0+n*1=cs.length from by omega]
    simp[IH.splice]
   have ap:append P (h.new (.cells [x] 1 none)) t (.slice (some ⟨2*k,0,none⟩) n (2*(n+(y :: tl).length))) (.slice (some ⟨2*h.n,0,none⟩) 1 3) =
     ((h.new (.cells [x] 1 none)).wr (2*k) (0+n*1) [x]).map fun h=>(.slice (some ⟨2*k,0,none⟩) (n+1) (2*(n+(y :: tl).length)),h):=by
    simp only[Id.append,hu,z1,z2,z3,lenOf,hbad',hfirst,hok,hble,hroom,cond_true,cond_false,Bool.not_true]
    rfl
   have hw : ∃h',(h.new (.cells [x] 1 none)).wr (2*k) (0+n*1) [x]=some h'∧h'.n=h.n+1∧h'.ext.get k=some (.cells (cs ++ [x] ++ tl) 1 none)∧Ext h0' h':=by
    have e1:=e0.new (.cells [x] 1 none)
    cases fam with
    | none =>
     refine⟨(h.new (.cells [x] 1 none)).put k (.cells (cs ++ [x] ++ tl) 1 none),?_,rfl,get_put_same _ _ rfl,e1.put (by omega) _⟩
     simp only[IH.wr,k1,k2,hk,hle,cond_true,cond_false,hsp];rfl
    | some f =>
     obtain⟨a1,a2,rest,a3,a4⟩:=h4
     have a3':(h.new (.cells [x] 1 none)).fams.get f=some (k :: rest):=a3
     refine⟨{ h.new (.cells [x] 1 none) with ext:=(IH.killAll (h.new (.cells [x] 1 none)).ext (((k :: rest).filter (· != k)))).set k (.cells (cs ++ [x] ++ tl) 1 none) },?_,rfl,?_,⟨e1.n,e1.base,fun j hj=>?_,e1.fams⟩⟩
     ·simp only[IH.wr,k1,k2,hk,hle,cond_true,cond_false,hsp,a3']
     ·simp[Tr.get_set]
     ·have hjk:j≠k:=by omega
      rw[Tr.get_set,if_neg hjk,get_killAll,if_neg]
      ·exact e1.get j hj
      ·intro hm
       simp only[List.mem_filter,List.mem_cons,bne_iff_ne,ne_eq] at hm
       rcases hm with⟨rfl|hm,hne⟩
       ·exact hne rfl
       ·have:=a4 j hm;omega
   obtain⟨h',w1,w2,w3,w4⟩:=hw
   refine⟨_,h',by rw[ap,w1];rfl,⟨by simp[hl],.inr ⟨k,none,tl,?_,by omega,h1,by omega,w3,trivial⟩⟩,w4,by omega⟩
   rw[List.length_cons,show n+(tl.length+1)=n+1+tl.length from by omega]
end Go.Id

namespace Go.Id
open Go
end Go.Id

namespace Go.Id
open Go
def houseN (s:Nat):Nat:=if s % 8=0 then 1+s % 1000 else 1+s % 20
theorem house_ok {h:IH} {x:Value} {ps ls:List Nat} {u s:Nat} (hx:Dr6 h x ps ls u s) :
  WV Proofs.Tryz.prog (.func (.func 12) #[] #[]) [x] h fun r h'=>Ext h h'∧r=KN (houseN s):=by
 obtain⟨⟨vp,vl,rfl,sp,sl⟩,bp,bl,hu,hs,lp,ll⟩:=hx
 have e8:(s:Int) % 8=((s % 8:Nat):Int):=by omega
 have e20:(s:Int) % 20=((s % 20:Nat):Int):=by omega
 have e1k:(s:Int) % 1000=((s % 1000:Nat):Int):=by omega
 have w1:IntKind.i64.wrap (1+((s % 1000:Nat):Int))=((1+s % 1000:Nat):Int):=by rw[wrap_i64 (by omega)];omega
 have w2:IntKind.i64.wrap (1+((s % 20:Nat):Int))=((1+s % 20:Nat):Int):=by rw[wrap_i64 (by omega)];omega
 refine enter (nt:=17) (rs:=[.tmp 2]) Proofs.Tryz.func12 rfl rfl rfl (by simp) ?_
 by_cases c:s % 8=0
 ·have d:(((s % 8:Nat):Int) == 0)=true:=by simp;omega
  simp -dsimp (maxSteps:=1000000) (disch:=try exact dx) only[wpS,Nat.reduceEqDiff,fa26_3,ld24,cv24_3,e8,e1k,w1,d]
  exact⟨(Ext.refl h).new _,by unfold houseN;rw[if_pos c]⟩
 ·have d:(((s % 8:Nat):Int) == 0)=false:=by simp;omega
  simp -dsimp (maxSteps:=1000000) (disch:=try exact dx) only[wpS,Nat.reduceEqDiff,fa26_3,ld24,cv24_3,e8,e20,w2,d]
  exact⟨(Ext.refl h).new _,by unfold houseN;rw[if_neg c]⟩
end Go.Id

namespace Go.Id
open Go
abbrev blkV (j n:Nat):Value:=.slice (some ⟨2*j,0,none⟩) n (2*n)
theorem blk_now {h:IH} {j n:Nat} {cs:List Value} (g:h.ext.get j=some (.cells cs 1 none)) (hl:cs.length=n):SlNow h 1 (blkV j n) n cs :=
 ⟨by omega,by omega,.inr ⟨2*j,0,_,rfl,.inr ⟨cs,by rw[row_even];simp only[IH.cells,g],by rw[List.drop_zero,List.take_of_length_le (by omega)],by omega⟩⟩⟩
theorem blk_sl {h:IH} {j n:Nat} {cs:List Value} (g:h.ext.get j=some (.cells cs 1 none)) (hj:j<h.n) (hl:cs.length=n) (hn:0<n):SlOf h 1 (blkV j n) n cs :=
 sl_block g hj (by omega) (by omega) (by omega) (by omega)
theorem cloneI_ok {h:IH} {v:Value} {n:Nat} {cs:List Value} (hs:SlOf h 1 v n cs) (hp:0<n) (hc:cs.all cellOK=true) (hn:n≤1000000000) :
  WV Proofs.Tryz.prog (.func (.func 31) #[] #[]) [v] h fun r h'=>Ext h h' ∧ ∃j,h.n≤j∧j<h'.n∧r=blkV j n∧h'.ext.get j=some (.cells cs 1 none):=by
 obtain⟨hz,hl,⟨rfl,rfl⟩|⟨b,o,k,rfl,hh⟩⟩:=hs
 ·omega
 ·have hk:Ext h (h.new (.cells [] 1 none)):=(Ext.refl h).new _
  have hnow2:SlNow (h.new (.cells [] 1 none)) 1 (.slice (some ⟨b,o,none⟩) n k) n cs:=(SlOf.keep ⟨hz,hl,.inr ⟨b,o,k,rfl,hh⟩⟩ hk.keep).now
  refine enter (nt:=8) (rs:=[.tmp 2]) Proofs.Tryz.func31 rfl rfl rfl (by simp) ?_
  simp -dsimp (maxSteps:=1000000) (disch:=try exact dx) only[wpS,wpT,Nat.reduceEqDiff,Nat.reduceMul,bs29,ba29_29,nil_eq_some u29,append_zero ap29 _ hnow2 hp hc (by omega)]
  exact⟨hk.new _,_,by simp,by simp,rfl,get_new_same _ _ rfl⟩
theorem map_set' (L:List Int) (i:Nat) (x:Int):(L.map KI).set i (KI x)=(L.set i x).map KI:=by rw[List.map_set]
theorem all_map (L:List Int):(L.map KI).all cellOK=true:=by simp[cellOK]
end Go.Id

namespace Go.Id
open Go
theorem Acc.put_below {h:IH} {n0 sz:Nat} {v:Value} {n:Nat} {cs:List Value} (a:Acc h n0 sz v n cs) {k:Nat} (hk:k<n0) (o:IObj):Acc (h.put k o) n0 sz v n cs:=by
 obtain⟨hz,hl,a|⟨j,fam,rfl,hn,h1,h2,h3,h4⟩⟩:=a
 ·exact⟨hz,hl,.inl a⟩
 ·refine⟨hz,hl,.inr ⟨j,fam,rfl,hn,h1,h2,?_,?_⟩⟩
  ·rw[get_put_old _ _ (by omega)];exact h3
  ·cases fam with
   | none=>trivial
   | some f=>exact h4
theorem SlOf.put_ne {h:IH} {kb n c:Nat} {cs:List Value} (s:SlOf h 1 (.slice (some ⟨2*kb,0,none⟩) n c) n cs) {k:Nat} (hk:k≠kb) (o:IObj):SlOf (h.put k o) 1 (.slice (some ⟨2*kb,0,none⟩) n c) n cs:=by
 obtain⟨hz,hl,⟨h1,_⟩|⟨b,o2,k2,h1,h2⟩⟩:=s
 ·cases h1
 ·cases h1
  refine⟨hz,hl,.inr ⟨_,_,_,rfl,?_⟩⟩
  rcases h2 with h2|⟨a1,a2,row,a3,a4,a5,a6⟩
  ·exact .inl h2
  ·have ek:2*kb / 2=kb:=by omega
   refine .inr ⟨a1,a2,row,?_,?_,a5,a6⟩
   ·rcases a3 with a3|⟨b1,b2,f,b3⟩
    ·exact .inl a3
    ·refine .inr ⟨b1,b2,f,?_⟩
     rw[ek] at b3 ⊢
     rw[get_put_old _ _ (by omega)];exact b3
   ·rw[row_put_old _ _ _ (by omega)];exact a4
def IH.upTo (h:IH) (n:Nat):IH:={ h with n:=n }
theorem ext_upTo {h:IH} {n:Nat} (hn:n≤h.n):Ext (h.upTo n) h:=⟨hn,rfl,fun _ _=>rfl,fun _ _=>rfl⟩
theorem Ext.upTo {a b:IH} (e:Ext a b) {n:Nat} (hn:a.n≤n):Ext a (b.upTo n):=⟨hn,e.base,fun k hk=>e.get k hk,fun k hk=>e.fams k hk⟩
end Go.Id

namespace Go.Id
open Go
def SomeAward (h:IH) (r:Value):Prop:=∃(sv tv:Value) (o:Int) (ov:Value) (e:Int) (A:List Int),r=.tuple #[.agg #[sv,tv,KI o,ov],KI e]∧SlOf h 1 sv A.length (A.map KI)∧A.length≤60∧(∀x∈A,0≤x∧x≤1000)∧cellOK tv=true∧tv.cells = #[tv]∧cellOK ov=true∧ov.cells = #[ov]
abbrev givenC (sv tv:Value) (o:Int) (ov:Value):List Value:=[sv,tv,KI o,ov]
theorem SomeAward.none {h:IH} (e:Int):SomeAward h (.tuple #[.agg #[.slice none 0 0,.slice none 0 0,KI 0,.slice none 0 0],KI e]) :=
 ⟨_,_,0,_,e,[],rfl,SlOf.nil _ (by omega),by simp,(fun x hx=>by cases hx),rfl,rfl,rfl,rfl⟩
structure GvS (H0 hh:IH) (fr:Fr) (vp:Value) (people:List Int) (m seats:Int) (k8 b13 kS:Nat) (A:List Int) (left:Int) (ov:Value) (on:Nat) (oc:List Value):Prop where
 e:Ext H0 hh
 lt:k8<b13∧b13<kS∧kS<hh.n
 g8:hh.ext.get k8=some (.cells (givenC (.slice none 0 0) (.slice none 0 0) 0 (.slice none 0 0)) 0 none)
 g13:hh.ext.get b13=some (.cells (givenC (blkV kS people.length) (.slice none 0 0) 0 ov) 0 none)
 gS:hh.ext.get kS=some (.cells (A.map KI) 1 none)
 acc:Acc hh (kS+1) 1 ov on oc
 la:A.length=people.length
 pos : ∀x∈A,0≤x
 sum:A.sum+left=seats
 f0:fget fr 0=some vp
 f2:fget fr 2=some (KI m)
 f8:fget fr 8=some (ptr (2*k8) 0)
 f13:fget fr 13=some (ptr (2*b13) 0)
 f14:fget fr 14=some (KI left)
theorem sum_set : ∀(l:List Int) (i:Nat) (d:Int),i<l.length→(l.set i (l.getD i 0+d)).sum=l.sum+d
 | [],i,d,h=>by simp at h
 | a :: l,0,d,_=>by simp[];omega
 | a :: l,i+1,d,h=>by
  have ih:=sum_set l i d (by simpa using h)
  rw[List.getD_cons_succ,List.set_cons_succ,List.sum_cons,ih,List.sum_cons];omega
theorem ld_cell {h:IH} {k o:Nat} {cs:List Value} {e:Nat} {f:Option Nat} {v:Value} (g:h.ext.get k=some (.cells cs e f)) (hv:cs[o]?=some v):load Proofs.Tryz.prog h 29 (ptr (2*k) o)=some v:=by
 rw[load_scal ag29,ld_of (row_of g),hv]
theorem le_sum : ∀(l:List Int),(∀x∈l,0≤x) → ∀x∈l,x≤l.sum
 | [],_,x,hx=>by cases hx
 | a :: l,h,x,hx=>by
  have h1:=sum_nonneg l fun y hy=>h y (List.mem_cons_of_mem _ hy)
  have h2:=h a List.mem_cons_self
  rw[List.sum_cons]
  rcases List.mem_cons.1 hx with rfl|hx
  ·omega
  ·have:=le_sum l (fun y hy=>h y (List.mem_cons_of_mem _ hy)) x hx
   omega
end Go.Id

namespace Go.Id
open Go
def AllInts (h:IH) (vs:List Value):Prop:=∀v∈vs,∃L:List Int,SlOf h 1 v L.length (L.map KI)∧L.length≤1000
theorem AllInts.keep {h h':IH} {vs:List Value} (a:AllInts h vs) (e:Keep h h'):AllInts h' vs:=fun v hv=>let ⟨L,h1,h2⟩:=a v hv;⟨L,h1.keep e,h2⟩
theorem AllInts.cok {h:IH} {vs:List Value} (a:AllInts h vs):vs.all cellOK=true:=List.all_eq_true.2 fun v hv=>let ⟨_,h1,_⟩:=a v hv;h1.cok
def ListsAt (h:IH) (n0:Nat) (lv:Value) (vs:List Value):Prop:=AllInts h vs∧((∃k,lv=.slice (some ⟨2*k,0,none⟩) vs.length (2*vs.length+1)∧0<vs.length∧n0≤k∧k<h.n∧h.ext.get k=some (.cells vs 1 none))∨Acc h n0 1 lv vs.length vs)
theorem ListsAt.sl {h:IH} {n0:Nat} {lv:Value} {vs:List Value} (a:ListsAt h n0 lv vs):SlOf h 1 lv vs.length vs:=by
 rcases a.2 with⟨k,rfl,h1,h2,h3,h4⟩|a
 ·exact sl_block h4 h3 (by omega) (by omega) (by omega) (by omega)
 ·exact a.sl
theorem ListsAt.ext {h h':IH} {n0:Nat} {lv:Value} {vs:List Value} (a:ListsAt h n0 lv vs) (e:Ext h h'):ListsAt h' n0 lv vs:=by
 refine⟨a.1.keep e.keep,?_⟩
 rcases a.2 with⟨k,rfl,h1,h2,h3,h4⟩|a
 ·exact .inl ⟨k,rfl,h1,h2,by have:=e.n;omega,e.kept h3 h4⟩
 ·exact .inr (a.ext e)
end Go.Id

namespace Go.Id
open Go
open Go.Proofs.Tryz (prog)
open Nat (reduceAdd reduceEqDiff reduceLeDiff)
set_option maxHeartbeats 16000000
def claimC (m at_ p s:Nat):List Value:=KN at_ :: KN p :: KN s :: rankC m p s
theorem rankC_rk (m p s:Nat):rankC m p s=.bool (postZ m s) :: shC (shq (rankX m p s)).1 (shq (rankX m p s)).2:=by
 unfold rankC rankX
 cases postZ m s<;>rfl
theorem rankC_len (m p s:Nat):(rankC m p s).length=17:=by rw[rankC_rk,rk_len]
theorem claimC_next (m at_ p s:Nat):List.take 17 (List.drop 3 (claimC m at_ p s))=rankC m p s:=by
 show List.take 17 (rankC m p s)=_
 rw[List.take_of_length_le (by rw[rankC_len];omega)]
theorem claimC_len (m at_ p s:Nat):(claimC m at_ p s).length=20:=by
 show(rankC m p s).length+1+1+1=20
 rw[rankC_len]
theorem claimCmp_ok {h:IH} {k1 k2 m a1 p1 s1 a2 p2 s2:Nat} (g1:h.ext.get k1=some (.cells (claimC m a1 p1 s1) 0 none)) (g2:h.ext.get k2=some (.cells (claimC m a2 p2 s2) 0 none))
  (b1:p1≤1000000000∧s1≤1000) (b2:p2≤1000000000∧s2≤1000) :
  WV prog (.func (.func 138) #[] #[]) [ptr (2*k1) 0,ptr (2*k2) 0] h fun r h'=>Ext h h'∧r=KI (cmpRank m p1 s1 p2 s2):=by
 have r1:=row_of g1
 have r2:=row_of g2
 refine enter (nt:=14) (rs:=[.tmp 4]) Proofs.Tryz.func138 rfl rfl rfl (by simp) ?_
 simp -dsimp (maxSteps:=1000000) (disch:=try exact dx) only[wpS,reduceEqDiff,reduceLeDiff,reduceAdd,fa156_2,ld115,r1,r2,claimC_next,claimC_len]
 rw[rankC_rk,rankC_rk]
 refine call (rkCmp_ok (rankX_qw b1.1 b1.2) (rankX_qw b2.1 b2.2)) ?_
 rintro _ h1 ⟨X1,rfl⟩
 simp -dsimp (maxSteps:=1000000) (disch:=try exact dx) only[wpS,reduceEqDiff]
 exact⟨X1,rfl⟩
structure Claim where
 k:Nat
 at_:Nat
 p:Nat
 s:Nat
def Claim.ptr (c:Claim):Value:=Id.ptr (2*c.k) 0
def Claim.key (m:Nat) (c:Claim):Bool×Rat:=keyC m c.p c.s
def noClaim:Claim:=⟨0,0,0,0⟩
def keysL (m:Nat) (l:List Claim) (i:Nat):Bool×Rat:=(l.getD i noClaim).key m
def Claims (h:IH) (m:Nat) (l:List Claim):Prop:=∀c∈l,h.ext.get c.k=some (.cells (claimC m c.at_ c.p c.s) 0 none)∧c.k<h.n∧c.p≤1000000000∧c.s≤1000
theorem Claims.ext {h h':IH} {m:Nat} {l:List Claim} (C:Claims h m l) (e:Ext h h'):Claims h' m l:=fun c hc=>by
 obtain⟨a,b,c1⟩:=C c hc
 exact⟨e.kept b a,by have:=e.n;omega,c1⟩
theorem cmpRank_pos (m p s q t:Nat):0<cmpRank m p s q t↔ltK (keyC m q t) (keyC m p s):=by
 have h:=cmpR_lt (postZ m t) (rankX m q t) (postZ m s) (rankX m p s)
 unfold keyC
 rw[←h]
 unfold cmpRank cmpR cmpQ
 cases postZ m s<;>cases postZ m t<;>simp<;>(repeat' split)<;>grind
theorem cmpRank_neg (m p s q t:Nat):cmpRank m p s q t<0↔ltK (keyC m p s) (keyC m q t):=cmpR_lt _ _ _ _
theorem asc_len : ∀(l:List Nat) (lo n:Nat),l.Pairwise (· < ·)→(∀y∈l,lo≤y∧y<n)→l.length≤n - lo
 | [],_,_,_,_=>by simp
 | a :: l,lo,n,h,hb=>by
  have h1:=List.pairwise_cons.1 h
  have ha:=hb a List.mem_cons_self
  have:=asc_len l (a+1) n h1.2 fun y hy=>⟨h1.1 y hy,(hb y (List.mem_cons_of_mem _ hy)).2⟩
  rw[List.length_cons]
  omega
theorem best_walk {h:IH} {v:Value} {m:Nat} {l:List Claim} (hv:SlOf h 1 v l.length (l.map Claim.ptr)) (hC:Claims h m l) (hl:l.length≤60) :
  WV prog (.func (.func 137) #[] #[]) [v,.func (.func 138) #[] #[]] h
   fun r h'=>Ext h h'∧RAcc h' h.n r (bestN (keysL m l) l.length).length ((bestN (keysL m l) l.length).map fun i=>(l.getD i noClaim).ptr):=by
 have L0:=hv.now
 refine enter (nt:=36) (rs:=[.tmp 4]) Proofs.Tryz.func137 rfl rfl rfl (by simp) ?_
 simp -dsimp (maxSteps:=1000000) (disch:=try exact dx) only[wpS,reduceEqDiff,reduceAdd,L0.len sl149]
 refine loop (fun mm fr g => ∃(i:Nat) (bv:Value),i+mm=l.length∧Ext h g∧RAcc g h.n bv (bestN (keysL m l) i).length ((bestN (keysL m l) i).map fun j=>(l.getD j noClaim).ptr)∧fget fr 1=some (.func (.func 138) #[] #[])∧fget fr 5=some bv∧fget fr 9=some v∧fget fr 10=some (KN l.length)∧fget fr 11=some (KN i)) l.length
  ⟨0,.slice none 0 0,by omega,Ext.refl _,RAcc.nil _ _,by simp,by simp,by simp,by simp,by simp⟩ ?_
 rintro mm fr g ⟨i,bv,him,E,A,f1,f5,f9,f10,f11⟩
 have En:=E.n
 have P0:=(hv.keep E.keep).now
 by_cases ci:i<l.length
 ·obtain⟨x,hx⟩ : ∃x,l[i]?=some x:=⟨_,List.getElem?_eq_getElem ci⟩
  have hxd:l.getD i noClaim=x:=by rw[List.getD_eq_getElem?_getD,hx];rfl
  obtain⟨xg,xn,xp,xs⟩:=hC x (List.mem_of_getElem? hx)
  have lP:=P0.ld (P:=prog) (t:=152) (c:=i) (by simp<;>omega) ag152
  rw[List.getElem?_map,hx] at lP
  have lP:load prog g 152 (elemAddr v i)=some (Id.ptr (2*x.k) 0):=lP
  have BO:=best_ok (keysL m l) i
  have B1:bestN (keysL m l) (i+1)=bestStep (keysL m l) (bestN (keysL m l) i) i:=rfl
  obtain⟨B,hB⟩ : ∃B,B=bestN (keysL m l) i:=⟨_,rfl⟩
  rw[←hB] at A BO B1
  have BN:=A.sl.now
  have Bi:B.length≤i:=asc_len B 0 i BO.asc fun y hy=>⟨by omega,BO.lt y hy⟩
  have e2:IntKind.i64.wrap ((i:Int)+1)=((i+1:Nat):Int):=by rw[wrap_i64 (by omega)];omega
  simp -dsimp (maxSteps:=1000000) (disch:=try exact dx) only[wpS,wpT,reduceEqDiff,f5,f9,f10,f11,P0.idx es149 ci,lP,BN.len sl149]
  refine bq_cut (fun fr2 g2 => ∃c:Int,(bestN (keysL m l) (i+1)=if 0<c then [i] else if c<0 then B else B ++ [i])∧Ext g g2∧fget fr2 1=some (.func (.func 138) #[] #[])∧fget fr2 5=some bv∧fget fr2 7=some (Id.ptr (2*x.k) 0)∧fget fr2 8=some (KI c)∧fget fr2 9=some v∧fget fr2 10=some (KN l.length)∧fget fr2 11=some (KN i)) (fun hc=>?_) (fun hc=>?_) ?_
  ·have B0:0<B.length:=by simpa [List.length_pos_iff] using hc
   obtain⟨b0,hb0⟩ : ∃b,B[0]?=some b:=⟨_,List.getElem?_eq_getElem B0⟩
   have bl0:=BO.lt b0 (List.mem_of_getElem? hb0)
   obtain⟨y,hy⟩ : ∃y,l[b0]?=some y:=⟨_,List.getElem?_eq_getElem (by omega)⟩
   have hyd:l.getD b0 noClaim=y:=by rw[List.getD_eq_getElem?_getD,hy];rfl
   obtain⟨yg,yn,yp,ys⟩:=hC y (List.mem_of_getElem? hy)
   have lB:=BN.ld (P:=prog) (t:=152) (c:=0) (by simp<;>omega) ag152
   rw[List.getElem?_map,hb0] at lB
   have lB:load prog g 152 (elemAddr bv 0)=some (l.getD b0 noClaim).ptr:=lB
   rw[hyd] at lB
   have lB:load prog g 152 (elemAddr bv 0)=some (Id.ptr (2*y.k) 0):=lB
   have ix:indexAddr prog 149 bv (.int .i64 0)=some (elemAddr bv 0):=by
    have:=BN.idx (P:=prog) (t:=149) es149 (k:=.i64) (j:=0) B0
    simpa using this
   simp -dsimp (maxSteps:=1000000) (disch:=try exact dx) only[wpS,wpT,reduceEqDiff,f1,f5,ix,lB]
   refine call (claimCmp_ok (E.kept xn xg) (E.kept yn yg) ⟨xp,xs⟩ ⟨yp,ys⟩) ?_
   rintro _ g2 ⟨X2,rfl⟩
   simp -dsimp (maxSteps:=1000000) (disch:=try exact dx) only[wpS,reduceEqDiff]
   refine⟨cmpRank m x.p x.s y.p y.s,?_,X2,by simp[f1],by simp[f5],by simp,by simp,by simp[f9],by simp[f10],by simp[f11]⟩
   have kx:keysL m l i=keyC m x.p x.s:=by unfold keysL Claim.key;rw[hxd]
   have ky:keysL m l b0=keyC m y.p y.s:=by unfold keysL Claim.key;rw[hyd]
   cases B with
   | nil=>simp at B0
   | cons b B =>
    simp at hb0;subst hb0
    rw[B1]
    simp only[bestStep,kx,ky,cmpRank_pos,cmpRank_neg]
  ·have B0:B = []:=by simpa using hc
   simp -dsimp (maxSteps:=1000000) (disch:=try exact dx) only[wpS]
   refine⟨1,?_,Ext.refl _,by simp[f1],by simp[f5],by simp,by simp,by simp[f9],by simp[f10],by simp[f11]⟩
   rw[B1,B0]
   rfl
  ·rintro fr2 g2 ⟨c,hcB,E2,f1,f5,f7,f8,f9,f10,f11⟩
   have A2:=A.ext E2
   have E2n:=E2.n
   by_cases d1:0<c
   ·obtain⟨v0,hsl,A3⟩:=A2.cut (P:=prog) (t:=149) u149 sz152 (kd:=.i64)
    obtain⟨v',h5,hap,A5,E5,n5⟩:=A3.app1 (P:=prog) (t:=149) ap149 (x:=Id.ptr (2*x.k) 0) rfl (by omega) (by omega) (E.trans E2) (Nat.le_refl _)
    simp -dsimp (maxSteps:=1000000) (disch:=try exact dx) only[wpS,wpT,reduceEqDiff,reduceLeDiff,reduceAdd,bs149,ba149_149,f5,f7,f8,f11,hsl,hap,e2]
    refine⟨mm - 1,by omega,i+1,v',by omega,E5,?_,by simp[f1],by simp,by simp[f9],by simp[f10],by simp⟩
    rw[hcB,if_pos d1]
    show RAcc h5 h.n v' 1 [(l.getD i noClaim).ptr]
    rw[hxd]
    exact A5
   ·by_cases d2:0≤c
    ·obtain⟨v',h5,hap,A5,E5,n5⟩:=A2.app1 (P:=prog) (t:=149) ap149 (x:=Id.ptr (2*x.k) 0) rfl (by omega) (by omega) (E.trans E2) (Nat.le_refl _)
     simp -dsimp (maxSteps:=1000000) (disch:=try exact dx) only[wpS,wpT,reduceEqDiff,reduceLeDiff,reduceAdd,bs149,ba149_149,f5,f7,f8,f11,hap,e2]
     refine⟨mm - 1,by omega,i+1,v',by omega,E5,?_,by simp[f1],by simp,by simp[f9],by simp[f10],by simp⟩
     rw[hcB,if_neg d1,if_neg (by omega),List.length_append,List.map_append,List.map_cons,List.map_nil,hxd]
     exact A5
    ·simp -dsimp (maxSteps:=1000000) (disch:=try exact dx) only[wpS,wpT,reduceEqDiff,f8,f11,e2]
     refine⟨mm - 1,by omega,i+1,bv,by omega,E.trans E2,?_,by simp[f1],by simp[f5],by simp[f9],by simp[f10],by simp⟩
     rw[hcB,if_neg d1,if_pos (by omega)]
     exact A2
 ·obtain rfl:i=l.length:=by omega
  simp -dsimp (maxSteps:=1000000) (disch:=try exact dx) only[wpS,wpT,reduceEqDiff,f5,f10,f11]
  exact⟨E,A⟩
end Go.Id

namespace Go.Id
open Go
structure RaceP where
 n:Nat
 m:Nat
 kr:Nat
 kt:Nat
 kb1:Nat
 kb2:Nat
 kk:Nat→Nat
 at_:Nat→Nat
 p:Nat→Nat
 va:Value
def RaceP.cl (R:RaceP) (s:Nat→Nat) (i:Nat):Claim:=⟨R.kk i,R.at_ i,R.p i,s i⟩
def RaceP.cls (R:RaceP) (s:Nat→Nat):List Claim:=(List.range R.n).map (R.cl s)
structure RaceP.OK (R:RaceP):Prop where
 inc : ∀i j,i<j→j<R.n→R.kk i<R.kk j
 lo : ∀i,i<R.n→R.kr<R.kk i∧R.kk i<R.kt
 bx:R.kr<R.kt∧R.kt<R.kb1∧R.kb1<R.kb2
 pp : ∀i,i<R.n→1≤R.p i∧R.p i≤1000000000
 mm:11≤R.m∧R.m≤15
 nn:0<R.n∧R.n≤60
theorem RaceP.OK.ne {R:RaceP} (O:R.OK) {i j:Nat} (hi:i<R.n) (hj:j<R.n) (h:i≠j):R.kk i≠R.kk j:=by
 rcases Nat.lt_or_gt_of_ne h with h|h
 ·have:=O.inc i j h hj;omega
 ·have:=O.inc j i h hi;omega
structure Own (R:RaceP) (h h':IH):Prop where
 n:h.n≤h'.n
 base:h'.base=h.base
 get : ∀k,k<h.n→k≠R.kr→k≠R.kt→(∀i,i<R.n→k≠R.kk i)→h'.ext.get k=h.ext.get k
 fams : ∀f,f<h.n→h'.fams.get f=h.fams.get f
theorem Own.refl (R:RaceP) (h:IH):Own R h h:=⟨Nat.le_refl _,rfl,fun _ _ _ _ _=>rfl,fun _ _=>rfl⟩
theorem Own.ext {R:RaceP} {a b c:IH} (o:Own R a b) (e:Ext b c):Own R a c :=
 ⟨Nat.le_trans o.n e.n,e.base.trans o.base,fun k hk h1 h2 h3=>(e.get k (Nat.lt_of_lt_of_le hk o.n)).trans (o.get k hk h1 h2 h3),fun f hf=>(e.fams f (Nat.lt_of_lt_of_le hf o.n)).trans (o.fams f hf)⟩
theorem Own.putR {R:RaceP} {a b:IH} (o:Own R a b) (x:IObj):Own R a (b.put R.kr x) :=
 ⟨o.n,o.base,fun k hk h1 h2 h3=>by rw[get_put_old _ _ h1];exact o.get k hk h1 h2 h3,o.fams⟩
theorem Own.putT {R:RaceP} {a b:IH} (o:Own R a b) (x:IObj):Own R a (b.put R.kt x) :=
 ⟨o.n,o.base,fun k hk h1 h2 h3=>by rw[get_put_old _ _ h2];exact o.get k hk h1 h2 h3,o.fams⟩
theorem Own.putK {R:RaceP} {a b:IH} (o:Own R a b) {i:Nat} (hi:i<R.n) (x:IObj):Own R a (b.put (R.kk i) x) :=
 ⟨o.n,o.base,fun k hk h1 h2 h3=>by rw[get_put_old _ _ (h3 i hi)];exact o.get k hk h1 h2 h3,o.fams⟩
structure RaceAt (R:RaceP) (h:IH) (s:Nat→Nat) (left:Int) (tv:Value):Prop where
 gr:h.ext.get R.kr=some (.cells [KN R.m,R.va,KI left] 0 none)
 gc : ∀i,i<R.n→h.ext.get (R.kk i)=some (.cells (claimC R.m (R.at_ i) (R.p i) (s i)) 0 none)
 gt:h.ext.get R.kt=some (.cells [tv] 0 none)
 g1:h.ext.get R.kb1=some (.cells [ptr (2*R.kr) 0] 0 none)
 g2:h.ext.get R.kb2=some (.cells [ptr (2*R.kt) 0] 0 none)
 sl:SlOf h 1 R.va R.n ((List.range R.n).map fun i=>ptr (2*R.kk i) 0)
 lt:R.kb2<h.n
theorem RaceAt.ext {R:RaceP} (O:R.OK) {h h':IH} {s:Nat→Nat} {left:Int} {tv:Value} (r:RaceAt R h s left tv) (e:Ext h h'):RaceAt R h' s left tv:=by
 obtain⟨a,b,c,d,f,g,l⟩:=r
 have bx:=O.bx
 exact⟨e.kept (by omega) a,fun i hi=>e.kept (by have:=O.lo i hi;omega) (b i hi),e.kept (by omega) c,e.kept (by omega) d,e.kept (by omega) f,g.keep e.keep,by have:=e.n;omega⟩
theorem RaceAt.claims {R:RaceP} (O:R.OK) {h:IH} {s:Nat→Nat} {left:Int} {tv:Value} (r:RaceAt R h s left tv) (hs : ∀i,i<R.n→s i≤1000):Claims h R.m (R.cls s):=by
 intro c hc
 obtain⟨i,hi,rfl⟩:=List.mem_map.1 hc
 have hi:=List.mem_range.1 hi
 have bx:=O.bx
 have lo:=O.lo i hi
 exact⟨r.gc i hi,(show R.kk i<h.n by have:=r.lt;omega),(O.pp i hi).2,hs i hi⟩
theorem sp_seat (m a p s:Nat) (x:Value):IH.splice (claimC m a p s) 2 [x]=KN a :: KN p :: x :: rankC m p s:=rfl
theorem sp_next (a p s:Nat) (x:List Value) (m s0:Nat) (hx:x.length=17):IH.splice (KN a :: KN p :: KN s :: rankC m p s0) 3 x=KN a :: KN p :: KN s :: x:=by
 show KN a :: KN p :: KN s :: (x ++ List.drop (3+x.length) (KN a :: KN p :: KN s :: rankC m p s0))=_
 rw[List.drop_eq_nil_of_le (by simp[rankC_len];omega),List.append_nil]
theorem RaceAt.upd {R:RaceP} (O:R.OK) {h H:IH} {s:Nat→Nat} {left l2:Int} {tv:Value} (r:RaceAt R h s left tv) {i:Nat} (hi:i<R.n) (hn:h.n≤H.n) (hk:Keep h H) (hg : ∀k,k<h.n→k≠R.kr→k≠R.kk i→H.ext.get k=h.ext.get k)
  (g1:H.ext.get R.kr=some (.cells [KN R.m,R.va,KI l2] 0 none)) (g2:H.ext.get (R.kk i)=some (.cells (claimC R.m (R.at_ i) (R.p i) (s i+1)) 0 none)):RaceAt R H (given s [i]) l2 tv:=by
 obtain⟨a,b,c,d,f,g,l⟩:=r
 have bx:=O.bx
 have lo:=O.lo i hi
 refine⟨g1,fun j hj=>?_,(hg _ (by omega) (by omega) (by omega)).trans c,(hg _ (by omega) (by omega) (by omega)).trans d,(hg _ (by omega) (by omega) (by omega)).trans f,g.keep hk,by omega⟩
 have lj:=O.lo j hj
 by_cases hji:j=i
 ·subst hji
  rw[g2];simp[given]
 ·rw[hg _ (by omega) (by omega) (O.ne hj hi hji),b j hj];simp[given,hji]
theorem bestN_congr {ks ks':Nat→Bool×Rat} : ∀n,(∀i,i<n→ks i=ks' i)→bestN ks n=bestN ks' n
 | 0,_=>rfl
 | n+1,h=>by
  have ih:=bestN_congr n fun i hi=>h i (by omega)
  have bo:=best_ok ks n
  rw[bestN,bestN,←ih]
  cases hB:bestN ks n with
  | nil=>rfl
  | cons b l =>
   rw[hB] at bo
   have hb:=bo.lt b List.mem_cons_self
   show(if ltK (ks b) (ks n) then [n] else if ltK (ks n) (ks b) then b :: l else b :: l ++ [n])=(if ltK (ks' b) (ks' n) then [n] else if ltK (ks' n) (ks' b) then b :: l else b :: l ++ [n])
   rw[h b (by omega),h n (by omega)]
def RaceP.best (R:RaceP) (s:Nat→Nat):List Nat:=bestN (fun i=>keyC R.m (R.p i) (s i)) R.n
theorem RaceP.best_eq (R:RaceP) (s:Nat→Nat):bestN (keysL R.m (R.cls s)) R.n=R.best s:=by
 refine bestN_congr R.n fun i hi=>?_
 unfold keysL RaceP.cls
 rw[List.getD_eq_getElem?_getD,List.getElem?_map,List.getElem?_range hi]
 rfl
theorem given_snoc (s:Nat→Nat) (B:List Nat) (x:Nat) (h:x∉B):given (given s B) [x]=given s (B ++ [x]):=by
 funext i
 unfold given
 by_cases hx:i=x
 ·subst hx;simp[h]
 ·simp[hx]
def RaceEnd (R:RaceP) (h:IH) (low:Nat→Nat) (s:Nat→Nat) (left:Nat):Prop :=
 Fair R.m R.n R.p low s∧((left=0∧RaceAt R h s 0 (.slice none 0 0))∨(0<left∧left<(R.best s).length ∧ ∃tv,RaceAt R h s left tv∧SlOf h 1 tv (R.best s).length ((R.best s).map fun i=>ptr (2*R.kk i) 0)))
end Go.Id
