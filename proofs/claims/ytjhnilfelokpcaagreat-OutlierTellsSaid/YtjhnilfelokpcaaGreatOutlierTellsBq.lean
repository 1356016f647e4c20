/-
  The statement OutlierTells, on the ideal machine: the walk. The statement OutlierTells, on the ideal machine: the extremity.
-/
import Derived.Test.YtjhnilfelokpcaaGreatOutlierTellsAr
import Derived.Test.YtjhnilfelokpcaaGreatOutlierTellsBp
set_option linter.unusedVariables false
set_option linter.unusedSimpArgs false
set_option linter.defProp false
set_option linter.deprecated false
namespace Go.Id
open Go
open Go.Proofs.Tryz (prog)
open Nat (reduceAdd reduceEqDiff reduceLeDiff)
set_option maxHeartbeats 16000000

noncomputable abbrev bodyOt:Code:=Proofs.Tryz.f7.body.getD .skip
theorem ot0 (base:Nat→Option (List Value)) (v:Value) (at_:Int) (a1 a2 b1 b2:Bool) (x1 x2 y1 y2:Value) (m1 m2 n1 n2:Int) :
  evC (E1 prog tb38) (callV (E1 prog tb38) 1) 7 183 none 1 (partAt bodyOt 0) (enterFr 0 [v,.int .u8 at_,.agg #[.bool a1,x1,.int .u32 m1,.bool a2,x2,.int .u32 m2],.agg #[.bool b1,y1,.int .u32 n1,.bool b2,y2,.int .u32 n2]]) (IH.start base)=some (.normal,(8,.bool false) :: (7,ptr 2 0) :: (6,ptr 0 0) :: enterFr 0 [v,.int .u8 at_,.agg #[.bool a1,x1,.int .u32 m1,.bool a2,x2,.int .u32 m2],.agg #[.bool b1,y1,.int .u32 n1,.bool b2,y2,.int .u32 n2]],((IH.start base).new (.cells [.bool a1,x1,.int .u32 m1,.bool a2,x2,.int .u32 m2] 0 none)).new (.cells [.bool b1,y1,.int .u32 n1,.bool b2,y2,.int .u32 n2] 0 none)):=rfl
theorem ot1 (fr:Fr) (h:IH) :
  evC (E1 prog tb38) (callV (E1 prog tb38) 1) 7 183 none 1 (partAt bodyOt 1) fr h=some (.normal,(32,.bool false) :: (31,.bool true) :: fr,h):=rfl
structure OX (h hh:IH) (fr:Fr) (at_:Int) (a b:Nat) (x:Value) (l:List (Nat×Nat)):Prop where
 e:Ext h hh
 f1:fget fr 1=some (.int .u8 at_)
 f6:fget fr 6=some (ptr (2*a) 0)
 f7:fget fr 7=some (ptr (2*b) 0)
 f9:fget fr 9=some x
 s:ShSl hh x l
noncomputable abbrev QT:IExit→Fr→IH→Prop:=retK prog [.tmp 8] fun r _=>r=.bool true
section
variable {h hh:IH} {fr:Fr} {v x:Value} {nd a b k:Nat} {at_:Int} {l:List (Nat×Nat)}
theorem ot2 (hw:DrSl h v nd) (f0:fget fr 0=some v) (f1:fget fr 1=some (.int .u8 at_)) (f6:fget fr 6=some (ptr (2*a) 0)) (f7:fget fr 7=some (ptr (2*b) 0)):Do (wpC prog 7 183 none (partAt bodyOt 2) fr h) (seqK (fun fr h'=>Pst (∃x l,OX h h' fr at_ a b x l∧l.length≤12∧(∀p∈l,isShort p)∧(l = []→x=.slice none 0 0)) nx) QT) nx:=by
 show Do (wpC _ _ _ _ (.region _ _ _) fr h) _ _
 simp -dsimp (maxSteps:=1000000) (disch:=try exact dx) only[wpS,f0]
 refine call (olShorts_ok hw) ?_
 rintro x h1 ⟨X1,l,sx,hl,hsh,hnil⟩
 simp -dsimp (maxSteps:=1000000) (disch:=try exact dx) only[wpS,reduceEqDiff]
 exact⟨x,l,⟨X1,by simp[f1],by simp[f6],by simp[f7],by simp,sx⟩,by omega,hsh,hnil⟩
theorem ot3 (s:OX h hh fr at_ a b x l) (hl:l.length≤12) (hsh : ∀p∈l,isShort p) (hnil:l = []→x=.slice none 0 0):Do (wpC prog 7 183 none (partAt bodyOt 3) fr hh) (seqK (fun fr h'=>Pst (OX h h' fr at_ a b x l∧0<l.length) nx) QT) nx:=by
 have w0:0<W8:=by have:=H8_two;have:=H8_pos;omega
 show Do (wpC _ _ _ _ (.seq _ _) fr hh) _ _
 have el:=s.s.1.len (P:=prog) sl82
 by_cases c0:l = []
 ·subst c0
  obtain rfl:=hnil rfl
  simp -dsimp (maxSteps:=1000000) (disch:=try exact dx) only[wpS,wpT,reduceEqDiff,s.f9,el]
  refine call (olfails_ok 4) ?_
  rintro _ _ ⟨rfl,rfl⟩
  have E2:Ext hh (hh.new (.cells [KI 4] 0 none)):=(Ext.refl hh).new _
  have g2:(hh.new (.cells [KI 4] 0 none)).ext.get hh.n=some (.cells [KI 4] 0 none):=by simp (disch:=try exact dx) only[get_new_same]
  simp -dsimp (maxSteps:=1000000) (disch:=try exact dx) only[wpS,reduceEqDiff,s.f9]
  refine call (olExtremity_ok (j:=0) (s.s.keep E2.keep) ⟨by omega,by omega⟩) ?_
  rintro _ h3 ⟨X3,rfl⟩
  rw[extRes_nil]
  simp -dsimp (maxSteps:=1000000) (disch:=try exact dx) only[wpS,reduceEqDiff]
  refine call (olfails1_ok (b:=hh.n) (n:=0) (d:=0) (e:=4) (e':=4) w0 w0 (by have:=X3.n;simp only[new_n] at this;omega) (X3.kept (by simp) g2)) ?_
  rintro _ h4 ⟨X4,rfl⟩
  simp -dsimp (maxSteps:=1000000) (disch:=try exact dx) only[wpS,wpT,reduceEqDiff]
  simp
 ·have l0:0<l.length:=List.length_pos_iff.2 c0
  have d:(((l.length:Nat):Int) == 0)=false:=by simp;omega
  simp -dsimp (maxSteps:=1000000) (disch:=try exact dx) only[wpS,reduceEqDiff,s.f9,el,d]
  exact⟨⟨s.e,by simp[s.f1],by simp[s.f6],by simp[s.f7],by simp[s.f9],s.s⟩,l0⟩
structure OY (h hh:IH) (fr:Fr) (a b:Nat) (x:Value) (l:List (Nat×Nat)) (k:Nat):Prop where
 e:Ext h hh
 f6:fget fr 6=some (ptr (2*a) 0)
 f7:fget fr 7=some (ptr (2*b) 0)
 f9:fget fr 9=some x
 f10:fget fr 10=some (KN k)
 s:ShSl hh x l
 k:k<l.length
theorem ot4 (s:OX h hh fr at_ a b x l) (ha:0≤at_∧at_<256) (hl:l.length≤12) (l0:0<l.length):Do (wpC prog 7 183 none (partAt bodyOt 4) fr hh) (seqK (fun fr h'=>Pst (∃k,OY h h' fr a b x l k) nx) QT) nx:=by
 show Do (wpC _ _ _ _ (.region _ _ _) fr hh) _ _
 have el:=s.s.1.len (P:=prog) sl82
 have r0:0≤at_ % ((l.length:Nat):Int):=Int.emod_nonneg _ (by omega)
 have r1:at_ % ((l.length:Nat):Int)<((l.length:Nat):Int):=Int.emod_lt_of_pos _ (by omega)
 obtain⟨k,hk⟩ : ∃k:Nat,at_ % ((l.length:Nat):Int)=(k:Int):=⟨(at_ % ((l.length:Nat):Int)).toNat,by omega⟩
 simp -dsimp (maxSteps:=1000000) (disch:=try exact dx) only[wpS,reduceEqDiff,cv5_3,s.f1,s.f9,el,hk]
 exact⟨k,s.e,by simp[s.f6],by simp[s.f7],by simp[s.f9],by simp,s.s,by omega⟩
theorem ot5 (s:OY h hh fr a b x l k) (hl:l.length≤12) (hsh : ∀p∈l,isShort p):Do (wpC prog 7 183 none (partAt bodyOt 5) fr hh) (seqK (fun fr h'=>Pst (∃c,OY h h' fr a b x l k∧fget fr 11=some (ptr (2*c) 0)∧c<h'.n∧h'.ext.get c=some (.cells (shC (shq (extR l k)).1 (shq (extR l k)).2) 0 none)∧fget fr 12=some (KI 0)) nx) QT) nx:=by
 show Do (wpC _ _ _ _ (.region _ _ _) fr hh) _ _
 have sk:=s.k
 simp -dsimp (maxSteps:=1000000) (disch:=try exact dx) only[wpS,reduceEqDiff,s.f9,s.f10]
 refine call (olExtremity_ok (j:=(k:Int)) s.s ⟨by omega,by omega⟩) ?_
 rintro _ h3 ⟨X3,rfl⟩
 rw[extRes_fine hsh hl s.k]
 generalize shq (extR l k)=p
 simp -dsimp (maxSteps:=1000000) (disch:=try exact dx) only[wpS,wpT,reduceEqDiff,reduceLeDiff,reduceAdd,zc48,st48,shV_cells,shC_len,shC_all,sh_sp3]
 have Z:Ext h3 ((h3.new (.cells Z16 0 none)).put h3.n (.cells (shC p.1 p.2) 0 none)):=((Ext.refl h3).new _).put (Nat.le_refl _) _
 exact⟨h3.n,⟨(s.e.trans X3).trans Z,by simp[s.f6],by simp[s.f7],by simp[s.f9],by simp[s.f10],s.s.keep (X3.trans Z).keep,s.k⟩,by simp,by simp,by simp (disch:=try exact dx) only[get_put_same],by simp⟩
end
end Go.Id

namespace Go.Id
open Go
set_option maxHeartbeats 16000000
section
variable {h hh:IH} {fr:Fr} {v x:Value} {nd a b k:Nat} {at_:Int} {l:List (Nat×Nat)}
theorem ot8 (s:OY h hh fr a b x l k) (hl:l.length≤12) {c:Nat} (f11:fget fr 11=some (ptr (2*c) 0)) (hc:c<hh.n) (gc:hh.ext.get c=some (.cells (shC (shq (extR l k)).1 (shq (extR l k)).2) 0 none)) (f12:fget fr 12=some (KI 0)) (f13:fget fr 13=some (KN (upTo l k l.length))):Do (wpC Proofs.Tryz.prog 7 183 none (partAt bodyOt 8) fr hh) (seqK (fun fr h'=>Pst (OY h h' fr a b x l k) nx) QT) nx:=by
 have sk:=s.k
 have ul:=upTo_le l k l.length
 have w1:=shq_lt (extR_qw (l:=l) (by omega) (by omega) k)
 have ed:=extR_div l k
 show Do (wpC _ _ _ _ (.seq _ _) fr hh) _ _
 obtain⟨p,hp⟩ : ∃p,p=shq (extR l k):=⟨_,rfl⟩
 rw[←hp] at gc w1
 obtain⟨_,_,L1⟩:=psh gc
 have Y0:=Ext.refl hh
 simp -dsimp (maxSteps:=1000000) (disch:=try exact dx) only[wpS]
 refine drawn [(3,[10])] (by kernel_rfl) (by kernel_rfl) rfl ?_
 simp -dsimp (maxSteps:=1000000) (disch:=try exact dx) only[wpS,wpT,Nat.reduceEqDiff,Nat.reduceLeDiff,ld48,f12,f11,f13,s.f9,s.s.1.len sl82,row_of gc,shC_len,sh_take]
 refine call (olq_ok (upTo l k l.length:Nat) (l.length:Nat) ⟨by omega,by omega⟩ ⟨by omega,by omega⟩ (by omega)) ?_
 rintro _ h1 ⟨X1,rfl⟩
 rw[←ed,shareV_shq,←hp]
 have hne : ∀ox oy,binop Proofs.Tryz.prog .neq 48 ox oy (.agg (shC p.1 p.2).toArray) (shV p.1 p.2)=some (.bool false):=fun ox oy=>by
  exact(sh_neq w1.1 w1.2 w1.1 w1.2 ox oy).trans (by rw[decide_eq_true ⟨rfl,rfl⟩];rfl)

 simp -dsimp (maxSteps:=1000000) (disch:=try exact dx) only[wpS,wpT,Nat.reduceEqDiff,hne]
 refine⟨wpSteady_one rfl rfl rfl rfl (steady_ext (H0:=hh) f11 (by omega) Y0 X1 L1),?_⟩
 simp -dsimp (maxSteps:=1000000) (disch:=try exact dx) only[wpS,wpT,Nat.reduceEqDiff,Nat.reduceAdd]
 exact⟨s.e.trans X1,by simp[s.f6],by simp[s.f7],by simp[s.f9],by simp[s.f10],s.s.keep X1.keep,sk⟩
end
end Go.Id

namespace Go.Id
open Go
set_option maxHeartbeats 16000000
section
variable {h hh:IH} {fr:Fr} {v x:Value} {nd a b k:Nat} {at_:Int} {l:List (Nat×Nat)}
theorem ot7 (s:OY h hh fr a b x l k) (hl:l.length≤12) (hsh : ∀p∈l,isShort p) {c:Nat} (f11:fget fr 11=some (ptr (2*c) 0)) (hc:c<hh.n) {cs:List Value} (gc:hh.ext.get c=some (.cells cs 0 none)) (f12:fget fr 12=some (KI 0)) (f13:fget fr 13=some (KI 0)):Do (wpC Proofs.Tryz.prog 7 183 none (partAt bodyOt 7) fr hh) (seqK (fun fr h'=>Pst (OY h h' fr a b x l k∧fget fr 11=some (ptr (2*c) 0)∧c<h'.n∧h'.ext.get c=some (.cells cs 0 none)∧fget fr 12=some (KI 0)∧fget fr 13=some (KN (upTo l k l.length))) nx) QT) nx:=by
 have sk:=s.k
 obtain⟨q,hq⟩ : ∃q,l[k]?=some q:=⟨_,List.getElem?_eq_getElem sk⟩
 have qm:=List.mem_of_getElem? hq
 have gq:l.getD k (0,0)=q:=by rw[List.getD_eq_getElem?_getD,hq];rfl
 obtain⟨wq,oq⟩:=short_fine (hsh q qm)
 have hv:=s.s
 show Do (wpC _ _ _ _ (.seq _ _) fr hh) _ _
 simp -dsimp (maxSteps:=1000000) (disch:=try exact dx) only[wpS,s.f9,hv.1.len sl82]
 refine loop (fun m fr g => ∃i:Nat,i+m=l.length∧Ext hh g∧fget fr 6=some (ptr (2*a) 0)∧fget fr 7=some (ptr (2*b) 0)∧fget fr 9=some x∧fget fr 10=some (KN k)∧fget fr 11=some (ptr (2*c) 0)∧fget fr 12=some (KI 0)∧fget fr 13=some (KN (upTo l k i))∧fget fr 55=some x∧fget fr 56=some (KN l.length)∧fget fr 57=some (KN i)) l.length
  ⟨0,by omega,Ext.refl _,by simp[s.f6],by simp[s.f7],by simp[s.f9],by simp[s.f10],by simp[f11],by simp[f12],by simp[f13,upTo],by simp,by simp,by simp⟩ ?_
 rintro m fr g ⟨i,him,E,f6,f7,f9,f10,f11,f12,f13,f55,f56,f57⟩
 simp -dsimp (maxSteps:=1000000) (disch:=try exact dx) only[wpS,f56,f57]
 refine bq_intro ?_ ?_<;>intro hcc<;>simp only[decide_eq_true_eq,decide_eq_false_iff_not] at hcc
 ·have hi:i<l.length:=by omega
  obtain⟨p,hp⟩ : ∃p,l[i]?=some p:=⟨_,List.getElem?_eq_getElem hi⟩
  have pm:=List.mem_of_getElem? hp
  obtain⟨wp,op⟩:=short_fine (hsh p pm)
  have gp:l.getD i (0,0)=p:=by rw[List.getD_eq_getElem?_getD,hp];rfl
  obtain⟨H0,hH0⟩ : ∃H0,H0=(g.new (.cells Z16 0 none)).put g.n (.cells (shC p.1 p.2) 0 none):=⟨_,rfl⟩
  have e0:Ext g H0:=by rw[hH0];exact((Ext.refl g).new _).put (Nat.le_refl _) _
  have n0:H0.n=g.n+1:=by rw[hH0];rfl
  have gx:H0.ext.get g.n=some (.cells (shC p.1 p.2) 0 none):=by rw[hH0];simp (disch:=try exact dx) only[get_put_same]
  simp -dsimp (maxSteps:=1000000) (disch:=try exact dx) only[wpS,wpT,Nat.reduceEqDiff,Nat.reduceLeDiff,Nat.reduceAdd,zc48,st48,ld48,f55,f57,hv.1.idx es82 hi,hv.ld E.keep hp,shV_cells,shC_len,shC_all,sh_sp3]
  rw[←hH0]
  clear hH0
  have K0:Keep hh H0:=(E.trans e0).keep
  simp -dsimp (maxSteps:=1000000) (disch:=try exact dx) only[wpS,Nat.reduceEqDiff,sh_take,f9,f10,hv.1.idx es82 sk,hv.ld K0 hq]
  refine call (shcmp_ok wp wq op oq) ?_
  rintro _ h1 ⟨X1,rfl⟩
  have K1:Keep hh h1:=(E.trans (e0.trans X1)).keep
  obtain⟨z,hz,hzl⟩:=cmp_le (rOf p) (rOf q)
  rw[hz]
  have E1:=E.trans (e0.trans X1)
  have us:upTo l k (i+1)=if z≤0 then upTo l k i+1 else upTo l k i:=by
   rw[upTo,gp,gq]
   by_cases c:rOf p≤rOf q
   ·rw[if_pos c,if_pos (hzl.2 c)]
   ·rw[if_neg c,if_neg (fun h=>c (hzl.1 h))]
  have ul:=upTo_le l k i
  by_cases cz:z≤0
  ·rw[if_pos cz] at us
   have d:decide (z≤0)=true:=decide_eq_true cz
   simp -dsimp (maxSteps:=1000000) (disch:=try exact dx) only[wpS,wpT,Nat.reduceEqDiff,d,f13,f57]
   exact⟨m - 1,by omega,i+1,by omega,E1,by simp[f6],by simp[f7],by simp[f9],by simp[f10],by simp[f11],by simp[f12],by simp[us],by simp[f55],by simp[f56],by simp⟩
  ·rw[if_neg cz] at us
   have d:decide (z≤0)=false:=decide_eq_false cz
   simp -dsimp (maxSteps:=1000000) (disch:=try exact dx) only[wpS,wpT,Nat.reduceEqDiff,d,f57]
   exact⟨m - 1,by omega,i+1,by omega,E1,by simp[f6],by simp[f7],by simp[f9],by simp[f10],by simp[f11],by simp[f12],by simp[f13,us],by simp[f55],by simp[f56],by simp⟩
 ·obtain rfl:i=l.length:=by omega
  simp -dsimp (maxSteps:=1000000) (disch:=try exact dx) only[wpS,wpT]
  exact⟨⟨s.e.trans E,by simp[f6],by simp[f7],by simp[f9],by simp[f10],hv.keep E.keep,sk⟩,by simp[f11],by have:=E.n;omega,E.kept hc gc,by simp[f12],by simp[f13]⟩
end
end Go.Id

namespace Go.Id
open Go
open Nat (reduceAdd reduceEqDiff reduceLeDiff)
set_option maxHeartbeats 16000000
theorem shq_inj0 {x y:Rat} (hx:QW x) (hy:QW y) (h:shq x=shq y):x=y:=by
 rw[←(shq_rOf hx).1,←(shq_rOf hy).1,h]
def Lev (x:Rat):Prop:=QW x∧0≤x∧x≤1
theorem lev_div {a c:Int} (a0:0≤a) (a1:a≤c) (a2:0<c) (a3:c<25):Lev (Rat.divInt a c):=by
 refine⟨qw_div ⟨by omega,by omega⟩ ⟨by omega,by omega⟩ (by omega),?_,?_⟩
 ·exact Rat.divInt_nonneg a0 (by omega)
 ·rw[Rat.divInt_eq_div]
  have c0:(0:Rat)<((c:Int):Rat):=by
   have:((0:Int):Rat)<((c:Int):Rat):=Rat.intCast_lt_intCast.2 a2
   simpa using this
  have ac:((a:Int):Rat)≤((c:Int):Rat):=Rat.intCast_le_intCast.2 a1
  generalize ((a:Int):Rat)=y at *
  generalize ((c:Int):Rat)=z at *
  have e:y / z*z=y:=Rat.div_mul_cancel (by grind)
  generalize y / z=t at *
  refine Rat.not_lt.1 fun hn=>?_
  have:=Rat.mul_pos (a:=t - 1) (b:=z) (by grind) c0
  grind
structure OZ (h hh:IH) (fr:Fr) (x:Value) (l:List (Nat×Nat)) (k c d:Nat) (u w:Rat):Prop where
 e:Ext h hh
 f9:fget fr 9=some x
 f10:fget fr 10=some (KN k)
 f18:fget fr 18=some (ptr (2*c) 0)
 f19:fget fr 19=some (ptr (2*d) 0)
 lc:c<hh.n
 ld:d<hh.n
 cd:c≠d
 gc:hh.ext.get c=some (.cells (shC (shq u).1 (shq u).2) 0 none)
 gd:hh.ext.get d=some (.cells (shC (shq w).1 (shq w).2) 0 none)
 s:ShSl hh x l
 k:k<l.length
 u:Lev u
 w:Lev w
 hc:h.n≤c
 hd:h.n≤d
section
variable {h hh:IH} {fr:Fr} {v x:Value} {nd a b c d k:Nat} {at_:Int} {l:List (Nat×Nat)} {u w:Rat}
theorem OZ.to {h hh g:IH} {fr gr:Fr} (s:OZ h hh fr x l k c d u w) (E:Ext hh g) (f9:fget gr 9=some x) (f10:fget gr 10=some (KN k)) (f18:fget gr 18=some (ptr (2*c) 0)) (f19:fget gr 19=some (ptr (2*d) 0)):OZ h g gr x l k c d u w :=
 ⟨s.e.trans E,f9,f10,f18,f19,by have:=E.n;have:=s.lc;omega,by have:=E.n;have:=s.ld;omega,s.cd,E.kept s.lc s.gc,E.kept s.ld s.gd,s.s.keep E.keep,s.k,s.u,s.w,s.hc,s.hd⟩
theorem sh_spl (a b c d:Nat):IH.splice (shC a b) 0 (shC c d)=shC c d:=by
 simp[IH.splice,shC_len]
theorem tk6o (a b c d e f:Value):List.take 6 (List.drop 0 [a,b,c,d,e,f]) = [a,b,c,d,e,f]:=rfl
theorem ot9 (s:OY h hh fr a b x l k) {a1 a2 b1 b2:Bool} {x1 x2 y1 y2:Value} {m1 m2 n1 n2:Int} (ga:h.ext.get a=some (.cells [.bool a1,x1,.int .u32 m1,.bool a2,x2,.int .u32 m2] 0 none)) (gb:h.ext.get b=some (.cells [.bool b1,y1,.int .u32 n1,.bool b2,y2,.int .u32 n2] 0 none)) (la:a<h.n) (lb:b<h.n)
  (qa:cellOK x1=true∧cellOK x2=true∧(0≤m1∧m1<4294967296)∧(0≤m2∧m2<4294967296)) (qb:cellOK y1=true∧cellOK y2=true∧(0≤n1∧n1<4294967296)∧(0≤n2∧n2<4294967296)) :
  Do (wpC Proofs.Tryz.prog 7 183 none (partAt bodyOt 9) fr hh) (seqK (fun fr h'=>Pst (∃c d u w,OZ h h' fr x l k c d u w) nx) QT) nx:=by
 obtain⟨qa1,qa2,qa3,qa4⟩:=qa
 obtain⟨qb1,qb2,qb3,qb4⟩:=qb
 show Do (wpC _ _ _ _ (.region _ _ _) fr hh) _ _
 have ka:=s.e.kept la ga
 have kb:=s.e.kept lb gb
 have oo:=s.e.n
 have V0:=Ext.refl hh
 have L2:load Proofs.Tryz.prog hh 81 (ptr (2*b) 0)=some (.agg #[.bool b1,y1,.int .u32 n1,.bool b2,y2,.int .u32 n2]):=by
  have r:=row_of kb
  simp -dsimp (maxSteps:=1000000) (disch:=try exact dx) only[wpS,wpT,reduceLeDiff,reduceAdd,ld81,r,tk6o]
 refine drawn [(2,[1])] (by kernel_rfl) (by kernel_rfl) rfl ?_
 simp -dsimp (maxSteps:=1000000) (disch:=try exact dx) only[wpS,wpT,reduceLeDiff,reduceAdd,ld81,s.f6,row_of ka,tk6o]
 refine call (drunit_ok (by simpa using qa1) (by simpa using qa2) qa3.1 qa3.2 qa4.1 qa4.2) ?_
 rintro _ h1 ⟨X1,a1,c1,a10,a11,a12,a13,rfl⟩
 have o1:=X1.n
 have lev1:=lev_div a10 a11 a12 a13
 rw[shareV_shq]
 generalize Rat.divInt a1 c1=u at lev1 ⊢
 simp -dsimp (maxSteps:=1000000) (disch:=try exact dx) only[wpS,wpT,reduceEqDiff,reduceLeDiff,reduceAdd,ld81,s.f7,row_of (X1.kept (by omega) kb),tk6o]
 refine call (drunit_ok (by simpa using qb1) (by simpa using qb2) qb3.1 qb3.2 qb4.1 qb4.2) ?_
 rintro _ h2 ⟨X2,a2,c2,a20,a21,a22,a23,rfl⟩
 have o2:=X2.n
 have lev2:=lev_div a20 a21 a22 a23
 rw[shareV_shq]
 generalize Rat.divInt a2 c2=w at lev2 ⊢
 have X12:=X1.trans X2
 simp -dsimp (maxSteps:=1000000) (disch:=try exact dx) only[wpS,wpT,reduceEqDiff,reduceLeDiff,reduceAdd,zc48,st48,shV_cells,shC_len,shC_all,sh_sp3]
 refine⟨wpSteady_one rfl rfl rfl rfl (steady_ext (H0:=hh) s.f7 (by omega) X1 V0 L2),?_⟩
 simp -dsimp (maxSteps:=1000000) (disch:=try exact dx) only[wpS,wpT,reduceAdd]
 have Z:Ext h2 ((((h2.new (.cells Z16 0 none)).new (.cells Z16 0 none)).put h2.n (.cells (shC (shq u).1 (shq u).2) 0 none)).put (h2.n+1) (.cells (shC (shq w).1 (shq w).2) 0 none)):=((((Ext.refl h2).new _).new _).put (by omega) _).put (by omega) _
 exact⟨h2.n,h2.n+1,u,w,⟨(s.e.trans X12).trans Z,by simp[s.f9],by simp[s.f10],by simp,by simp,by simp<;>omega,by simp,by omega,by simp (disch:=try exact dx) only[get_put_same,get_put_old],by simp (disch:=try exact dx) only[get_put_same],s.s.keep (X12.trans Z).keep,s.k,lev1,lev2,by omega,by omega⟩⟩
theorem ot10 (s:OZ h hh fr x l k c d u w):Do (wpC Proofs.Tryz.prog 7 183 none (partAt bodyOt 10) fr hh) (seqK (fun fr h'=>Pst (∃u w,OZ h h' fr x l k c d u w∧u≤w) nx) QT) nx:=by
 show Do (wpC _ _ _ _ (.seq _ _) fr hh) _ _
 obtain⟨e1,e2⟩:=shq_rOf s.u.1
 obtain⟨e3,e4⟩:=shq_rOf s.w.1
 simp -dsimp (maxSteps:=1000000) (disch:=try exact dx) only[wpS,reduceEqDiff,reduceLeDiff,ld48,s.f18,s.f19,row_of s.gc,row_of s.gd,shC_len,sh_take]
 refine call (shcmp_ok (shq_lt s.u.1) (shq_lt s.w.1) e2 e4) ?_
 rintro _ h1 ⟨X1,rfl⟩
 rw[e1,e3]
 obtain⟨z,hz,hzl⟩:=cmp_le u w
 rw[hz]
 have S:=s.to (gr:=fr) X1 s.f9 s.f10 s.f18 s.f19
 by_cases cz:z≤0
 ·have dd:decide (0<z)=false:=decide_eq_false (by omega)
  simp -dsimp (maxSteps:=1000000) (disch:=try exact dx) only[wpS,reduceEqDiff,dd]
  exact⟨u,w,S.to (Ext.refl _) (by simp[s.f9]) (by simp[s.f10]) (by simp[s.f18]) (by simp[s.f19]),hzl.1 cz⟩
 ·have dd:decide (0<z)=true:=decide_eq_true (by omega)
  have cd:=s.cd
  have cd':=s.cd.symm
  have gd2:(h1.put c (.cells (shC (shq w).1 (shq w).2) 0 none)).ext.get d=some (.cells (shC (shq w).1 (shq w).2) 0 none):=by rw[get_put_old _ _ cd'];exact S.gd
  simp -dsimp (maxSteps:=1000000) (disch:=try exact dx) only[wpS,wpT,reduceEqDiff,reduceLeDiff,st48,ld48,dd,s.f18,s.f19,row_of S.gc,row_of S.gd,S.gc,gd2,shC_len,shC_all,sh_spl,sh_take]
  have Z:Ext h ((h1.put c (.cells (shC (shq w).1 (shq w).2) 0 none)).put d (.cells (shC (shq u).1 (shq u).2) 0 none)):=(S.e.put S.hc _).put S.hd _
  refine⟨w,u,⟨Z,by simp[s.f9],by simp[s.f10],by simp[s.f18],by simp[s.f19],S.lc,S.ld,cd,(by rw[get_put_old _ _ cd];exact get_put_same _ _ rfl),get_put_same _ _ rfl,S.s.keep (((Keep.refl h1).put S.gc _).put gd2 _),s.k,s.w,s.u,s.hc,s.hd⟩,?_⟩
  exact Rat.le_of_lt (Rat.not_le.1 fun h=>cz (hzl.2 h))
end
end Go.Id

namespace Go.Id
open Go
open Go.Proofs.Tryz (prog)
open Nat (reduceAdd reduceEqDiff reduceLeDiff)
set_option maxHeartbeats 16000000
theorem lev_pos {u:Rat} (h:Lev u) (n : ¬u=0):0<u:=Rat.not_le.1 fun h2=>n (Rat.le_antisymm h2 h.2.1)
theorem qw0:QW 0:=by
 have:=(lev_div (a:=0) (c:=1) (by omega) (by omega) (by omega) (by omega)).1
 rwa [Rat.zero_divInt] at this
theorem lev_one:Lev 1:=by
 have:=lev_div (a:=1) (c:=1) (by omega) (by omega) (by omega) (by omega)
 rwa [show Rat.divInt 1 1=(1:Rat) from rfl] at this
theorem pass_two (l:List (Nat×Nat)) (k:Nat) {x:Rat} (h : ∀p∈l,isShort p) (hl:l.length≤12) (hk:k<l.length) (v:Lev x) (h0:0<x) (m:Bool):passRes l (shq x) m (k:Int)=.tuple #[.bool (passB (extR l k) x m),KI 0]:=by
 rw[passRes_fine h hl hk v.1,if_neg]
 rintro(c|c)
 ·exact Rat.not_le.2 h0 c
 ·exact Rat.not_lt.2 v.2.2 c
section
variable {h hh:IH} {fr:Fr} {v x:Value} {nd a b c d k:Nat} {at_:Int} {l:List (Nat×Nat)} {u w:Rat}
theorem ot11 (s:OZ h hh fr x l k c d u w) (hl:l.length≤12) (hsh : ∀p∈l,isShort p):Do (wpC prog 7 183 none (partAt bodyOt 11) fr hh) (seqK (fun fr h'=>Pst (OZ h h' fr x l k c d u w∧0<u) nx) QT) nx:=by
 show Do (wpC _ _ _ _ (.seq _ _) fr hh) _ _
 obtain⟨_,_,L1⟩:=psh s.gc
 have Y0:=Ext.refl hh
 have lc:=s.lc
 simp -dsimp (maxSteps:=1000000) (disch:=try exact dx) only[wpS]
 refine drawn [(0,[3])] (by kernel_rfl) (by kernel_rfl) rfl ?_
 simp -dsimp (maxSteps:=1000000) (disch:=try exact dx) only[wpS,reduceLeDiff,ld48,s.f18,row_of s.gc,shC_len,sh_take]
 refine call (olq_ok 0 1 ⟨by omega,by omega⟩ ⟨by omega,by omega⟩ (by omega)) ?_
 rintro _ h1 ⟨X1,rfl⟩
 rw[Rat.zero_divInt,shareV_shq]
 have S:=s.to (gr:=fr) X1 s.f9 s.f10 s.f18 s.f19
 have w1:=shq_lt s.u.1
 have w0:=shq_lt qw0
 by_cases c0:u=0
 ·have hne : ∀ox oy,binop prog .eql 48 ox oy (.agg (shC (shq u).1 (shq u).2).toArray) (shV (shq 0).1 (shq 0).2)=some (.bool true):=fun ox oy=>by
   exact(sh_eql w1.1 w1.2 w0.1 w0.2 ox oy).trans (by rw[c0,decide_eq_true ⟨rfl,rfl⟩])
  simp -dsimp (maxSteps:=1000000) (disch:=try exact dx) only[wpS,reduceEqDiff,hne]
  refine⟨wpSteady_one rfl rfl rfl rfl (steady_ext (H0:=hh) s.f18 (by omega) Y0 X1 L1),?_⟩
  simp -dsimp (maxSteps:=1000000) (disch:=try exact dx) only[wpS,wpT,reduceEqDiff,reduceAdd]
  obtain⟨_,_,L2⟩:=psh S.gc
  have Z0:=Ext.refl h1
  have lc2:=S.lc
  refine drawn [(2,[0])] (by kernel_rfl) (by kernel_rfl) rfl ?_
  simp -dsimp (maxSteps:=1000000) (disch:=try exact dx) only[wpS]
  refine call (stops_ok 2) ?_
  rintro _ _ ⟨rfl,rfl⟩
  have X2:Ext h1 (h1.new (.cells [KI 2] 0 none)):=(Ext.refl h1).new _
  have g2:(h1.new (.cells [KI 2] 0 none)).ext.get h1.n=some (.cells [KI 2] 0 none):=by simp (disch:=try exact dx) only[get_new_same]
  have S2:=S.to (gr:=fr) X2 s.f9 s.f10 s.f18 s.f19
  simp -dsimp (maxSteps:=1000000) (disch:=try exact dx) only[wpS,reduceEqDiff,reduceLeDiff,ld48,s.f9,s.f10,s.f18,row_of S2.gc,shC_len,sh_take]
  have sk:=s.k
  refine call (olPasses_ok (j:=(k:Int)) S2.s w1 ⟨by omega,by omega⟩) ?_
  rintro _ h3 ⟨X3,rfl⟩
  rw[passRes_fine hsh hl s.k s.u.1,if_pos (.inl (by rw[c0];exact Rat.le_refl))]
  simp -dsimp (maxSteps:=1000000) (disch:=try exact dx) only[wpS,reduceEqDiff]
  refine call (stops1_ok (b:=h1.n) (e:=2) (by have:=X3.n;simp only[new_n] at this;omega) (X3.kept (by simp) g2)) ?_
  rintro _ _ ⟨rfl,rfl⟩
  simp -dsimp (maxSteps:=1000000) (disch:=try exact dx) only[wpS,reduceEqDiff]
  refine⟨wpSteady_one rfl rfl rfl rfl (steady_ext (H0:=h1) s.f18 (by omega) X2 Z0 L2),?_⟩
  simp -dsimp (maxSteps:=1000000) (disch:=try exact dx) only[wpS,wpT,reduceEqDiff,reduceAdd]
 ·have hne : ∀ox oy,binop prog .eql 48 ox oy (.agg (shC (shq u).1 (shq u).2).toArray) (shV (shq 0).1 (shq 0).2)=some (.bool false):=fun ox oy=>by
   refine(sh_eql w1.1 w1.2 w0.1 w0.2 ox oy).trans ?_
   rw[decide_eq_false fun h=>c0 (shq_inj0 s.u.1 qw0 (Prod.ext h.1 h.2))]
  simp -dsimp (maxSteps:=1000000) (disch:=try exact dx) only[wpS,reduceEqDiff,hne]
  refine⟨wpSteady_one rfl rfl rfl rfl (steady_ext (H0:=hh) s.f18 (by omega) Y0 X1 L1),?_⟩
  simp -dsimp (maxSteps:=1000000) (disch:=try exact dx) only[wpS,wpT,reduceEqDiff,reduceAdd]
  exact⟨S.to (Ext.refl _) (by simp[s.f9]) (by simp[s.f10]) (by simp[s.f18]) (by simp[s.f19]),lev_pos s.u c0⟩
theorem bld_tf:buildV prog 95 [(0,.bool true),(1,.bool false)]=some (.agg #[.bool true,.bool false]):=by kernel_rfl
theorem ot12 (s:OZ h hh fr x l k c d u w) (hl:l.length≤12) (hsh : ∀p∈l,isShort p) (h0:0<u) (hle:u≤w):Do (wpC prog 7 183 none (partAt bodyOt 12) fr hh) (seqK (fun fr h'=>Pst (OZ h h' fr x l k c d u w) nx) QT) nx:=by
 have sk:=s.k
 have w0:0<w:=by grind
 show Do (wpC _ _ _ _ (.seq _ _) fr hh) _ _
 simp -dsimp (maxSteps:=1000000) (disch:=try exact dx) only[wpS,bld_tf]
 refine loop (fun m fr g => ∃j:Nat,j+m=2∧OZ h g fr x l k c d u w∧fget fr 112=some (.agg #[.bool true,.bool false])∧fget fr 113=some (KN j)) 2
  ⟨0,by omega,s.to (Ext.refl _) (by simp[s.f9]) (by simp[s.f10]) (by simp[s.f18]) (by simp[s.f19]),by simp,by simp⟩ ?_
 rintro m fr g ⟨j,hj,S,f112,f113⟩
 simp -dsimp (maxSteps:=1000000) (disch:=try exact dx) only[wpS,f113]
 refine bq_intro ?_ ?_<;>intro hc<;>simp only[decide_eq_true_eq,decide_eq_false_iff_not] at hc
 ·obtain⟨mm,hm⟩ : ∃mm:Bool,indexV prog 95 (.agg #[.bool true,.bool false]) (KN j)=some (.bool mm):=by
   rcases(by omega:j=0∨j=1) with rfl|rfl
   ·exact⟨true,by kernel_rfl⟩
   ·exact⟨false,by kernel_rfl⟩
  simp -dsimp (maxSteps:=1000000) (disch:=try exact dx) only[wpS,wpT,reduceEqDiff,reduceLeDiff,ld48,f112,f113,hm,S.f9,S.f10,S.f18,row_of S.gc,shC_len,sh_take]
  refine call (olPasses_ok (j:=(k:Int)) S.s (shq_lt S.u.1) ⟨by omega,by omega⟩) ?_
  rintro _ h3 ⟨X3,rfl⟩
  rw[pass_two l k hsh hl sk S.u h0]
  have S3:=S.to (gr:=fr) X3 S.f9 S.f10 S.f18 S.f19
  simp -dsimp (maxSteps:=1000000) (disch:=try exact dx) only[wpS,reduceEqDiff,reduceLeDiff,ld48,S.f9,S.f10,S.f19,row_of S3.gd,shC_len,sh_take]
  refine call (olPasses_ok (j:=(k:Int)) S3.s (shq_lt S.w.1) ⟨by omega,by omega⟩) ?_
  rintro _ h4 ⟨X4,rfl⟩
  rw[pass_two l k hsh hl sk S.w w0]
  have S4:=S3.to (gr:=fr) X4 S.f9 S.f10 S.f18 S.f19
  cases hs:passB (extR l k) u mm with
  | false =>
   simp -dsimp (maxSteps:=1000000) (disch:=try exact dx) only[wpS,wpT,reduceEqDiff,f113]
   exact⟨m - 1,by omega,j+1,by omega,S4.to (Ext.refl _) (by simp[S.f9]) (by simp[S.f10]) (by simp[S.f18]) (by simp[S.f19]),by simp[f112],by simp⟩
  | true =>
   rw[pass_more mm h0 hle hs]
   simp -dsimp (maxSteps:=1000000) (disch:=try exact dx) only[wpS,wpT,reduceEqDiff,f113]
   exact⟨m - 1,by omega,j+1,by omega,S4.to (Ext.refl _) (by simp[S.f9]) (by simp[S.f10]) (by simp[S.f18]) (by simp[S.f19]),by simp[f112],by simp⟩
 ·simp -dsimp (maxSteps:=1000000) (disch:=try exact dx) only[wpS,wpT]
  exact S.to (Ext.refl _) (by simp[S.f9]) (by simp[S.f10]) (by simp[S.f18]) (by simp[S.f19])
theorem ot13 (s:OZ h hh fr x l k c d u w) (hl:l.length≤12) (hsh : ∀p∈l,isShort p) (h0:0<u):Do (wpC prog 7 183 none (partAt bodyOt 13) fr hh) (seqK (fun fr h'=>Pst (OZ h h' fr x l k c d u w∧fget fr 28=some (.bool (passB (extR l k) u false))∧fget fr 12=some (KI 0)) nx) QT) nx:=by
 have sk:=s.k
 show Do (wpC _ _ _ _ (.region _ _ _) fr hh) _ _
 simp -dsimp (maxSteps:=1000000) (disch:=try exact dx) only[wpS,reduceEqDiff,reduceLeDiff,ld48,s.f9,s.f10,s.f18,row_of s.gc,shC_len,sh_take]
 refine call (olPasses_ok (j:=(k:Int)) s.s (shq_lt s.u.1) ⟨by omega,by omega⟩) ?_
 rintro _ h3 ⟨X3,rfl⟩
 rw[pass_two l k hsh hl sk s.u h0]
 simp -dsimp (maxSteps:=1000000) (disch:=try exact dx) only[wpS,reduceEqDiff]
 exact⟨s.to X3 (by simp[s.f9]) (by simp[s.f10]) (by simp[s.f18]) (by simp[s.f19]),by simp,by simp⟩
theorem ot14 (s:OZ h hh fr x l k c d u w) (hl:l.length≤12) (hsh : ∀p∈l,isShort p) (h0:0<u) {z:Value} (f28:fget fr 28=some z) (f12:fget fr 12=some (KI 0)):Do (wpC prog 7 183 none (partAt bodyOt 14) fr hh) (seqK (fun fr h'=>Pst (OZ h h' fr x l k c d u w∧fget fr 28=some z∧fget fr 12=some (KI 0)∧fget fr 29=some (.bool (passB (extR l k) u true))∧fget fr 30=some (KI 0)) nx) QT) nx:=by
 have sk:=s.k
 show Do (wpC _ _ _ _ (.region _ _ _) fr hh) _ _
 simp -dsimp (maxSteps:=1000000) (disch:=try exact dx) only[wpS,reduceEqDiff,reduceLeDiff,ld48,s.f9,s.f10,s.f18,row_of s.gc,shC_len,sh_take]
 refine call (olPasses_ok (j:=(k:Int)) s.s (shq_lt s.u.1) ⟨by omega,by omega⟩) ?_
 rintro _ h3 ⟨X3,rfl⟩
 rw[pass_two l k hsh hl sk s.u h0]
 simp -dsimp (maxSteps:=1000000) (disch:=try exact dx) only[wpS,reduceEqDiff]
 exact⟨s.to X3 (by simp[s.f9]) (by simp[s.f10]) (by simp[s.f18]) (by simp[s.f19]),by simp[f28],by simp[f12],by simp,by simp⟩
end
end Go.Id

namespace Go.Id
open Go
open Go.Proofs.Tryz (prog)
open Nat (reduceEqDiff)
set_option maxHeartbeats 16000000
section
variable {h hh:IH} {fr:Fr} {v x:Value} {nd a b c d k:Nat} {at_:Int} {l:List (Nat×Nat)} {u w:Rat}
theorem ot15 (s:OZ h hh fr x l k c d u w) (hl:l.length≤12) (hsh : ∀p∈l,isShort p) (h0:0<u) (f28:fget fr 28=some (.bool (passB (extR l k) u false))) (f12:fget fr 12=some (KI 0)) (f29:fget fr 29=some (.bool (passB (extR l k) u true))) (f30:fget fr 30=some (KI 0)):Do (wpC prog 7 183 none (restAt bodyOt 15) fr hh) QT nx:=by
 have sk:=s.k
 obtain⟨e0,e1⟩:=extR_bounds (l:=l) (by omega) k
 have X1:Ext hh (hh.new (.cells [.bool true] 0 none)):=(Ext.refl hh).new _
 have g1:(hh.new (.cells [.bool true] 0 none)).ext.get hh.n=some (.cells [.bool true] 0 none):=by simp (disch:=try exact dx) only[get_new_same]
 obtain⟨m1,hm1⟩ : ∃m,m=passB (extR l k) u false:=⟨_,rfl⟩
 obtain⟨m2,hm2⟩ : ∃m,m=passB (extR l k) u true:=⟨_,rfl⟩
 have hmm:m1=true→m2=true:=fun hm=>by rw[hm2];exact pass_mid h0 s.u.2.2 e0 (hm1▸hm)
 rw[←hm1] at f28
 rw[←hm2] at f29
 clear hm1 hm2
 have fin : ∀(r1:Value) (h2:IH),True→True:=fun _ _ _=>trivial
 show Do (wpC _ _ _ _ (.seq _ _) fr hh) _ _
 cases m1 with
 | true =>
  rw[hmm rfl] at f29
  simp -dsimp (maxSteps:=1000000) (disch:=try exact dx) only[wpS,wpT,reduceEqDiff,f12,f28,f29,f30]
  refine call (says_ok true) ?_
  rintro _ _ ⟨rfl,rfl⟩
  simp -dsimp (maxSteps:=1000000) (disch:=try exact dx) only[wpS,wpT,reduceEqDiff,s.f9]
  refine call (olq_ok 1 1 ⟨by omega,by omega⟩ ⟨by omega,by omega⟩ (by omega)) ?_
  rintro _ h2 ⟨X2,rfl⟩
  rw[show Rat.divInt 1 1=(1:Rat) from rfl,shareV_shq]
  have S2:=s.to (gr:=fr) (X1.trans X2) s.f9 s.f10 s.f18 s.f19
  have m2:=X2.n
  simp only[new_n] at m2
  simp -dsimp (maxSteps:=1000000) (disch:=try exact dx) only[wpS,wpT,reduceEqDiff,s.f10]
  refine call (olPasses_ok (j:=(k:Int)) S2.s (shq_lt lev_one.1) ⟨by omega,by omega⟩) ?_
  rintro _ h3 ⟨X3,rfl⟩
  rw[pass_two l k hsh hl sk lev_one (by decide),pass_one e1]
  have m3:=X3.n
  simp -dsimp (maxSteps:=1000000) (disch:=try exact dx) only[wpS,wpT,reduceEqDiff]
  refine call (says1_ok (b:=hh.n) (w:=true) (by omega) (X3.kept (by omega) (X2.kept (by simp) g1))) ?_
  rintro _ _ ⟨rfl,rfl⟩
  simp -dsimp (maxSteps:=1000000) (disch:=try exact dx) only[wpS,reduceEqDiff]
 | false =>
  simp -dsimp (maxSteps:=1000000) (disch:=try exact dx) only[wpS,wpT,reduceEqDiff,f12,f28,f30]
  refine call (says_ok true) ?_
  rintro _ _ ⟨rfl,rfl⟩
  simp -dsimp (maxSteps:=1000000) (disch:=try exact dx) only[wpS,wpT,reduceEqDiff,s.f9]
  refine call (olq_ok 1 1 ⟨by omega,by omega⟩ ⟨by omega,by omega⟩ (by omega)) ?_
  rintro _ h2 ⟨X2,rfl⟩
  rw[show Rat.divInt 1 1=(1:Rat) from rfl,shareV_shq]
  have S2:=s.to (gr:=fr) (X1.trans X2) s.f9 s.f10 s.f18 s.f19
  have m2:=X2.n
  simp only[new_n] at m2
  simp -dsimp (maxSteps:=1000000) (disch:=try exact dx) only[wpS,wpT,reduceEqDiff,s.f10]
  refine call (olPasses_ok (j:=(k:Int)) S2.s (shq_lt lev_one.1) ⟨by omega,by omega⟩) ?_
  rintro _ h3 ⟨X3,rfl⟩
  rw[pass_two l k hsh hl sk lev_one (by decide),pass_one e1]
  have m3:=X3.n
  simp -dsimp (maxSteps:=1000000) (disch:=try exact dx) only[wpS,wpT,reduceEqDiff]
  refine call (says1_ok (b:=hh.n) (w:=true) (by omega) (X3.kept (by omega) (X2.kept (by simp) g1))) ?_
  rintro _ _ ⟨rfl,rfl⟩
  simp -dsimp (maxSteps:=1000000) (disch:=try exact dx) only[wpS,reduceEqDiff]
theorem ot6 (s:OY h hh fr a b x l k) {c:Nat} (f11:fget fr 11=some (ptr (2*c) 0)) (hc:c<hh.n) {cs:List Value} (gc:hh.ext.get c=some (.cells cs 0 none)) (f12:fget fr 12=some (KI 0)):Do (wpC prog 7 183 none (partAt bodyOt 6) fr hh) (seqK (fun fr h'=>Pst (OY h h' fr a b x l k∧fget fr 11=some (ptr (2*c) 0)∧c<h'.n∧h'.ext.get c=some (.cells cs 0 none)∧fget fr 12=some (KI 0)∧fget fr 13=some (KI 0)) nx) QT) nx:=by
 show Do (wpC _ _ _ _ (.region _ _ _) fr hh) _ _
 simp -dsimp (maxSteps:=1000000) (disch:=try exact dx) only[wpS]
 exact⟨⟨s.e,by simp[s.f6],by simp[s.f7],by simp[s.f9],by simp[s.f10],s.s,s.k⟩,by simp[f11],hc,gc,by simp[f12],by simp⟩
theorem oltells_rest (hw:DrSl h v nd) (hat:0≤at_∧at_<256) {a1 a2 b1 b2:Bool} {x1 x2 y1 y2:Value} {m1 m2 n1 n2:Int} (ga:h.ext.get a=some (.cells [.bool a1,x1,.int .u32 m1,.bool a2,x2,.int .u32 m2] 0 none)) (gb:h.ext.get b=some (.cells [.bool b1,y1,.int .u32 n1,.bool b2,y2,.int .u32 n2] 0 none)) (la:a<h.n) (lb:b<h.n)
  (qa:cellOK x1=true∧cellOK x2=true∧(0≤m1∧m1<4294967296)∧(0≤m2∧m2<4294967296)) (qb:cellOK y1=true∧cellOK y2=true∧(0≤n1∧n1<4294967296)∧(0≤n2∧n2<4294967296))
  (f0:fget fr 0=some v) (f1:fget fr 1=some (.int .u8 at_)) (f6:fget fr 6=some (ptr (2*a) 0)) (f7:fget fr 7=some (ptr (2*b) 0)) :
  Do (wpC prog 7 183 none (restAt bodyOt 2) fr h) (retK prog [.tmp 8] fun r _=>r=.bool true) nx:=by
 show Do (wpC _ _ _ _ (.seq (partAt bodyOt 2) (restAt bodyOt 3)) fr h) QT _
 rw[d_seq];refine cut _ (ot2 (a:=a) (b:=b) (at_:=at_) hw f0 f1 f6 f7) ?_;rintro fr2 h2 ⟨x,l,s,hl,hsh,hnil⟩
 show Do (wpC _ _ _ _ (.seq (partAt bodyOt 3) (restAt bodyOt 4)) fr2 h2) QT _
 rw[d_seq];refine cut _ (ot3 s hl hsh hnil) ?_;clear s;rintro fr3 h3 ⟨s,l0⟩
 show Do (wpC _ _ _ _ (.seq (partAt bodyOt 4) (restAt bodyOt 5)) fr3 h3) QT _
 rw[d_seq];refine cut _ (ot4 s hat hl l0) ?_;clear s;rintro fr4 h4 ⟨k,s⟩
 show Do (wpC _ _ _ _ (.seq (partAt bodyOt 5) (restAt bodyOt 6)) fr4 h4) QT _
 rw[d_seq];refine cut _ (ot5 s hl hsh) ?_;clear s;rintro fr5 h5 ⟨c,s,f11,hc,gc,f12⟩
 show Do (wpC _ _ _ _ (.seq (partAt bodyOt 6) (restAt bodyOt 7)) fr5 h5) QT _
 rw[d_seq];refine cut _ (ot6 s f11 hc gc f12) ?_;clear s f11 hc gc f12;rintro fr6 h6 ⟨s,f11,hc,gc,f12,f13⟩
 show Do (wpC _ _ _ _ (.seq (partAt bodyOt 7) (restAt bodyOt 8)) fr6 h6) QT _
 rw[d_seq];refine cut _ (ot7 s hl hsh f11 hc gc f12 f13) ?_;clear s f11 hc gc f12 f13;rintro fr7 h7 ⟨s,f11,hc,gc,f12,f13⟩
 show Do (wpC _ _ _ _ (.seq (partAt bodyOt 8) (restAt bodyOt 9)) fr7 h7) QT _
 rw[d_seq];refine cut _ (ot8 s hl f11 hc gc f12 f13) ?_;clear s f11 hc gc f12 f13;rintro fr8 h8 s
 show Do (wpC _ _ _ _ (.seq (partAt bodyOt 9) (restAt bodyOt 10)) fr8 h8) QT _
 rw[d_seq];refine cut _ (ot9 s ga gb la lb qa qb) ?_;clear s;rintro fr9 h9 ⟨c,d,u,w,s⟩
 show Do (wpC _ _ _ _ (.seq (partAt bodyOt 10) (restAt bodyOt 11)) fr9 h9) QT _
 rw[d_seq];refine cut _ (ot10 s) ?_;clear s;rintro fr10 h10 ⟨u,w,s,hle⟩
 show Do (wpC _ _ _ _ (.seq (partAt bodyOt 11) (restAt bodyOt 12)) fr10 h10) QT _
 rw[d_seq];refine cut _ (ot11 s hl hsh) ?_;clear s;rintro fr11 h11 ⟨s,h0⟩
 show Do (wpC _ _ _ _ (.seq (partAt bodyOt 12) (restAt bodyOt 13)) fr11 h11) QT _
 rw[d_seq];refine cut _ (ot12 s hl hsh h0 hle) ?_;clear s;rintro fr12 h12 s
 show Do (wpC _ _ _ _ (.seq (partAt bodyOt 13) (restAt bodyOt 14)) fr12 h12) QT _
 rw[d_seq];refine cut _ (ot13 s hl hsh h0) ?_;clear s;rintro fr13 h13 ⟨s,f28,f12⟩
 show Do (wpC _ _ _ _ (.seq (partAt bodyOt 14) (restAt bodyOt 15)) fr13 h13) QT _
 rw[d_seq];refine cut _ (ot14 s hl hsh h0 f28 f12) ?_;clear s f28 f12;rintro fr14 h14 ⟨s,f28,f12,f29,f30⟩
 exact ot15 s hl hsh h0 f28 f12 f29 f30
end
end Go.Id
