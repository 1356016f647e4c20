/-
  Weakest preconditions over the ideal machine: appends to slices without room; lengths and parts of slices in regions whose order is open. Weakest preconditions over the ideal machine: two lists that grow side by side.
-/
import Derived.Test.YtjhnilfelokpcaaGreatOutlierPathsBa
import Derived.Test.YtjhnilfelokpcaaGreatOutlierPathsBe
import Derived.Test.YtjhnilfelokpcaaGreatOutlierPathsAn
import Derived.Test.YtjhnilfelokpcaaGreatOutlierPathsBb
import Derived.Test.YtjhnilfelokpcaaGreatOutlierPathsAq
import Derived.Test.YtjhnilfelokpcaaGreatOutlierPathsAy
set_option linter.unusedVariables false
set_option linter.unusedSimpArgs false
set_option linter.defProp false
set_option linter.deprecated false
namespace Go.Id
open Go
theorem xl {P:Program} {t:TypeId} {sz bytes:Nat} (hT:kL P t=some (sz,bytes)) {h:IH} {b o n:Nat} {cs:List Value} (sv:iv h sz (.slice (some ⟨b,o,none⟩) n (2*n+1)) n cs) {x:Value} {m:Nat} {new:List Value} (sx:iv h sz x m new) (hm:0<m) (hn:0<n) (hc:new.all aH=true) (hsz:(n+m)*(bytes+1)≤1099511627776) :
  append P h t (.slice (some ⟨b,o,none⟩) n (2*n+1)) x=some (.slice (some ⟨2*h.n,0,none⟩) (n+m) (2*(n+m)),h.new (.cells (cs ++ new) sz none)):=by
 unfold kL at hT
 split at hT
 case h_2=>cases hT
 rename_i e hu
 split at hT
 case h_2=>cases hT
 rename_i zs h1 h2 h3
 simp only[cond_eq_ite] at hT
 split at hT
 case isTrue=>cases hT
 rename_i Dx
 cases hT
 have mh:(sz == 0 || (!(Nat.ble bytes 65536) || !(zs.length == sz)))=false:=by simpa using Dx
 have first : ∀{y:Value} {k:Nat} {l:List Value},0<k→iv h sz y k l→bN h sz k y=some l∧lenOf y=some k:=by
  intro y k l hk s
  obtain⟨hz,hl,⟨rfl,rfl⟩|⟨b2,o2,k2,rfl,rfl|⟨row,a1,a2,a3⟩⟩⟩:=s
  ·omega
  ·omega
  have hms : ¬k*sz=0:=by
   have:0<k*sz:=Nat.mul_pos hk hz
   omega
  refine⟨?_,rfl⟩
  simp only[bN,cond_eq_ite,Nat.ble_eq,Nat.le_refl,if_true,beq_iff_eq,if_neg hms]
  rw[tY a1,if_pos a3,a2]
 have vI:(m == 0)=false:=by simp;omega
 obtain⟨hfx,hlx⟩:=first hm sx
 obtain⟨hfv,_⟩:=first hn sv
 have ti:Nat.ble ((n+m)*(bytes+1)) aI=true:=by rw[Nat.ble_eq];exact hsz
 have mB:Nat.ble (n+m) ((2*n+1) / 2)=false:=by
  rw[Bool.eq_false_iff];intro hh;rw[Nat.ble_eq] at hh;omega
 have mA:((2*n+1) % 2 == 1)=true:=by simp
 simp only[Id.append,hu,h1,h2,h3,hlx,vI,mh,hfx,hc,ti,mB,mA,hfv,cond_true,cond_false,Bool.not_true]
end Go.Id

namespace Go.Id
open Go
end Go.Id

namespace Go.Id
open Go
end Go.Id

namespace Go.Id
open Go
end Go.Id

namespace Go.Id
open Go
abbrev B8 (n:Nat):Value:=.int .u8 (n:Int)
abbrev B16 (n:Nat):Value:=.int .u16 (n:Int)
structure Dr6 (h:IH) (x:Value) (ps ls:List Nat) (u s:Nat):Prop where
 ex : ∃vp vl,x=.agg #[vp,B8 u,vl,B16 s]∧bI h 1 vp ps.length (ps.map B16)∧bI h 1 vl ls.length (ls.map B8)
 bp : ∀p∈ps,p<65536
 bl : ∀p∈ls,p<256
 bu:u<256
 bs:s<65536
 lp:ps.length<9223372036854775808
 ll:ls.length<9223372036854775808
end Go.Id

namespace Go.Id
open Go
end Go.Id

namespace Go.Id
open Go
set_option maxHeartbeats 16000000
def wiL (l:List Nat):List Value:=l.flatMap wdC
theorem Ry (l:List Nat):(wiL l).length=l.length*8:=by
 induction l with
 | nil=>rfl
 | cons a l ih=>rw[wiL,List.flatMap_cons,List.length_append,aq,←wiL,ih,List.length_cons];omega
theorem UB {l:List Nat} {i:Nat} {p:Nat} (h:l[i]?=some p):((wiL l).drop (i*8)).take 8=wdC p:=by
 induction l generalizing i with
 | nil=>simp at h
 | cons a l ih =>
  rw[wiL,List.flatMap_cons,←wiL]
  cases i with
  | zero =>
   simp at h
   subst h
   rw[Nat.zero_mul,List.drop_zero,List.take_append_of_le_length (by rw[aq];omega),List.take_of_length_le (by rw[aq];omega)]
  | succ i =>
   simp at h
   rw[List.drop_append,aq,List.drop_of_length_le (by rw[aq];omega),List.nil_append,show(i+1)*8 - 8=i*8 by omega]
   exact ih h
theorem yu (l:List Nat) (p:Nat):wiL (l ++ [p])=wiL l ++ wdC p:=by simp[wiL]
def Au (h:IH) (v:Value) (l:List Nat):Prop:=bI h 8 v l.length (wiL l)∧l.length≤1000000000 ∧ ∀n∈l,n<W8
theorem Au.ae {h h':IH} {v:Value} {l:List Nat} (s:Au h v l) (e:aN h h'):Au h' v l:=⟨s.1.ae e,s.2⟩
theorem Au.ld {h h':IH} {v:Value} {l:List Nat} (s:Au h v l) (e:aN h h') {i:Nat} {p:Nat} (hi:l[i]?=some p):load Proofs.Tryz.prog h' 44 (aO v (i*8))=some (wdV p):=by
 have hil:=(List.getElem?_eq_some_iff.1 hi).1
 rw[s.1.JY e (by rw[Ry];omega) (by omega) Tk N7,UB hi];rfl
theorem aK (n:Nat):List.take 8 (List.drop 0 (wdC n))=wdC n:=by rw[List.drop_zero,List.take_of_length_le (by rw[aq];omega)]
theorem I2 {n:Nat} (hn:n<W8):wdI n=0↔n=0:=ow hn
theorem tB {h:IH} (n:Nat) (hn:n<W8):WV Proofs.Tryz.prog (.func (.func 60) #[] #[]) [wdV n] h fun r h'=>Ext h h'∧r=KI (if wdI n<0 then -1 else if wdI n=0 then 0 else 1):=by
 have hz:binop Proofs.Tryz.prog .eql 44 (.tmp 8) (.tmp 9) (.agg (wdC n).toArray) (.agg #[ZW,ZW,ZW,ZW,ZW,ZW,ZW,ZW])=some (.bool (decide (n=0))):=by
  rw[eF,wdV,GZ hn (by have:=cC;have:=jq;omega)]
 have E1:Ext h (h.new (.cells (wdC n) 0 none)):=(Ext.refl h).new _
 refine enter (nt:=11) (rs:=[.tmp 2]) Proofs.Tryz.func60 rfl rfl rfl (by simp) ?_
 simp -dsimp (disch:=try exact dx) only[wpS,Nat.reduceEqDiff,Nat.reduceLeDiff,bL,aY,aq,aK]
 refine call (xQ n hn) ?_
 rintro _ h1 ⟨X1,rfl⟩
 have g1:=X1.kept (by simp) (ab h (.cells (wdC n) 0 none) rfl)
 by_cases c:wdI n<0
 ·have d:decide (wdI n<0)=true:=decide_eq_true c
  rw[if_pos c]
  simp -dsimp (disch:=try exact dx) only[wpS,wpT,Nat.reduceEqDiff,DB,ku,Bool.false_eq_true,d]
  exact E1.trans X1
 have d:decide (wdI n<0)=false:=decide_eq_false c
 rw[if_neg c]
 by_cases c0:n=0
 ·have d0:decide (n=0)=true:=decide_eq_true c0
  rw[if_pos ((I2 hn).2 c0)]
  simp -dsimp (disch:=try exact dx) only[wpS,wpT,Nat.reduceEqDiff,Nat.reduceLeDiff,bL,DB,gV,ku,Bool.false_eq_true,d,aj g1,aq,aK,hz,d0]
  exact E1.trans X1
 ·have d0:decide (n=0)=false:=decide_eq_false c0
  rw[if_neg (fun h=>c0 ((I2 hn).1 h))]
  simp -dsimp (disch:=try exact dx) only[wpS,wpT,Nat.reduceEqDiff,Nat.reduceLeDiff,bL,DB,gV,ku,Bool.false_eq_true,d,aj g1,aq,aK,hz,d0]
  exact E1.trans X1
theorem kH (a b:Value):List.take 2 (List.drop 0 [a,b]) = [a,b]:=rfl
theorem PW {i k:Nat} (hi:i≤k) (hk:k<16000000):fF ((2 ^ i:Nat):Int):=aS (k:=k) (by rw[Int.natAbs_natCast];exact Nat.pow_le_pow_right (Nat.succ_pos 1) hi) hk
theorem mi {i:Nat} (hi:i≤4000):fF ((2 ^ i:Nat):Int):=PW hi (by decide)
end Go.Id

namespace Go.Id
open Go
theorem J8 {h h':IH} {v:Value} {l:List Int} (s:Wj h v l) (e:aN h h') {i:Nat} {x:Int} (hi:l[i]?=some x):load Proofs.Tryz.prog h' 3 (aO v i)=some (KI x):=by
 have hil:=(List.getElem?_eq_some_iff.1 hi).1
 rw[s.1.ld e (by simpa using hil) ag3,List.getElem?_map,hi];rfl
theorem NP {n:Nat} (hn:n<W8):fF (wdI n):=by
 have hw:W8=2 ^ 512:=by decide +kernel
 have k1:(wdI n).natAbs≤2 ^ 512:=by
  rw[←hw]
  unfold wdI
  have:=cC
  split<;>omega
 exact aS (k:=512) k1 (by omega)
end Go.Id

namespace Go.Id
open Go
end Go.Id

namespace Go.Id
open Go
open Nat renaming reduceAdd→zA,reduceEqDiff→zE,reduceLeDiff→zL
set_option maxHeartbeats 16000000
theorem vC (h:IH):aV h (.agg #[.bool false,.slice none 0 0]) 0:=⟨.slice none 0 0,rfl,Gj⟩
theorem He:aU 0:=(aS (x:=(0:Int).natAbs) (k:=1) (by decide) (by omega):fF 0).small
theorem EW {h:IH} (n:Nat) (hn:n<W8):WV Proofs.Tryz.prog (.func (.func 69) #[] #[]) [wdV n] h fun r h'=>Ext h h'∧r=KI (if wdI n<0 then -1 else if 0<wdI n then 1 else 0):=by
 have E1:Ext h (h.new (.cells (wdC n) 0 none)):=(Ext.refl h).new _
 refine enter (nt:=7) (rs:=[.tmp 2]) Proofs.Tryz.func69 rfl rfl rfl (by simp) ?_
 simp -dsimp (disch:=try exact dx) only[wpS,zE,zL,bL,aY,aq,aK]
 refine call (mO n hn) ?_
 rintro r1 h1 ⟨X1,p1⟩
 simp -dsimp (disch:=try exact dx) only[wpS,wpT,zE,oo]
 refine call (ly p1 (vC h1) (NP hn).small He) ?_
 rintro _ h2 ⟨X2,rfl⟩
 simp -dsimp (disch:=try exact dx) only[wpS,wpT,zE]
 exact(E1.trans X1).trans X2
theorem oH {h:IH} {v:Value} {k:Nat} (hv:aV h v 2) (hk:k≤4000) :
  WV Proofs.Tryz.prog (.func (.func 70) #[] #[]) [v,KN k] h fun r h'=>Ext h h'∧aV h' r ((2 ^ k:Nat):Int):=by
 obtain⟨s,n,rfl,c1,o1,_,_⟩:=hv.form
 obtain⟨b1,hb1⟩ : ∃b,b=decide ((2:Int)<0):=⟨_,rfl⟩
 rw[←hb1] at hv ⊢
 have E1:Ext h ((h.new (.cells [.bool b1,s] 0 none)).new (.cells [.bool false,.slice none 0 0] 0 none)):=((Ext.refl h).new _).new _
 refine enter (nt:=17) (rs:=[.cell 4 131]) Proofs.Tryz.func70 rfl rfl rfl (by simp) ?_
 simp -dsimp (disch:=try exact dx) only[wpS,zE,zA,dh]
 refine call (eP 1 ⟨by omega,by omega⟩) ?_
 rintro _ h1 ⟨X1,p1⟩
 obtain⟨s1,n1,rfl,c3,o3,_,_⟩:=p1.form
 have m1:=X1.n
 simp only[ax] at m1
 have k0:h1.ext.get h.n=some (.cells [.bool b1,s] 0 none):=X1.kept (by simp;omega) (by simp (disch:=try exact dx) only[ab,ar])
 have k1:h1.ext.get (h.n+1)=some (.cells [.bool false,.slice none 0 0] 0 none):=X1.kept (by simp) (by simp (disch:=try exact dx) only[ab])
 simp -dsimp (disch:=try exact dx) only[wpS,wpT,zE,zL,zA,dh,bY,o3]
 have E2:Ext h1 ((h1.new (.cells [.bool false,.slice none 0 0] 0 none)).put h1.n (.cells [.bool false,s1] 0 none)):=((Ext.refl h1).new _).put (Nat.le_refl _) _
 have EE:=(E1.trans X1).trans E2
 refine loop (fun m fr hh => ∃(i:Nat) (b:Bool) (t:Value),i+m=k∧Ext h hh∧h1.n<hh.n∧hh.ext.get h.n=some (.cells [.bool b1,s] 0 none)∧hh.ext.get (h.n+1)=some (.cells [.bool false,.slice none 0 0] 0 none)∧hh.ext.get h1.n=some (.cells [.bool b,t] 0 none)∧aV hh (.agg #[.bool b,t]) ((2 ^ i:Nat):Int)∧ai fr 1=some (KN k)∧ai fr 2=some (ptr (2*h.n) 0)∧ai fr 4=some (ptr (2*(h.n+1)) 0)∧ai fr 5=some (ptr (2*h1.n) 0)∧ai fr 6=some (KN i)) k
  ⟨0,false,s1,by omega,EE,by simp,E2.kept (by omega) k0,E2.kept (by omega) k1,by simp (disch:=try exact dx) only[aa],p1.ae E2.ae,by simp,by simp,by simp,by simp,by simp⟩ ?_
 rintro m fr hh ⟨i,b,t,him,hE,hn,g0,g1,g5,pt,f1,f2,f4,f5,f6⟩
 have hnn:=hE.n
 simp -dsimp (disch:=try exact dx) only[wpS,zE,f1,f6]
 refine aA ?_ ?_<;>intro hc<;>simp only[decide_eq_true_eq,decide_eq_false_iff_not] at hc
 ·simp -dsimp (disch:=try exact dx) only[wpS,wpT,zE,zL,zA,bq,f2,f5,aj g0,aj g5]
  refine call (gv pt (hv.ae hE.ae) (mi (by omega)) (mi (i:=1) (by omega))) ?_
  rintro _ h2 ⟨X2,p2⟩
  have m2:=X2.n
  have e2:((2 ^ i:Nat):Int)*2=((2 ^ (i+1):Nat):Int):=by rw[Nat.pow_succ];omega
  rw[e2] at p2
  obtain⟨t2,n2,rfl,c4,o4,_,_⟩:=p2.form
  have gk:=X2.kept (by omega) g5
  simp -dsimp (disch:=try exact dx) only[wpS,wpT,zE,zL,zA,bY,f5,f6,gk,o4]
  exact⟨m - 1,by omega,i+1,_,t2,by omega,(hE.trans X2).put (by omega) _,by simp;omega,by rw[ah _ _ (by omega)];exact X2.kept (by omega) g0,by rw[ah _ _ (by omega)];exact X2.kept (by omega) g1,by simp (disch:=try exact dx) only[aa],p2.ae ((aN.refl _).put gk _),by simp[f1],by simp[f2],by simp[f4],by simp[f5],by simp⟩
 ·obtain rfl:i=k:=by omega
  obtain⟨_,c5,o5⟩:=pt.co
  simp -dsimp (disch:=try exact dx) only[wpS,wpT,zE,zL,zA,bY,bq,f4,f5,aj g5,g1,o5,kH]
  exact⟨hE.put (by omega) _,pt.ae ((aN.refl _).put g1 _)⟩
end Go.Id

namespace Go.Id
open Go
end Go.Id

namespace Go.Id
open Go
def AT (h:IH) (v:Value) (l:List Nat):Prop:=bI h 1 v l.length (l.map B8)∧l.length<9223372036854775808 ∧ ∀x∈l,x<256
theorem AT.ae {h h':IH} {v:Value} {l:List Nat} (s:AT h v l) (e:aN h h'):AT h' v l:=⟨s.1.ae e,s.2⟩
theorem AT.ld {h h':IH} {v:Value} {l:List Nat} (s:AT h v l) (e:aN h h') {i:Nat} {x:Nat} (hi:l[i]?=some x):load Proofs.Tryz.prog h' 5 (aO v i)=some (B8 x):=by
 have hil:=(List.getElem?_eq_some_iff.1 hi).1
 rw[s.1.ld e (by simpa using hil) ag5,List.getElem?_map,hi];rfl
theorem lW (P:Program) (t:TypeId) (k:IntKind) (ox oy:Operand) (a n:Nat) (hn:0<n):binop P .rem t ox oy (.int k (a:Int)) (.int k (n:Int))=some (.int k ((a % n:Nat):Int)):=by
 rw[rk P t ox oy (by omega),Int.tmod_eq_emod_of_nonneg (by omega),Int.natCast_emod]
end Go.Id

namespace Go.Proofs.YtjhnilfelokpcaaGreat
open Go.ChangeShapes Go.WideShapes Go.ChangeAt Go.RowKit Go.Id
theorem Wv:Tryz.prog.underlying 22=some (.slice 5):=by kernel_rfl
theorem En:Tryz.prog.underlying 24=some (.struct { toList:=[{ name := "Size",type:=5,offset:=0,embedded:=false,tag := "",pkgPath := "",byteOffset:=0 },{ name := "N",type:=22,offset:=1,embedded:=false,tag := "",pkgPath := "",byteOffset:=8 }] }):=by kernel_rfl
theorem VW:Tryz.prog.cellsOf 5=1:=by kernel_rfl
theorem XP:Tryz.prog.cellsOf 22=1:=by kernel_rfl
theorem QV:Tryz.prog.cellsOf 24=2:=by kernel_rfl
theorem Fw {f:Nat→Value} {m:Nat} : ∀(n:Nat) (cs:List Value),cs.length=n*1→(∀i,i<n → ∃p,p<m∧(cs.drop (i*1)).take 1 = [f p]) → ∃ps:List Nat,ps.length=n∧cs=ps.map f ∧ ∀p∈ps,p<m
 | 0,cs,h,_=>⟨[],rfl,by simpa using h,fun p hp=>by cases hp⟩
 | n+1,[],h,_=>by simp at h
 | n+1,c :: cs,h,k=>by
  obtain⟨p,h1,h2⟩:=k 0 (by omega)
  obtain⟨ps,h3,h4,h5⟩:=Fw n cs (by simp at h ⊢;omega) fun i hi=>by
   obtain⟨q,h6,h7⟩:=k (i+1) (by omega)
   exact⟨q,h6,by simpa using h7⟩
  refine⟨p :: ps,by simp[h3],?_,fun q hq=>?_⟩
  ·simp at h2;rw[List.map_cons,h2,h4]
  ·rcases List.mem_cons.1 hq with rfl|hq
   ·exact h1
   ·exact h5 q hq
section
variable {H:Type} {enc:TypeId×Value→H} {W:World} {held:Bool}
theorem G5 (G:Nat→Option (List Value)) {fuel:Nat} {cs0:List Value} {x:DataW H×List MemPlace} (h:DataW.trod enc Tryz.prog W 0 (fun _=>true) held fuel 22 cs0=some x) :
  ∃v l,cs0 = [v]∧fw v=true∧AT (IH.start (Be G W)) (trV v) l:=by
 obtain⟨v,n,cs,e1,ht,hn,hs,hR⟩:=G3 (R:=fun cs => ∃p:Nat,p<256∧cs.map trV = [B8 p]) Wv VW (by omega) (fun n cs x hx=>by
  obtain⟨i,rfl,hi⟩:=nF (m:=255) rfl rfl RF hx
  exact⟨⟨i,by omega,rfl⟩,fun y hy=>by rw[List.mem_singleton.1 hy];rfl⟩) G h
 obtain⟨ps,h1,h2,h3⟩:=Fw (f:=B8) (m:=256) n (cs.map trV) hs.2.1 fun i hi=>by
  obtain⟨p,hp,e⟩:=hR i hi
  exact⟨p,hp,by rw[←List.map_drop,←List.map_take];exact e⟩
 subst h1
 exact⟨v,ps,e1,ht,h2▸hs,Nat.lt_of_le_of_lt hn (by decide),h3⟩
theorem Zl {α:Type} : ∀{l:List α},l.length=2 → ∃a b,l = [a,b]
 | [a,b],_=>⟨a,b,rfl⟩
theorem MD (G:Nat→Option (List Value)) {fuel:Nat} {cs:List Value} {x:DataW H×List MemPlace} (h:DataW.trod enc Tryz.prog W 0 (fun _=>true) held fuel 24 cs=some x) :
  ∃k y l,cs = [B8 k,y]∧k<256∧fw y=true∧AT (IH.start (Be G W)) (trV y) l:=by
 obtain⟨xs,m,_,_,hl,hn,hf⟩:=DataW.trod_struct En h
 rw[QV] at hl
 have hn2:xs.length=2:=hn
 obtain⟨x0,hx0⟩ : ∃y,xs[0]?=some y:=⟨_,List.getElem?_eq_getElem (by omega)⟩
 have f0:DataW.trod enc Tryz.prog W 0 (fun _=>true) held m 5 ((cs.drop 0).take (Tryz.prog.cellsOf 5))=some x0:=(hf 0 { name := "Size",type:=5,offset:=0,embedded:=false,tag := "",pkgPath := "",byteOffset:=0 } rfl).trans hx0
 obtain⟨x1,hx1⟩ : ∃y,xs[1]?=some y:=⟨_,List.getElem?_eq_getElem (by omega)⟩
 have f1:DataW.trod enc Tryz.prog W 0 (fun _=>true) held m 22 ((cs.drop 1).take (Tryz.prog.cellsOf 22))=some x1:=(hf 1 { name := "N",type:=22,offset:=1,embedded:=false,tag := "",pkgPath := "",byteOffset:=8 } rfl).trans hx1
 rw[VW] at f0
 rw[XP] at f1
 obtain⟨a,b,rfl⟩:=Zl hl
 obtain⟨k,e0,hk⟩:=nF (m:=255) rfl rfl RF f0
 obtain⟨v,l,e1,t1,s1⟩:=G5 G f1
 cases e0;cases e1
 exact⟨k,_,l,rfl,by omega,t1,s1⟩
theorem Eo:Tryz.prog.underlying 63=some (.struct { toList:=[{ name := "State",type:=42,offset:=0,embedded:=false,tag := "",pkgPath := "",byteOffset:=0 }] }):=by kernel_rfl
theorem QX:Tryz.prog.cellsOf 63=1:=by kernel_rfl
theorem Zm {α:Type} : ∀{l:List α},l.length=1 → ∃a,l = [a]
 | [a],_=>⟨a,rfl⟩
theorem MX {fuel:Nat} {cs:List Value} {x:DataW H×List MemPlace} (h:DataW.trod enc Tryz.prog W 0 (fun _=>true) held fuel 63 cs=some x) : ∃s:Nat,cs = [K64 s]∧s<18446744073709551616:=by
 obtain⟨xs,m,_,_,hl,hn,hf⟩:=DataW.trod_struct Eo h
 rw[QX] at hl
 have hn2:xs.length=1:=hn
 obtain⟨x0,hx0⟩ : ∃y,xs[0]?=some y:=⟨_,List.getElem?_eq_getElem (by omega)⟩
 have f0:DataW.trod enc Tryz.prog W 0 (fun _=>true) held m 42 ((cs.drop 0).take (Tryz.prog.cellsOf 42))=some x0:=(hf 0 { name := "State",type:=42,offset:=0,embedded:=false,tag := "",pkgPath := "",byteOffset:=0 } rfl).trans hx0
 rw[Ug] at f0
 obtain⟨a,rfl⟩:=Zm hl
 obtain⟨k,e0,hk⟩:=nF (m:=18446744073709551615) rfl rfl Tw f0
 cases e0
 exact⟨k,rfl,by omega⟩
end
end Go.Proofs.YtjhnilfelokpcaaGreat

namespace Go.Id
open Go
set_option maxHeartbeats 2000000 in
theorem EJ {h:IH} (a b:Nat) (ha:a<W8) (hb:b<W8):WV Proofs.Tryz.prog (.func (.func 273) #[] #[]) [wdV a,wdV b] h fun r h'=>Ext h h' ∧ ∃m bor,r=.tuple #[wdV m,K64 bor]∧m<W8∧bor≤1∧a+b=m+bor*W8:=by
 refine enter (nt:=27) (rs:=[.cell 4 199,.tmp 5]) Proofs.Tryz.func273 rfl rfl rfl (by simp) ?_
 simp -dsimp (maxSteps:=1000000) (disch:=first|omega|(simp only[ax,ay];omega)|decide +kernel|(repeat first|rw[ax]|rw[ay])) only[wpS,Nat.reduceEqDiff,Nat.reduceAdd,AU,aY]
 rw[jf a,jf b]
 have lA:=iz a
 have lB:=iz b
 refine loop (fun m fr h1 => ∃(i bor:Nat) (os:List Nat),i+m=8∧Ext h h1∧h.n+3≤h1.n∧h1.ext.get h.n=some (.cells (os.map K64) 0 none)∧h1.ext.get (h.n+1)=some (.cells ((wds b).map K64) 0 none)∧(∃c,h1.ext.get (h.n+1+1)=some (.cells c 0 none)∧c.length=8)∧bor≤1∧os.length=8∧B.bH os∧(∀j,i≤j→os.getD j 0=(wds a).getD j 0) ∧
   B.aE (wds a) i+B.aE (wds b) i=B.aE os i+bor*18446744073709551616 ^ i∧ai fr 2=some (ptr (2*h.n) 0)∧ai fr 3=some (ptr (2*(h.n+1)) 0)∧ai fr 4=some (ptr (2*(h.n+1+1)) 0)∧ai fr 6=some (K64 bor)∧ai fr 8=some (KN i)) 8
  ⟨0,0,wds a,rfl,(((Ext.refl h).new _).new _).new _,by simp<;>omega,by simp (disch:=first|omega|(simp only[ax,ay];omega)|(repeat first|rw[ax]|rw[ay])) only[ab,ar],by simp (disch:=first|omega|(simp only[ax,ay];omega)|(repeat first|rw[ax]|rw[ay])) only[ab,ar],⟨[ZW,ZW,ZW,ZW,ZW,ZW,ZW,ZW],by simp (disch:=first|omega|(simp only[ax,ay];omega)|(repeat first|rw[ax]|rw[ay])) only[ab],rfl⟩,by omega,lA,kO a,fun _ _=>rfl,by simp[B.aE],by simp,by simp,by simp,by simp,by simp⟩ ?_
 rintro m fr h1 ⟨i,bor,os,him,hE,hn,hg,hg1,hg2,F8,hol,hod,hoa,hv,f2,f3,f4,f6,f8⟩
 simp -dsimp (maxSteps:=1000000) (disch:=first|omega|(simp only[ax,ay];omega)|decide +kernel|(repeat first|rw[ax]|rw[ay])) only[wpS,f8]
 refine aA ?_ ?_<;>intro hc<;>simp only[decide_eq_true_eq,decide_eq_false_iff_not] at hc
 ·have hi:i<8:=by omega
  have r0:=bD hg
  have r1:=bD hg1
  have go:=get_some (show i<os.length by omega)
  have gb:=get_some (show i<(wds b).length by omega)
  have hx:=hoa i (Nat.le_refl _)
  have dx:=B.bF hod i
  have dy:=B.bF (kO b) i
  obtain⟨x,hx1⟩ : ∃x,x=os.getD i 0:=⟨_,rfl⟩
  obtain⟨y,hy1⟩ : ∃x,x=(wds b).getD i 0:=⟨_,rfl⟩
  rw[←hx1] at go dx hx
  rw[←hy1] at gb dy
  simp -dsimp (maxSteps:=1000000) (disch:=first|omega|(simp only[ax,ay];omega)|decide +kernel|(repeat first|rw[ax]|rw[ay])) only[wpS,wpT,Nat.reduceEqDiff,Cp,kB,f2,f3,f6,f8,r0,r1,ch,go,gb]
  refine call (As x y bor F8) ?_
  rintro _ _ ⟨rfl,rfl⟩
  generalize hdd:(x+y+bor) % 18446744073709551616=d
  generalize hbb:(x+y+bor) / 18446744073709551616=b2
  have hb1:b2≤1:=by omega
  have iO:x+y+bor=d+b2*18446744073709551616:=by omega
  have hd2:d<18446744073709551616:=by omega
  have spl:=jg d (show i<os.length by omega)
  rename_i h3
  simp -dsimp (maxSteps:=1000000) (disch:=first|omega|(simp only[ax,ay];omega)|decide +kernel|(repeat first|rw[ax]|rw[ay])) only[wpS,wpT,Nat.reduceEqDiff,Nat.reduceLeDiff,Cp,nJ,f2,f8,hg,spl,List.length_map,hol]
  obtain⟨c,hgc,hcl⟩:=hg2
  refine⟨m - 1,by omega,i+1,b2,os.set i d,by omega,hE.put (Nat.le_refl _) _,hn,aa _ _ rfl,by simp (disch:=first|omega|(simp only[ax,ay];omega)|(repeat first|rw[ax]|rw[ay])) only[ah];exact hg1,⟨c,by simp (disch:=first|omega|(simp only[ax,ay];omega)|(repeat first|rw[ax]|rw[ay])) only[ah];exact hgc,hcl⟩,hb1,by rw[List.length_set,hol],hod.set _ hd2,?_,?_,by simp[f2],by simp[f3],by simp[f4],by simp,by simp⟩
  ·intro j hj
   rw[B.cX (by omega),if_neg (by omega)]
   exact hoa j (by omega)
  ·rw[ic (by omega),B.aE,B.aE,←hx,←hy1,Nat.pow_succ]
   have e3:d*18446744073709551616 ^ i+b2*(18446744073709551616 ^ i*18446744073709551616)=(x+y+bor)*18446744073709551616 ^ i:=by rw[iO];grind
   have e4:(x+y+bor)*18446744073709551616 ^ i=x*18446744073709551616 ^ i+y*18446744073709551616 ^ i+bor*18446744073709551616 ^ i:=by grind
   omega
 ·obtain rfl:i=8:=by omega
  have r0:=bD hg
  have lm:(os.map K64).length=8:=by rw[List.length_map,hol]
  have all:=Dl os
  have tk8:List.take 8 (List.drop 0 (os.map K64))=os.map K64:=by rw[List.drop_zero,List.take_of_length_le (by omega)]
  obtain⟨c,hgc,hcl⟩:=hg2
  have hsp:IH.aG c 0 (os.map K64)=os.map K64:=gC (by rw[hcl,lm])
  simp -dsimp (maxSteps:=1000000) (disch:=first|omega|(simp only[ax,ay];omega)|decide +kernel|(repeat first|rw[ax]|rw[ay])) only[wpS,wpT,Nat.reduceEqDiff,Nat.reduceLeDiff,gY,wz,f2,f4,f6,r0,lm,all,tk8,hgc,hcl,hsp]
  rw[←CC hol hod,←jf] 
  have e8 : ∀n,n<W8→B.aE (wds n) 8=n:=fun n hn=>by rw[tE n 8 (Nat.le_refl _),←uS,Nat.mod_eq_of_lt hn]
  rw[e8 a ha,e8 b hb,←uS] at hv
  have hvo:B.aE os 8=B.au os:=by rw[B.au,hol]
  rw[hvo] at hv
  exact⟨hE.put (by omega) _,B.au os,bor,rfl,I7 hol hod,F8,hv⟩
theorem Ol {n m:Nat} (hn:n<W8) (hm:m<W8) (ox oy:Operand):binop Proofs.Tryz.prog .eql 199 ox oy (.agg (wdC n).toArray) (.agg (wdC m).toArray)=some (.bool (decide (n=m))):=by
 rw[xN,xN,rY UG u42 Ew XM _ _ _ _ (by simp) (by simp),NO hn hm]
set_option maxHeartbeats 1000000 in
theorem EI {h:IH} (n:Nat) (hn:n<W8):WV Proofs.Tryz.prog (.func (.func 277) #[] #[]) [wdV n] h fun r h'=>Ext h h'∧r=.bool (decide (n=0)):=by
 have hz : ∀ox oy,binop Proofs.Tryz.prog .eql 199 ox oy (.agg (wdC n).toArray) (.agg #[ZW,ZW,ZW,ZW,ZW,ZW,ZW,ZW])=some (.bool (decide (n=0))):=fun ox oy=>by
  rw[eF,wdV,Ol hn (by have:=cC;have:=jq;omega)]
 have E1:Ext h (h.new (.cells (wdC n) 0 none)):=(Ext.refl h).new _
 refine enter (nt:=6) (rs:=[.tmp 2]) Proofs.Tryz.func277 rfl rfl rfl (by simp) ?_
 simp -dsimp (maxSteps:=1000000) (disch:=first|omega|(simp only[ax,ay];omega)|decide +kernel|(repeat first|rw[ax]|rw[ay])) only[wpS,wpT,Nat.reduceEqDiff,Nat.reduceLeDiff,gY,GA,aY,aq,aK,hz]
 exact E1
theorem KH {b:Bool} {n:Nat}:dY Proofs.Tryz.prog 201 [(0,.bool b),(1,wdV n)]=some (ku b n):=by
 kernel_rfl
set_option maxHeartbeats 1000000 in
theorem GY {h:IH} (b:Bool) (n:Nat) (hn:n<W8):WV Proofs.Tryz.prog (.func (.func 274) #[] #[]) [.bool b,wdV n] h fun r h'=>Ext h h'∧r=ku (b && !decide (n=0)) n:=by
 obtain⟨H0,hH0,n0,E0,k0,k1⟩:=iQ h (wdC n) [.bool false,ZW,ZW,ZW,ZW,ZW,ZW,ZW,ZW]
 refine enter (nt:=13) (rs:=[.cell 4 201]) Proofs.Tryz.func274 rfl rfl rfl (by simp) ?_
 simp -dsimp (maxSteps:=1000000) (disch:=first|omega|(simp only[ax,ay];omega)|decide +kernel|(repeat first|rw[ax]|rw[ay])) only[wpS,Nat.reduceEqDiff,Nat.reduceAdd,rH,aY]
 rw[←hH0]
 clear hH0
 have X0:=Ext.refl H0
 have L1:load Proofs.Tryz.prog H0 199 (ptr (2*h.n) 0)=some (wdV n):=by
  have r:=aj k0
  simp -dsimp (maxSteps:=1000000) (disch:=first|omega|(simp only[ax,ay];omega)|decide +kernel|(repeat first|rw[ax]|rw[ay])) only[wpS,Nat.reduceLeDiff,gY,r,aq,aK]
  rfl
 refine drawn [(6,[3])] (by kernel_rfl) (by kernel_rfl) rfl ?_
 cases b with
 | true =>
  simp -dsimp (maxSteps:=1000000) (disch:=first|omega|(simp only[ax,ay];omega)|decide +kernel|(repeat first|rw[ax]|rw[ay])) only[wpS,wpT,Nat.reduceEqDiff,Nat.reduceLeDiff,gY,aj k0,aq,aK]
  refine call (EI n hn) ?_
  rintro _ h1 ⟨X1,rfl⟩
  have m1:=X1.n
  have q0:=X1.kept (by omega) k0
  have q1:=X1.kept (by omega) k1
  simp -dsimp (maxSteps:=1000000) (disch:=first|omega|(simp only[ax,ay];omega)|decide +kernel|(repeat first|rw[ax]|rw[ay])) only[wpS,wpT,Nat.reduceEqDiff,Nat.reduceLeDiff,Nat.reduceAdd,gY,pC,aj q0,q1,aq,aK,show(.agg (wdC n).toArray:Value)=wdV n from rfl,KH,dR,aM,bf]
  refine⟨ao rfl rfl rfl rfl (aD (H0:=H0) rfl (by omega) X1 X0 L1),?_⟩
  simp -dsimp (maxSteps:=1000000) (disch:=first|omega|(simp only[ax,ay];omega)|decide +kernel|(repeat first|rw[ax]|rw[ay])) only[wpS,wpT,Nat.reduceEqDiff,Nat.reduceLeDiff,Nat.reduceAdd,pG,eo,aq]
  exact⟨(E0.trans X1).put (by omega) _,rfl⟩
 | false =>
  simp -dsimp (maxSteps:=1000000) (disch:=first|omega|(simp only[ax,ay];omega)|decide +kernel|(repeat first|rw[ax]|rw[ay])) only[wpS,wpT,Nat.reduceEqDiff,Nat.reduceLeDiff,Nat.reduceAdd,gY,pC,aj k0,k1,aq,aK,show(.agg (wdC n).toArray:Value)=wdV n from rfl,KH,dR,aM,bf]
  refine⟨ao rfl rfl rfl rfl (aD (H0:=H0) rfl (by omega) X0 X0 L1),?_⟩
  simp -dsimp (maxSteps:=1000000) (disch:=first|omega|(simp only[ax,ay];omega)|decide +kernel|(repeat first|rw[ax]|rw[ay])) only[wpS,wpT,Nat.reduceEqDiff,Nat.reduceLeDiff,Nat.reduceAdd,pG,eo,aq]
  exact⟨E0.put (by omega) _,rfl⟩
set_option maxHeartbeats 2000000 in
theorem Oa {h:IH} (a b:Nat) (hab:a+b<W8) :
  WV Proofs.Tryz.prog (.func (.func 270) #[] #[]) [ku false a,ku false b] h fun r h'=>Ext h h'∧r=.tuple #[ku false (a+b),.bool false]:=by
 have ha:a<W8:=by omega
 have hb:b<W8:=by omega
 obtain⟨H0,hH0,n0,E0,k0,k1,k2⟩:=iP h (.bool false :: wdC a) (.bool false :: wdC b) [.bool false,ZW,ZW,ZW,ZW,ZW,ZW,ZW,ZW]
 have ee:((false:Bool) == false)=true:=rfl
 refine enter (nt:=61) (rs:=[.cell 4 201,.tmp 5]) Proofs.Tryz.func270 rfl rfl rfl (by simp) ?_
 simp -dsimp (maxSteps:=1000000) (disch:=first|omega|(simp only[ax,ay];omega)|decide +kernel|(repeat first|rw[ax]|rw[ay])) only[wpS,wpT,Nat.reduceEqDiff,Nat.reduceLeDiff,Nat.reduceAdd,rH,jn,ld4,be4,fm,gY,dR]
 rw[←hH0]
 clear hH0
 simp -dsimp (maxSteps:=1000000) (disch:=first|omega|(simp only[ax,ay];omega)|decide +kernel|(repeat first|rw[ax]|rw[ay])) only[wpS,wpT,Nat.reduceEqDiff,Nat.reduceLeDiff,Nat.reduceAdd,fm,gY,aj k1,fQ,aq]
 refine call (EJ a b ha hb) ?_
 rintro _ h1 ⟨X1,m,c,rfl,hm,hc,iO⟩
 have c0:c=0:=by
  apply Classical.byContradiction
  intro hn
  have:c=1:=by omega
  subst this
  omega
 subst c0
 obtain rfl:m=a+b:=by omega
 have m1:=X1.n
 have e1:Ext h1 ((h1.new (.cells [ZW,ZW,ZW,ZW,ZW,ZW,ZW,ZW] 0 none)).put h1.n (.cells (wdC (a+b)) 0 none)):=((Ext.refl _).new _).put (Nat.le_refl _) _
 have X2:=X1.trans e1
 have q0:=X1.kept (by omega) k0
 have q2:=X2.kept (by omega) k2
 simp -dsimp (maxSteps:=1000000) (disch:=first|omega|(simp only[ax,ay];omega)|decide +kernel|(repeat first|rw[ax]|rw[ay])) only[wpS,wpT,Nat.reduceEqDiff,Nat.reduceLeDiff,Nat.reduceAdd,jn,ld4,gY,AU,wz,aY,aq,aM,bf,aj q0,aK]
 refine call (GY false (a+b) hab) ?_
 rintro _ h3 ⟨X3,rfl⟩
 have q3:=X3.kept (by simp only[ax,ay];omega) q2
 rw[Bool.false_and]
 simp -dsimp (maxSteps:=1000000) (disch:=first|omega|(simp only[ax,ay];omega)|decide +kernel|(repeat first|rw[ax]|rw[ay])) only[wpS,wpT,Nat.reduceEqDiff,Nat.reduceLeDiff,Nat.reduceAdd,pC,pG,q3,dR,eo,aq,aM,bf]
 exact⟨((E0.trans X2).trans X3).put (by omega) _,rfl⟩
set_option maxHeartbeats 2000000 in
theorem Oc {h:IH} (a b:Nat) (ha:a<W8) (hab:b≤a) :
  WV Proofs.Tryz.prog (.func (.func 270) #[] #[]) [ku false a,ku true b] h fun r h'=>Ext h h'∧r=.tuple #[ku false (a - b),.bool false]:=by
 have hb:b<W8:=by omega
 obtain⟨H0,hH0,n0,E0,k0,k1,k2⟩:=iP h (.bool false :: wdC a) (.bool true :: wdC b) [.bool false,ZW,ZW,ZW,ZW,ZW,ZW,ZW,ZW]
 have ee:((false:Bool) == true)=false:=rfl
 refine enter (nt:=61) (rs:=[.cell 4 201,.tmp 5]) Proofs.Tryz.func270 rfl rfl rfl (by simp) ?_
 simp -dsimp (maxSteps:=1000000) (disch:=first|omega|(simp only[ax,ay];omega)|decide +kernel|(repeat first|rw[ax]|rw[ay])) only[wpS,wpT,Nat.reduceEqDiff,Nat.reduceLeDiff,Nat.reduceAdd,rH,jn,ld4,be4,fm,gY,dR]
 rw[←hH0]
 clear hH0
 simp -dsimp (maxSteps:=1000000) (disch:=first|omega|(simp only[ax,ay];omega)|decide +kernel|(repeat first|rw[ax]|rw[ay])) only[wpS,wpT,Nat.reduceEqDiff,Nat.reduceLeDiff,Nat.reduceAdd,fm,gY,aj k1,fQ,aq]
 refine call (oF a b ha hb) ?_
 rintro _ h1 ⟨X1,rfl⟩
 rw[if_neg (by omega)]
 obtain⟨z,hz,hz0⟩ : ∃z:Int,(if a=b then (0:Int) else 1)=z∧0≤z:=⟨_,rfl,by split<;>omega⟩
 rw[hz]
 have m1:=X1.n
 simp -dsimp (maxSteps:=1000000) (disch:=first|omega|(simp only[ax,ay];omega)|decide +kernel|(repeat first|rw[ax]|rw[ay])) only[wpS,wpT,Nat.reduceEqDiff,Nat.reduceLeDiff,Nat.reduceAdd,fm,gY,aj (X1.kept (by omega) k0),aj (X1.kept (by omega) k1),fQ,aq]
 refine call (kR a b ha hb) ?_
 rintro _ h2 ⟨X2,m,c,rfl,hm,hc,iO⟩
 have c0:c=0:=by
  apply Classical.byContradiction
  intro hn
  have:c=1:=by omega
  subst this
  omega
 subst c0
 obtain rfl:m=a - b:=by omega
 have m2:=X2.n
 have e1:Ext h2 ((h2.new (.cells [ZW,ZW,ZW,ZW,ZW,ZW,ZW,ZW] 0 none)).put h2.n (.cells (wdC (a - b)) 0 none)):=((Ext.refl _).new _).put (Nat.le_refl _) _
 have X3:=(X1.trans X2).trans e1
 have q0:=(X1.trans X2).kept (by omega) k0
 have q2:=X3.kept (by omega) k2
 simp -dsimp (maxSteps:=1000000) (disch:=first|omega|(simp only[ax,ay];omega)|decide +kernel|(repeat first|rw[ax]|rw[ay])) only[wpS,wpT,Nat.reduceEqDiff,Nat.reduceLeDiff,Nat.reduceAdd,jn,ld4,gY,AU,wz,aY,aq,aM,bf,aj q0,aK]
 refine call (GY false (a - b) (by omega)) ?_
 rintro _ h3 ⟨X4,rfl⟩
 have q3:=X4.kept (by simp only[ax,ay];omega) q2
 rw[Bool.false_and]
 simp -dsimp (maxSteps:=1000000) (disch:=first|omega|(simp only[ax,ay];omega)|decide +kernel|(repeat first|rw[ax]|rw[ay])) only[wpS,wpT,Nat.reduceEqDiff,Nat.reduceLeDiff,Nat.reduceAdd,pC,pG,q3,dR,eo,aq,aM,bf]
 exact⟨((E0.trans X3).trans X4).put (by omega) _,rfl⟩
set_option maxHeartbeats 2000000 in
theorem Lg {h:IH} (b:Nat) (hb:b<W8) (b0:0<b) :
  WV Proofs.Tryz.prog (.func (.func 275) #[] #[]) [ku false b] h fun r h'=>Ext h h'∧r=ku true b:=by
 obtain⟨H0,hH0,n0,E0,k0,k1⟩:=iQ h (.bool false :: wdC b) [.bool false,ZW,ZW,ZW,ZW,ZW,ZW,ZW,ZW]
 refine enter (nt:=9) (rs:=[.cell 2 201]) Proofs.Tryz.func275 rfl rfl rfl (by simp) ?_
 simp -dsimp (maxSteps:=1000000) (disch:=first|omega|(simp only[ax,ay];omega)|decide +kernel|(repeat first|rw[ax]|rw[ay])) only[wpS,wpT,Nat.reduceEqDiff,Nat.reduceLeDiff,Nat.reduceAdd,rH,jn,ld4,fm,gY,dR]
 rw[←hH0]
 clear hH0
 simp -dsimp (maxSteps:=1000000) (disch:=first|omega|(simp only[ax,ay];omega)|decide +kernel|(repeat first|rw[ax]|rw[ay])) only[wpS,Nat.reduceEqDiff,Nat.reduceLeDiff,fQ,aq]
 refine call (GY true b hb) ?_
 rintro _ h1 ⟨X1,rfl⟩
 rw[Bool.true_and,decide_eq_false (by omega),Bool.not_false]
 have q1:=X1.kept (by omega) k1
 have m1:=X1.n
 simp -dsimp (maxSteps:=1000000) (disch:=first|omega|(simp only[ax,ay];omega)|decide +kernel|(repeat first|rw[ax]|rw[ay])) only[wpS,wpT,Nat.reduceEqDiff,Nat.reduceLeDiff,Nat.reduceAdd,pC,pG,q1,dR,eo,aq,aM,bf]
 exact⟨(E0.trans X1).put (by omega) _,rfl⟩
set_option maxHeartbeats 2000000 in
theorem AP {h:IH} (a b:Nat) (ha:a<W8) (b0:0<b) (hab:b≤a) :
  WV Proofs.Tryz.prog (.func (.func 271) #[] #[]) [ku false a,ku false b] h fun r h'=>Ext h h'∧r=.tuple #[ku false (a - b),.bool false]:=by
 obtain⟨H0,hH0,n0,E0,k0,k1,k2⟩:=iP h (.bool false :: wdC a) (.bool false :: wdC b) [.bool false,ZW,ZW,ZW,ZW,ZW,ZW,ZW,ZW]
 refine enter (nt:=12) (rs:=[.cell 4 201,.tmp 5]) Proofs.Tryz.func271 rfl rfl rfl (by simp) ?_
 simp -dsimp (maxSteps:=1000000) (disch:=first|omega|(simp only[ax,ay];omega)|decide +kernel|(repeat first|rw[ax]|rw[ay])) only[wpS,Nat.reduceEqDiff,Nat.reduceAdd,rH,dR]
 rw[←hH0]
 clear hH0
 have X0:=Ext.refl H0
 have L0:load Proofs.Tryz.prog H0 201 (ptr (2*h.n) 0)=some (ku false a):=by
  have r:=aj k0
  simp -dsimp (maxSteps:=1000000) (disch:=first|omega|(simp only[ax,ay];omega)|decide +kernel|(repeat first|rw[ax]|rw[ay])) only[wpS,wpT,Nat.reduceLeDiff,Nat.reduceAdd,pG,r,eo,aq]
  rfl
 refine drawn [(0,[3])] (by kernel_rfl) (by kernel_rfl) rfl ?_
 simp -dsimp (maxSteps:=1000000) (disch:=first|omega|(simp only[ax,ay];omega)|decide +kernel|(repeat first|rw[ax]|rw[ay])) only[wpS,wpT,Nat.reduceEqDiff,Nat.reduceLeDiff,Nat.reduceAdd,pG,aj k0,aj k1,eo,aq]
 refine call (Lg b (by omega) b0) ?_
 rintro _ h1 ⟨X1,rfl⟩
 have m1:=X1.n
 simp -dsimp (maxSteps:=1000000) (disch:=first|omega|(simp only[ax,ay];omega)|decide +kernel|(repeat first|rw[ax]|rw[ay])) only[wpS,Nat.reduceEqDiff]
 refine call (Oc a b ha hab) ?_
 rintro _ h2 ⟨X2,rfl⟩
 have X12:=X1.trans X2
 have q2:=X12.kept (by omega) k2
 simp -dsimp (maxSteps:=1000000) (disch:=first|omega|(simp only[ax,ay];omega)|decide +kernel|(repeat first|rw[ax]|rw[ay])) only[wpS,wpT,Nat.reduceEqDiff,Nat.reduceLeDiff,Nat.reduceAdd,pC,q2,dR,aq,aM,bf]
 refine⟨ao rfl rfl rfl rfl (aD (H0:=H0) rfl (by omega) X0 X1 L0),?_⟩
 simp -dsimp (maxSteps:=1000000) (disch:=first|omega|(simp only[ax,ay];omega)|decide +kernel|(repeat first|rw[ax]|rw[ay])) only[wpS,wpT,Nat.reduceEqDiff,Nat.reduceLeDiff,Nat.reduceAdd,pG,eo,aq]
 exact⟨(E0.trans X12).put (by omega) _,rfl⟩
end Go.Id
