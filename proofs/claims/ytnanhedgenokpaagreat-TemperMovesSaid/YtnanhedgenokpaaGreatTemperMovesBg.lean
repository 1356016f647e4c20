/-
  Contracts: share's operations on two shares. Contracts: share's operations on two shares: Div, Max, Min, Sub, Neg.
-/
import Derived.Test.YtnanhedgenokpaaGreatTemperMovesAt
import Derived.Test.YtnanhedgenokpaaGreatTemperMovesBe
import Derived.Test.YtnanhedgenokpaaGreatTemperMovesAn
import Derived.Test.YtnanhedgenokpaaGreatTemperMovesAo
import Derived.Test.YtnanhedgenokpaaGreatTemperMovesAr
import Derived.Test.YtnanhedgenokpaaGreatTemperMovesBf
import Derived.Test.YtnanhedgenokpaaGreatTemperMovesAs
import Derived.Test.YtnanhedgenokpaaGreatTemperMovesAv
import Derived.Test.YtnanhedgenokpaaGreatTemperMovesAp
set_option linter.unusedVariables false
set_option linter.unusedSimpArgs false
set_option linter.defProp false
set_option linter.deprecated false
namespace Go.Id
open Go
open Go.Proofs.Tryz (prog)
open Nat renaming reduceAdd→zA,reduceEqDiff→zE,reduceLeDiff→zL
set_option maxHeartbeats 16000000
theorem uT.rat {h:IH} {v:Value} {n d:Nat} (p:uT h v (wdI n) (wdI d)) (ok:okS n d):dU h v (rOf (n,d)):=by
 obtain⟨e1,e2⟩:=iH (p:=(n,d)) ok
 unfold dU
 rw[e1,e2]
 exact p
theorem PT {h:IH} {n1 d1 n2 d2:Nat} (h1:n1<W8) (h2:d1<W8) (h3:n2<W8) (h4:d2<W8):iM (h.new (.cells (shL [(n1,d1),(n2,d2)]) 16 none)) (.slice (some ⟨2*h.n,0,none⟩) 2 5) [(n1,d1),(n2,d2)]:=by
 refine⟨cV (k:=h.n) (f:=none) (aa _ _ rfl) (by simp) (by decide) (by rw[Gi];rfl) (by omega) (by omega),by simp,?_⟩
 intro p hp
 simp at hp
 rcases hp with rfl|rfl
 ·exact⟨h1,h2⟩
 ·exact⟨h3,h4⟩
theorem NT {h:IH} {n1 d1 n2 d2:Nat} {fv:Value} {z:Int} (h1:n1<W8) (h2:d1<W8) (h3:n2<W8) (h4:d2<W8) (ok1:okS n1 d1) (ok2:okS n2 d2)
  (op : ∀(h':IH) (v w:Value),dU h' v (rOf (n1,d1))→dU h' w (rOf (n2,d2))→WV prog fv [v,w] h' fun r h''=>Ext h' h''∧r=KI z) :
  WV prog (.func (.func 75) #[] #[]) [shV n1 d1,shV n2 d2,fv] h fun r h'=>Ext h h'∧r=.tuple #[KI z,KI 0]:=by
 refine enter (nt:=21) (rs:=[.tmp 6,.tmp 7]) Proofs.Tryz.func75 rfl rfl rfl (by simp) ?_
 simp -dsimp (disch:=try exact dx) only[wpS,zE,zA,fE,aV]
 obtain⟨H0,hH0,n0,E0,g0,g1⟩:=gl h (shC n1 d1) (shC n2 d2)
 rw[←hH0]
 clear hH0
 have X0:=Ext.refl H0
 have bb : ∀hx:IH,buildSlice prog hx 60 2 [(0,.agg (shC n1 d1).toArray),(1,.agg (shC n2 d2).toArray)]=some (.slice (some ⟨2*hx.n,0,none⟩) 2 5,hx.new (.cells (shL [(n1,d1),(n2,d2)]) 16 none)):=fun hx=>QU n1 d1 n2 d2
 simp -dsimp (disch:=try exact dx) only[wpS,zE,zL,fE,ai g1,aH,bN,bb]
 refine call (Ez (PT h1 h2 h3 h4)) ?_
 rintro _ k1 ⟨Y1,rfl⟩
 have X1:Ext H0 k1:=(X0.new _).trans Y1
 have dt:decide (∀p ∈ [(n1,d1),(n2,d2)],okS p.1 p.2)=true:=decide_eq_true (by
  intro p hp
  simp at hp
  rcases hp with rfl|rfl
  ·exact ok1
  ·exact ok2)
 rw[dt]
 have L2:=(psh g1).2.2
 simp -dsimp (disch:=try exact dx) only[wpS,wpT,zE]
 refine drawn [(3,[2])] (by kernel_rfl) (by kernel_rfl) rfl ?_
 simp -dsimp (disch:=try exact dx) only[wpS,zE,zL,fE,ai (X1.kept (by omega) g0),aH,bN]
 refine call (jt n1 d1 h1 h2) ?_
 rintro v k2 ⟨Y2,p2⟩
 have X2:=X1.trans Y2
 simp -dsimp (disch:=try exact dx) only[wpS,zE,zL,fE,ai (X2.kept (by omega) g1),aH,bN]
 refine call (jt n2 d2 h3 h4) ?_
 rintro w k3 ⟨Y3,p3⟩
 have X3:=X2.trans Y3
 simp -dsimp (disch:=try exact dx) only[wpS,zE]
 refine call (op k3 v w (dU.ab (p2.rat ok1) Y3.ab) (p3.rat ok2)) ?_
 rintro _ k4 ⟨Y4,rfl⟩
 have X4:=X3.trans Y4
 simp -dsimp (disch:=try exact dx) only[wpS,zE]
 refine⟨by repeat' first|refine aN ?_ ?_|refine aI ?_ ?_|exact ak rfl rfl rfl rfl (aJ (H0:=H0) rfl (by omega) (by assumption) (by assumption) (by with_reducible assumption)),?_⟩
 simp -dsimp (disch:=try exact dx) only[wpS,wpT,zE,zA]
 exact E0.trans X4
theorem EB {h:IH} {v w:Value} {x y:Rat} (hv:dU h v x) (hw:dU h w y):WV prog (.func (.func 76) #[] #[]) [v,w] h fun r h'=>Ext h h'∧r=KI (if x<0 then -1 else if x=0 then 0 else 1):=by
 obtain⟨a1,s1,b1,t1,rfl,hn1,hd1,c1,o1,c2,o2,o3,o4⟩:=hv.parts
 obtain⟨a2,s2,b2,t2,rfl,hn2,hd2,c5,o5,c6,o6,o7,o8⟩:=hw.parts
 refine enter (nt:=8) (rs:=[.tmp 4]) Proofs.Tryz.func76 rfl rfl rfl (by simp) ?_
 simp -dsimp (disch:=try exact dx) only[wpS,wpT,zE,zL,zA,iY,bh]
 obtain⟨H0,hH0,n0,E0,g0,g1⟩:=gl h [a1,s1,b1,t1] [a2,s2,b2,t2]
 rw[←hH0]
 clear hH0
 simp -dsimp (disch:=try exact dx) only[tkA]
 refine call (rV (hn1.ab E0.ab)) ?_
 rintro _ h1 ⟨X1,rfl⟩
 have e:(if x.num<0 then (-1:Int) else if x.num=0 then 0 else 1)=if x<0 then -1 else if x=0 then 0 else 1:=by
  have hlt:x<0↔x.num<0:=by rw[Rat.lt_iff];simp
  by_cases c:x<0
  ·rw[if_pos c,if_pos (hlt.1 c)]
  ·rw[if_neg c,if_neg (fun h=>c (hlt.2 h))]
   by_cases c2:x=0
   ·rw[if_pos c2,if_pos (Rat.num_eq_zero.2 c2)]
   ·rw[if_neg c2,if_neg (fun h=>c2 (Rat.num_eq_zero.1 h))]
 rw[e]
 simp -dsimp (disch:=try exact dx) only[wpS,wpT,zE]
 exact E0.trans X1
theorem Ia {h:IH} {p1:Nat×Nat} (h1:p1.1<W8∧p1.2<W8) (ok1:okS p1.1 p1.2):WV prog (.func (.func 22) #[] #[]) [shV p1.1 p1.2] h fun r h'=>Ext h h'∧r=.tuple #[KI (if rOf p1<0 then -1 else if rOf p1=0 then 0 else 1),KI 0]:=by
 refine enter (nt:=9) (rs:=[.tmp 2,.tmp 3]) Proofs.Tryz.func22 rfl rfl rfl (by simp) ?_
 simp -dsimp (disch:=try exact dx) only[wpS,zE,fE,aV]
 obtain⟨H0,hH0⟩ : ∃H0,H0=h.new (.cells (shC p1.1 p1.2) 0 none):=⟨_,rfl⟩
 have E0:Ext h H0:=by rw[hH0];exact(Ext.refl h).new _
 have g0:H0.ext.get h.n=some (.cells (shC p1.1 p1.2) 0 none):=by rw[hH0];simp (disch:=try exact dx) only[aa]
 rw[←hH0]
 clear hH0
 simp -dsimp (disch:=try exact dx) only[wpS,zE,zL,fE,ai g0,aH,bN]
 refine call (NT h1.1 h1.2 h1.1 h1.2 ok1 ok1 (fun h' v w a b=>EB a b)) ?_
 rintro _ k1 ⟨X1,rfl⟩
 simp -dsimp (disch:=try exact dx) only[wpS,wpT,zE]
 exact E0.trans X1
end Go.Id

namespace Go.Id
open Go
end Go.Id

namespace Go.Id
open Go
def E1 (P:Program) (tb:FuncId→Option (List Value→Option Value)):Env:=⟨P,fun _ _=>none,fun f=>(tb f).map fun g args h=>bif args.all plain then (g args).map (·,h) else none⟩
end Go.Id

namespace Go.Id
open Go
noncomputable section
def bO {α β:Type} (o:Option α) (k:α→Option β):Option β:=Option.rec (motive:=fun _=>Option β) none k o
@[simp] theorem TK {α β:Type} (a:α) (k:α→Option β):bO (some a) k=k a:=rfl
@[simp] theorem TL {α β:Type} (k:α→Option β):bO none k=none:=rfl
def iB {α:Type} (b:Bool) (x y:α):α:=Bool.rec (motive:=fun _=>α) y x b
@[simp] theorem TJ {α:Type} (x y:α):iB true x y=x:=rfl
@[simp] theorem RZ {α:Type} (x y:α):iB false x y=y:=rfl
end
end Go.Id

namespace Go.Id
open Go
noncomputable section
end
end Go.Id

namespace Go.Id
open Go
noncomputable section
end
end Go.Id

namespace Go.Id
open Go
noncomputable section
end
end Go.Id

namespace Go.Id
open Go
theorem It (n d:Nat):plain (shV n d)=true:=by
 show(shC n d).toArray.all bP=true
 rw[shC,wdC,wdC,List.all_toArray,List.all_append,List.all_map,List.all_map]
 simp[bP]
end Go.Id

namespace Go.Id
open Go
open Go.Proofs.Tryz (prog)
open Nat renaming reduceAdd→zA,reduceEqDiff→zE
set_option maxHeartbeats 16000000
def fI (h:IH) (v:Value) (l:List Int):Prop:=bI h 1 v l.length (l.map KI)∧l.length≤1000000000 ∧ ∀x∈l,dH x
theorem fI.ab {h h':IH} {v:Value} {l:List Int} (s:fI h v l) (e:aF h h'):fI h' v l:=⟨s.1.ab e,s.2⟩
def oE (most n:Int):Bool:=decide (n<0) || decide (most<n)
theorem FQ {h:IH} {most n:Int} {b:Nat} (hb:b<h.n) (g:h.ext.get b=some (.cells [KI most] 0 none)) :
  WV prog (.func (.func 142) #[] #[ptr (2*b) 0]) [KI n] h fun r h'=>h'=h∧r=.bool (oE most n):=by
 unfold oE
 by_cases c:n<0
 ·have d:decide (n<0)=true:=decide_eq_true c
  refine enter (nt:=11) (rs:=[.tmp 3]) Proofs.Tryz.func142 rfl rfl rfl (by simp) ?_
  simp -dsimp (disch:=try exact dx) only[wpS,wpT,zE,zA,d,Bool.true_or]
 ·have d:decide (n<0)=false:=decide_eq_false c
  refine enter (nt:=11) (rs:=[.tmp 3]) Proofs.Tryz.func142 rfl rfl rfl (by simp) ?_
  simp -dsimp (disch:=try exact dx) only[wpS,wpT,zE,zA,ld3,d,ai g,Bool.false_or]
theorem ua {h:IH} {v:Value} {l:List Int} {most:Int} (hv:fI h v l) :
  WV prog (.func (.func 59) #[] #[]) [v,KI most] h fun r h'=>Ext h h'∧r=.bool (l.any (oE most)):=by
 have E1:Ext h (h.new (.cells [KI most] 0 none)):=(Ext.refl h).new _
 refine enter (nt:=8) (rs:=[.tmp 4]) Proofs.Tryz.func59 rfl rfl rfl (by simp) ?_
 simp -dsimp (disch:=try exact dx) only[wpS,zE,zA]
 refine call (vd (oE most) (hv.1.ab E1.ab).now hv.2.1 (fun x _=>FQ (by simp) (aa _ _ rfl))) ?_
 rintro _ _ ⟨rfl,rfl⟩
 simp -dsimp (disch:=try exact dx) only[wpS,wpT,zE]
 exact E1
def fF (s l:List Int):Int:=if s.length<1∨60<s.length∨s.any (oE 30)=true∨l.length<1∨6<l.length∨l.any (oE 8)=true then 340 else 0
theorem mW {h:IH} {v w:Value} {s l:List Int} (hv:fI h v s) (hw:fI h w l) :
  WV prog (.func (.func 51) #[] #[]) [v,w] h fun r h'=>Ext h h'∧r=KI (fF s l):=by
 unfold fF
 have e1:=hv.1.len (P:=prog) cW
 have e2:=hw.1.len (P:=prog) cW
 have b1:=hv.2.1
 have b2:=hw.2.1
 refine enter (nt:=31) (rs:=[.tmp 4]) Proofs.Tryz.func51 rfl rfl rfl (by simp) ?_
 by_cases a1:s.length<1
 ·rw[if_pos (.inl a1)]
  simp -dsimp (disch:=try exact dx) only[wpS,wpT,zE,zA,e1]
  exact Ext.refl _
 by_cases a2:60<s.length
 ·rw[if_pos (.inr (.inl a2))]
  simp -dsimp (disch:=try exact dx) only[wpS,wpT,zE,zA,e1]
  exact Ext.refl _
 simp -dsimp (disch:=try exact dx) only[wpS,wpT,zE,zA,e1]
 refine call (ua hv) ?_
 rintro _ h1 ⟨X1,rfl⟩
 cases c3:s.any (oE 30)
 case true =>
  rw[if_pos (.inr (.inr (.inl rfl)))]
  simp -dsimp (disch:=try exact dx) only[wpS,wpT,zE]
  exact X1
 by_cases a4:l.length<1
 ·rw[if_pos (.inr (.inr (.inr (.inl a4))))]
  simp -dsimp (disch:=try exact dx) only[wpS,wpT,zE,e2]
  exact X1
 by_cases a5:6<l.length
 ·rw[if_pos (.inr (.inr (.inr (.inr (.inl a5)))))]
  simp -dsimp (disch:=try exact dx) only[wpS,wpT,zE,e2]
  exact X1
 simp -dsimp (disch:=try exact dx) only[wpS,wpT,zE,e2]
 refine call (ua (hw.ab X1.ab)) ?_
 rintro _ h2 ⟨X2,rfl⟩
 cases c6:l.any (oE 8)
 case true =>
  rw[if_pos (.inr (.inr (.inr (.inr (.inr rfl)))))]
  simp -dsimp (disch:=try exact dx) only[wpS,wpT,zE]
  exact X1.trans X2
 rw[if_neg (by rintro(h|h|h|h|h|h)<;>first|omega|cases h)]
 simp -dsimp (disch:=try exact dx) only[wpS,wpT,zE]
 exact X1.trans X2
end Go.Id

namespace Go.Id
open Go
end Go.Id

namespace Go.Id
open Go
end Go.Id

namespace Go.Id
open Go
section
variable {P:Program}
theorem rW {e:TypeId} (hA:aY P e=some false) {cs:Array Value} {off:Nat} {v:Value} (hv:cs[off]?=some v):ar P (part e cs off)=some v:=by
 unfold part
 have h1:ar P (isAgg e)=some false:=by
  unfold isAgg
  simp only[aY,Option.map_eq_some_iff] at hA
  obtain⟨d,hd,hA⟩:=hA
  rw[bm (cB hd)]
  cases d<;>first|rfl|(simp at hA)
 rw[bm h1]
 simp only[Bool.false_eq_true,if_false,hv]
 rfl
theorem Ir (body:Field→Option Bool×Unit→Sem (ForInStep (Option Bool×Unit))) (g:Option Bool×Unit→Sem Bool) (e:Field→Bool) : ∀fs:List Field,
  (∀f∈fs,∀r,ar P (body f r)=some (if e f=true then .yield (none,()) else .done (some false,()))) →
  ar P (forIn fs ((none,()):Option Bool×Unit) body >>= g)=ar P (g (if fs.all e=true then (none,()) else (some false,()))):=by
 have assoc : ∀(s:Sem (ForInStep (Option Bool×Unit))) (g1:ForInStep (Option Bool×Unit)→Sem (Option Bool×Unit)) (f2:Option Bool×Unit→Sem Bool),ar P ((s >>= g1) >>= f2)=ar P (s >>= fun x=>g1 x >>= f2):=fun s g1 f2=>by
  show ar P ((s.bind g1).bind f2)=ar P (s.bind fun x=>(g1 x).bind f2)
  rw[cp,cp,cp]
  cases ar P s with
  | none=>rfl
  | some a=>simp only[Option.bind_some];rw[cp]
 intro fs
 induction fs with
 | nil=>intro _;rfl
 | cons f fs ih =>
  intro hi
  have h1:=hi f (by simp) (none,())
  rw[List.forIn_cons,assoc,bm h1,List.all_cons]
  cases hc:e f with
  | true =>
   rw[Bool.true_and,←ih fun j hj=>hi j (by simp[hj])]
   rfl
  | false =>
   rw[Bool.false_and]
   rfl
theorem uX {t:TypeId} {fs:Array Field} (hT:P.underlying t=some (.struct fs)) (hs:P.stoodInHeld t=false) (d:Nat) (xs ys:Array Value) (e:Field→Bool)
  (h : ∀f∈fs.toList,f.name ≠ "_" ∧ ∃a b,ar P (part f.type xs f.offset)=some a∧ar P (part f.type ys f.offset)=some b∧ar P (Op.equalIn d f.type a b)=some (e f)) :
  ar P (Op.equalIn (d+1) t (.agg xs) (.agg ys))=some (fs.toList.all e):=by
 unfold Op.equalIn
 rw[bm (cB hT)]
 simp only
 rw[bm (show ar P program=some P from rfl),hs]
 simp only[Bool.false_eq_true,if_false]
 rw[←Array.forIn_toList]
 rw[Ir _ _ e fs.toList]
 ·cases fs.toList.all e<;>rfl
 ·intro f hf r
  obtain⟨hn,a,b,h1,h2,h3⟩:=h f hf
  simp only[hn,ne_eq,not_false_eq_true,if_true]
  rw[bm h1,bm h2,bm h3]
  cases e f<;>rfl
end
end Go.Id

namespace Go.Id
open Go
end Go.Id

namespace Go.Id
open Go
end Go.Id

namespace Go.Id
open Go
end Go.Id

namespace Go.Id
open Go
end Go.Id

namespace Go.Id
open Go
end Go.Id

namespace Go.Id
open Go
abbrev Reg:=Int×Int×Int
def T2 (r:Reg):List Value:=[KI r.1,KI r.2.1,KI r.2.2]
def T1 (l:List Reg):List Value:=l.flatMap T2
def O6 (won low:List Int) (n:Nat):Prop:=∀i,i<n→0≤low.getD i 0∧low.getD i 0≤won.getD i 0
instance (won low:List Int) (n:Nat):Decidable (O6 won low n):=inferInstanceAs (Decidable (∀i,i<n→_))
def P3 (tG won low:List Int) (n:Nat):List Reg:=(List.range n).map fun i=>(tG.getD i 0,won.getD i 0,low.getD i 0)
structure OX (h H1 hh:IH) (fr:Fr) (vp vw vl:Value) (m:Int) (tG won low:List Int) (b:Nat) (i:Nat) (out:Value):Prop where
 e:Ext h hh
 k:aF H1 hh
 sp:bI H1 1 vp tG.length (tG.map KI)
 sw:bI H1 1 vw won.length (won.map KI)
 sl:bI H1 1 vl low.length (low.map KI)
 bn:h.n<b∧b<hh.n
 g8:hh.ext.get h.n=some (.cells [KI 0,.slice none 0 0] 0 none)
 g11:hh.ext.get b=some (.cells [KI m,out] 0 none)
 acc:Acc hh h.n 3 out i (T1 (P3 tG won low i))
 lw:O6 won low i
 f1:ah fr 1=some vw
 f3:ah fr 3=some vl
 f8:ah fr 8=some (ptr (2*h.n) 0)
 f11:ah fr 11=some (ptr (2*b) 0)
 f12:ah fr 12=some (KI (won.take i).sum)
 f52:ah fr 52=some vp
 f53:ah fr 53=some (KI tG.length)
 f54:ah fr 54=some (KI i)
end Go.Id

namespace Go.Id
open Go
end Go.Id

namespace Go.Id
open Go
end Go.Id

namespace Go.Id
open Go
end Go.Id

namespace Go.Id
open Go
theorem P9 (P:Program) (h:IH) (ts:Array TypeId) (k:IntKind) (a b:Int):builtin P h .max ts [.int k a,.int k b]=some (.int k (if a<b then b else a),h):=by
 have h1:ar P (Builtin.max_ ts 0 #[.int k a,.int k b])=some (.int k (if a<b then b else a)):=by
  unfold Builtin.max_
  simp
  rfl
 show(bif [Value.int k a,Value.int k b].all plain then (cG P (Builtin.max_ ts 0 #[.int k a,.int k b])).map (·,h) else none)=_
 simp only[cG,h1]
 rfl
end Go.Id

namespace Go.Id
open Go
abbrev B8 (n:Nat):Value:=.int .u8 (n:Int)
abbrev B16 (n:Nat):Value:=.int .u16 (n:Int)
structure Dr6 (h:IH) (x:Value) (ps ls:List Nat) (u s:Nat):Prop where
 ex : ∃vp vl,x=.agg #[vp,B8 u,vl,B16 s]∧bI h 1 vp ps.length (ps.map B16)∧bI h 1 vl ls.length (ls.map B8)
 bp : ∀p∈ps,p<65536
 bl : ∀p∈ls,p<256
 bu:u<256
 bs:s<65536
 lp:ps.length<9223372036854775808
 ll:ls.length<9223372036854775808
end Go.Id

namespace Go.Id
open Go
open Go.Proofs.Tryz (prog)
def me:List Int→Int
 | []=>0
 | a :: l=>l.foldl max a
theorem Iz (l:List Int) (a b:Int):me ((a :: l) ++ [b])=max (me (a :: l)) b:=by
 simp[me,List.foldl_append]
theorem NP : ∀(l:List Int) (x:Int),x∈l→x≤me l
 | [],x,h=>by cases h
 | a :: l,x,h=>by
  have g : ∀(l:List Int) (b x:Int),(x=b∨x∈l)→x≤l.foldl max b:=by
   intro l
   induction l with
   | nil=>intro b x h;simp at h;simp[h]
   | cons c l ih =>
    intro b x h
    rw[List.foldl_cons]
    rcases h with rfl|h
    ·have:=ih (max x c) (max x c) (.inl rfl);omega
    ·rcases List.mem_cons.1 h with rfl|h
     ·have:=ih (max b x) (max b x) (.inl rfl);omega
     ·exact ih _ _ (.inr h)
  exact g l a x (by simpa using h)
theorem C7 : ∀(l:List Int),l ≠ []→me l∈l
 | [],h=>absurd rfl h
 | a :: l,_=>by
  have g : ∀(l:List Int) (b:Int),l.foldl max b=b∨l.foldl max b∈l:=by
   intro l
   induction l with
   | nil=>intro b;exact .inl rfl
   | cons c l ih =>
    intro b
    rw[List.foldl_cons]
    rcases ih (max b c) with h|h
    ·rcases(by omega:max b c=b∨max b c=c) with h2|h2
     ·exact .inl (h.trans h2)
     ·exact .inr (by rw[h,h2];exact List.mem_cons_self)
    ·exact .inr (List.mem_cons_of_mem _ h)
  rcases g l a with h|h
  ·show l.foldl max a∈_;rw[h];exact List.mem_cons_self
  ·exact List.mem_cons_of_mem _ h
theorem NJ {h:IH} {v:Value} {l:List Int} (hv:bI h 1 v l.length (l.map KI)) (hl:l.length≤1000000000) (h0:l ≠ []) :
  WV prog (.func (.func 81) #[] #[]) [v] h fun r h'=>h'=h∧r=KI (me l):=by
 have P0:=hv.now
 have l0:0<l.length:=List.length_pos_iff.2 h0
 obtain⟨a,ha⟩ : ∃a,l[0]?=some a:=⟨_,List.getElem?_eq_getElem l0⟩
 have lP:=P0.ld (P:=prog) (t:=3) (c:=0) (by simp<;>omega) ag3
 rw[bD,ha] at lP
 have e1:me (l.take 1)=a:=by
  cases l with
  | nil=>cases ha
  | cons b l=>simp at ha;subst ha;rfl
 have ix:indexAddr prog 25 v (.int .i64 0)=some (aK v 0):=by
  have:=P0.idx (P:=prog) (t:=25) fc (k:=.i64) (j:=0) l0
  simpa using this
 refine enter (nt:=25) (rs:=[.tmp 2]) Proofs.Tryz.func81 rfl rfl rfl (by simp) ?_
 simp -dsimp (disch:=try exact dx) only[wpS,wpT,Nat.reduceEqDiff,P0.len cW,ix,lP]
 refine loop (fun m fr hh => ∃i:Nat,i+m=l.length∧0<i∧hh=h∧ah fr 0=some v∧ah fr 3=some (KI (me (l.take i)))∧ah fr 4=some (KN i)) (l.length - 1) ⟨1,by omega,by omega,rfl,by simp,by rw[e1];simp,by simp⟩ ?_
 rintro m fr _ ⟨i,him,hi0,rfl,f0,f3,f4⟩
 by_cases c:i<l.length
 ·obtain⟨n,hn⟩ : ∃n,l[i]?=some n:=⟨_,List.getElem?_eq_getElem c⟩
  have lN:=P0.ld (P:=prog) (t:=3) (c:=i) (by simp<;>omega) ag3
  rw[bD,hn] at lN
  have e2:IntKind.i64.wrap ((i:Int)+1)=((i+1:Nat):Int):=by rw[wrap_i64 (by omega)];omega
  simp -dsimp (disch:=try exact dx) only[wpS,wpT,Nat.reduceEqDiff,f0,f3,f4,P0.len cW,P0.idx fc c,lN,P9,e2]
  refine⟨m - 1,by omega,i+1,by omega,by omega,rfl,by simp[f0],?_,by simp⟩
  rw[List.take_add_one,hn]
  obtain⟨b,t,hb⟩ : ∃b t,l.take i=b :: t:=by
   cases ht:l.take i with
   | nil=>have h9:=congrArg List.length ht;rw[List.length_take,List.length_nil] at h9;omega
   | cons b t=>exact⟨b,t,rfl⟩
  rw[hb,show(some n).toList = [n] from rfl,Iz]
  have:(if me (b :: t)<n then n else me (b :: t))=max (me (b :: t)) n:=by split<;>omega
  simp[this]
 ·simp -dsimp (disch:=try exact dx) only[wpS,wpT,Nat.reduceEqDiff,f0,f3,f4,P0.len cW]
  rw[List.take_of_length_le (by omega)]
end Go.Id

namespace Go.Id
open Go
open Go.Proofs.Tryz (prog)
open Nat renaming reduceAdd→zA,reduceEqDiff→zE,reduceLeDiff→zL
set_option maxHeartbeats 16000000
def wiL (l:List Nat):List Value:=l.flatMap wdC
theorem MR (l:List Nat):(wiL l).length=l.length*8:=by
 induction l with
 | nil=>rfl
 | cons a l ih=>rw[wiL,List.flatMap_cons,List.length_append,aj,←wiL,ih,List.length_cons];omega
theorem PN {l:List Nat} {i:Nat} {p:Nat} (h:l[i]?=some p):((wiL l).drop (i*8)).take 8=wdC p:=by
 induction l generalizing i with
 | nil=>simp at h
 | cons a l ih =>
  rw[wiL,List.flatMap_cons,←wiL]
  cases i with
  | zero =>
   simp at h
   subst h
   rw[Nat.zero_mul,List.drop_zero,List.take_append_of_le_length (by rw[aj];omega),List.take_of_length_le (by rw[aj];omega)]
  | succ i =>
   simp at h
   rw[List.drop_append,aj,List.drop_of_length_le (by rw[aj];omega),List.nil_append,show(i+1)*8 - 8=i*8 by omega]
   exact ih h
theorem lf (l:List Nat) (p:Nat):wiL (l ++ [p])=wiL l ++ wdC p:=by simp[wiL]
def iA (h:IH) (v:Value) (l:List Nat):Prop:=bI h 8 v l.length (wiL l)∧l.length≤1000000000 ∧ ∀n∈l,n<W8
theorem iA.ab {h h':IH} {v:Value} {l:List Nat} (s:iA h v l) (e:aF h h'):iA h' v l:=⟨s.1.ab e,s.2⟩
theorem iA.ld {h h':IH} {v:Value} {l:List Nat} (s:iA h v l) (e:aF h h') {i:Nat} {p:Nat} (hi:l[i]?=some p):load prog h' 30 (aK v (i*8))=some (wdV p):=by
 have hil:=(List.getElem?_eq_some_iff.1 hi).1
 rw[s.1.Dg e (by rw[MR];omega) (by omega) OA JP,PN hi];rfl
theorem aC (n:Nat):List.take 8 (List.drop 0 (wdC n))=wdC n:=by rw[List.drop_zero,List.take_of_length_le (by rw[aj];omega)]
theorem F5 {n:Nat} (hn:n<W8):wdI n=0↔n=0:=ry hn
theorem kX {h:IH} (n:Nat) (hn:n<W8):WV prog (.func (.func 80) #[] #[]) [wdV n] h fun r h'=>Ext h h'∧r=KI (if wdI n<0 then -1 else if wdI n=0 then 0 else 1):=by
 have hz:binop prog .eql 30 (.tmp 8) (.tmp 9) (.agg (wdC n).toArray) (.agg #[ZW,ZW,ZW,ZW,ZW,ZW,ZW,ZW])=some (.bool (decide (n=0))):=by
  rw[gC,wdV,JB hn (by have:=bV;have:=jg;omega)]
 have E1:Ext h (h.new (.cells (wdC n) 0 none)):=(Ext.refl h).new _
 refine enter (nt:=11) (rs:=[.tmp 2]) Proofs.Tryz.func80 rfl rfl rfl (by simp) ?_
 simp -dsimp (disch:=try exact dx) only[wpS,zE,zL,ba,aM,aj,aC]
 refine call (vn n hn) ?_
 rintro _ h1 ⟨X1,rfl⟩
 have g1:=X1.kept (by simp) (aa h (.cells (wdC n) 0 none) rfl)
 by_cases c:wdI n<0
 ·have d:decide (wdI n<0)=true:=decide_eq_true c
  rw[if_pos c]
  simp -dsimp (disch:=try exact dx) only[wpS,wpT,zE,Bz,jW,Bool.false_eq_true,d]
  exact E1.trans X1
 have d:decide (wdI n<0)=false:=decide_eq_false c
 rw[if_neg c]
 by_cases c0:n=0
 ·have d0:decide (n=0)=true:=decide_eq_true c0
  rw[if_pos ((F5 hn).2 c0)]
  simp -dsimp (disch:=try exact dx) only[wpS,wpT,zE,zL,ba,Bz,ra,jW,Bool.false_eq_true,d,ai g1,aj,aC,hz,d0]
  exact E1.trans X1
 ·have d0:decide (n=0)=false:=decide_eq_false c0
  rw[if_neg (fun h=>c0 ((F5 hn).1 h))]
  simp -dsimp (disch:=try exact dx) only[wpS,wpT,zE,zL,ba,Bz,ra,jW,Bool.false_eq_true,d,ai g1,aj,aC,hz,d0]
  exact E1.trans X1
theorem HT (a b:Value):List.take 2 (List.drop 0 [a,b]) = [a,b]:=rfl
theorem Lj {i k:Nat} (hi:i≤k) (hk:k<16000000):ku ((2 ^ i:Nat):Int):=aT (k:=k) (by rw[Int.natAbs_natCast];exact Nat.pow_le_pow_right (Nat.succ_pos 1) hi) hk
theorem xC {i:Nat} (hi:i≤4000):ku ((2 ^ i:Nat):Int):=Lj hi (by decide)
theorem tD {h:IH} {v:Value} {k:Nat} (hv:bq h v 2) (hk:k≤4000) :
  WV prog (.func (.func 85) #[] #[]) [v,KN k] h fun r h'=>Ext h h'∧bq h' r ((2 ^ k:Nat):Int):=by
 obtain⟨s,n,rfl,c1,o1,_,_⟩:=hv.form
 obtain⟨b1,hb1⟩ : ∃b,b=decide ((2:Int)<0):=⟨_,rfl⟩
 rw[←hb1] at hv ⊢
 have E1:Ext h ((h.new (.cells [.bool b1,s] 0 none)).new (.cells [.bool false,.slice none 0 0] 0 none)):=((Ext.refl h).new _).new _
 refine enter (nt:=15) (rs:=[.cell 4 137]) Proofs.Tryz.func85 rfl rfl rfl (by simp) ?_
 simp -dsimp (disch:=try exact dx) only[wpS,zE,zA,fU]
 refine call (jU 1 ⟨by omega,by omega⟩) ?_
 rintro _ h1 ⟨X1,p1⟩
 obtain⟨s1,n1,rfl,c3,o3,_,_⟩:=p1.form
 have m1:=X1.n
 simp only[al] at m1
 have k0:h1.ext.get h.n=some (.cells [.bool b1,s] 0 none):=X1.kept (by simp;omega) (by simp (disch:=try exact dx) only[aa,ao])
 have k1:h1.ext.get (h.n+1)=some (.cells [.bool false,.slice none 0 0] 0 none):=X1.kept (by simp) (by simp (disch:=try exact dx) only[aa])
 simp -dsimp (disch:=try exact dx) only[wpS,wpT,zE,zL,zA,fU,dI,o3]
 have E2:Ext h1 ((h1.new (.cells [.bool false,.slice none 0 0] 0 none)).put h1.n (.cells [.bool false,s1] 0 none)):=((Ext.refl h1).new _).put (Nat.le_refl _) _
 have EE:=(E1.trans X1).trans E2
 refine loop (fun m fr hh => ∃(i:Nat) (b:Bool) (t:Value),i+m=k∧Ext h hh∧h1.n<hh.n∧hh.ext.get h.n=some (.cells [.bool b1,s] 0 none)∧hh.ext.get (h.n+1)=some (.cells [.bool false,.slice none 0 0] 0 none)∧hh.ext.get h1.n=some (.cells [.bool b,t] 0 none)∧bq hh (.agg #[.bool b,t]) ((2 ^ i:Nat):Int)∧ah fr 2=some (ptr (2*h.n) 0)∧ah fr 4=some (ptr (2*(h.n+1)) 0)∧ah fr 5=some (ptr (2*h1.n) 0)∧ah fr 7=some (KN k)∧ah fr 8=some (KN i)) k
  ⟨0,false,s1,by omega,EE,by simp,E2.kept (by omega) k0,E2.kept (by omega) k1,by simp (disch:=try exact dx) only[ad],p1.ab E2.ab,by simp,by simp,by simp,by simp,by simp⟩ ?_
 rintro m fr hh ⟨i,b,t,him,hE,hn,g0,g1,g5,pt,f2,f4,f5,f7,f8⟩
 have hnn:=hE.n
 simp -dsimp (disch:=try exact dx) only[wpS,f7,f8]
 refine ax ?_ ?_<;>intro hc<;>simp only[decide_eq_true_eq,decide_eq_false_iff_not] at hc
 ·simp -dsimp (disch:=try exact dx) only[wpS,wpT,zE,zL,zA,bh,f2,f5,ai g0,ai g5]
  refine call (dL pt (hv.ab hE.ab) (xC (by omega)) (xC (i:=1) (by omega))) ?_
  rintro _ h2 ⟨X2,p2⟩
  have m2:=X2.n
  have e2:((2 ^ i:Nat):Int)*2=((2 ^ (i+1):Nat):Int):=by rw[Nat.pow_succ];omega
  rw[e2] at p2
  obtain⟨t2,n2,rfl,c4,o4,_,_⟩:=p2.form
  have gk:=X2.kept (by omega) g5
  simp -dsimp (disch:=try exact dx) only[wpS,wpT,zE,zL,zA,dI,f5,f8,gk,o4]
  exact⟨m - 1,by omega,i+1,_,t2,by omega,(hE.trans X2).put (by omega) _,by simp;omega,by rw[ae _ _ (by omega)];exact X2.kept (by omega) g0,by rw[ae _ _ (by omega)];exact X2.kept (by omega) g1,by simp (disch:=try exact dx) only[ad],p2.ab ((aF.refl _).put gk _),by simp[f2],by simp[f4],by simp[f5],by simp[f7],by simp⟩
 ·obtain rfl:i=k:=by omega
  obtain⟨_,c5,o5⟩:=pt.co
  simp -dsimp (disch:=try exact dx) only[wpS,wpT,zE,zL,zA,dI,bh,f4,f5,ai g5,g1,o5,HT]
  exact⟨hE.put (by omega) _,pt.ab ((aF.refl _).put g1 _)⟩
theorem Cl {h:IH} (n:Nat) (hn:n<W8):WV prog (.func (.func 79) #[] #[]) [wdV n] h fun r h'=>Ext h h'∧r=.bool (decide (wdI n<1)):=by
 have E1:Ext h (h.new (.cells (wdC n) 0 none)):=(Ext.refl h).new _
 refine enter (nt:=6) (rs:=[.tmp 2]) Proofs.Tryz.func79 rfl rfl rfl (by simp) ?_
 simp -dsimp (disch:=try exact dx) only[wpS,zE,zL,ba,aM,aj,aC]
 refine call (kX n hn) ?_
 rintro _ h1 ⟨X1,rfl⟩
 by_cases c:wdI n<0
 ·have d:decide (wdI n<1)=true:=decide_eq_true (by omega)
  rw[if_pos c,d]
  simp -dsimp (disch:=try exact dx) only[wpS,wpT,zE]
  exact E1.trans X1
 rw[if_neg c]
 by_cases c0:wdI n=0
 ·have d:decide (wdI n<1)=true:=decide_eq_true (by omega)
  rw[if_pos c0,d]
  simp -dsimp (disch:=try exact dx) only[wpS,wpT,zE]
  exact E1.trans X1
 ·have d:decide (wdI n<1)=false:=decide_eq_false (by omega)
  rw[if_neg c0,d]
  simp -dsimp (disch:=try exact dx) only[wpS,wpT,zE]
  exact E1.trans X1
def BR (l:List Nat):Prop:=∀n∈l,1≤wdI n
theorem Ei {h:IH} {v:Value} {l:List Nat} (hv:iA h v l):WV prog (.func (.func 171) #[] #[]) [v,(.func (.func 79) #[] #[])] h fun r h'=>Ext h h' ∧ ∃c:Int,r=KI c∧(0≤c ↔ ¬BR l):=by
 have hlb:=hv.2.1
 refine enter (nt:=19) (rs:=[.tmp 4]) Proofs.Tryz.func171 rfl rfl rfl (by simp) ?_
 simp -dsimp (disch:=try exact dx) only[wpS,zE,zA,hv.1.len rK]
 refine loop (fun m fr h1 => ∃i:Nat,i+m=l.length∧Ext h h1∧(∀j p,j<i→l[j]?=some p→1≤wdI p)∧ah fr 0=some v∧ah fr 1=some (.func (.func 79) #[] #[])∧ah fr 7=some (KN l.length)∧ah fr 8=some (KN i)) l.length
  ⟨0,by omega,Ext.refl _,fun j p hj=>by omega,by simp,by simp,by simp,by simp⟩ ?_
 rintro m fr h1 ⟨i,him,hE,hok,f0,f1,f7,f8⟩
 simp -dsimp (disch:=try exact dx) only[wpS,f7,f8]
 refine ax ?_ ?_<;>intro hc<;>simp only[decide_eq_true_eq,decide_eq_false_iff_not] at hc
 ·have hi:i<l.length:=by omega
  obtain⟨p,hp⟩ : ∃p,l[i]?=some p:=⟨_,List.getElem?_eq_getElem hi⟩
  have hpm:=List.mem_of_getElem? hp
  simp -dsimp (disch:=try exact dx) only[wpS,wpT,zE,f0,f1,f8,hv.1.idx u7 hi,hv.ld hE.ab hp]
  refine call (Cl p (hv.2.2 p hpm)) ?_
  rintro _ h2 ⟨hE2,rfl⟩
  have E2:=hE.trans hE2
  by_cases hk:wdI p<1
  ·rw[decide_eq_true hk]
   simp -dsimp (disch:=try exact dx) only[wpS,zE]
   exact⟨E2,(i:Int),rfl,fun _ dC=>by have:=dC p hpm;omega,fun _=>by omega⟩
  ·rw[decide_eq_false hk]
   simp -dsimp (disch:=try exact dx) only[wpS,zE,f8]
   refine⟨m - 1,by omega,i+1,by omega,E2,?_,by simp[f0],by simp[f1],by simp[f7],by simp⟩
   intro j q hj hq
   by_cases hji:j=i
   ·subst hji;rw[hp] at hq;cases hq;omega
   ·exact hok j q (by omega) hq
 ·simp -dsimp (disch:=try exact dx) only[wpS,wpT]
  refine⟨hE,-1,rfl,fun h=>by omega,fun hn=>?_⟩
  exfalso
  apply hn
  intro p hp
  obtain⟨j,hj⟩:=List.getElem?_of_mem hp
  have:=(List.getElem?_eq_some_iff.1 hj).1
  exact hok j p (by omega) hj
open Classical in
theorem yx {h:IH} {v:Value} {l:List Nat} (hv:iA h v l):WV prog (.func (.func 78) #[] #[]) [v,(.func (.func 79) #[] #[])] h fun r h'=>Ext h h'∧r=.bool (decide (¬BR l)):=by
 refine enter (nt:=9) (rs:=[.tmp 4]) Proofs.Tryz.func78 rfl rfl rfl (by simp) ?_
 simp -dsimp (disch:=try exact dx) only[wpS,zE,zA]
 refine call (Ei hv) ?_
 rintro _ h1 ⟨hE,c,rfl,hc⟩
 simp -dsimp (disch:=try exact dx) only[wpS,zE]
 exact⟨hE,by rw[decide_eq_decide.2 hc]⟩
end Go.Id
