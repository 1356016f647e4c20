/-
  The ideal machine and the model's machine: how values and memories of the one stand for th
-/
import Derived.Test.YtnnmjocmapilaaaGreatOutlierValidAa
import Derived.Below
set_option linter.unusedVariables false
set_option linter.unusedSimpArgs false
set_option linter.defProp false
set_option linter.deprecated false
namespace Go.Id
open Go Go.RowKit
structure Mp where
 at_:Nat→Option (Nat×Nat)
 ez:Nat→Nat×Nat
instance:CoeFun Mp fun _=>Nat→Option (Nat×Nat):=⟨Mp.at_⟩
def Mp.le (m m':Mp):Prop:=∀b x,m b=some x→m' b=some x∧m'.ez b=m.ez b
theorem Mp.le_refl (m:Mp):m.le m:=fun _ _ h=>⟨h,rfl⟩
theorem Mp.le_trans {a b c:Mp} (h:a.le b) (k:b.le c):a.le c:=fun x y e=>let ⟨p,q⟩:=h x y e;let ⟨r,s⟩:=k x y p;⟨r,s.trans q⟩
def ry (m:Mp):Fn→Fn→Prop
 | .yield l,.yield r => ∃s,m l=some (r,s)
 | .func f,.func g=>f=g
 | _,_=>False
inductive aD (m:Mp):Value→Value→Prop where
 | bD {v:Value} (h:bD v=true):aD m v v
 | ptr {b o r s:Nat} (h:m b=some (r,s)):aD m (.pointer (some ⟨b,o,none⟩)) (.pointer (some ⟨r,s+o,none⟩))
 | slice {b o r s len k cap:Nat} (h:m b=some (r,s)) (hk0:0<k) (hl:len≤k / 2) (hk:k / 2≤cap) (hx:k % 2=1→cap=k / 2) (hz:k % 2=0→s+o+cap*(m.ez b).1≤(m.ez b).2) :
   aD m (.slice (some ⟨b,o,none⟩) len k) (.slice (some ⟨r,s+o,none⟩) len cap)
 | lost {b o cap:Nat} {a:Addr}:aD m (.slice (some ⟨b,o,none⟩) 0 0) (.slice (some a) 0 cap)
 | tok {b n cap:Nat} {a:Option Addr} (hc:n≤cap) (h:(n=0∧(a=none→cap=0)) ∨ ∃r s,m b=some (r,s)∧a=some ⟨r,s,none⟩):aD m (.slice (some ⟨b,0,some 0⟩) n 0) (.slice a n cap)
 | map {b r s:Nat} (h:m b=some (r,s)):aD m (.map (some b)) (.map (some r))
 | func {fn fn':Fn} {xs xs' ys ys':Array Value} (hf:ry m fn fn') (hx:xs.size=xs'.size) (hy:ys.size=ys'.size)
   (h1 : ∀(i:Nat) (v v':Value),xs[i]?=some v→xs'[i]?=some v'→aD m v v') (h2 : ∀(i:Nat) (v v':Value),ys[i]?=some v→ys'[i]?=some v'→aD m v v'):aD m (.func fn xs ys) (.func fn' xs' ys')
 | agg {cs cs':Array Value} (hs:cs.size=cs'.size) (h : ∀(i:Nat) (v v':Value),cs[i]?=some v→cs'[i]?=some v'→aD m v v'):aD m (.agg cs) (.agg cs')
 | tuple {cs cs':Array Value} (hs:cs.size=cs'.size) (h : ∀(i:Nat) (v v':Value),cs[i]?=some v→cs'[i]?=some v'→aD m v v'):aD m (.tuple cs) (.tuple cs')
theorem ry.mono {m m':Mp} (hm:m.le m') {f g:Fn} (h:ry m f g):ry m' f g:=by
 cases f<;>cases g<;>simp_all [ry]
 obtain⟨s,h⟩:=h;exact⟨s,(hm _ _ h).1⟩
theorem aD.mono {m m':Mp} (hm:m.le m') {v v':Value} (h:aD m v v'):aD m' v v':=by
 induction h with
 | bD h=>exact .bD h
 | ptr h=>exact .ptr (hm _ _ h).1
 | slice h a b c d e=>exact .slice (hm _ _ h).1 a b c d (by rw[(hm _ _ h).2];exact e)
 | lost=>exact .lost
 | tok hc h=>exact .tok hc (h.imp id fun⟨r,s,h1,h2⟩=>⟨r,s,(hm _ _ h1).1,h2⟩)
 | map h=>exact .map (hm _ _ h).1
 | func hf hx hy _ _ i1 i2=>exact .func (hf.mono hm) hx hy i1 i2
 | agg hs _ ih=>exact .agg hs ih
 | tuple hs _ ih=>exact .tuple hs ih
theorem aD.cj {m:Mp} {v v':Value} (h:aD m v v') (hv:Id.bD v=true):v'=v:=by
 cases h<;>simp_all [Id.bD]
theorem aD.undef (m:Mp):aD m undef undef:=.tuple rfl (by simp)
def bm (m:Mp) (l l':List Value):Prop:=l.length=l'.length ∧ ∀(i:Nat) (v v':Value),l[i]?=some v→l'[i]?=some v'→aD m v v'
theorem bm.nil (m:Mp):bm m [] []:=⟨rfl,by simp⟩
theorem bm.cons {m:Mp} {v v':Value} {l l':List Value} (h:aD m v v') (t:bm m l l'):bm m (v :: l) (v' :: l'):=by
 refine⟨by simp[t.1],fun i x x' hx hx'=>?_⟩
 cases i with
 | zero=>simp at hx hx';subst hx;subst hx';exact h
 | succ i=>simp at hx hx';exact t.2 i x x' hx hx'
theorem bm.append {m:Mp} {a a' b b':List Value} (h:bm m a a') (k:bm m b b'):bm m (a ++ b) (a' ++ b'):=by
 refine⟨by simp[h.1,k.1],fun i v v' hv hv'=>?_⟩
 by_cases hi:i<a.length
 ·rw[List.getElem?_append_left hi] at hv;rw[List.getElem?_append_left (h.1▸hi)] at hv'
  exact h.2 i v v' hv hv'
 ·rw[List.getElem?_append_right (by omega)] at hv;rw[List.getElem?_append_right (by have:=h.1;omega)] at hv'
  rw[←h.1] at hv'
  exact k.2 _ v v' hv hv'
theorem bm.take {m:Mp} {a a':List Value} (h:bm m a a') (n:Nat):bm m (a.take n) (a'.take n):=by
 refine⟨by simp[h.1],fun i v v' hv hv'=>?_⟩
 rw[List.getElem?_take] at hv hv'
 by_cases hi:i<n
 ·simp only[hi,if_true] at hv hv';exact h.2 i v v' hv hv'
 ·simp[hi] at hv
theorem bm.drop {m:Mp} {a a':List Value} (h:bm m a a') (n:Nat):bm m (a.drop n) (a'.drop n):=by
 refine⟨by simp[h.1],fun i v v' hv hv'=>?_⟩
 rw[List.getElem?_drop] at hv hv'
 exact h.2 _ v v' hv hv'
theorem bm.get {m:Mp} {a a':List Value} (h:bm m a a') {i:Nat} {v:Value} (hv:a[i]?=some v) : ∃v',a'[i]?=some v'∧aD m v v':=by
 have hi:i<a.length:=by
  rcases Nat.lt_or_ge i a.length with h|h
  ·exact h
  ·rw[List.getElem?_eq_none h] at hv;cases hv
 have hi':i<a'.length:=h.1▸hi
 exact⟨a'[i],List.getElem?_eq_getElem hi',h.2 i v _ hv (List.getElem?_eq_getElem hi')⟩
theorem bm.bD {m:Mp} {l l':List Value} (h:bm m l l') (hs:l.all Id.bD=true):l'=l:=by
 apply List.ext_getElem? fun i=>?_
 by_cases hi:i<l.length
 ·obtain⟨v',h1,h2⟩:=h.get (List.getElem?_eq_getElem hi)
  rw[h1,List.getElem?_eq_getElem hi]
  rw[h2.cj (by have:=List.all_eq_true.1 hs;exact this _ (List.getElem_mem hi))]
 ·rw[List.getElem?_eq_none (show l'.length≤i from h.1▸Nat.le_of_not_lt hi),List.getElem?_eq_none (Nat.le_of_not_lt hi)]
theorem bm.SZ {m:Mp} {l:List Value} (hs:l.all Id.bD=true):bm m l l:=by
 refine⟨rfl,fun i v v' a b=>?_⟩
 rw[a] at b;cases b
 exact .bD (List.all_eq_true.1 hs _ (List.mem_of_getElem? a))
theorem aD.kf {m:Mp} {cs cs':Array Value} (h:bm m cs.toList cs'.toList):aD m (.agg cs) (.agg cs') :=
 .agg (by simpa using h.1) (fun i v v' a b=>h.2 i v v' (by simpa using a) (by simpa using b))
theorem aD.fx {m:Mp} {cs cs':Array Value} (h:bm m cs.toList cs'.toList):aD m (.tuple cs) (.tuple cs') :=
 .tuple (by simpa using h.1) (fun i v v' a b=>h.2 i v v' (by simpa using a) (by simpa using b))
theorem aD.pD {m:Mp} {cs:Array Value} {v':Value} (h:aD m (.agg cs) v') : ∃cs',v'=.agg cs'∧bm m cs.toList cs'.toList:=by
 cases h with
 | bD h=>simp[Id.bD] at h
 | agg hs h=>exact⟨_,rfl,by simpa using hs,fun i v v' a b=>h i v v' (by simpa using a) (by simpa using b)⟩
theorem aD.nL {m:Mp} {cs:Array Value} {v':Value} (h:aD m (.tuple cs) v') : ∃cs',v'=.tuple cs'∧bm m cs.toList cs'.toList:=by
 cases h with
 | bD h=>simp[Id.bD] at h
 | tuple hs h=>exact⟨_,rfl,by simpa using hs,fun i v v' a b=>h i v v' (by simpa using a) (by simpa using b)⟩
theorem aD.vd {m:Mp} {fn:Fn} {xs ys:Array Value} {v':Value} (h:aD m (.func fn xs ys) v') :
  ∃fn' xs' ys',v'=.func fn' xs' ys'∧ry m fn fn'∧bm m xs.toList xs'.toList∧bm m ys.toList ys'.toList:=by
 cases h with
 | bD h=>simp[Id.bD] at h
 | func hf hx hy h1 h2 =>
  exact⟨_,_,_,rfl,hf,⟨by simpa using hx,fun i v v' a b=>h1 i v v' (by simpa using a) (by simpa using b)⟩,⟨by simpa using hy,fun i v v' a b=>h2 i v v' (by simpa using a) (by simpa using b)⟩⟩
theorem aD.DX {m:Mp} {fn fn':Fn} {xs ys xs' ys':Array Value} (hf:ry m fn fn') (h1:bm m xs.toList xs'.toList) (h2:bm m ys.toList ys'.toList) :
  aD m (.func fn xs ys) (.func fn' xs' ys') :=
 .func hf (by simpa using h1.1) (by simpa using h2.1) (fun i v v' a b=>h1.2 i v v' (by simpa using a) (by simpa using b)) (fun i v v' a b=>h2.2 i v v' (by simpa using a) (by simpa using b))
theorem aD.jY {m:Mp} {b o:Nat} {v':Value} (h:aD m (.pointer (some ⟨b,o,none⟩)) v') : ∃r s,m b=some (r,s)∧v'=.pointer (some ⟨r,s+o,none⟩):=by
 cases h with
 | bD h=>simp[Id.bD] at h
 | ptr h=>exact⟨_,_,h,rfl⟩
theorem aD.cV {m:Mp} {v v':Value} (h:aD m v v') (hv:plain v=true):v'=v:=by
 by_cases ha : ∃cs,v=.agg cs
 ·obtain⟨cs,rfl⟩:=ha
  obtain⟨cs',rfl,hl⟩:=h.pD
  have:cs'.toList=cs.toList:=hl.bD (by simpa [plain] using hv)
  rw[Array.toList_inj.1 this]
 ·exact h.cj (by unfold plain at hv;split at hv<;>simp_all)
theorem aD.bP {m:Mp} {v:Value} (hv:plain v=true):aD m v v:=by
 by_cases ha : ∃cs,v=.agg cs
 ·obtain⟨cs,rfl⟩:=ha
  exact aD.kf (.SZ (by simpa [plain] using hv))
 ·exact .bD (by unfold plain at hv;split at hv<;>simp_all)
theorem aD.cells {m:Mp} {v v':Value} (h:aD m v v'):bm m v.cells.toList v'.cells.toList:=by
 by_cases ha : ∃cs,v=.agg cs
 ·obtain⟨cs,rfl⟩:=ha
  obtain⟨cs',rfl,hl⟩:=h.pD
  exact hl
 ·have e1:v.cells = #[v]:=by cases v<;>simp_all [Value.cells]
  have e2:v'.cells = #[v']:=by cases h<;>simp_all [Value.cells]
  rw[e1,e2]
  exact .cons h (.nil m)
def dG (m:Mp) (fr:Fr) (tmps:Array Value):Prop:=∀t v,ab fr t=some v → ∃v',tmps[t]?=some v'∧aD m v v'
structure lD (m:Mp) (l:gT) (l':Loop):Prop where
 state:l'.state=l.state
 pending:l'.pending=l.pending
 fn:l'.fn=l.fn
 tmps:dG m l.fr l'.tmps
 nt:l.nt≤l'.tmps.size
 params:l'.params.toList=l.params
 assign:l'.assign=l.assign
 body:l'.body=l.body
def Sq (m:Mp) (e:Value×Value) (e':MapEntry):Prop:=e'.key=e.1∧plain e.1=true∧aD m e.2 e'.val
def rq (m:Mp) (es:List (Value×Value)) (c:Array MapEntry):Prop:=es.length=c.size ∧ ∀(i:Nat) (e:Value×Value) (e':MapEntry),es[i]?=some e→c[i]?=some e'→Sq m e e'∧e'.born=i
def ng (m:Mp) (cs:List Value) (c:Array Value) (s:Nat):Prop:=s+cs.length≤c.size ∧ ∀(i:Nat) (v:Value),cs[i]?=some v → ∃v',c[s+i]?=some v'∧aD m v v'
def qX (x:Nat):List Nat:=if h:x=0 then [] else x % 18446744073709551616 :: qX (x / 18446744073709551616)
 termination_by x
 decreasing_by exact Nat.div_lt_self (Nat.pos_of_ne_zero h) (by decide)
def fI (x:Nat):List Value:=(qX x).map fun d:Nat=>Value.int .u64 (d:Int)
def fQ (m:Mp) (w:World) (r s:Nat) (z:Nat×Nat):bz→Prop
 | .cells cs e _ => ∃c el,w.heap[r]?=some (.cells c el)∧ng m cs c s∧z.1=e∧z.2≤c.size
 | .map es=>s=0 ∧ ∃c,w.heap[r]?=some (.map c es.length)∧rq m es c
 | .loop l=>s=0 ∧ ∃l',w.heap[r]?=some (.loop l')∧lD m l l'
 | .iter k since seen last=>s=0 ∧ ∃rm,w.heap[r]?=some (.mapIter (some rm) since seen.toArray last)∧m k=some (rm,0)
 | .num x=>x=0 ∨ ∃c el,w.heap[r]?=some (.cells c el)∧ng m (fI x) c s
 | .dead=>True
def bz.alive:bz→Bool
 | .dead=>false
 | _=>true
def bz.isNum:bz→Bool
 | .num _=>true
 | _=>false
def Kin (h:IH) (k k':Nat):Prop:=∃cs t cs' t' f st,h.ext.get k=some (.cells cs t (some f))∧h.ext.get k'=some (.cells cs' t' (some f))∧h.bT.get f=some st∧k∈st∧k'∈st
structure Rel (B:Nat) (w0:World) (m:Mp) (h:IH) (w:World):Prop where
 below:Below B w0 w
 size:B≤w.heap.size
 base : ∀b cs,h.base b=some cs → ∃r s,m (2*b+1)=some (r,s)∧r<B ∧ ∃c el fz,w.heap[r]?=some (.cells c el fz)∧ng m cs c s
 odd : ∀b,b<4294967296→m (2*b+1)=some (b,0)
 even : ∀k r s,m (2*k)=some (r,s)→B≤r∧r<w.heap.size
 dom : ∀k,h.n≤k→h.ext.get k=none
 obj : ∀k o r s,h.ext.get k=some o→m (2*k)=some (r,s)→fQ m w r s (m.ez (2*k)) o
 own : ∀k k' o o' r s s',k≠k'→h.ext.get k=some o→h.ext.get k'=some o'→o.alive=true→o'.alive=true→m (2*k)=some (r,s)→m (2*k')=some (r,s')→Kin h k k'∨(o.isNum=true∧o'.isNum=true)
 cY : ∀f st,h.bT.get f=some st→f<h.n∧(∀x∈st,x<h.n)∧st.Nodup
 fam : ∀k cs t f,h.ext.get k=some (.cells cs t (some f)) → ∃st,h.bT.get f=some st∧k∈st
 long : ∀f st,h.bT.get f=some st→st.Pairwise fun x y => ∀cs t g cs' t' g' r s s',h.ext.get x=some (.cells cs t g)→h.ext.get y=some (.cells cs' t' g') →
  m (2*x)=some (r,s)→m (2*y)=some (r,s')→s'+cs'.length≤s+cs.length
 whole : ∀f st x y,h.bT.get f=some st→x∈st→y∈st→(m (2*x)).isSome=true→(m (2*y)).isSome=true
structure Step (m:Mp) (h:IH) (w:World) (m':Mp) (h':IH) (w':World):Prop where
 le:m.le m'
 new : ∀b,m' b≠m b → ∃k,b=2*k∧h.n≤k∧k<h'.n
 n:h.n≤h'.n
 base:h'.base=h.base
 frame : ∀r,r<w.heap.size→(∀k s,k<h.n→m (2*k)≠some (r,s))→w'.heap[r]?=w.heap[r]?
 idle : ∀k,k<h.n→m (2*k)=none→h'.ext.get k=h.ext.get k
 size:w.heap.size≤w'.heap.size
 img : ∀k r s,h.n≤k→k<h'.n→m' (2*k)=some (r,s)→w.heap.size≤r ∨ ∃k0 s0,k0<h.n∧m (2*k0)=some (r,s0)
 mT : ∀k,k<h.n→m (2*k)=none→(∀f st,h.bT.get f=some st→k∉st) → ∀f st,h'.bT.get f=some st→k∉st
def eo (m:Mp) (a b:Nat):Prop:=∀k,a≤k→k<b→m (2*k)=none
theorem Step.refl (m:Mp) (h:IH) (w:World):Step m h w m h w :=
 ⟨Mp.le_refl m,fun _ e=>absurd rfl e,Nat.le_refl _,rfl,fun _ _ _=>rfl,fun _ _ _=>rfl,Nat.le_refl _,fun k r s a b=>by omega,fun _ _ _ h=>h⟩
theorem Step.old {m m':Mp} {h h':IH} {w w':World} (s:Step m h w m' h' w') {k:Nat} (hk:k<h.n):m' (2*k)=m (2*k):=by
 apply Classical.byContradiction;intro hne
 obtain⟨k',e,a,_⟩:=s.new _ hne
 omega
theorem Step.trans {m m1 m2:Mp} {h h1 h2:IH} {w w1 w2:World} (s:Step m h w m1 h1 w1) (t:Step m1 h1 w1 m2 h2 w2):Step m h w m2 h2 w2:=by
 refine⟨Mp.le_trans s.le t.le,fun b hb=>?_,Nat.le_trans s.n t.n,t.base.trans s.base,fun r hr hk=>?_,fun k hk hm=>?_,Nat.le_trans s.size t.size,fun k r x hk1 hk2 hx=>?_,fun k hk hm hf=>t.mT k (Nat.lt_of_lt_of_le hk s.n) (by rw[s.old hk,hm]) (s.mT k hk hm hf)⟩
 ·by_cases h12:m2 b=m1 b
  ·rw[h12] at hb
   obtain⟨k,e,a,c⟩:=s.new b hb
   exact⟨k,e,a,Nat.lt_of_lt_of_le c t.n⟩
  ·obtain⟨k,e,a,c⟩:=t.new b h12
   exact⟨k,e,Nat.le_trans s.n a,c⟩
 ·rw[t.frame r (Nat.lt_of_lt_of_le hr s.size) ?_,s.frame r hr hk]
  intro k x hk1 hm1
  by_cases hkn:k<h.n
  ·exact hk k x hkn (by rw[←s.old hkn];exact hm1)
  ·rcases s.img k r x (by omega) hk1 hm1 with e|⟨k0,s0,e1,e2⟩
   ·omega
   ·exact hk k0 s0 e1 e2
 ·have hm1:m1 (2*k)=none:=by rw[s.old hk,hm]
  rw[t.idle k (Nat.lt_of_lt_of_le hk s.n) hm1,s.idle k hk hm]
 ·by_cases hkn:k<h1.n
  ·rw[t.old hkn] at hx
   exact s.img k r x hk1 hkn hx
  ·rcases t.img k r x (by omega) hk2 hx with e|⟨k0,s0,e1,e2⟩
   ·exact .inl (Nat.le_trans s.size e)
   ·by_cases hk0:k0<h.n
    ·rw[s.old hk0] at e2;exact .inr ⟨k0,s0,hk0,e2⟩
    ·exact s.img k0 r s0 (by omega) e1 e2
end Go.Id
namespace Go.Id
open Go Go.RowKit
namespace Tr
variable {α:Type}
theorem qT (k:Nat):(leaf:Tr α).get k=none:=rfl
theorem mn (l r:Tr α) (v:Option α) (k:Nat):(node l v r).get k=if k=0 then v else if k % 2=1 then l.get (k / 2) else r.get ((k - 1) / 2):=by
 simp only[get,cond_eq_ite,beq_iff_eq]
theorem DW : ∀(f n:Nat) (x:α) (k:Nat),n≤f→(one f n x).get k=if k=n then some x else none
 | 0,n,x,k,h=>by
  obtain rfl:n=0:=by omega
  simp only[one,mn,qT]
  by_cases hk:k=0<;>simp[hk]
 | f+1,n,x,k,h=>by
  simp only[one,cond_eq_ite,beq_iff_eq]
  by_cases hn:n=0
  ·subst hn;simp only[if_true,mn,qT]
   by_cases hk:k=0<;>simp[hk]
  ·by_cases ho:n % 2=1
   ·simp only[hn,ho,if_true,if_false,mn,qT]
    by_cases hk:k=0
    ·subst hk;simp;omega
    ·by_cases hk1:k % 2=1
     ·simp only[hk,hk1,if_true,if_false]
      rw[DW f (n / 2) x (k / 2) (by omega)]
      by_cases e:k / 2=n / 2
      ·rw[if_pos e,if_pos (by omega)]
      ·rw[if_neg e,if_neg (by omega)]
     ·simp only[hk,hk1,if_false]
      rw[if_neg (by omega)]
   ·simp only[hn,ho,if_false,mn,qT]
    by_cases hk:k=0
    ·subst hk;simp;omega
    ·by_cases hk1:k % 2=1
     ·simp only[hk,hk1,if_true,if_false]
      rw[if_neg (by omega)]
     ·simp only[hk,hk1,if_false]
      rw[DW f ((n - 1) / 2) x ((k - 1) / 2) (by omega)]
      by_cases e:(k - 1) / 2=(n - 1) / 2
      ·rw[if_pos e,if_pos (by omega)]
      ·rw[if_neg e,if_neg (by omega)]
theorem bK : ∀(t:Tr α) (n:Nat) (x:α) (k:Nat),(t.set n x).get k=if k=n then some x else t.get k
 | .leaf,n,x,k=>by simp only[set,DW n n x k (Nat.le_refl n),qT]
 | .node l v r,n,x,k=>by
  simp only[set,cond_eq_ite,beq_iff_eq]
  by_cases hn:n=0
  ·subst hn;simp only[if_true,mn]
   by_cases hk:k=0<;>simp[hk]
  ·by_cases ho:n % 2=1
   ·simp only[hn,ho,if_true,if_false,mn]
    by_cases hk:k=0
    ·subst hk;simp only[if_true];rw[if_neg (by omega)]
    ·by_cases hk1:k % 2=1
     ·simp only[hk,hk1,if_true,if_false]
      rw[bK l (n / 2) x (k / 2)]
      by_cases e:k / 2=n / 2
      ·rw[if_pos e,if_pos (by omega)]
      ·rw[if_neg e,if_neg (by omega)]
     ·simp only[hk,hk1,if_false]
      rw[if_neg (by omega)]
   ·simp only[hn,ho,if_false,mn]
    by_cases hk:k=0
    ·subst hk;simp only[if_true];rw[if_neg (by omega)]
    ·by_cases hk1:k % 2=1
     ·simp only[hk,hk1,if_true,if_false]
      rw[if_neg (by omega)]
     ·simp only[hk,hk1,if_false]
      rw[bK r ((n - 1) / 2) x ((k - 1) / 2)]
      by_cases e:(k - 1) / 2=(n - 1) / 2
      ·rw[if_pos e,if_pos (by omega)]
      ·rw[if_neg e,if_neg (by omega)]
end Tr
theorem jc : ∀(l:List Nat) (e:Tr bz) (k:Nat),(IH.dJ e l).get k=if k∈l then some .dead else e.get k
 | [],e,k=>by simp[IH.dJ]
 | a :: l,e,k=>by
  rw[IH.dJ,jc l _ k,Tr.bK]
  by_cases h1:k∈l
  ·simp[h1]
  ·by_cases h2:k=a
   ·simp[h2]
   ·simp[h1,h2]
theorem heap_alloc (w:World) (o:Obj) (r:Nat):(w.alloc o).heap[r]?=if r=w.heap.size then some o else w.heap[r]?:=by
 show(w.heap.push o)[r]?=_
 rw[Array.getElem?_push]
theorem size_alloc (w:World) (o:Obj):(w.alloc o).heap.size=w.heap.size+1:=by
 show(w.heap.push o).size=_
 simp
theorem fQ.mono {m m':Mp} {w w':World} {r s:Nat} {z z':Nat×Nat} {o:bz} (hm:m.le m') (hw:w'.heap[r]?=w.heap[r]?) (hz:z'=z) (h:fQ m w r s z o):fQ m' w' r s z' o:=by
 subst hz
 cases o with
 | cells cs t f =>
  obtain⟨c,el,a,⟨b,d⟩,e⟩:=h
  exact⟨c,el,hw.trans a,⟨b,fun i v hv=>let ⟨v',x,y⟩:=d i v hv;⟨v',x,y.mono hm⟩⟩,e⟩
 | map es =>
  obtain⟨h0,c,a,b,d⟩:=h
  exact⟨h0,c,hw.trans a,b,fun i e e' x y=>let ⟨⟨p,q,z⟩,t⟩:=d i e e' x y;⟨⟨p,q,z.mono hm⟩,t⟩⟩
 | loop l =>
  obtain⟨h0,l',a,b⟩:=h
  exact⟨h0,l',hw.trans a,⟨b.state,b.pending,b.fn,fun t v hv=>let ⟨v',x,y⟩:=b.tmps t v hv;⟨v',x,y.mono hm⟩,b.nt,b.params,b.assign,b.body⟩⟩
 | iter k since seen last =>
  obtain⟨h0,rm,a,b⟩:=h
  exact⟨h0,rm,hw.trans a,(hm _ _ b).1⟩
 | num x=>exact h.imp id fun⟨c,el,a,b,d⟩=>⟨c,el,hw.trans a,b,fun i v hv=>let ⟨v',x,y⟩:=d i v hv;⟨v',x,y.mono hm⟩⟩
 | dead=>trivial
def Mp.upd (m:Mp) (b:Nat) (x z:Nat×Nat):Mp:=⟨fun b'=>if b'=b then some x else m b',fun b'=>if b'=b then z else m.ez b'⟩
theorem Mp.zX {m:Mp} {b:Nat} {x z:Nat×Nat} (h:m b=none):m.le (m.upd b x z):=by
 intro b' y hy
 unfold Mp.upd
 by_cases e:b'=b
 ·subst e;rw[h] at hy;cases hy
 ·simp[e,hy]
theorem Mp.bh (m:Mp) (b:Nat) (x z:Nat×Nat):m.upd b x z b=some x:=by simp[Mp.upd]
theorem Mp.bR (m:Mp) {b b':Nat} (x z:Nat×Nat) (h:b'≠b):m.upd b x z b'=m b':=by simp[Mp.upd,h]
theorem Mp.lz (m:Mp) (b:Nat) (x z:Nat×Nat):(m.upd b x z).ez b=z:=by simp[Mp.upd]
theorem Mp.Rc (m:Mp) {b b':Nat} (x z:Nat×Nat) (h:b'≠b):(m.upd b x z).ez b'=m.ez b':=by simp[Mp.upd,h]
def bz.lone:bz→Bool
 | .cells _ _ (some _)=>false
 | _=>true
theorem m8 {B:Nat} {w0 w:World} (h:Below B w0 w) (hs:B≤w.heap.size) (o:Obj):Below B w0 (w.alloc o) :=
 h.alloc hs o
theorem Lb {h:IH} {o:bz} (hd:h.ext.get h.n=none) {k k':Nat} (hk:Kin h k k'):Kin (h.new o) k k':=by
 obtain⟨cs,t,cs',t',f,st,a,b,c,d,e⟩:=hk
 have h1:k≠h.n:=by intro e;rw[e,hd] at a;cases a
 have h2:k'≠h.n:=by intro e;rw[e,hd] at b;cases b
 exact⟨cs,t,cs',t',f,st,by simp[IH.new,Tr.bK,h1,a],by simp[IH.new,Tr.bK,h2,b],c,d,e⟩
theorem Rel.new {B:Nat} {w0:World} {m:Mp} {h:IH} {w:World} (R:Rel B w0 m h w) (o:bz) (o':Obj) (z:Nat×Nat) (hm:m (2*h.n)=none)
  (ho:fQ m (w.alloc o') w.heap.size 0 z o) (hl:o.lone=true) :
  Rel B w0 (m.upd (2*h.n) (w.heap.size,0) z) (h.new o) (w.alloc o')∧Step m h w (m.upd (2*h.n) (w.heap.size,0) z) (h.new o) (w.alloc o'):=by
 have hle:m.le (m.upd (2*h.n) (w.heap.size,0) z):=Mp.zX hm
 have hold : ∀r,r<w.heap.size→(w.alloc o').heap[r]?=w.heap[r]?:=fun r hr=>by rw[heap_alloc,if_neg (by omega)]
 have cC : ∀k,(h.new o).ext.get k=if k=h.n then some o else h.ext.get k:=fun k=>Tr.bK _ _ _ _
 have hdn:=R.dom h.n (Nat.le_refl _)
 refine⟨⟨m8 R.below R.size o',by rw[size_alloc];have:=R.size;omega,?_,?_,?_,?_,?_,?_,?_,?_,?_,?_⟩,⟨hle,?_,Nat.le_succ _,rfl,fun r hr _=>hold r hr,?_,by rw[size_alloc];omega,fun k r s hk1 hk2 hk=>by
  obtain rfl:k=h.n:=by have:(h.new o).n=h.n+1:=rfl;omega
  rw[Mp.bh] at hk;cases hk;exact .inl (Nat.le_refl _),fun _ _ _ h=>h⟩⟩
 ·intro b cs hb
  obtain⟨r0,s0,hm0,hb1,c,el,fz,hc,hr⟩:=R.base b cs hb
  refine⟨r0,s0,by rw[Mp.bR _ _ _ (by omega)];exact hm0,hb1,c,el,fz,?_,hr.1,fun i v hv=>let ⟨v',x,y⟩:=hr.2 i v hv;⟨v',x,y.mono hle⟩⟩
  rw[hold r0 (by have:=R.size;omega),hc]
 ·intro b hb
  rw[Mp.bR _ _ _ (by omega)]
  exact R.odd b hb
 ·intro k r s hk
  rw[size_alloc]
  by_cases e:k=h.n
  ·subst e;rw[Mp.bh] at hk;cases hk;exact⟨R.size,by omega⟩
  ·rw[Mp.bR _ _ _ (by omega)] at hk
   have:=R.even k r s hk;omega
 ·intro k hk
  rw[cC,if_neg (by have:(h.new o).n=h.n+1:=rfl;omega)]
  exact R.dom k (by have:(h.new o).n=h.n+1:=rfl;omega)
 ·intro k x r s hk hr
  rw[cC] at hk
  by_cases e:k=h.n
  ·subst e;rw[if_pos rfl] at hk;cases hk
   rw[Mp.bh] at hr;cases hr
   exact ho.mono hle rfl (Mp.lz _ _ _ _)
  ·rw[if_neg e] at hk;rw[Mp.bR _ _ _ (by omega)] at hr
   exact(R.obj k x r s hk hr).mono hle (hold r (R.even k r s hr).2) (Mp.Rc _ _ _ (by omega))
 ·intro k k' x x' r s s' hne hk hk' ha ha' hr hr'
  rw[cC] at hk hk'
  by_cases e:k=h.n
  ·subst e
   rw[Mp.bh] at hr;cases hr
   rw[Mp.bR _ _ _ (by omega)] at hr'
   have:=R.even _ _ _ hr';omega
  ·by_cases e':k'=h.n
   ·subst e'
    rw[Mp.bh] at hr';cases hr'
    rw[Mp.bR _ _ _ (by omega)] at hr
    have:=R.even _ _ _ hr;omega
   ·rw[if_neg e] at hk;rw[if_neg e'] at hk'
    rw[Mp.bR _ _ _ (by omega)] at hr hr'
    exact(R.own k k' x x' r s s' hne hk hk' ha ha' hr hr').imp (Lb hdn) id
 ·intro f st hf
  obtain⟨a,b,c⟩:=R.cY f st hf
  exact⟨Nat.lt_succ_of_lt a,fun x hx=>Nat.lt_succ_of_lt (b x hx),c⟩
 ·intro k cs t f hk
  rw[cC] at hk
  by_cases e:k=h.n
  ·rw[if_pos e] at hk;cases hk;simp[bz.lone] at hl
  ·rw[if_neg e] at hk;exact R.fam k cs t f hk
 ·intro f st hf
  have hlt:=(R.cY f st hf).2.1
  refine(R.long f st hf).imp_of_mem fun {x y} hx hy hxy=>?_
  have ex:x≠h.n:=by have:=hlt x hx;omega
  have ey:y≠h.n:=by have:=hlt y hy;omega
  intro cs t g cs' t' g' r s s' h1 h2 h3 h4
  rw[cC,if_neg ex] at h1;rw[cC,if_neg ey] at h2
  rw[Mp.bR _ _ _ (by omega)] at h3 h4
  exact hxy cs t g cs' t' g' r s s' h1 h2 h3 h4
 ·intro f st x y hf hx hy
  have hlt:=(R.cY f st hf).2.1
  rw[Mp.bR _ _ _ (by have:=hlt x hx;omega),Mp.bR _ _ _ (by have:=hlt y hy;omega)]
  exact R.whole f st x y hf hx hy
 ·intro b hb
  by_cases e:b=2*h.n
  ·exact⟨h.n,e,Nat.le_refl _,Nat.lt_succ_self _⟩
  ·exact absurd (Mp.bR _ _ _ e) hb
 ·intro k hk _
  rw[cC,if_neg (by omega)]
def World.put (w:World) (r:Nat) (o:Obj):World:={ w with heap:=w.heap.setIfInBounds r o }
theorem kF (w:World) (r:Nat) (o:Obj) (r':Nat):(World.put w r o).heap[r']?=if r'=r∧r<w.heap.size then some o else w.heap[r']?:=by
 show(w.heap.setIfInBounds r o)[r']?=_
 rw[Array.getElem?_setIfInBounds]
 by_cases h:r'=r
 ·subst h
  by_cases hr:r'<w.heap.size<;>simp[hr]
 ·rw[if_neg (fun e=>h e.symm),if_neg (fun e=>h e.1)]
theorem ji (w:World) (r:Nat) (o:Obj):(World.put w r o).heap.size=w.heap.size:=by
 show(w.heap.setIfInBounds r o).size=_
 simp
theorem rS {B:Nat} {w0 w:World} (h:Below B w0 w) {r:Nat} (hr:B≤r) (o:Obj):Below B w0 (World.put w r o) :=
 ⟨h.os,h.tape,h.output,by rw[ji];exact h.size,fun k hk=>by rw[kF,if_neg (by omega)];exact h.block k hk⟩
def gZ (c:Array Value) (q:Nat):List Value→Array Value
 | []=>c
 | v :: vs=>gZ (c.setIfInBounds q v) (q+1) vs
theorem iJ : ∀(vs:List Value) (c:Array Value) (q:Nat),(gZ c q vs).size=c.size
 | [],c,q=>rfl
 | v :: vs,c,q=>by rw[gZ,iJ vs,Array.size_setIfInBounds]
theorem oh : ∀(vs:List Value) (c:Array Value) (q j:Nat),q+vs.length≤c.size→(gZ c q vs)[j]?=if q≤j∧j<q+vs.length then vs[j - q]? else c[j]?
 | [],c,q,j,h=>by simp only[gZ,List.length_nil];rw[if_neg (by omega)]
 | v :: vs,c,q,j,h=>by
  simp only[List.length_cons] at h
  rw[gZ,oh vs _ _ _ (by rw[Array.size_setIfInBounds];omega),Array.getElem?_setIfInBounds]
  by_cases h1:j=q
  ·subst h1
   rw[if_neg (by omega),if_pos rfl,if_pos (by omega),if_pos (by simp)]
   simp
  ·by_cases h2:q+1≤j∧j<q+1+vs.length
   ·rw[if_pos h2,if_pos (by simp only[List.length_cons];omega)]
    rw[show j - q=(j - (q+1))+1 from by omega,List.getElem?_cons_succ]
   ·rw[if_neg h2,if_neg (fun e=>h1 e.symm),if_neg (by simp only[List.length_cons];omega)]
theorem nA (cs:List Value) (o:Nat) (vs:List Value) (h:o+vs.length≤cs.length):(IH.aG cs o vs).length=cs.length:=by
 simp[IH.aG];omega
theorem Ae (cs:List Value) (o:Nat) (vs:List Value) (h:o+vs.length≤cs.length) (j:Nat) :
  (IH.aG cs o vs)[j]?=if o≤j∧j<o+vs.length then vs[j - o]? else cs[j]?:=by
 unfold IH.aG
 by_cases h1:j<o
 ·rw[List.getElem?_append_left (by simp;omega),List.getElem?_take_of_lt h1,if_neg (by omega)]
 ·rw[List.getElem?_append_right (by simp;omega)]
  have e:(cs.take o).length=o:=by simp;omega
  rw[e]
  by_cases h2:j<o+vs.length
  ·rw[List.getElem?_append_left (by omega),if_pos (by omega)]
  ·rw[List.getElem?_append_right (by omega),if_neg (by omega),List.getElem?_drop]
   congr 1;omega
theorem ng.aG {m:Mp} {cs:List Value} {c:Array Value} {s o:Nat} {vs vs':List Value} (h:ng m cs c s) (ho:o+vs.length≤cs.length) (hv:bm m vs vs') :
  ng m (IH.aG cs o vs) (gZ c (s+o) vs') s:=by
 have hl:=hv.1
 refine⟨by rw[nA cs o vs ho,iJ];exact h.1,fun i v hi=>?_⟩
 rw[Ae cs o vs ho] at hi
 rw[oh vs' c _ _ (by have:=h.1;omega)]
 by_cases h1:o≤i∧i<o+vs.length
 ·rw[if_pos h1] at hi;rw[if_pos (by omega)]
  rw[show s+i - (s+o)=i - o from by omega]
  obtain⟨v',a,b⟩:=hv.get hi
  exact⟨v',a,b⟩
 ·rw[if_neg h1] at hi;rw[if_neg (by omega)]
  exact h.2 i v hi
theorem CK {m:Mp} {v v':Value} (h:aD m v v') (hv:aA v=true):aA v'=true:=by
 cases h<;>simp_all [aA]
theorem FB (w:World) (r q:Nat) (v:Value) (c:Array Value) (el:TypeId) (h:w.heap[r]?=some (.cells c el)) :
  w.setCell ⟨r,q,none⟩ v=World.put w r (.cells (c.setIfInBounds q v) el):=by
 have hr:r<w.heap.size:=(Array.getElem?_eq_some_iff.1 h).1
 unfold Go.World.setCell World.put
 congr 1
 apply Array.ext_getElem?
 intro i
 rw[Array.getElem?_modify,Array.getElem?_setIfInBounds]
 by_cases hi:r=i
 ·subst hi
  have e:=(Array.getElem?_eq_some_iff.1 h).2
  simp[hr,e]
 ·simp[hi]
theorem Tb (w:World) (r:Nat) (a b:Obj):World.put (World.put w r a) r b=World.put w r b:=by
 unfold World.put
 simp
theorem lX (P:Program) (r p:Nat) (el:TypeId) : ∀(vs:List Value) (i:Nat) (w:World) (c:Array Value),w.heap[r]?=some (.cells c el) →
  p+i+vs.length≤c.size→(∀v∈vs,aA v=true)→(storeCells ⟨r,p,none⟩ vs i).run P w=.ok () (if vs = [] then w else World.put w r (.cells (gZ c (p+i) vs) el))
 | [],i,w,c,h,hl,hv=>by simp[storeCells,pure]
 | v :: vs,i,w,c,h,hl,hv=>by
  have hr:r<w.heap.size:=(Array.getElem?_eq_some_iff.1 h).1
  simp only[List.length_cons] at hl
  have ZP:w.cell? (Addr.add ⟨r,p,none⟩ i)=some (c[p+i]'(by omega)):=by
   have:(Addr.add ⟨r,p,none⟩ i).block=r∧(Addr.add ⟨r,p,none⟩ i).off=p+i∧(Addr.add ⟨r,p,none⟩ i).spot=none:=by
    unfold Addr.add;by_cases h0:i=0<;>simp[h0]
   obtain⟨a,b,d⟩:=this
   simp[World.cell?,a,b,d,h]
  have Ue:Addr.add ⟨r,p,none⟩ i=⟨r,p+i,none⟩:=by unfold Addr.add;by_cases h0:i=0<;>simp[h0]
  have hfz:w.frozen? (Addr.add ⟨r,p,none⟩ i)=false:=by
   rw[Ue];simp[World.frozen?,h]
  have h1:=hv v (by simp)
  have jn:(World.put w r (.cells (c.setIfInBounds (p+i) v) el)).heap[r]?=some (.cells (c.setIfInBounds (p+i) v) el):=by rw[kF,if_pos ⟨rfl,hr⟩]
  have ih:=lX P r p el vs (i+1) (World.put w r (.cells (c.setIfInBounds (p+i) v) el)) (c.setIfInBounds (p+i) v) jn (by rw[Array.size_setIfInBounds];omega) (fun x hx=>hv x (by simp[hx]))
  have WM:(storeCells ⟨r,p,none⟩ (v :: vs) i).run P w=(storeCells ⟨r,p,none⟩ vs (i+1)).run P (w.setCell (Addr.add ⟨r,p,none⟩ i) v):=by
   cases v<;>first
    | (simp[aA] at h1;done)
    | (simp only[storeCells,Go.store,bind,Sem.bind,Sem.run,ZP,hfz];rfl)
  rw[WM,Ue,FB w r (p+i) v c el h,ih]
  simp only[reduceCtorEq,if_false]
  rw[gZ]
  by_cases hvs:vs = []
  ·subst hvs;simp[gZ]
  ·rw[if_neg hvs,Tb,show p+(i+1)=p+i+1 from by omega]
theorem Rel.write {B:Nat} {w0:World} {m:Mp} {h:IH} {w:World} (R:Rel B w0 m h w) {k r s:Nat} {cs:List Value} {t:Nat} {fam:Option Nat} {c:Array Value} {el:TypeId} {cs':List Value} {c':Array Value}
  (hk:h.ext.get k=some (.cells cs t fam)) (hm:m (2*k)=some (r,s)) (hr:w.heap[r]?=some (.cells c el)) (fl:ng m cs' c' s) (hlen:cs'.length=cs.length) (hsz:c'.size=c.size)
  (vh:Option Nat) (ZI:vh=fam∨vh=none) (dead:List Nat) (Ab:match fam with|none=>dead = []|some f => ∃st,h.bT.get f=some st∧dead=st.filter (· != k)) :
  Rel B w0 m { h with ext:=(IH.dJ h.ext dead).set k (.cells cs' t vh) } (World.put w r (.cells c' el)) ∧
   Step m h w m { h with ext:=(IH.dJ h.ext dead).set k (.cells cs' t vh) } (World.put w r (.cells c' el)):=by
 have hrs:=R.even k r s hm
 have hkn:k<h.n:=by
  rcases Nat.lt_or_ge k h.n with e|e
  ·exact e
  ·have:=R.dom k e;rw[this] at hk;cases hk
 have cC : ∀j,((IH.dJ h.ext dead).set k (.cells cs' t vh)).get j=if j=k then some (.cells cs' t vh) else if j∈dead then some .dead else h.ext.get j:=fun j=>by
  rw[Tr.bK,jc]
 have hdk:k∉dead:=by
  cases fam with
  | none=>simp at Ab;simp[Ab]
  | some f=>obtain⟨st,_,e⟩:=Ab;simp[e]
 have hdd : ∀j,j∈dead → ∃f st,fam=some f∧h.bT.get f=some st∧j∈st:=fun j hj=>by
  cases fam with
  | none=>simp at Ab;simp[Ab] at hj
  | some f=>obtain⟨st,a,e⟩:=Ab;exact⟨f,st,rfl,a,by rw[e] at hj;exact(List.mem_filter.1 hj).1⟩
 have dW : ∀j o s',j≠k→h.ext.get j=some o→o.alive=true→m (2*j)=some (r,s')→j∈dead:=by
  intro j o s' hj ho ha hmj
  obtain⟨_,_,_,_,f,st,a,b,d,e1,e2⟩:=(R.own j k o _ r s' s hj ho hk ha rfl hmj hm).resolve_right fun e=>by cases e.2
  rw[hk] at b;cases b
  obtain⟨st',d',e'⟩:=Ab
  rw[d] at d';cases d'
  rw[e'];exact List.mem_filter.2 ⟨e1,by simpa using hj⟩
 have hold : ∀r',r'≠r→(World.put w r (.cells c' el)).heap[r']?=w.heap[r']?:=fun r' h'=>by rw[kF,if_neg (fun e=>h' e.1)]
 have xZ:(World.put w r (.cells c' el)).heap[r]?=some (.cells c' el):=by rw[kF,if_pos ⟨rfl,hrs.2⟩]
 refine⟨⟨rS R.below hrs.1 _,by rw[ji];exact R.size,?_,R.odd,fun j r' s' hj=>by rw[ji];exact R.even j r' s' hj,?_,?_,?_,R.cY,?_,?_,R.whole⟩,
  ⟨Mp.le_refl m,fun b e=>absurd rfl e,Nat.le_refl _,rfl,?_,?_,by rw[ji];exact Nat.le_refl _,fun k r s a b=>by have:k<h.n:=b;omega,fun _ _ _ h=>h⟩⟩
 ·intro b bs hb
  obtain⟨r0,s0,hm0,hb1,c1,el1,fz,hc,hrw⟩:=R.base b bs hb
  exact⟨r0,s0,hm0,hb1,c1,el1,fz,by rw[hold r0 (by omega)];exact hc,hrw⟩
 ·intro j hj
  have hj':h.n≤j:=hj
  show((IH.dJ h.ext dead).set k (.cells cs' t vh)).get j=none
  rw[cC,if_neg (by omega)]
  by_cases hd:j∈dead
  ·obtain⟨f,st,_,a,e⟩:=hdd j hd
   have:=(R.cY f st a).2.1 j e;omega
  ·rw[if_neg hd];exact R.dom j hj'
 ·intro j o r' s' ho hj
  have ho':(if j=k then some (bz.cells cs' t vh) else if j∈dead then some .dead else h.ext.get j)=some o:=by rw[←cC];exact ho
  by_cases e:j=k
  ·subst e
   rw[if_pos rfl] at ho';cases ho'
   rw[hm] at hj;cases hj
   obtain⟨c2,el2,hc2,_,hz1,hz2⟩:=R.obj j _ r s hk hm
   rw[hr] at hc2;cases hc2
   exact⟨c',el,xZ,fl,hz1,by rw[hsz];exact hz2⟩
  ·rw[if_neg e] at ho'
   by_cases hd:j∈dead
   ·rw[if_pos hd] at ho';cases ho';trivial
   ·rw[if_neg hd] at ho'
    by_cases hr':r'=r
    ·subst hr'
     cases o with
     | dead=>trivial
     | _=>exact absurd (dW j _ s' e ho' rfl hj) hd
    ·exact(R.obj j o r' s' ho' hj).mono (Mp.le_refl m) (hold r' hr') rfl
 ·intro j j' o o' r' s1 s2 hne ho ho' ha ha' hj hj'
  have e1:(if j=k then some (bz.cells cs' t vh) else if j∈dead then some .dead else h.ext.get j)=some o:=by rw[←cC];exact ho
  have e2:(if j'=k then some (bz.cells cs' t vh) else if j'∈dead then some .dead else h.ext.get j')=some o':=by rw[←cC];exact ho'
  have nd : ∀{i:Nat} {x:bz},i≠k→(if i=k then some (bz.cells cs' t vh) else if i∈dead then some .dead else h.ext.get i)=some x→x.alive=true→i∉dead∧h.ext.get i=some x:=by
   intro i x hi hx hxa
   rw[if_neg hi] at hx
   by_cases hd:i∈dead
   ·rw[if_pos hd] at hx;cases hx;simp[bz.alive] at hxa
   ·rw[if_neg hd] at hx;exact⟨hd,hx⟩
  by_cases c1:j=k
  ·subst c1
   rw[hm] at hj;cases hj
   obtain⟨hd,hx⟩:=nd (fun e=>hne e.symm) e2 ha'
   exact absurd (dW j' o' s2 (fun e=>hne e.symm) hx ha' hj') hd
  ·obtain⟨hd,hx⟩:=nd c1 e1 ha
   by_cases c2:j'=k
   ·subst c2
    rw[hm] at hj';cases hj'
    exact absurd (dW j o s1 c1 hx ha hj) hd
   ·obtain⟨hd',hx'⟩:=nd c2 e2 ha'
    refine(R.own j j' o o' r' s1 s2 hne hx hx' ha ha' hj hj').imp (fun⟨a1,a2,a3,a4,f,st,b1,b2,b3,b4,b5⟩=>?_) id
    exact⟨a1,a2,a3,a4,f,st,by rw[cC,if_neg c1,if_neg hd];exact b1,by rw[cC,if_neg c2,if_neg hd'];exact b2,b3,b4,b5⟩
 ·intro j js t' f hj
  have hj':(if j=k then some (bz.cells cs' t vh) else if j∈dead then some .dead else h.ext.get j)=some (.cells js t' (some f)):=by rw[←cC];exact hj
  by_cases e:j=k
  ·subst e;rw[if_pos rfl] at hj';cases hj'
   rcases ZI with e|e
   ·subst e;exact R.fam j cs t f hk
   ·cases e
  ·rw[if_neg e] at hj'
   by_cases hd:j∈dead
   ·rw[if_pos hd] at hj';cases hj'
   ·rw[if_neg hd] at hj';exact R.fam j js t' f hj'
 ·intro f st hf
  refine(R.long f st hf).imp fun {x y} hxy=>?_
  have back : ∀(i:Nat) (js:List Value) (t0:Nat) (g:Option Nat),((IH.dJ h.ext dead).set k (.cells cs' t vh)).get i=some (.cells js t0 g) → ∃js' t' g',h.ext.get i=some (.cells js' t' g')∧js'.length=js.length:=by
   intro i js t' g hi
   rw[cC] at hi
   by_cases e:i=k
   ·subst e;rw[if_pos rfl] at hi;cases hi;exact⟨_,_,_,hk,hlen.symm⟩
   ·rw[if_neg e] at hi
    by_cases hd:i∈dead
    ·rw[if_pos hd] at hi;cases hi
    ·rw[if_neg hd] at hi;exact⟨_,_,_,hi,rfl⟩
  intro xs t1 g1 ys t2 g2 r' s1 s2 h1 h2 h3 h4
  obtain⟨xs',t3,g3,b1,b2⟩:=back x xs t1 g1 h1
  obtain⟨ys',t4,g4,b3,b4⟩:=back y ys t2 g2 h2
  rw[←b2,←b4]
  exact hxy xs' t3 g3 ys' t4 g4 r' s1 s2 b1 b3 h3 h4
 ·intro r' hr' hno
  exact hold r' (fun e=>hno k s hkn (e▸hm))
 ·intro j hj hmj
  show((IH.dJ h.ext dead).set k (.cells cs' t vh)).get j=h.ext.get j
  rw[cC]
  have e:j≠k:=fun e=>by subst e;rw[hm] at hmj;cases hmj
  rw[if_neg e,if_neg ?_]
  intro hd
  obtain⟨f,st,e1,a,e2⟩:=hdd j hd
  subst e1
  obtain⟨st',b1,b2⟩:=R.fam k cs t f hk
  rw[a] at b1;cases b1
  have:=R.whole f st k j a b2 e2 (by rw[hm];rfl)
  rw[hmj] at this;cases this
end Go.Id
