/-
  Weakest preconditions over the ideal machine, fifth part: slices as lists; lists that grow. The ideal machine: functions on numbers of any length that are not evaluated by their text. A number's words lie in a block of their own that nobody writes; the call is carried out on a memory that has no more than the words of its arguments.
-/
import Derived.Test.YtepckjjfhhncoaaGreatTemperKnownAp
import Derived.Test.YtepckjjfhhncoaaGreatTemperKnownAo
set_option linter.unusedVariables false
set_option linter.unusedSimpArgs false
set_option linter.defProp false
set_option linter.deprecated false
namespace Go.Id
open Go
structure Keep (h h':IH):Prop where
 n:h.n≤h'.n
 base:h'.base=h.base
 get : ∀k c e f,k<h.n→h.ext.get k=some (.cells c e f)→e≠0 → ∃f',h'.ext.get k=some (.cells c e f')
structure Grow (h h':IH):Prop where
 n:h.n≤h'.n
 base:h'.base=h.base
 get : ∀k,k<h.n→h'.ext.get k=h.ext.get k ∨ ∃c e f f',e≠0∧h.ext.get k=some (.cells c e f)∧h'.ext.get k=some (.cells c e f')
theorem Ext.grow {h h':IH} (e:Ext h h'):Grow h h':=⟨e.n,e.base,fun k hk=>.inl (e.get k hk)⟩
theorem Grow.keep {h h':IH} (g:Grow h h'):Keep h h':=⟨g.n,g.base,fun k c e f hk hg he=>by
 rcases g.get k hk with h1|⟨c1,e1,f1,f2,h0,h1,h2⟩
 ·exact⟨f,by rw[h1,hg]⟩
 ·rw[hg] at h1;cases h1;exact⟨f2,h2⟩⟩
theorem Ext.keep {h h':IH} (e:Ext h h'):Keep h h':=e.grow.keep
theorem Keep.refl (h:IH):Keep h h:=(Ext.refl h).keep
theorem Keep.trans {a b c:IH} (x:Keep a b) (y:Keep b c):Keep a c:=⟨Nat.le_trans x.n y.n,y.base.trans x.base,fun k cs e f hk hg he=>by
 obtain⟨f1,h1⟩:=x.get k cs e f hk hg he
 exact y.get k cs e f1 (Nat.lt_of_lt_of_le hk x.n) h1 he⟩
theorem Grow.refl (h:IH):Grow h h:=(Ext.refl h).grow
theorem Grow.trans {a b c:IH} (x:Grow a b) (y:Grow b c):Grow a c:=⟨Nat.le_trans x.n y.n,y.base.trans x.base,fun k hk=>by
 have hk2:=Nat.lt_of_lt_of_le hk x.n
 rcases x.get k hk with h1|⟨c1,e1,f1,f2,h0,h1,h2⟩
 ·rcases y.get k hk2 with h3|⟨c3,e3,f3,f4,h5,h6,h7⟩
  ·exact .inl (h3.trans h1)
  ·exact .inr ⟨c3,e3,f3,f4,h5,by rw[←h1];exact h6,h7⟩
 ·rcases y.get k hk2 with h3|⟨c3,e3,f3,f4,h5,h6,h7⟩
  ·exact .inr ⟨c1,e1,f1,f2,h0,h1,by rw[h3,h2]⟩
  ·rw[h2] at h6;cases h6;exact .inr ⟨c1,e1,f1,f4,h0,h1,h7⟩⟩
theorem Grow.new {a b:IH} (g:Grow a b) (o:IObj):Grow a (b.new o):=g.trans ((Ext.refl b).new o).grow
theorem Keep.new {a b:IH} (g:Keep a b) (o:IObj):Keep a (b.new o):=g.trans ((Ext.refl b).new o).keep
theorem Keep.put {a b:IH} (g:Keep a b) {k:Nat} {cs:List Value} {f:Option Nat} (hk:b.ext.get k=some (.cells cs 0 f)) (o:IObj):Keep a (b.put k o):=⟨g.n,g.base,fun j c e f1 hj hg he=>by
 obtain⟨f2,h2⟩:=g.get j c e f1 hj hg he
 refine⟨f2,?_⟩
 rw[get_put,if_neg]
 ·exact h2
 ·rintro rfl;rw[hk] at h2;cases h2;exact he rfl⟩
theorem Grow.box {a b:IH} (g:Grow a b) {k:Nat} (hk:k<a.n) {o:IObj} (ho:a.ext.get k=some o) (hne : ∀c e f,o=.cells c e f→e=0):b.ext.get k=some o:=by
 rcases g.get k hk with h1|⟨c1,e1,f1,f2,h0,h1,h2⟩
 ·rw[h1,ho]
 ·rw[ho] at h1;cases h1;exact absurd (hne _ _ _ rfl) h0
theorem Keep.row {a b:IH} (g:Keep a b) {x:Nat} {row:List Value} (hx:x % 2=1∨(x<2*a.n ∧ ∃e f,e≠0∧a.ext.get (x / 2)=some (.cells row e f))) (hr:a.row x=some row):b.row x=some row:=by
 rcases hx with hx|⟨hx,e,f,he,hg⟩
 ·rw[←hr];simp[IH.row,hx,g.base]
 ·obtain⟨f',h2⟩:=g.get (x / 2) row e f (by omega) hg he
  simp only[IH.row,cond_eq_ite,beq_iff_eq] at hr ⊢
  split
  ·rename_i h1;rw[if_pos h1] at hr;rw[g.base];exact hr
  ·rw[h2]
def SlOf (h:IH) (sz:Nat) (v:Value) (n:Nat) (cs:List Value):Prop :=
 0<sz∧cs.length=n*sz∧((v=.slice none 0 0∧n=0) ∨ ∃b o k,v=.slice (some ⟨b,o,none⟩) n k∧((n=0∧k=0) ∨
  (0<k∧n≤k / 2 ∧ ∃row,((b % 2=1∧k % 2=1)∨(b % 2=0∧b<2*h.n ∧ ∃f,h.ext.get (b / 2)=some (.cells row sz f)))∧h.row b=some row∧(row.drop o).take (n*sz)=cs∧o+n*sz≤row.length)))
def elemAddr (v:Value) (c:Nat):Value:=match v with
 | .slice (some ⟨b,o,none⟩) _ _=>ptr b (o+c)
 | _=>undef
theorem SlOf.keep {h h':IH} {sz:Nat} {v:Value} {n:Nat} {cs:List Value} (s:SlOf h sz v n cs) (e:Keep h h'):SlOf h' sz v n cs:=by
 obtain⟨hz,hl,s|⟨b,o,k,rfl,s⟩⟩:=s
 ·exact⟨hz,hl,.inl s⟩
 ·refine⟨hz,hl,.inr ⟨b,o,k,rfl,s.imp id fun⟨a1,a2,row,a3,h1,h2,h3⟩=>?_⟩⟩
  rcases a3 with a3|⟨a4,a5,f,a6⟩
  ·exact⟨a1,a2,row,.inl a3,e.row (.inl a3.1) h1,h2,h3⟩
  ·obtain⟨f',h4⟩:=e.get (b / 2) row sz f (by omega) a6 (by omega)
   exact⟨a1,a2,row,.inr ⟨a4,by have:=e.n;omega,f',h4⟩,e.row (.inr ⟨a5,sz,f,by omega,a6⟩) h1,h2,h3⟩
theorem SlOf.ext {h h':IH} {sz:Nat} {v:Value} {n:Nat} {cs:List Value} (s:SlOf h sz v n cs) (e:Ext h h'):SlOf h' sz v n cs:=s.keep e.keep
theorem SlOf.nil (h:IH) {sz:Nat} (hz:0<sz):SlOf h sz (.slice none 0 0) 0 []:=⟨hz,by simp,.inl ⟨rfl,rfl⟩⟩
theorem SlOf.form {h:IH} {sz:Nat} {v:Value} {n:Nat} {cs:List Value} (s:SlOf h sz v n cs) : ∃a k,v=.slice a n k:=by
 obtain⟨hz,hl,⟨rfl,rfl⟩|⟨b,o,k,rfl,s⟩⟩:=s
 ·exact⟨_,_,rfl⟩
 ·exact⟨_,_,rfl⟩
theorem SlOf.len {h:IH} {sz:Nat} {v:Value} {n:Nat} {cs:List Value} (s:SlOf h sz v n cs) {P:Program} {t:TypeId} (hT:isSliceT P (some t)=true) (h':IH):lenB P h' t v=some (.int .i64 n):=by
 obtain⟨a,k,rfl⟩:=s.form
 exact lenB_slice hT _ _ _ _
theorem SlOf.cells {h:IH} {sz:Nat} {v:Value} {n:Nat} {cs:List Value} (s:SlOf h sz v n cs):v.cells = #[v]:=by
 obtain⟨a,k,rfl⟩:=s.form;rfl
theorem SlOf.cok {h:IH} {sz:Nat} {v:Value} {n:Nat} {cs:List Value} (s:SlOf h sz v n cs):cellOK v=true:=by
 obtain⟨a,k,rfl⟩:=s.form;rfl
theorem SlOf.idx {h:IH} {sz:Nat} {v:Value} {n:Nat} {cs:List Value} (s:SlOf h sz v n cs) {P:Program} {t:TypeId} (hT:elemSize P t=some sz) {k:IntKind} {j:Nat} (hj:j<n):indexAddr P t v (.int k j)=some (elemAddr v (j*sz)):=by
 obtain⟨hz,hl,⟨rfl,rfl⟩|⟨b,o,k,rfl,s⟩⟩:=s
 ·omega
 ·rw[indexAddr_slice,hT];simp[elemAddr,idxAt_nat hj]
theorem SlOf.idxI {h:IH} {sz:Nat} {v:Value} {n:Nat} {cs:List Value} (s:SlOf h sz v n cs) {P:Program} {t:TypeId} (hT:elemSize P t=some sz) {k:IntKind} {i:Int} (h0:0≤i) (hj:i<n):indexAddr P t v (.int k i)=some (elemAddr v (i.toNat*sz)):=by
 obtain⟨j,rfl⟩:=Int.eq_ofNat_of_zero_le h0
 exact s.idx hT (by omega)
theorem SlOf.ld {h h':IH} {sz:Nat} {v:Value} {n:Nat} {cs:List Value} (s:SlOf h sz v n cs) (e:Keep h h') {c:Nat} (hc:c<cs.length) {P:Program} {t:TypeId} (hT:isAggT P t=some false):load P h' t (elemAddr v c)=cs[c]?:=by
 obtain⟨hz,hl,⟨rfl,rfl⟩|⟨b,o,k,rfl,s'⟩⟩:=s.keep e
 ·simp at hl;simp[hl] at hc
 ·obtain⟨rfl,_⟩|⟨a1,a2,row,a3,h1,h2,h3⟩:=s'
  ·simp at hl;simp[hl] at hc
  ·rw[elemAddr,load_scal hT,ld_of h1,←h2,List.getElem?_take]
   rw[if_pos (by omega),List.getElem?_drop]
theorem SlOf.slice {h h':IH} {sz:Nat} {v:Value} {n:Nat} {cs:List Value} (s:SlOf h sz v n cs) (kp:Keep h h') {P:Program} {t:TypeId} {e:TypeId} (hu:P.underlying t=some (.slice e)) (hT:sizeT P e=some sz) {l m:Nat} (hl:l≤m) (hm:m≤n) {lo hi:Option Value} (hlo:loOf lo m=some l) (hhi : ∀c,n≤c→hiOf hi n c=some m) :
  ∃v',sliceOp P h' t v lo hi none=some v'∧SlOf h sz v' (m - l) ((cs.drop (l*sz)).take ((m - l)*sz)):=by
 obtain⟨hz,hlen,⟨rfl,rfl⟩|⟨b,o,k,rfl,s⟩⟩:=s
 ·obtain rfl:m=0:=by omega
  obtain rfl:l=0:=by omega
  refine⟨.slice none 0 0,?_,hz,by simp,.inl ⟨rfl,rfl⟩⟩
  have:=hhi 0 (Nat.le_refl _)
  simp[sliceOp,hu,hT,resliced,boundsOf,this,hlo]
 ·obtain⟨rfl,rfl⟩|⟨a1,a2,row,a3,h1,h2,h3⟩:=s
  ·obtain rfl:m=0:=by omega
   obtain rfl:l=0:=by omega
   have:=hhi 0 (Nat.le_refl _)
   refine⟨.slice (some ⟨b,o,none⟩) 0 0,?_,hz,by simp,.inr ⟨b,o,0,rfl,.inl ⟨rfl,rfl⟩⟩⟩
   simp[sliceOp,hu,hT,resliced,boundsOf,this,hlo]
  ·have hh:=hhi (k / 2) a2
   have hk0:(k == 0)=false:=by simp;omega
   have hroom:(k % 2 == 1 || roomy h' sz (.slice (some ⟨b,o,none⟩) n k))=true:=by
    rcases a3 with a3|⟨a4,a5,f,a6⟩
    ·simp[a3.2]
    ·obtain⟨f',h4⟩:=kp.get (b / 2) row sz f (by omega) a6 (by omega)
     simp[roomy,a4,h4]
   by_cases hlk:l=k / 2
   ·have hml:m=l:=by omega
    subst hml
    have hlk':(m == k / 2)=true:=by simpa using hlk
    rcases Nat.mod_two_eq_zero_or_one k with hk|hk
    ·refine⟨.slice (some ⟨b,o,none⟩) 0 0,?_,hz,by simp,.inr ⟨b,o,0,by simp,.inl ⟨by omega,rfl⟩⟩⟩
     have hk':(k % 2 == 1)=false:=by simp[hk]
     simp only[sliceOp,hu,hT,resliced,boundsOf,hh,hlo,hk0,hlk',hk',cond_true,cond_false]
    ·refine⟨.slice (some ⟨b,o,none⟩) 0 1,?_,hz,by simp,.inr ⟨b,o,1,by simp,.inr ⟨by omega,by omega,row,a3.imp (fun x=>⟨x.1,rfl⟩) id,h1,by simp,by simp;omega⟩⟩⟩
     have hk':(k % 2 == 1)=true:=by simp[hk]
     simp only[sliceOp,hu,hT,resliced,boundsOf,hh,hlo,hk0,hlk',hk',cond_true,cond_false]
   ·have hlk':(l == k / 2)=false:=by simpa using hlk
    have hls:l*sz+(m - l)*sz=m*sz:=by rw[←Nat.add_mul];congr 1;omega
    have hmn:m*sz≤n*sz:=Nat.mul_le_mul_right _ hm
    refine⟨.slice (some ⟨b,o+l*sz,none⟩) (m - l) (k - 2*l),?_,hz,?_,.inr ⟨b,o+l*sz,k - 2*l,rfl,.inr ⟨by omega,by omega,row,?_,h1,?_,by omega⟩⟩⟩
    ·simp only[sliceOp,hu,hT,resliced,boundsOf,hh,hlo,hk0,hlk',hroom,cond_true,cond_false]
    ·rw[List.length_take,List.length_drop];omega
    ·rcases a3 with a3|a3
     ·exact .inl ⟨a3.1,by omega⟩
     ·exact .inr a3
    ·rw[←h2,List.drop_take,List.take_take,List.drop_drop,Nat.min_eq_left (by omega)]
theorem natOf_nat {k:IntKind} {l m:Nat} (h:l≤m):natOf (.int k (l:Int)) m=some l:=by
 show(bif Nat.ble l m then some l else none)=_
 rw[show Nat.ble l m=true from by rw[Nat.ble_eq];exact h];rfl
@[simp] theorem asAddr_elem {h:IH} {sz:Nat} {v:Value} {n:Nat} {cs:List Value} (s:SlOf h sz v n cs) {c:Nat} (hc:c<cs.length) : ∃b o,elemAddr v c=ptr b (o+c) ∧ ∀d,elemAddr v d=ptr b (o+d):=by
 obtain⟨hz,hl,⟨rfl,rfl⟩|⟨b,o,k,rfl,s⟩⟩:=s
 ·simp at hl;simp[hl] at hc
 ·exact⟨b,o,rfl,fun _=>rfl⟩
def TopFam (h:IH) (n0 k:Nat):Option Nat→Prop
 | none=>True
 | some f=>n0≤f∧f<h.n ∧ ∃rest,h.fams.get f=some (k :: rest) ∧ ∀j∈rest,n0≤j
def Acc (h:IH) (n0 sz:Nat) (v:Value) (n:Nat) (cs:List Value):Prop :=
 0<sz∧cs.length=n*sz∧((v=.slice none 0 0∧n=0) ∨ ∃k fam,v=.slice (some ⟨2*k,0,none⟩) n (2*n)∧0<n∧n0≤k∧k<h.n∧h.ext.get k=some (.cells cs sz fam)∧TopFam h n0 k fam)
theorem Acc.nil (h:IH) (n0:Nat) {sz:Nat} (hz:0<sz):Acc h n0 sz (.slice none 0 0) 0 []:=⟨hz,by simp,.inl ⟨rfl,rfl⟩⟩
theorem Acc.sl {h:IH} {n0 sz:Nat} {v:Value} {n:Nat} {cs:List Value} (a:Acc h n0 sz v n cs):SlOf h sz v n cs:=by
 obtain⟨hz,hl,a|⟨k,fam,rfl,hn,h1,h2,h3,h4⟩⟩:=a
 ·exact⟨hz,hl,.inl a⟩
 ·refine⟨hz,hl,.inr ⟨2*k,0,2*n,rfl,.inr ⟨by omega,by omega,cs,.inr ⟨by omega,by omega,fam,?_⟩,?_,?_,by omega⟩⟩⟩
  ·rw[show 2*k / 2=k from by omega,h3]
  ·rw[row_even];simp[IH.cells,h3]
  ·rw[List.drop_zero,List.take_of_length_le (by omega)]
theorem Acc.ext {h h':IH} {n0 sz:Nat} {v:Value} {n:Nat} {cs:List Value} (a:Acc h n0 sz v n cs) (e:Ext h h'):Acc h' n0 sz v n cs:=by
 obtain⟨hz,hl,a|⟨k,fam,rfl,hn,h1,h2,h3,h4⟩⟩:=a
 ·exact⟨hz,hl,.inl a⟩
 ·refine⟨hz,hl,.inr ⟨k,fam,rfl,hn,h1,by have:=e.n;omega,by rw[e.get k h2];exact h3,?_⟩⟩
  cases fam with
  | none=>trivial
  | some f =>
   obtain⟨a1,a2,rest,a3,a4⟩:=h4
   exact⟨a1,by have:=e.n;omega,rest,by rw[e.fams f a2];exact a3,a4⟩
theorem Acc.put {h:IH} {n0 sz:Nat} {v:Value} {n:Nat} {cs:List Value} (a:Acc h n0 sz v n cs) {k:Nat} {c:List Value} {f:Option Nat} (hk:h.ext.get k=some (.cells c 0 f)) (o:IObj):Acc (h.put k o) n0 sz v n cs:=by
 obtain⟨hz,hl,a|⟨j,fam,rfl,hn,h1,h2,h3,h4⟩⟩:=a
 ·exact⟨hz,hl,.inl a⟩
 ·refine⟨hz,hl,.inr ⟨j,fam,rfl,hn,h1,h2,?_,?_⟩⟩
  ·rw[get_put,if_neg]
   ·exact h3
   ·rintro rfl;rw[hk] at h3;cases h3;omega
  ·cases fam with
   | none=>trivial
   | some f=>exact h4
end Go.Id

namespace Go.Id
open Go Go.RowKit
def wlen (x:Nat):Nat:=(digs x).length
def tokV (b x:Nat):Value:=.slice (some ⟨b,0,some 0⟩) (wlen x) 0
theorem digs_zero:digs 0 = []:=by rw[digs];simp
theorem wlen_zero {x:Nat}:wlen x=0↔x=0:=by
 unfold wlen
 constructor
 ·intro h
  rw[digs] at h
  split at h
  ·assumption
  ·simp at h
 ·rintro rfl;rw[digs_zero];rfl
theorem wordsOf_len (x:Nat):(wordsOf x).length=wlen x:=by simp[wordsOf,wlen]
theorem wordsOf_zero:wordsOf 0 = []:=by unfold wordsOf;rw[digs_zero];rfl
def numBase (xs:List Nat) (b:Nat):Option (List Value):=match xs[b - 4294967296]? with
 | some x=>if 4294967296≤b∧x≠0 then some (wordsOf x) else none
 | none=>none
def NumAt (xs:List Nat) (i:Nat) (u:Value):Prop:=∃x,xs[i]?=some x∧((x=0∧(u=.slice none 0 0∨u=.slice (some ⟨0,0,none⟩) 0 0))∨(x≠0 ∧ ∃cap,wlen x≤cap∧u=.slice (some ⟨2*(4294967296+i)+1,0,none⟩) (wlen x) (2*cap+1)))
def Para (mk:List Value→Value) (n:Nat):Prop:=∀(m:Mp) (ss:List Value) (v':Value),ss.length=n→VRel m (mk ss) v' → ∃ss',LRel m ss ss' ∧ ∀(m2:Mp) (us:List Value),LRel m2 us ss'→VRel m2 (mk us) v'
def ParaL (mk:List Value→List Value) (n:Nat):Prop:=∀(m:Mp) (ss vs':List Value),ss.length=n→LRel m (mk ss) vs' → ∃ss',LRel m ss ss' ∧ ∀(m2:Mp) (us:List Value),LRel m2 us ss'→LRel m2 (mk us) vs'
theorem VRel.tok_inv {m:Mp} {b n:Nat} {v':Value} (h:VRel m (.slice (some ⟨b,0,some 0⟩) n 0) v') : ∃a cap,v'=.slice a n cap∧n≤cap∧((n=0∧(a=none→cap=0)) ∨ ∃r s,m b=some (r,s)∧a=some ⟨r,s,none⟩):=by
 cases h with
 | scal h=>simp[Id.scal] at h
 | tok hc h=>exact⟨_,_,rfl,hc,h⟩
def Toks (h:IH) (bs xs:List Nat):Prop:=bs.length=xs.length ∧ ∀(i b x:Nat),bs[i]?=some b→xs[i]?=some x→b % 2=0∧h.ext.get (b / 2)=some (.num x)
def toksOf:List Nat→List Nat→List Value
 | b :: bs,x :: xs=>tokV b x :: toksOf bs xs
 | _,_ => []
theorem toksOf_get : ∀(bs xs:List Nat) (i b x:Nat),bs[i]?=some b→xs[i]?=some x→(toksOf bs xs)[i]?=some (tokV b x)
 | [],_,_,_,_,h,_=>by simp at h
 | _ :: _,[],_,_,_,_,h=>by simp at h
 | b :: bs,x :: xs,0,b',x',h1,h2=>by simp at h1 h2;subst h1;subst h2;rfl
 | b :: bs,x :: xs,i+1,b',x',h1,h2=>by
  simp at h1 h2
  exact toksOf_get bs xs i b' x' h1 h2
theorem toksOf_len : ∀(bs xs:List Nat),bs.length=xs.length→(toksOf bs xs).length=xs.length
 | [],[],_=>rfl
 | [],_ :: _,h=>by simp at h
 | _ :: _,[],h=>by simp at h
 | b :: bs,x :: xs,h=>by
  show(toksOf bs xs).length+1=xs.length+1
  rw[toksOf_len bs xs (by simpa using h)]
theorem Rel.nums {B:Nat} {w0:World} {m:Mp} {h:IH} {w:World} (R:Rel B w0 m h w) {bs xs:List Nat} (T:Toks h bs xs) {ss':List Value} (hs:LRel m (toksOf bs xs) ss') :
  ∃m2:Mp,(∀k,m2 (2*k)=none)∧(∀(i b x:Nat),bs[i]?=some b→xs[i]?=some x→x≠0→m2 (2*(4294967296+i)+1)=m b)∧Rel w.heap.size w m2 (IH.start (numBase xs)) w ∧ ∃us,us.length=xs.length∧LRel m2 us ss' ∧ ∀(i:Nat) (u:Value),us[i]?=some u→NumAt xs i u:=by
 have loc : ∀(i b x:Nat),bs[i]?=some b→xs[i]?=some x→x≠0 → ∃r s c el,m b=some (r,s)∧r<w.heap.size∧w.heap[r]?=some (.cells c el)∧RowAt m (wordsOf x) c s:=by
  intro i b x hb hx x0
  obtain⟨v',h1,h2⟩:=hs.get (toksOf_get bs xs i b x hb hx)
  obtain⟨a,cap,rfl,hc,⟨e,_⟩|⟨r,s,hm,rfl⟩⟩:=h2.tok_inv
  ·exact absurd (wlen_zero.1 e) x0
  ·obtain⟨t1,t2⟩:=T.2 i b x hb hx
   have hm2:m (2*(b / 2))=some (r,s):=by rw[show 2*(b / 2)=b from by omega];exact hm
   rcases R.obj (b / 2) _ r s t2 hm2 with h3|⟨c,el,h3,h4⟩
   ·exact absurd h3 x0
   ·exact⟨r,s,c,el,hm,(R.even _ r s hm2).2,h3,h4⟩
 refine⟨⟨fun j=>if j % 2=0 then none else if j / 2<4294967296 then m j else match bs[j / 2 - 4294967296]? with|some b=>m b|none=>none,m.ez⟩,fun k=>?_,fun i b x hb hx x0=>?_,?_,?_⟩
 ·show(if 2*k % 2=0 then none else _)=none
  rw[if_pos (by omega)]
 ·show(if (2*(4294967296+i)+1) % 2=0 then none else if (2*(4294967296+i)+1) / 2<4294967296 then m (2*(4294967296+i)+1) else match bs[(2*(4294967296+i)+1) / 2 - 4294967296]? with|some b=>m b|none=>none)=m b
  rw[if_neg (by omega),if_neg (by omega),show(2*(4294967296+i)+1) / 2 - 4294967296=i from by omega,hb]
 ·have leaf : ∀{α:Type} (k:Nat),(Tr.leaf:Tr α).get k=none:=fun k=>rfl
  have even : ∀k x,(⟨fun j=>if j % 2=0 then none else if j / 2<4294967296 then m j else match bs[j / 2 - 4294967296]? with|some b=>m b|none=>none,m.ez⟩:Mp) (2*k)=some x→False:=by
   intro k x h
   have h1:(if 2*k % 2=0 then none else _)=some x:=h
   rw[if_pos (by omega)] at h1;cases h1
  refine⟨Below.refl _ _,Nat.le_refl _,?_,fun b hb=>?_,?_,fun k _=>leaf k,?_,?_,?_,?_,?_,?_⟩
  ·intro b cs hcs
   have hcs:numBase xs b=some cs:=hcs
   unfold numBase at hcs
   split at hcs
   case h_2=>cases hcs
   rename_i x hx
   split at hcs
   case isFalse=>cases hcs
   rename_i hb
   cases hcs
   have hi:b - 4294967296<bs.length:=by rw[T.1];exact(List.getElem?_eq_some_iff.1 hx).1
   obtain⟨b',hb'⟩ : ∃b',bs[b - 4294967296]?=some b':=⟨_,List.getElem?_eq_getElem hi⟩
   obtain⟨r,s,c,el,h1,h2,h3,h4⟩:=loc _ b' x hb' hx hb.2
   refine⟨r,s,?_,h2,c,el,_,h3,h4.1,fun i v hv=>?_⟩
   ·show(if (2*b+1) % 2=0 then none else if (2*b+1) / 2<4294967296 then m (2*b+1) else match bs[(2*b+1) / 2 - 4294967296]? with|some b=>m b|none=>none)=some (r,s)
    rw[if_neg (by omega),if_neg (by omega),show(2*b+1) / 2 - 4294967296=b - 4294967296 from by omega,hb']
    exact h1
   ·obtain⟨v',a,e⟩:=h4.2 i v hv
    unfold wordsOf at hv
    rw[List.getElem?_map] at hv
    obtain⟨d,_,rfl⟩:=Option.map_eq_some_iff.1 hv
    exact⟨v',a,by rw[e.scal_eq rfl];exact .scal rfl⟩
  ·show(if (2*b+1) % 2=0 then none else if (2*b+1) / 2<4294967296 then m (2*b+1) else _)=some (b,0)
   rw[if_neg (by omega),if_pos (by omega)]
   exact R.odd b hb
  ·intro k r s h;exact(even _ _ h).elim
  ·intro k o r s h;cases h
  ·intro k k' o o' r s s' _ h;cases h
  ·intro f st h;cases h
  ·intro k cs t f h;cases h
  ·intro f st h;cases h
  ·intro f st x y h;cases h
 ·-- the arguments
  obtain⟨m2,hm2⟩ : ∃m2:Mp,m2=⟨fun j=>if j % 2=0 then none else if j / 2<4294967296 then m j else match bs[j / 2 - 4294967296]? with|some b=>m b|none=>none,m.ez⟩:=⟨_,rfl⟩
  rw[←hm2]
  have at2 : ∀(i b:Nat),bs[i]?=some b→m2 (2*(4294967296+i)+1)=m b:=by
   intro i b hb
   rw[hm2]
   show(if (2*(4294967296+i)+1) % 2=0 then none else if (2*(4294967296+i)+1) / 2<4294967296 then m (2*(4294967296+i)+1) else match bs[(2*(4294967296+i)+1) / 2 - 4294967296]? with|some b=>m b|none=>none)=m b
   rw[if_neg (by omega),if_neg (by omega),show(2*(4294967296+i)+1) / 2 - 4294967296=i from by omega,hb]
  have lt:=toksOf_len bs xs T.1
  have ex : ∀i,i<xs.length → ∃u s',ss'[i]?=some s'∧VRel m2 u s'∧NumAt xs i u:=by
   intro i hi
   obtain⟨x,hx⟩ : ∃x,xs[i]?=some x:=⟨_,List.getElem?_eq_getElem hi⟩
   obtain⟨b,hb⟩ : ∃b,bs[i]?=some b:=⟨_,List.getElem?_eq_getElem (by rw[T.1];exact hi)⟩
   obtain⟨v',h1,h2⟩:=hs.get (toksOf_get bs xs i b x hb hx)
   obtain⟨a,cap,rfl,hc,hcase⟩:=h2.tok_inv
   by_cases x0:x=0
   ·subst x0
    have w0:wlen 0=0:=wlen_zero.2 rfl
    rw[w0] at h1 h2 hc hcase
    cases a with
    | none =>
     have c0:cap=0:=by
      rcases hcase with⟨_,h3⟩|⟨_,_,_,h3⟩
      ·exact h3 rfl
      ·cases h3
     subst c0
     exact⟨.slice none 0 0,_,h1,.scal rfl,0,hx,.inl ⟨rfl,.inl rfl⟩⟩
    | some a=>exact⟨.slice (some ⟨0,0,none⟩) 0 0,_,h1,.lost,0,hx,.inl ⟨rfl,.inr rfl⟩⟩
   ·rcases hcase with⟨e,_⟩|⟨r,s,hm,rfl⟩
    ·exact absurd (wlen_zero.1 e) x0
    ·refine⟨.slice (some ⟨2*(4294967296+i)+1,0,none⟩) (wlen x) (2*cap+1),_,h1,?_,x,hx,.inr ⟨x0,cap,hc,rfl⟩⟩
     have:=VRel.slice (m:=m2) (b:=2*(4294967296+i)+1) (o:=0) (r:=r) (s:=s) (len:=wlen x) (k:=2*cap+1) (cap:=cap) ((at2 i b hb).trans hm) (by omega) (by omega) (by omega) (fun _=>by omega) (fun h9=>by omega)
     exact this
  have key:=fun i (hi:i<xs.length)=>(ex i hi)
  refine⟨(List.range xs.length).map fun i=>if hi:i<xs.length then Classical.choose (ex i hi) else .slice none 0 0,by simp,⟨by rw[List.length_map,List.length_range,←hs.1,lt],fun i v v' hv hv'=>?_⟩,fun i u hu=>?_⟩
  ·rw[List.getElem?_map] at hv
   obtain⟨j,hj,rfl⟩:=Option.map_eq_some_iff.1 hv
   obtain⟨hj1,hj2⟩:=List.getElem?_eq_some_iff.1 hj
   rw[List.length_range] at hj1
   rw[List.getElem_range] at hj2
   subst hj2
   rw[dif_pos hj1]
   obtain⟨s',e1,e2,_⟩:=Classical.choose_spec (ex i hj1)
   rw[hv'] at e1;cases e1
   exact e2
  ·rw[List.getElem?_map] at hu
   obtain⟨j,hj,rfl⟩:=Option.map_eq_some_iff.1 hu
   obtain⟨hj1,hj2⟩:=List.getElem?_eq_some_iff.1 hj
   rw[List.length_range] at hj1
   rw[List.getElem_range] at hj2
   subst hj2
   rw[dif_pos hj1]
   obtain⟨s',_,_,e3⟩:=Classical.choose_spec (ex i hj1)
   exact e3
def addNums (h:IH):List Nat→IH
 | []=>h
 | y :: ys=>addNums (h.new (.num y)) ys
theorem addNums_n : ∀(ys:List Nat) (h:IH),(addNums h ys).n=h.n+ys.length
 | [],h=>rfl
 | y :: ys,h=>by
  show(addNums (h.new (.num y)) ys).n=_
  rw[addNums_n ys]
  show h.n+1+ys.length=h.n+(ys.length+1)
  omega
theorem addNums_base : ∀(ys:List Nat) (h:IH),(addNums h ys).base=h.base∧(addNums h ys).fams=h.fams
 | [],h=>⟨rfl,rfl⟩
 | y :: ys,h=>addNums_base ys (h.new (.num y))
theorem addNums_get : ∀(ys:List Nat) (h:IH) (k:Nat),(addNums h ys).ext.get k=if h.n≤k∧k<h.n+ys.length then (ys[k - h.n]?).map .num else h.ext.get k
 | [],h,k=>by rw[if_neg (by simp)];rfl
 | y :: ys,h,k=>by
  show(addNums (h.new (.num y)) ys).ext.get k=_
  rw[addNums_get ys]
  have n1:(h.new (.num y)).n=h.n+1:=rfl
  have g1:(h.new (.num y)).ext.get k=if k=h.n then some (.num y) else h.ext.get k:=by
   show(h.ext.set h.n _).get k=_
   rw[Tr.get_set]
  rw[n1,g1,List.length_cons]
  by_cases c:h.n+1≤k∧k<h.n+1+ys.length
  ·rw[if_pos c,if_pos ⟨by omega,by omega⟩,show k - h.n=(k - (h.n+1))+1 from by omega,List.getElem?_cons_succ]
  ·rw[if_neg c]
   by_cases e:k=h.n
   ·rw[if_pos e,if_pos ⟨by omega,by omega⟩,e,Nat.sub_self];rfl
   ·rw[if_neg e,if_neg (by omega)]
theorem num_calls {P:Program} (S:Sound (E0 P)) {B:Nat} {w0:World} {m:Mp} {h:IH} {w:World} (R:Rel B w0 m h w) {bs xs:List Nat} (T:Toks h bs xs) {mk:List Value→List Value} (par:ParaL mk xs.length) {args':Array Value} (ha:LRel m (mk (toksOf bs xs)) args'.toList)
  {f:FuncId} (hb : ∃fn,P.funcs[f]?=some fn∧fn.body.isSome=true) {K:Value→IH→Prop} (hw : ∀us,us.length=xs.length→(∀(i:Nat) (u:Value),us[i]?=some u→NumAt xs i u)→WV P (.func (.func f) #[] #[]) (mk us) (IH.start (numBase xs)) K) :
  ∃m2:Mp,(∀k,m2 (2*k)=none)∧(∀(i b x:Nat),bs[i]?=some b→xs[i]?=some x→x≠0→m2 (2*(4294967296+i)+1)=m b) ∧ ∃r h2,K r h2∧CallsTo P f args' w.heap.size w m2 (IH.start (numBase xs)) w r h2:=by
 obtain⟨ss',h1,h2⟩:=par m (toksOf bs xs) args'.toList (toksOf_len bs xs T.1) ha
 obtain⟨m2,e1,e2,R2,us,e3,e4,e5⟩:=R.nums T h1
 obtain⟨⟨r,hh⟩,⟨N,hN⟩,hK⟩:=hw us e3 e5
 refine⟨m2,e1,e2,r,hh,hK,?_⟩
 have hc:callV (E0 P) (N+1) (.func (.func f) #[] #[]) (mk us) (IH.start (numBase xs))=some (r,hh):=hN (N+1) (by omega)
 unfold callV at hc
 obtain⟨fn,hfn,hb⟩:=hb
 rcases callFn_sim S (callV_sim S N) (callV_mono S N) hc R2 (args':=args') (by simpa using h2 m2 us e4) (fun k _ _=>e1 k) with⟨_,k⟩|⟨fn',k1,k2,_⟩
 ·exact k
 ·have k3:P.funcs[f]?=some fn':=k1
  rw[hfn] at k3;cases k3
  rw[k2] at hb;cases hb
theorem Rel.aside2 {B:Nat} {w0:World} {m m':Mp} {h h':IH} {w w':World} (R:Rel B w0 m h w) (R':Rel w.heap.size w m' h' w'):Rel B w0 m h w'∧Step m h w m h w':=by
 have same : ∀r,r<w.heap.size→w'.heap[r]?=w.heap[r]?:=fun r hr=>R'.below.block r hr
 refine⟨⟨R.below.trans (R'.below.mono R.size),Nat.le_trans R.size R'.size,fun b cs hb=>?_,R.odd,fun k r s hk=>?_,R.dom,fun k o r s hk hm=>?_,R.own,R.famdom,R.fam,R.long,R.whole⟩,
  ⟨Mp.le_refl m,fun b hb=>absurd rfl hb,Nat.le_refl _,rfl,fun r hr _=>same r hr,fun _ _ _=>rfl,R'.size,fun k r s h1 h2=>by omega,fun _ _ _ hh=>hh⟩⟩
 ·obtain⟨r,s,h1,h2,c,el,fz,h3,h4⟩:=R.base b cs hb
  exact⟨r,s,h1,h2,c,el,fz,by rw[same r (by have:=R.size;omega)];exact h3,h4⟩
 ·have:=R.even k r s hk
  have:=R'.size
  exact⟨by omega,by omega⟩
 ·exact(R.obj k o r s hk hm).same (same r (R.even k r s hm).2)
theorem num_plain {P:Program} (S:Sound (E0 P)) {B:Nat} {w0:World} {m:Mp} {h:IH} {w:World} (R:Rel B w0 m h w) {bs xs:List Nat} (T:Toks h bs xs) {mk:List Value→List Value} (par:ParaL mk xs.length) {args':Array Value} (ha:LRel m (mk (toksOf bs xs)) args'.toList)
  {f:FuncId} (hb : ∃fn,P.funcs[f]?=some fn∧fn.body.isSome=true) {v:Value} (hv:plainT v=true) (hw : ∀us,us.length=xs.length→(∀(i:Nat) (u:Value),us[i]?=some u→NumAt xs i u)→WV P (.func (.func f) #[] #[]) (mk us) (IH.start (numBase xs)) fun r _=>r=v):CallsTo P f args' B w0 m h w v h:=by
 obtain⟨m2,_,_,r,hh,rfl,key⟩:=num_calls S R T par ha hb hw
 refine key.mono fun e' w' ⟨v',m',he,hvr,R',S'⟩=>?_
 obtain⟨R2,S2⟩:=R.aside2 R'
 exact⟨v',m,he,by rw[hvr.plainT_eq hv];exact .plainT_mk hv,R2,S2⟩
def NumSl (h:IH) (u:Value) (y:Nat):Prop:=SlOf h 1 u (wlen y) (wordsOf y)
def newBs (n k:Nat):List Nat:=(List.range k).map fun j=>2*(n+j)
theorem newBs_get {n k j:Nat} (h:j<k):(newBs n k)[j]?=some (2*(n+j)):=by unfold newBs;rw[List.getElem?_map,List.getElem?_range h];rfl
theorem newBs_len (n k:Nat):(newBs n k).length=k:=by simp[newBs]
structure NumLoc (m:Mp) (w w':World) (bs xs:List Nat) (y:Nat) (r s:Nat):Prop where
 lt:r<w'.heap.size
 row : ∃c el,w'.heap[r]?=some (.cells c el)∧RowAt m (wordsOf y) c s
 src:w.heap.size≤r ∨ ∃(i b x s0:Nat),bs[i]?=some b∧xs[i]?=some x∧m b=some (r,s0)
theorem row_part {m m':Mp} {row ws:List Value} {c:Array Value} {q o:Nat} (hr:RowAt m' row c q) (hw:(row.drop o).take ws.length=ws) (hle:o+ws.length≤row.length) (hs : ∀v∈ws,scal v=true):RowAt m ws c (q+o):=by
 refine⟨by have:=hr.1;omega,fun i v hv=>?_⟩
 have hi:=(List.getElem?_eq_some_iff.1 hv).1
 have hv2:row[o+i]?=some v:=by
  rw[←hw,List.getElem?_take_of_lt hi,List.getElem?_drop] at hv
  exact hv
 obtain⟨v',a,b⟩:=hr.2 _ v hv2
 have sc:=hs v (List.mem_of_getElem? hv)
 exact⟨v',by rw[Nat.add_assoc];exact a,by rw[b.scal_eq sc];exact .scal sc⟩
theorem words_scal (x:Nat) : ∀v∈wordsOf x,scal v=true:=by
 intro v hv
 obtain⟨d,_,rfl⟩:=List.mem_map.1 hv
 rfl
theorem num_loc {B:Nat} {w0:World} {m m2 m':Mp} {h h2:IH} {w w':World} (R:Rel B w0 m h w) {bs xs:List Nat} (T:Toks h bs xs) (hodd : ∀(i b x:Nat),bs[i]?=some b→xs[i]?=some x→x≠0→m2 (2*(4294967296+i)+1)=m b)
  (R':Rel w.heap.size w m' h2 w') (S':Step m2 (IH.start (numBase xs)) w m' h2 w') {u u':Value} {y:Nat} (hu:NumSl h2 u y) (hv:VRel m' u u') :
  ∃a cap,u'=.slice a (wlen y) cap∧wlen y≤cap∧((y=0∧(a=none→cap=0))∨(y≠0 ∧ ∃r s,a=some ⟨r,s,none⟩∧NumLoc m w w' bs xs y r s)):=by
 obtain⟨_,hl,⟨rfl,n0⟩|⟨b,o,k,rfl,⟨n0,k0⟩|⟨k0,hn,row,hb,hrow,htk,hle⟩⟩⟩:=hu
 ·obtain⟨_,_,rfl⟩:=hv.nil_inv
  exact⟨none,0,by rw[n0],by omega,.inl ⟨wlen_zero.1 n0,fun _=>rfl⟩⟩
 ·subst k0
  rcases hv.slice_inv with⟨r,s,cap,_,h0,_⟩|⟨_,_,a,cap,rfl⟩
  ·omega
  ·exact⟨some a,cap,by rw[n0],by omega,.inl ⟨wlen_zero.1 n0,fun h=>by cases h⟩⟩
 ·rcases hv.slice_inv with⟨r,q,cap,hm,_,_,hcap,_,_,rfl⟩|⟨_,e,_⟩
  ·refine⟨_,cap,rfl,by omega,?_⟩
   by_cases y0:y=0
   ·exact .inl ⟨y0,fun h=>by cases h⟩
   ·refine .inr ⟨y0,r,q+o,rfl,?_⟩
    have htk':(row.drop o).take (wordsOf y).length=wordsOf y:=by rw[wordsOf_len];rw[Nat.mul_one] at htk;exact htk
    have hle':o+(wordsOf y).length≤row.length:=by rw[wordsOf_len];omega
    by_cases bo:b % 2=1
    ·have hr2:h2.base (b / 2)=some row:=by
      unfold IH.row at hrow
      simpa [bo] using hrow
     rw[S'.base] at hr2
     have hr2:numBase xs (b / 2)=some row:=hr2
     unfold numBase at hr2
     split at hr2
     case h_2=>cases hr2
     rename_i x hx
     split at hr2
     case isFalse=>cases hr2
     rename_i hbig
     cases hr2
     obtain⟨b',hb'⟩ : ∃b',bs[b / 2 - 4294967296]?=some b':=⟨_,List.getElem?_eq_getElem (by rw[T.1];exact(List.getElem?_eq_some_iff.1 hx).1)⟩
     have e1:=hodd _ b' x hb' hx hbig.2
     rw[show 2*(4294967296+(b / 2 - 4294967296))+1=b from by omega] at e1
     have e2:m' b=m2 b:=Classical.byContradiction fun hne=>by
      obtain⟨k9,e9,_⟩:=S'.new b hne
      omega
     have hmb:m b'=some (r,q):=by rw[←e1,←e2];exact hm
     obtain⟨t1,t2⟩:=T.2 _ b' x hb' hx
     have hmb2:m (2*(b' / 2))=some (r,q):=by rw[show 2*(b' / 2)=b' from by omega];exact hmb
     have hev:=R.even _ r q hmb2
     rcases R.obj (b' / 2) _ r q t2 hmb2 with h3|⟨c,el,h3,h4⟩
     ·exact absurd h3 hbig.2
     ·have same:w'.heap[r]?=w.heap[r]?:=R'.below.block r hev.2
      exact⟨by have:=R'.size;omega,⟨c,el,by rw[same];exact h3,row_part h4 htk' hle' (words_scal y)⟩,.inr ⟨_,b',x,q,hb',hx,hmb⟩⟩
    ·rcases hb with hb|⟨hb,hlt,f,hg⟩
     ·omega
     ·have hm2:m' (2*(b / 2))=some (r,q):=by rw[show 2*(b / 2)=b from by omega];exact hm
      obtain⟨c,el,hc,hrw,_⟩:=R'.obj (b / 2) _ r q hg hm2
      have hr2:h2.row b=some row:=hrow
      have hev:=R'.even _ r q hm2
      refine⟨hev.2,⟨c,el,hc,row_part hrw htk' hle' (words_scal y)⟩,.inl ?_⟩
      rcases S'.img (b / 2) r q (Nat.zero_le _) (by omega) hm2 with h3|⟨k9,_,h9,_⟩
      ·exact h3
      ·exact absurd h9 (Nat.not_lt_zero _)
  ·omega
end Go.Id
