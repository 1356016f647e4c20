/-
  Weakest preconditions over the ideal machine, fifth part: slices as lists; lists that grow. From the ideal machine to a row: the arguments as they lie in the world; what reads as before.
-/
import Derived.Test.YtnanhedgenokpaaGreatTemperDetailedAp
import Derived.Test.YtnanhedgenokpaaGreatTemperDetailedAn
import Derived.OpenShut
import Derived.ChangeStays
import Derived.ChangeSame
import Derived.Deep.Slices
import Derived.Test.YtnanhedgenokpaaGreatRows
import Derived.ProofKit
set_option linter.unusedVariables false
set_option linter.unusedSimpArgs false
set_option linter.defProp false
set_option linter.deprecated false
namespace Go.Id
open Go
structure Keep (h h':IH):Prop where
 n:h.n≤h'.n
 base:h'.base=h.base
 get : ∀k c e f,k<h.n→h.ext.get k=some (.cells c e f)→e≠0 → ∃f',h'.ext.get k=some (.cells c e f')
structure Grow (h h':IH):Prop where
 n:h.n≤h'.n
 base:h'.base=h.base
 get : ∀k,k<h.n→h'.ext.get k=h.ext.get k ∨ ∃c e f f',e≠0∧h.ext.get k=some (.cells c e f)∧h'.ext.get k=some (.cells c e f')
theorem Ext.grow {h h':IH} (e:Ext h h'):Grow h h':=⟨e.n,e.base,fun k hk=>.inl (e.get k hk)⟩
theorem Grow.keep {h h':IH} (g:Grow h h'):Keep h h':=⟨g.n,g.base,fun k c e f hk hg he=>by
 rcases g.get k hk with h1|⟨c1,e1,f1,f2,h0,h1,h2⟩
 ·exact⟨f,by rw[h1,hg]⟩
 ·rw[hg] at h1;cases h1;exact⟨f2,h2⟩⟩
theorem Ext.keep {h h':IH} (e:Ext h h'):Keep h h':=e.grow.keep
theorem Keep.refl (h:IH):Keep h h:=(Ext.refl h).keep
theorem Keep.trans {a b c:IH} (x:Keep a b) (y:Keep b c):Keep a c:=⟨Nat.le_trans x.n y.n,y.base.trans x.base,fun k cs e f hk hg he=>by
 obtain⟨f1,h1⟩:=x.get k cs e f hk hg he
 exact y.get k cs e f1 (Nat.lt_of_lt_of_le hk x.n) h1 he⟩
theorem Grow.refl (h:IH):Grow h h:=(Ext.refl h).grow
theorem Grow.trans {a b c:IH} (x:Grow a b) (y:Grow b c):Grow a c:=⟨Nat.le_trans x.n y.n,y.base.trans x.base,fun k hk=>by
 have hk2:=Nat.lt_of_lt_of_le hk x.n
 rcases x.get k hk with h1|⟨c1,e1,f1,f2,h0,h1,h2⟩
 ·rcases y.get k hk2 with h3|⟨c3,e3,f3,f4,h5,h6,h7⟩
  ·exact .inl (h3.trans h1)
  ·exact .inr ⟨c3,e3,f3,f4,h5,by rw[←h1];exact h6,h7⟩
 ·rcases y.get k hk2 with h3|⟨c3,e3,f3,f4,h5,h6,h7⟩
  ·exact .inr ⟨c1,e1,f1,f2,h0,h1,by rw[h3,h2]⟩
  ·rw[h2] at h6;cases h6;exact .inr ⟨c1,e1,f1,f4,h0,h1,h7⟩⟩
theorem Grow.new {a b:IH} (g:Grow a b) (o:IObj):Grow a (b.new o):=g.trans ((Ext.refl b).new o).grow
theorem Keep.new {a b:IH} (g:Keep a b) (o:IObj):Keep a (b.new o):=g.trans ((Ext.refl b).new o).keep
theorem Keep.put {a b:IH} (g:Keep a b) {k:Nat} {cs:List Value} {f:Option Nat} (hk:b.ext.get k=some (.cells cs 0 f)) (o:IObj):Keep a (b.put k o):=⟨g.n,g.base,fun j c e f1 hj hg he=>by
 obtain⟨f2,h2⟩:=g.get j c e f1 hj hg he
 refine⟨f2,?_⟩
 rw[get_put,if_neg]
 ·exact h2
 ·rintro rfl;rw[hk] at h2;cases h2;exact he rfl⟩
theorem Keep.row {a b:IH} (g:Keep a b) {x:Nat} {row:List Value} (hx:x % 2=1∨(x<2*a.n ∧ ∃e f,e≠0∧a.ext.get (x / 2)=some (.cells row e f))) (hr:a.row x=some row):b.row x=some row:=by
 rcases hx with hx|⟨hx,e,f,he,hg⟩
 ·rw[←hr];simp[IH.row,hx,g.base]
 ·obtain⟨f',h2⟩:=g.get (x / 2) row e f (by omega) hg he
  simp only[IH.row,cond_eq_ite,beq_iff_eq] at hr ⊢
  split
  ·rename_i h1;rw[if_pos h1] at hr;rw[g.base];exact hr
  ·rw[h2]
def SlOf (h:IH) (sz:Nat) (v:Value) (n:Nat) (cs:List Value):Prop :=
 0<sz∧cs.length=n*sz∧((v=.slice none 0 0∧n=0) ∨ ∃b o k,v=.slice (some ⟨b,o,none⟩) n k∧((n=0∧k=0) ∨
  (0<k∧n≤k / 2 ∧ ∃row,((b % 2=1∧k % 2=1)∨(b % 2=0∧b<2*h.n ∧ ∃f,h.ext.get (b / 2)=some (.cells row sz f)))∧h.row b=some row∧(row.drop o).take (n*sz)=cs∧o+n*sz≤row.length)))
def elemAddr (v:Value) (c:Nat):Value:=match v with
 | .slice (some ⟨b,o,none⟩) _ _=>ptr b (o+c)
 | _=>undef
theorem SlOf.keep {h h':IH} {sz:Nat} {v:Value} {n:Nat} {cs:List Value} (s:SlOf h sz v n cs) (e:Keep h h'):SlOf h' sz v n cs:=by
 obtain⟨hz,hl,s|⟨b,o,k,rfl,s⟩⟩:=s
 ·exact⟨hz,hl,.inl s⟩
 ·refine⟨hz,hl,.inr ⟨b,o,k,rfl,s.imp id fun⟨a1,a2,row,a3,h1,h2,h3⟩=>?_⟩⟩
  rcases a3 with a3|⟨a4,a5,f,a6⟩
  ·exact⟨a1,a2,row,.inl a3,e.row (.inl a3.1) h1,h2,h3⟩
  ·obtain⟨f',h4⟩:=e.get (b / 2) row sz f (by omega) a6 (by omega)
   exact⟨a1,a2,row,.inr ⟨a4,by have:=e.n;omega,f',h4⟩,e.row (.inr ⟨a5,sz,f,by omega,a6⟩) h1,h2,h3⟩
theorem SlOf.ext {h h':IH} {sz:Nat} {v:Value} {n:Nat} {cs:List Value} (s:SlOf h sz v n cs) (e:Ext h h'):SlOf h' sz v n cs:=s.keep e.keep
theorem SlOf.nil (h:IH) {sz:Nat} (hz:0<sz):SlOf h sz (.slice none 0 0) 0 []:=⟨hz,by simp,.inl ⟨rfl,rfl⟩⟩
theorem SlOf.form {h:IH} {sz:Nat} {v:Value} {n:Nat} {cs:List Value} (s:SlOf h sz v n cs) : ∃a k,v=.slice a n k:=by
 obtain⟨hz,hl,⟨rfl,rfl⟩|⟨b,o,k,rfl,s⟩⟩:=s
 ·exact⟨_,_,rfl⟩
 ·exact⟨_,_,rfl⟩
theorem SlOf.len {h:IH} {sz:Nat} {v:Value} {n:Nat} {cs:List Value} (s:SlOf h sz v n cs) {P:Program} {t:TypeId} (hT:isSliceT P (some t)=true) (h':IH):lenB P h' t v=some (.int .i64 n):=by
 obtain⟨a,k,rfl⟩:=s.form
 exact lenB_slice hT _ _ _ _
theorem SlOf.cells {h:IH} {sz:Nat} {v:Value} {n:Nat} {cs:List Value} (s:SlOf h sz v n cs):v.cells = #[v]:=by
 obtain⟨a,k,rfl⟩:=s.form;rfl
theorem SlOf.cok {h:IH} {sz:Nat} {v:Value} {n:Nat} {cs:List Value} (s:SlOf h sz v n cs):cellOK v=true:=by
 obtain⟨a,k,rfl⟩:=s.form;rfl
theorem SlOf.idx {h:IH} {sz:Nat} {v:Value} {n:Nat} {cs:List Value} (s:SlOf h sz v n cs) {P:Program} {t:TypeId} (hT:elemSize P t=some sz) {k:IntKind} {j:Nat} (hj:j<n):indexAddr P t v (.int k j)=some (elemAddr v (j*sz)):=by
 obtain⟨hz,hl,⟨rfl,rfl⟩|⟨b,o,k,rfl,s⟩⟩:=s
 ·omega
 ·rw[indexAddr_slice,hT];simp[elemAddr,idxAt_nat hj]
theorem SlOf.idxI {h:IH} {sz:Nat} {v:Value} {n:Nat} {cs:List Value} (s:SlOf h sz v n cs) {P:Program} {t:TypeId} (hT:elemSize P t=some sz) {k:IntKind} {i:Int} (h0:0≤i) (hj:i<n):indexAddr P t v (.int k i)=some (elemAddr v (i.toNat*sz)):=by
 obtain⟨j,rfl⟩:=Int.eq_ofNat_of_zero_le h0
 exact s.idx hT (by omega)
theorem SlOf.ld {h h':IH} {sz:Nat} {v:Value} {n:Nat} {cs:List Value} (s:SlOf h sz v n cs) (e:Keep h h') {c:Nat} (hc:c<cs.length) {P:Program} {t:TypeId} (hT:isAggT P t=some false):load P h' t (elemAddr v c)=cs[c]?:=by
 obtain⟨hz,hl,⟨rfl,rfl⟩|⟨b,o,k,rfl,s'⟩⟩:=s.keep e
 ·simp at hl;simp[hl] at hc
 ·obtain⟨rfl,_⟩|⟨a1,a2,row,a3,h1,h2,h3⟩:=s'
  ·simp at hl;simp[hl] at hc
  ·rw[elemAddr,load_scal hT,ld_of h1,←h2,List.getElem?_take]
   rw[if_pos (by omega),List.getElem?_drop]
theorem SlOf.ldAgg {h h':IH} {sz:Nat} {v:Value} {n:Nat} {cs:List Value} (s:SlOf h sz v n cs) (e:Keep h h') {c m:Nat} (hc:c+m≤cs.length) (hm:0<m) {P:Program} {t:TypeId} (hT:isAggT P t=some true) (hS:sizeT P t=some m) :
  load P h' t (elemAddr v c)=some (.agg ((cs.drop c).take m).toArray):=by
 obtain⟨hz,hl,⟨rfl,rfl⟩|⟨b,o,k,rfl,s'⟩⟩:=s.keep e
 ·simp at hl;simp[hl] at hc;omega
 ·obtain⟨rfl,_⟩|⟨a1,a2,row,a3,h1,h2,h3⟩:=s'
  ·simp at hl;simp[hl] at hc;omega
  ·rw[elemAddr,load_agg hT hS,rd_of h1,if_pos (by omega),←h2]
   simp only[Option.map_some,List.drop_take,List.take_take,List.drop_drop]
   rw[Nat.min_eq_left (by omega)]
theorem SlOf.slice {h h':IH} {sz:Nat} {v:Value} {n:Nat} {cs:List Value} (s:SlOf h sz v n cs) (kp:Keep h h') {P:Program} {t:TypeId} {e:TypeId} (hu:P.underlying t=some (.slice e)) (hT:sizeT P e=some sz) {l m:Nat} (hl:l≤m) (hm:m≤n) {lo hi:Option Value} (hlo:loOf lo m=some l) (hhi : ∀c,n≤c→hiOf hi n c=some m) :
  ∃v',sliceOp P h' t v lo hi none=some v'∧SlOf h sz v' (m - l) ((cs.drop (l*sz)).take ((m - l)*sz)):=by
 obtain⟨hz,hlen,⟨rfl,rfl⟩|⟨b,o,k,rfl,s⟩⟩:=s
 ·obtain rfl:m=0:=by omega
  obtain rfl:l=0:=by omega
  refine⟨.slice none 0 0,?_,hz,by simp,.inl ⟨rfl,rfl⟩⟩
  have:=hhi 0 (Nat.le_refl _)
  simp[sliceOp,hu,hT,resliced,boundsOf,this,hlo]
 ·obtain⟨rfl,rfl⟩|⟨a1,a2,row,a3,h1,h2,h3⟩:=s
  ·obtain rfl:m=0:=by omega
   obtain rfl:l=0:=by omega
   have:=hhi 0 (Nat.le_refl _)
   refine⟨.slice (some ⟨b,o,none⟩) 0 0,?_,hz,by simp,.inr ⟨b,o,0,rfl,.inl ⟨rfl,rfl⟩⟩⟩
   simp[sliceOp,hu,hT,resliced,boundsOf,this,hlo]
  ·have hh:=hhi (k / 2) a2
   have hk0:(k == 0)=false:=by simp;omega
   have hroom:(k % 2 == 1 || roomy h' sz (.slice (some ⟨b,o,none⟩) n k))=true:=by
    rcases a3 with a3|⟨a4,a5,f,a6⟩
    ·simp[a3.2]
    ·obtain⟨f',h4⟩:=kp.get (b / 2) row sz f (by omega) a6 (by omega)
     simp[roomy,a4,h4]
   by_cases hlk:l=k / 2
   ·have hml:m=l:=by omega
    subst hml
    have hlk':(m == k / 2)=true:=by simpa using hlk
    rcases Nat.mod_two_eq_zero_or_one k with hk|hk
    ·refine⟨.slice (some ⟨b,o,none⟩) 0 0,?_,hz,by simp,.inr ⟨b,o,0,by simp,.inl ⟨by omega,rfl⟩⟩⟩
     have hk':(k % 2 == 1)=false:=by simp[hk]
     simp only[sliceOp,hu,hT,resliced,boundsOf,hh,hlo,hk0,hlk',hk',cond_true,cond_false]
    ·refine⟨.slice (some ⟨b,o,none⟩) 0 1,?_,hz,by simp,.inr ⟨b,o,1,by simp,.inr ⟨by omega,by omega,row,a3.imp (fun x=>⟨x.1,rfl⟩) id,h1,by simp,by simp;omega⟩⟩⟩
     have hk':(k % 2 == 1)=true:=by simp[hk]
     simp only[sliceOp,hu,hT,resliced,boundsOf,hh,hlo,hk0,hlk',hk',cond_true,cond_false]
   ·have hlk':(l == k / 2)=false:=by simpa using hlk
    have hls:l*sz+(m - l)*sz=m*sz:=by rw[←Nat.add_mul];congr 1;omega
    have hmn:m*sz≤n*sz:=Nat.mul_le_mul_right _ hm
    refine⟨.slice (some ⟨b,o+l*sz,none⟩) (m - l) (k - 2*l),?_,hz,?_,.inr ⟨b,o+l*sz,k - 2*l,rfl,.inr ⟨by omega,by omega,row,?_,h1,?_,by omega⟩⟩⟩
    ·simp only[sliceOp,hu,hT,resliced,boundsOf,hh,hlo,hk0,hlk',hroom,cond_true,cond_false]
    ·rw[List.length_take,List.length_drop];omega
    ·rcases a3 with a3|a3
     ·exact .inl ⟨a3.1,by omega⟩
     ·exact .inr a3
    ·rw[←h2,List.drop_take,List.take_take,List.drop_drop,Nat.min_eq_left (by omega)]
theorem natOf_nat {k:IntKind} {l m:Nat} (h:l≤m):natOf (.int k (l:Int)) m=some l:=by
 show(bif Nat.ble l m then some l else none)=_
 rw[show Nat.ble l m=true from by rw[Nat.ble_eq];exact h];rfl
@[simp] theorem asAddr_elem {h:IH} {sz:Nat} {v:Value} {n:Nat} {cs:List Value} (s:SlOf h sz v n cs) {c:Nat} (hc:c<cs.length) : ∃b o,elemAddr v c=ptr b (o+c) ∧ ∀d,elemAddr v d=ptr b (o+d):=by
 obtain⟨hz,hl,⟨rfl,rfl⟩|⟨b,o,k,rfl,s⟩⟩:=s
 ·simp at hl;simp[hl] at hc
 ·exact⟨b,o,rfl,fun _=>rfl⟩
def TopFam (h:IH) (n0 k:Nat):Option Nat→Prop
 | none=>True
 | some f=>n0≤f∧f<h.n ∧ ∃rest,h.fams.get f=some (k :: rest) ∧ ∀j∈rest,n0≤j∧j<h.n
def Acc (h:IH) (n0 sz:Nat) (v:Value) (n:Nat) (cs:List Value):Prop :=
 0<sz∧cs.length=n*sz∧((v=.slice none 0 0∧n=0) ∨ ∃k fam,v=.slice (some ⟨2*k,0,none⟩) n (2*n)∧0<n∧n0≤k∧k<h.n∧h.ext.get k=some (.cells cs sz fam)∧TopFam h n0 k fam)
theorem Acc.nil (h:IH) (n0:Nat) {sz:Nat} (hz:0<sz):Acc h n0 sz (.slice none 0 0) 0 []:=⟨hz,by simp,.inl ⟨rfl,rfl⟩⟩
theorem Acc.sl {h:IH} {n0 sz:Nat} {v:Value} {n:Nat} {cs:List Value} (a:Acc h n0 sz v n cs):SlOf h sz v n cs:=by
 obtain⟨hz,hl,a|⟨k,fam,rfl,hn,h1,h2,h3,h4⟩⟩:=a
 ·exact⟨hz,hl,.inl a⟩
 ·refine⟨hz,hl,.inr ⟨2*k,0,2*n,rfl,.inr ⟨by omega,by omega,cs,.inr ⟨by omega,by omega,fam,?_⟩,?_,?_,by omega⟩⟩⟩
  ·rw[show 2*k / 2=k from by omega,h3]
  ·rw[row_even];simp[IH.cells,h3]
  ·rw[List.drop_zero,List.take_of_length_le (by omega)]
theorem Acc.ext {h h':IH} {n0 sz:Nat} {v:Value} {n:Nat} {cs:List Value} (a:Acc h n0 sz v n cs) (e:Ext h h'):Acc h' n0 sz v n cs:=by
 obtain⟨hz,hl,a|⟨k,fam,rfl,hn,h1,h2,h3,h4⟩⟩:=a
 ·exact⟨hz,hl,.inl a⟩
 ·refine⟨hz,hl,.inr ⟨k,fam,rfl,hn,h1,by have:=e.n;omega,by rw[e.get k h2];exact h3,?_⟩⟩
  cases fam with
  | none=>trivial
  | some f =>
   obtain⟨a1,a2,rest,a3,a4⟩:=h4
   exact⟨a1,by have:=e.n;omega,rest,by rw[e.fams f a2];exact a3,fun j hj=>⟨(a4 j hj).1,Nat.lt_of_lt_of_le (a4 j hj).2 e.n⟩⟩
theorem Acc.app {h:IH} {n0 sz:Nat} {v:Value} {n:Nat} {cs:List Value} (a:Acc h n0 sz v n cs) {P:Program} {t:TypeId} {bytes:Nat} (hT:appT P t=some (sz,bytes)) {x:Value} {m:Nat} {new:List Value} (sx:SlOf h sz x m new) (hm:0<m)
  (hc:new.all cellOK=true) (hsz:(n+m)*(bytes+1)≤sizeMost) (h0:n0≤h.n) {h0':IH} (e0:Ext h0' h) (hn0:h0'.n≤n0) :
  ∃v' h',append P h t v x=some (v',h')∧Acc h' n0 sz v' (n+m) (cs ++ new)∧Grow h h'∧h'.n=h.n+1∧Ext h0' h':=by
 unfold appT at hT
 split at hT
 case h_2=>cases hT
 rename_i e hu
 split at hT
 case h_2=>cases hT
 rename_i zs h1 h2 h3
 simp only[cond_eq_ite] at hT
 split at hT
 case isTrue=>cases hT
 rename_i hbad
 cases hT
 have hbad':(sz == 0 || (!(Nat.ble bytes 65536) || !(zs.length == sz)))=false:=by simpa using hbad
 have hsz0:0<sz:=by
  simp at hbad';omega
 obtain⟨_,hln,hx⟩:=sx
 have hmne:(m == 0)=false:=by simp;omega
 have hx' : ∃b o k row,x=.slice (some ⟨b,o,none⟩) m k∧h.row b=some row∧(row.drop o).take (m*sz)=new∧o+m*sz≤row.length:=by
  rcases hx with⟨rfl,rfl⟩|⟨b,o,k,rfl,⟨rfl,_⟩|⟨_,_,row,_,a1,a2,a3⟩⟩
  ·omega
  ·omega
  ·exact⟨b,o,k,row,rfl,a1,a2,a3⟩
 obtain⟨b,o,k,row,rfl,a1,a2,a3⟩:=hx'
 have hms : ¬m*sz=0:=by
  have:0<m*sz:=Nat.mul_pos hm hsz0
  omega
 have hfirst:firstOf h sz m (.slice (some ⟨b,o,none⟩) m k)=some new:=by
  simp only[firstOf,cond_eq_ite,Nat.ble_eq,Nat.le_refl,if_true,beq_iff_eq,if_neg hms]
  rw[rd_of a1,if_pos a3,a2]
 have hble:Nat.ble ((n+m)*(bytes+1)) sizeMost=true:=by rw[Nat.ble_eq];exact hsz
 obtain⟨hz,hl,⟨rfl,rfl⟩|⟨kk,fam,rfl,hn,g1,g2,g3,g4⟩⟩:=a
 ·-- from nothing
  have hcs:cs = []:=List.length_eq_zero_iff.1 (by omega)
  subst hcs
  refine⟨.slice (some ⟨2*h.n,0,none⟩) m (2*m),h.new (.cells new sz none),?_,⟨hz,by simp;exact hln,.inr ⟨h.n,none,by simp,by omega,h0,by simp,by simp[get_new],trivial⟩⟩,(Grow.refl h).new _,rfl,e0.new _⟩
  have hble':Nat.ble (m*(bytes+1)) sizeMost=true:=by simpa using hble
  simp only[Id.append,hu,h1,h2,h3,lenOf,hmne,hbad',hfirst,hc,hble',cond_true,cond_false,Bool.not_true,BEq.rfl,Bool.and_self]
 ·have hcap:Nat.ble (n+m) (2*n / 2)=false:=by
   rw[Bool.eq_false_iff];intro hh;rw[Nat.ble_eq] at hh;omega
  have hodd:(2*n % 2 == 1)=false:=by simp
  have hlen:(n == 2*n / 2 && Nat.blt 0 n && (2*kk) % 2 == 0)=true:=by
   have:2*n / 2=n:=by omega
   simp[this,Nat.blt,Nat.ble_eq];omega
  have hend:(0+n*sz == cs.length && sz == sz)=true:=by simp[hl]
  have hk2:2*kk / 2=kk:=by omega
  have body : ∀f below,(∀j∈below,n0≤j∧j<h.n)→(n0≤f)→f<h.n+1 →
    Acc (grown h kk f cs sz [] below (cs.drop 0 ++ new) sz) n0 sz (.slice (some ⟨2*h.n,0,none⟩) (n+m) (2*(n+m))) (n+m) (cs ++ new) ∧
    Grow h (grown h kk f cs sz [] below (cs.drop 0 ++ new) sz)∧Ext h0' (grown h kk f cs sz [] below (cs.drop 0 ++ new) sz):=by
   intro f below hbl hf1 hf2
   have hget : ∀j,(grown h kk f cs sz [] below (cs.drop 0 ++ new) sz).ext.get j=if j=h.n then some (.cells (cs ++ new) sz (some f)) else if j=kk then some (.cells cs sz (some f)) else h.ext.get j:=by
    intro j
    simp[grown,IH.killAll,Tr.get_set]
   refine⟨⟨hz,by simp[hl,hln,Nat.add_mul],.inr ⟨h.n,some f,rfl,by omega,h0,by simp[grown],by rw[hget,if_pos rfl],hf1,by simp[grown];omega,kk :: below,?_,fun j hj=>by rcases List.mem_cons.1 hj with rfl|hj;exact⟨g1,by simp[grown];omega⟩;exact⟨(hbl j hj).1,by have:=(hbl j hj).2;simp[grown];omega⟩⟩⟩,⟨by simp[grown],rfl,fun j hj=>?_⟩,?_⟩
   ·simp[grown,Tr.get_set]
   ·rw[hget,if_neg (by omega)]
    by_cases hjk:j=kk
    ·subst hjk
     exact .inr ⟨cs,sz,fam,some f,by omega,g3,by rw[if_pos rfl]⟩
    ·rw[if_neg hjk];exact .inl rfl
   ·refine⟨by have:=e0.n;simp[grown];omega,e0.base,fun j hj=>?_,fun g hg=>?_⟩
    ·rw[hget,if_neg (by omega),if_neg (by omega)];exact e0.get j hj
    ·simp only[grown,Tr.get_set]
     rw[if_neg (by omega)];exact e0.fams g hg
  cases fam with
  | none =>
   obtain⟨b1,b2,b3⟩:=body h.n [] (fun _ h=>by cases h) h0 (by omega)
   refine⟨_,_,?_,b1,b2,rfl,b3⟩
   simp only[Id.append,hu,h1,h2,h3,lenOf,hmne,hbad',hfirst,hc,hble,hcap,hodd,hlen,hk2,g3,hend,cond_true,cond_false,Bool.not_true]
  | some f =>
   obtain⟨f1,f2,rest,f3,f4⟩:=g4
   obtain⟨b1,b2,b3⟩:=body f rest f4 f1 (by omega)
   refine⟨_,_,?_,b1,b2,rfl,b3⟩
   have t1:(kk :: rest).takeWhile (· != kk) = []:=by simp
   have t2:((kk :: rest).dropWhile (· != kk)).drop 1=rest:=by simp
   simp only[Id.append,hu,h1,h2,h3,lenOf,hmne,hbad',hfirst,hc,hble,hcap,hodd,hlen,hk2,g3,hend,f3,t1,t2,cond_true,cond_false,Bool.not_true]
end Go.Id

namespace Go.Id
open Go Go.RowKit Go.ChangeShapes Go.WideShapes Go.Deep
theorem carry_name {n:String} {a:List Value} {v:Value} (h:carryI n a=some v):n = "math/bits.Add64" ∨ n = "math/bits.Sub64" := by
 unfold carryI at h
 split at h
 ·simp only[cond_eq_ite] at h
  split at h
  ·split at h
   ·rename_i hn;exact .inl (by simpa using hn)
   ·split at h
    ·rename_i hn;exact .inr (by simpa using hn)
    ·cases h
  ·cases h
 ·cases h
theorem sound0 {P:Program} (h1:P.follows .mixedOrders=true) (h2:(P.funcs.toList.all fun fn => !(fn.body.isSome && fn.name == "runtime.NumGoroutine") && (fn.body.isSome || ((fn.name == fn.origin || fn.origin == "") || !(fn.name == "math/bits.Add64" || fn.name == "math/bits.Sub64"))))=true):Sound (E0 P) where
 mixed:=h1
 origin f fn hf hb {args v} hc:=by
  have hm:fn∈P.funcs.toList:=by
   rw[Array.mem_toList_iff];exact Array.mem_of_getElem? hf
  have h:=List.all_eq_true.1 h2 fn hm
  rw[hb] at h
  have hn:fn.name = "math/bits.Add64" ∨ fn.name = "math/bits.Sub64" := carry_name hc
  have h':(fn.name == fn.origin || fn.origin == "")=true:=by
   rcases hn with hn|hn<;>rw[hn] at h ⊢ <;> exact(show _ from by simpa using h)
  rw[Bool.or_eq_true,beq_iff_eq,beq_iff_eq] at h'
  exact h'.imp Eq.symm id
 names f fn hf hb:=by
  have hm:fn∈P.funcs.toList:=by
   rw[Array.mem_toList_iff];exact Array.mem_of_getElem? hf
  have:=List.all_eq_true.1 h2 fn hm
  rw[Bool.and_eq_true] at this
  have:=this.1
  rw[hb] at this
  simpa using this
 intrN f g h:=by cases h
 intr f g h:=by cases h
structure SlArg (W:World) (z:Nat) (v:Value) (n:Nat) (cs:List Value):Prop where
 z0:0<z
 len:cs.length=n*z
 sc : ∀x∈cs,scal x=true
 ex:(v=.slice none 0 0∧n=0) ∨ ∃a cap,v=.slice (some a) n cap∧n≤cap∧(0<n→a.spot=none ∧ ∀j,j<n*z→W.cell? ⟨a.block,a.off+j,none⟩=cs[j]?)
section
variable {H:Type} {enc:TypeId×Value→H} {P:Program} {W:World} {held:Bool}
theorem below_same {W W':World} (hk:Below W.heap.size W W') {p:MemPlace} (hp:p.block<W.heap.size):W.sameAt W' p:=by
 cases p with
 | cell b off =>
  show W'.cell? _=W.cell? _
  unfold World.cell?
  rw[hk.block b hp]
 | map b=>exact hk.block b hp
theorem trodAll_stays {W':World} {T:TypeId→Prop} (K:Kids P T) (hsz : ∀{t e:TypeId},T t→P.underlying t=some (.slice e)→0<P.cellsOf e) (hk:Below W.heap.size W W') {sp:Nat→Bool} :
  ∀{ts:List TypeId} {vs:List Value} {ds:List (DataW H)} {ps:List MemPlace},DataW.TrodAll enc P W 0 (fun _=>true) true ts vs ds ps→(∀t∈ts,T t)→(∀p∈ps,sp p.block=true)→DataW.TrodAll enc P W' 0 sp true ts vs ds ps
 | [],_,_,_,h,_,_=>by
  obtain⟨rfl,rfl,rfl⟩:=trodAll_nil h
  rfl
 | t :: ts,_,_,_,h,hT,hs=>by
  obtain⟨v,vs,d,ds,p,q,rfl,rfl,rfl,⟨fuel,h1⟩,h2⟩:=trodAll_cons h
  refine⟨p,q,⟨fuel,?_⟩,trodAll_stays K hsz hk h2 (fun t ht=>hT t (by simp[ht])) (fun x hx=>hs x (by simp[hx])),rfl⟩
  exact DataW.trod_stays K hsz (fun h=>by cases h) (hT t (by simp)) h1 (fun x hx=>below_same hk (DataW.trod_lt _ _ _ _ h1 x hx)) (fun x hx=>hs x (by simp[hx]))
end
section
variable {H:Type} {enc:TypeId×Value→H} {P:Program} {W:World} {base:Nat} {sp:Nat→Bool} {held:Bool}
theorem trod_nat {t:TypeId} {k:IntKind} {m:Nat} (hk:k.min=0) (hm:k.max=m) (ht:P.underlying t=some (.int k)) {fuel:Nat} {cs:List Value} {x:DataW H×List MemPlace} (h:DataW.trod enc P W base sp held fuel t cs=some x) : ∃i:Nat,cs = [.int k (i:Int)]∧i≤m:=by
 obtain⟨n,rfl,_,hw⟩:=DataW.trod_int ht h
 simp only[Lit.wf,Bool.and_eq_true,decide_eq_true_eq] at hw
 exact⟨n.toNat,by rw[Int.toNat_of_nonneg (by omega)],by omega⟩
end
end Go.Id

namespace Go.Id
open Go Go.RowKit Go.ChangeShapes Go.WideShapes Go.Deep
def plNo (r s:Nat):Nat:=(r+s)*(r+s)+s
theorem plNo_inj {a b c d:Nat} (h:plNo a b=plNo c d):a=c∧b=d:=by
 have key : ∀{x y u v:Nat},u≤x→v≤y→x<y→x*x+u≠y*y+v:=by
  intro x y u v hu hv hxy e
  have h1:(x+1)*(x+1)≤y*y:=Nat.mul_le_mul hxy hxy
  have h2:(x+1)*(x+1)=x*x+2*x+1:=by rw[Nat.add_mul,Nat.mul_add];omega
  omega
 unfold plNo at h
 rcases Nat.lt_trichotomy (a+b) (c+d) with hl|he|hg
 ·exact absurd h (key (by omega) (by omega) hl)
 ·rw[he] at h;omega
 ·exact absurd h.symm (key (by omega) (by omega) hg)
open Classical in
noncomputable def plA (i:Nat):Nat×Nat:=if h : ∃p:Nat×Nat,plNo p.1 p.2=i then Classical.choose h else (0,0)
theorem plA_no (r s:Nat):plA (plNo r s)=(r,s):=by
 have h : ∃p:Nat×Nat,plNo p.1 p.2=plNo r s:=⟨(r,s),rfl⟩
 unfold plA
 rw[dif_pos h]
 obtain⟨h1,h2⟩:=plNo_inj (Classical.choose_spec h)
 exact Prod.ext h1 h2
def tellable:Value→Bool
 | .slice (some a) n cap=>n == 0 || (Nat.ble n cap && a.spot.isNone)
 | v=>scal v
def trV:Value→Value
 | .slice (some a) n cap=>if n=0 then .slice (some ⟨1,0,none⟩) 0 0 else .slice (some ⟨2*(4294967296+plNo a.block a.off)+1,0,none⟩) n (2*cap+1)
 | v=>v
theorem trV_scal {v:Value} (h:scal v=true):trV v=v:=by
 unfold trV
 split
 ·simp[scal] at h
 ·rfl
theorem trV_rel {v:Value} (h:tellable v=true):VRel (Mp.startOf plA) (trV v) v:=by
 unfold tellable at h
 split at h
 ·rename_i a n cap
  simp only[trV]
  by_cases h0:n=0
  ·subst h0
   simp only[if_true]
   exact .lost
  ·simp only[if_neg h0]
   obtain⟨b,o,sp⟩:=a
   simp only[Bool.or_eq_true,beq_iff_eq,h0,false_or,Bool.and_eq_true,Nat.ble_eq,Option.isNone_iff_eq_none] at h
   obtain⟨h1,rfl⟩:=h
   have hm:=Mp.startOf_high plA (plNo b o)
   rw[plA_no] at hm
   exact .slice (m:=Mp.startOf plA) (r:=b) (s:=o) (o:=0) hm (by omega) (by omega) (by omega) (by omega) (by omega)
 ·rename_i hne
  rw[trV_scal h]
  exact .scal h
def tellRow (W:World) (r s:Nat):List Value:=match W.heap[r]? with
 | some (.cells c _ _)=>((c.toList.drop s).takeWhile tellable).map trV
 | _ => []
noncomputable def tellB (G:Nat→Option (List Value)) (W:World) (b:Nat):Option (List Value):=if b<4294967296 then G b else
 (match W.heap[(plA (b - 4294967296)).1]? with
  | some (.cells c _ _)=>if (plA (b - 4294967296)).2≤c.size then some (tellRow W (plA (b - 4294967296)).1 (plA (b - 4294967296)).2) else none
  | _=>none)
theorem takeWhile_get {α:Type} (p:α→Bool) : ∀(l:List α) (i:Nat) (x:α),(l.takeWhile p)[i]?=some x→l[i]?=some x∧p x=true
 | [],i,x,h=>by simp at h
 | a :: l,i,x,h=>by
  rw[List.takeWhile_cons] at h
  by_cases hp:p a=true
  ·rw[if_pos hp] at h
   cases i with
   | zero=>simp at h;subst h;exact⟨rfl,hp⟩
   | succ i=>simpa using takeWhile_get p l i x (by simpa using h)
  ·rw[if_neg hp] at h;simp at h
theorem takeWhile_take {α:Type} (p:α→Bool) : ∀(l:List α) (n:Nat),n≤l.length→(∀x∈l.take n,p x=true)→(l.takeWhile p).take n=l.take n∧n≤(l.takeWhile p).length
 | l,0,_,_=>by simp
 | [],n+1,h,_=>by simp at h
 | a :: l,n+1,h,hp=>by
  have h1:p a=true:=hp a (by simp)
  obtain⟨h2,h3⟩:=takeWhile_take p l n (by simpa using h) (fun x hx=>hp x (by simp[hx]))
  rw[List.takeWhile_cons,if_pos h1]
  simp[h2,h3]
theorem tell_ok {W:World} {G:Nat→Option (List Value)} (hG : ∀b cs,G b=some cs → ∃c el fz,W.heap[b]?=some (.cells c el fz)∧cs.length≤c.size ∧ ∀(j:Nat) (x:Value),cs[j]?=some x→c[j]?=some x∧scal x=true):BaseOK plA (tellB G W) W:=by
 intro b cs hb
 unfold tellB at hb
 split at hb
 ·rename_i hlt
  obtain⟨c,el,fz,h1,h2,h3⟩:=hG b cs hb
  refine⟨b,0,Mp.startOf_low _ hlt,c,el,fz,h1,by omega,fun i v hv=>?_⟩
  obtain⟨h4,h5⟩:=h3 i v hv
  exact⟨v,by rw[Nat.zero_add];exact h4,.scal h5⟩
 ·rename_i hge
  have hm:=Mp.startOf_high plA (b - 4294967296)
  rw[show 4294967296+(b - 4294967296)=b from by omega] at hm
  obtain⟨r,s,hrs⟩ : ∃r s,plA (b - 4294967296)=(r,s):=⟨_,_,rfl⟩
  rw[hrs] at hm hb
  simp only at hb
  split at hb
  ·rename_i c el fz hh
   split at hb
   ·rename_i hs
    cases hb
    refine⟨r,s,hm,c,el,fz,hh,?_,fun i v hv=>?_⟩
    ·have:(tellRow W r s).length≤(c.toList.drop s).length:=by
      simp only[tellRow,hh,List.length_map]
      exact(List.takeWhile_sublist _).length_le
     rw[List.length_drop] at this
     have e:c.toList.length=c.size:=Array.length_toList
     have e2:(tellRow W r s).toArray.size=(tellRow W r s).length:=rfl
     simp only[Array.length_toList] at *
     omega
    ·simp only[tellRow,hh,List.getElem?_map,Option.map_eq_some_iff] at hv
     obtain⟨y,hy,rfl⟩:=hv
     obtain⟨h1,h2⟩:=takeWhile_get _ _ _ _ hy
     rw[List.getElem?_drop,Array.getElem?_toList] at h1
     exact⟨y,h1,trV_rel h2⟩
   ·cases hb
  ·cases hb
section
variable {H:Type} {enc:TypeId×Value→H} {P:Program} {W:World} {held:Bool}
theorem tell_slice {t e:TypeId} (ht:P.underlying t=some (.slice e)) {z:Nat} (hz:P.cellsOf e=z) (z0:0<z) {R:List Value→Prop}
  (elem : ∀(n:Nat) (cs:List Value) (x:DataW H×List MemPlace),DataW.trod enc P W 0 (fun _=>true) held n e cs=some x→R cs ∧ ∀y∈cs,tellable y=true) (G:Nat→Option (List Value))
  {fuel:Nat} {cs0:List Value} {x:DataW H×List MemPlace} (h:DataW.trod enc P W 0 (fun _=>true) held fuel t cs0=some x) :
  ∃(v:Value) (n:Nat) (cs:List Value),cs0 = [v]∧tellable v=true∧n≤maxLen∧SlOf (IH.start (tellB G W)) z (trV v) n (cs.map trV) ∧ ∀i,i<n→R ((cs.drop (i*z)).take z):=by
 rcases open_slice ht h with⟨h1,_⟩|⟨a,len,capp,m,k,D,Pl,h1,_,hl,hcap,hm,_,hx⟩
 ·subst h1
  exact⟨_,0,[],rfl,rfl,Nat.zero_le _,SlOf.nil _ z0,fun i hi=>by omega⟩
 ·subst h1
  simp only[if_true] at hm
  subst hm
  rw[hz] at hx
  rcases Nat.eq_zero_or_pos len with rfl|h0
  ·refine⟨_,0,[],rfl,by simp[tellable],Nat.zero_le _,?_,fun i hi=>by omega⟩
   simp only[trV,if_true]
   exact⟨z0,by simp,.inr ⟨1,0,0,rfl,.inl ⟨rfl,rfl⟩⟩⟩
  ·have spot:a.spot=none:=by
    obtain⟨cs',h1,_⟩:=hx 0 (by omega)
    obtain⟨_,hlen,hc⟩:=World.cells?_some h1
    have:=hc 0 z0
    rw[List.getElem?_eq_getElem (by omega),Nat.zero_mul] at this
    unfold World.cell? at this
    simp only[Addr.add,if_true] at this
    split at this
    ·split at this
     ·cases this
     ·rename_i h3;simpa using h3
    ·cases this
   have hadd : ∀j,a.add j=⟨a.block,a.off+j,none⟩:=fun j=>by
    unfold Addr.add
    split
    ·rename_i h0;subst h0;rw[←spot];rfl
    ·rfl
   have key : ∀i,i<len → ∃cs':List Value,cs'.length=z∧(∀j,j<z→W.cell? ⟨a.block,a.off+(i*z+j),none⟩=cs'[j]?)∧R cs' ∧ ∀y∈cs',tellable y=true:=by
    intro i hi
    obtain⟨cs',h1,h2⟩:=hx i (by omega)
    obtain⟨_,hlen,hc⟩:=World.cells?_some h1
    obtain⟨h4,h5⟩:=elem k cs' _ h2
    refine⟨cs',hlen,fun j hj=>?_,h4,h5⟩
    have h3:=hc j hj
    rw[add_add,hadd] at h3
    exact h3
   obtain⟨c,el,fz,hh⟩ : ∃c el fz,W.heap[a.block]?=some (.cells c el fz):=by
    obtain⟨cs',hl0,h1,_⟩:=key 0 h0
    have:=h1 0 z0
    rw[List.getElem?_eq_getElem (by omega)] at this
    unfold World.cell? at this
    split at this
    ·rename_i c el fz hh;exact⟨c,el,fz,hh⟩
    ·cases this
   have cell : ∀j,W.cell? ⟨a.block,j,none⟩=c[j]?:=fun j=>by
    unfold World.cell?
    rw[hh]
    simp
   have hsz:a.off+len*z≤c.size:=by
    obtain⟨cs',hl0,h1,_⟩:=key (len - 1) (by omega)
    have:=h1 (z - 1) (by omega)
    rw[cell,List.getElem?_eq_getElem (by omega)] at this
    have:=(Array.getElem?_eq_some_iff.1 this).1
    have e:(len - 1)*z+z=len*z:=by rw[←Nat.succ_mul];congr 1;omega
    omega
   have hat : ∀j,j<len*z → ∃y,c[a.off+j]?=some y∧tellable y=true:=by
    intro j hj
    have hi:j / z<len:=(Nat.div_lt_iff_lt_mul z0).2 hj
    have hr:j % z<z:=Nat.mod_lt _ z0
    have hjz:j / z*z+j % z=j:=by rw[Nat.mul_comm];exact Nat.div_add_mod j z
    obtain⟨cs',hl0,h1,_,h5⟩:=key (j / z) hi
    have:=h1 (j % z) hr
    rw[hjz,cell,List.getElem?_eq_getElem (by omega)] at this
    exact⟨_,this,h5 _ (List.getElem_mem _)⟩
   have hall : ∀y∈(c.toList.drop a.off).take (len*z),tellable y=true:=by
    intro y hy
    obtain⟨j,hj⟩:=List.mem_iff_getElem?.1 hy
    rw[List.getElem?_take] at hj
    split at hj
    ·rename_i hjl
     rw[List.getElem?_drop,Array.getElem?_toList] at hj
     obtain⟨y',h1,h2⟩:=hat j hjl
     rw[hj] at h1;cases h1;exact h2
    ·cases hj
   have hdl:len*z≤(c.toList.drop a.off).length:=by rw[List.length_drop,Array.length_toList];omega
   obtain⟨tw1,tw2⟩:=takeWhile_take tellable _ _ hdl hall
   refine⟨_,len,(c.toList.drop a.off).take (len*z),rfl,?_,by omega,?_,fun i hi=>?_⟩
   ·simp[tellable,spot,hl]
   ·simp only[trV,if_neg (by omega : ¬len=0)]
    have hpos:0<len*z:=Nat.mul_pos h0 z0
    refine⟨z0,by simp[List.length_take];rw[List.length_drop,Array.length_toList] at hdl;omega,.inr ⟨2*(4294967296+plNo a.block a.off)+1,0,_,rfl,.inr ⟨by omega,by omega,tellRow W a.block a.off,.inl ⟨by omega,by omega⟩,?_,?_,?_⟩⟩⟩
    ·have e1:((2*(4294967296+plNo a.block a.off)+1) % 2 == 1)=true:=by simp
     have e2:(2*(4294967296+plNo a.block a.off)+1) / 2=4294967296+plNo a.block a.off:=by omega
     simp only[IH.row,e1,cond_true,e2,IH.start,tellB]
     rw[if_neg (by omega),show 4294967296+plNo a.block a.off - 4294967296=plNo a.block a.off from by omega,plA_no]
     simp only[hh]
     rw[if_pos (by omega)]
    ·rw[List.drop_zero]
     simp only[tellRow,hh]
     rw[←List.map_take,tw1]
    ·simp only[tellRow,hh,List.length_map]
     omega
   ·have hlz:i*z+z≤len*z:=by
     rw[←Nat.succ_mul];exact Nat.mul_le_mul_right _ hi
    obtain⟨cs',hl0,h1,h4,_⟩:=key i hi
    have:(((c.toList.drop a.off).take (len*z)).drop (i*z)).take z=cs':=by
     apply List.ext_getElem?
     intro j
     rw[List.getElem?_take]
     by_cases hj:j<z
     ·rw[if_pos hj,List.getElem?_drop,List.getElem?_take,if_pos (by omega),List.getElem?_drop,Array.getElem?_toList,←cell,h1 j hj]
     ·rw[if_neg hj,List.getElem?_eq_none (by omega)]
    rw[this]
    exact h4
end
end Go.Id

namespace Go.Proofs.YtnanhedgenokpaaGreat
open Go.ChangeShapes Go.WideShapes Go.ChangeAt Go.RowKit Go.Id
theorem Tryz.own:ownKnob Tryz.prog.godebug=none:=by kernel_rfl
theorem Tryz.laidOut:laidOutB Tryz.prog=true:=by kernel_rfl
theorem Tryz.mapsOut:mapsRowed Tryz.prog=true:=by kernel_rfl
theorem Tryz.kids:Kids Tryz.prog (· < Tryz.prog.types.size):=kids_rows Tryz.laidOut Tryz.mapsOut
theorem Tryz.slices:((List.range Tryz.prog.types.size).all fun t=>match Tryz.prog.underlying t with
 | some (.slice e)=>decide (0<Tryz.prog.cellsOf e)
 | _=>true)=true:=by kernel_rfl
theorem Tryz.pos {t e:TypeId} (h:t<Tryz.prog.types.size) (hu:Tryz.prog.underlying t=some (.slice e)):0<Tryz.prog.cellsOf e:=by
 have:=List.all_eq_true.1 Tryz.slices t (by simpa using h)
 rw[hu] at this
 simpa using this
theorem Tryz.sound:Sound (E0 Tryz.prog):=sound0 (by kernel_rfl) (by kernel_rfl)
end Go.Proofs.YtnanhedgenokpaaGreat
