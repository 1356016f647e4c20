/-
  Weakest preconditions over the ideal machine, fifth part: slices as lists
-/
import Derived.Test.YtnnmjocmapilaaaGreatOutlierValidAl
set_option linter.unusedVariables false
set_option linter.unusedSimpArgs false
set_option linter.defProp false
set_option linter.deprecated false
namespace Go.Id
open Go
structure aJ (h h':IH):Prop where
 n:h.n≤h'.n
 base:h'.base=h.base
 get : ∀k c e f,k<h.n→h.ext.get k=some (.cells c e f)→e≠0 → ∃f',h'.ext.get k=some (.cells c e f')
structure Grow (h h':IH):Prop where
 n:h.n≤h'.n
 base:h'.base=h.base
 get : ∀k,k<h.n→h'.ext.get k=h.ext.get k ∨ ∃c e f f',e≠0∧h.ext.get k=some (.cells c e f)∧h'.ext.get k=some (.cells c e f')
theorem Ext.grow {h h':IH} (e:Ext h h'):Grow h h':=⟨e.n,e.base,fun k hk=>.inl (e.get k hk)⟩
theorem Grow.aa {h h':IH} (g:Grow h h'):aJ h h':=⟨g.n,g.base,fun k c e f hk hg he=>by
 rcases g.get k hk with h1|⟨c1,e1,f1,f2,h0,h1,h2⟩
 ·exact⟨f,by rw[h1,hg]⟩
 ·rw[hg] at h1;cases h1;exact⟨f2,h2⟩⟩
theorem Ext.aa {h h':IH} (e:Ext h h'):aJ h h':=e.grow.aa
theorem aJ.refl (h:IH):aJ h h:=(Ext.refl h).aa
theorem aJ.trans {a b c:IH} (x:aJ a b) (y:aJ b c):aJ a c:=⟨Nat.le_trans x.n y.n,y.base.trans x.base,fun k cs e f hk hg he=>by
 obtain⟨f1,h1⟩:=x.get k cs e f hk hg he
 exact y.get k cs e f1 (Nat.lt_of_lt_of_le hk x.n) h1 he⟩
theorem Grow.refl (h:IH):Grow h h:=(Ext.refl h).grow
theorem Grow.trans {a b c:IH} (x:Grow a b) (y:Grow b c):Grow a c:=⟨Nat.le_trans x.n y.n,y.base.trans x.base,fun k hk=>by
 have hk2:=Nat.lt_of_lt_of_le hk x.n
 rcases x.get k hk with h1|⟨c1,e1,f1,f2,h0,h1,h2⟩
 ·rcases y.get k hk2 with h3|⟨c3,e3,f3,f4,h5,h6,h7⟩
  ·exact .inl (h3.trans h1)
  ·exact .inr ⟨c3,e3,f3,f4,h5,by rw[←h1];exact h6,h7⟩
 ·rcases y.get k hk2 with h3|⟨c3,e3,f3,f4,h5,h6,h7⟩
  ·exact .inr ⟨c1,e1,f1,f2,h0,h1,by rw[h3,h2]⟩
  ·rw[h2] at h6;cases h6;exact .inr ⟨c1,e1,f1,f4,h0,h1,h7⟩⟩
theorem Grow.new {a b:IH} (g:Grow a b) (o:bz):Grow a (b.new o):=g.trans ((Ext.refl b).new o).grow
theorem aJ.new {a b:IH} (g:aJ a b) (o:bz):aJ a (b.new o):=g.trans ((Ext.refl b).new o).aa
theorem aJ.put {a b:IH} (g:aJ a b) {k:Nat} {cs:List Value} {f:Option Nat} (hk:b.ext.get k=some (.cells cs 0 f)) (o:bz):aJ a (b.put k o):=⟨g.n,g.base,fun j c e f1 hj hg he=>by
 obtain⟨f2,h2⟩:=g.get j c e f1 hj hg he
 refine⟨f2,?_⟩
 rw[iF,if_neg]
 ·exact h2
 ·rintro rfl;rw[hk] at h2;cases h2;exact he rfl⟩
theorem Grow.box {a b:IH} (g:Grow a b) {k:Nat} (hk:k<a.n) {o:bz} (ho:a.ext.get k=some o) (hne : ∀c e f,o=.cells c e f→e=0):b.ext.get k=some o:=by
 rcases g.get k hk with h1|⟨c1,e1,f1,f2,h0,h1,h2⟩
 ·rw[h1,ho]
 ·rw[ho] at h1;cases h1;exact absurd (hne _ _ _ rfl) h0
theorem Grow.var {a b:IH} (g:Grow a b) {k:Nat} (hk:k<a.n) {cs:List Value} {f:Option Nat} (ho:a.ext.get k=some (.cells cs 0 f)):b.ext.get k=some (.cells cs 0 f):=g.box hk ho fun c e f h=>by cases h;rfl
theorem aJ.row {a b:IH} (g:aJ a b) {x:Nat} {row:List Value} (hx:x % 2=1∨(x<2*a.n ∧ ∃e f,e≠0∧a.ext.get (x / 2)=some (.cells row e f))) (hr:a.row x=some row):b.row x=some row:=by
 rcases hx with hx|⟨hx,e,f,he,hg⟩
 ·rw[←hr];simp[IH.row,hx,g.base]
 ·obtain⟨f',h2⟩:=g.get (x / 2) row e f (by omega) hg he
  simp only[IH.row,cond_eq_ite,beq_iff_eq] at hr ⊢
  split
  ·rename_i h1;rw[if_pos h1] at hr;rw[g.base];exact hr
  ·rw[h2]
def bJ (h:IH) (sz:Nat) (v:Value) (n:Nat) (cs:List Value):Prop :=
 0<sz∧cs.length=n*sz∧((v=.slice none 0 0∧n=0) ∨ ∃b o k,v=.slice (some ⟨b,o,none⟩) n k∧((n=0∧k=0) ∨
  (0<k∧n≤k / 2 ∧ ∃row,((b % 2=1∧k % 2=1)∨(b % 2=0∧b<2*h.n ∧ ∃f,h.ext.get (b / 2)=some (.cells row sz f)))∧h.row b=some row∧(row.drop o).take (n*sz)=cs∧o+n*sz≤row.length)))
def aM (v:Value) (c:Nat):Value:=match v with
 | .slice (some ⟨b,o,none⟩) _ _=>ptr b (o+c)
 | _=>undef
theorem bJ.aa {h h':IH} {sz:Nat} {v:Value} {n:Nat} {cs:List Value} (s:bJ h sz v n cs) (e:aJ h h'):bJ h' sz v n cs:=by
 obtain⟨hz,hl,s|⟨b,o,k,rfl,s⟩⟩:=s
 ·exact⟨hz,hl,.inl s⟩
 ·refine⟨hz,hl,.inr ⟨b,o,k,rfl,s.imp id fun⟨a1,a2,row,a3,h1,h2,h3⟩=>?_⟩⟩
  rcases a3 with a3|⟨a4,a5,f,a6⟩
  ·exact⟨a1,a2,row,.inl a3,e.row (.inl a3.1) h1,h2,h3⟩
  ·obtain⟨f',h4⟩:=e.get (b / 2) row sz f (by omega) a6 (by omega)
   exact⟨a1,a2,row,.inr ⟨a4,by have:=e.n;omega,f',h4⟩,e.row (.inr ⟨a5,sz,f,by omega,a6⟩) h1,h2,h3⟩
theorem bJ.ext {h h':IH} {sz:Nat} {v:Value} {n:Nat} {cs:List Value} (s:bJ h sz v n cs) (e:Ext h h'):bJ h' sz v n cs:=s.aa e.aa
theorem bJ.nil (h:IH) {sz:Nat} (hz:0<sz):bJ h sz (.slice none 0 0) 0 []:=⟨hz,by simp,.inl ⟨rfl,rfl⟩⟩
theorem bJ.form {h:IH} {sz:Nat} {v:Value} {n:Nat} {cs:List Value} (s:bJ h sz v n cs) : ∃a k,v=.slice a n k:=by
 obtain⟨hz,hl,⟨rfl,rfl⟩|⟨b,o,k,rfl,s⟩⟩:=s
 ·exact⟨_,_,rfl⟩
 ·exact⟨_,_,rfl⟩
theorem bJ.len {h:IH} {sz:Nat} {v:Value} {n:Nat} {cs:List Value} (s:bJ h sz v n cs) {P:Program} {t:TypeId} (hT:bZ P (some t)=true) (h':IH):nB P h' t v=some (.int .i64 n):=by
 obtain⟨a,k,rfl⟩:=s.form
 exact tG hT _ _ _ _
theorem bJ.cells {h:IH} {sz:Nat} {v:Value} {n:Nat} {cs:List Value} (s:bJ h sz v n cs):v.cells = #[v]:=by
 obtain⟨a,k,rfl⟩:=s.form;rfl
theorem bJ.cok {h:IH} {sz:Nat} {v:Value} {n:Nat} {cs:List Value} (s:bJ h sz v n cs):aA v=true:=by
 obtain⟨a,k,rfl⟩:=s.form;rfl
theorem bJ.idx {h:IH} {sz:Nat} {v:Value} {n:Nat} {cs:List Value} (s:bJ h sz v n cs) {P:Program} {t:TypeId} (hT:dX P t=some sz) {k:IntKind} {j:Nat} (hj:j<n):indexAddr P t v (.int k j)=some (aM v (j*sz)):=by
 obtain⟨hz,hl,⟨rfl,rfl⟩|⟨b,o,k,rfl,s⟩⟩:=s
 ·omega
 ·rw[kM,hT];simp[aM,wC hj]
theorem bJ.Zc {h:IH} {sz:Nat} {v:Value} {n:Nat} {cs:List Value} (s:bJ h sz v n cs) {P:Program} {t:TypeId} (hT:dX P t=some sz) {k:IntKind} {i:Int} (h0:0≤i) (hj:i<n):indexAddr P t v (.int k i)=some (aM v (i.toNat*sz)):=by
 obtain⟨j,rfl⟩:=Int.eq_ofNat_of_zero_le h0
 exact s.idx hT (by omega)
theorem bJ.ld {h h':IH} {sz:Nat} {v:Value} {n:Nat} {cs:List Value} (s:bJ h sz v n cs) (e:aJ h h') {c:Nat} (hc:c<cs.length) {P:Program} {t:TypeId} (hT:bj P t=some false):load P h' t (aM v c)=cs[c]?:=by
 obtain⟨hz,hl,⟨rfl,rfl⟩|⟨b,o,k,rfl,s'⟩⟩:=s.aa e
 ·simp at hl;simp[hl] at hc
 ·obtain⟨rfl,_⟩|⟨a1,a2,row,a3,h1,h2,h3⟩:=s'
  ·simp at hl;simp[hl] at hc
  ·rw[aM,cp hT,Vj h1,←h2,List.getElem?_take]
   rw[if_pos (by omega),List.getElem?_drop]
theorem bJ.Cb {h h':IH} {sz:Nat} {v:Value} {n:Nat} {cs:List Value} (s:bJ h sz v n cs) (e:aJ h h') {c m:Nat} (hc:c+m≤cs.length) (hm:0<m) {P:Program} {t:TypeId} (hT:bj P t=some true) (hS:aK P t=some m) :
  load P h' t (aM v c)=some (.agg ((cs.drop c).take m).toArray):=by
 obtain⟨hz,hl,⟨rfl,rfl⟩|⟨b,o,k,rfl,s'⟩⟩:=s.aa e
 ·simp at hl;simp[hl] at hc;omega
 ·obtain⟨rfl,_⟩|⟨a1,a2,row,a3,h1,h2,h3⟩:=s'
  ·simp at hl;simp[hl] at hc;omega
  ·rw[aM,eP hT hS,xn h1,if_pos (by omega),←h2]
   simp only[Option.map_some,List.drop_take,List.take_take,List.drop_drop]
   rw[Nat.min_eq_left (by omega)]
theorem bJ.slice {h h':IH} {sz:Nat} {v:Value} {n:Nat} {cs:List Value} (s:bJ h sz v n cs) (kp:aJ h h') {P:Program} {t:TypeId} {e:TypeId} (hu:P.underlying t=some (.slice e)) (hT:aK P e=some sz) {l m:Nat} (hl:l≤m) (hm:m≤n) {lo hi:Option Value} (hlo:GD lo m=some l) (hhi : ∀c,n≤c→QS hi n c=some m) :
  ∃v',cJ P h' t v lo hi none=some v'∧bJ h sz v' (m - l) ((cs.drop (l*sz)).take ((m - l)*sz)):=by
 obtain⟨hz,hlen,⟨rfl,rfl⟩|⟨b,o,k,rfl,s⟩⟩:=s
 ·obtain rfl:m=0:=by omega
  obtain rfl:l=0:=by omega
  refine⟨.slice none 0 0,?_,hz,by simp,.inl ⟨rfl,rfl⟩⟩
  have:=hhi 0 (Nat.le_refl _)
  simp[cJ,hu,hT,de,fD,this,hlo]
 ·obtain⟨rfl,rfl⟩|⟨a1,a2,row,a3,h1,h2,h3⟩:=s
  ·obtain rfl:m=0:=by omega
   obtain rfl:l=0:=by omega
   have:=hhi 0 (Nat.le_refl _)
   refine⟨.slice (some ⟨b,o,none⟩) 0 0,?_,hz,by simp,.inr ⟨b,o,0,rfl,.inl ⟨rfl,rfl⟩⟩⟩
   simp[cJ,hu,hT,de,fD,this,hlo]
  ·have hh:=hhi (k / 2) a2
   have hk0:(k == 0)=false:=by simp;omega
   have Cf:(k % 2 == 1 || roomy h' sz (.slice (some ⟨b,o,none⟩) n k))=true:=by
    rcases a3 with a3|⟨a4,a5,f,a6⟩
    ·simp[a3.2]
    ·obtain⟨f',h4⟩:=kp.get (b / 2) row sz f (by omega) a6 (by omega)
     simp[roomy,a4,h4]
   by_cases hlk:l=k / 2
   ·have hml:m=l:=by omega
    subst hml
    have T0:(m == k / 2)=true:=by simpa using hlk
    rcases Nat.mod_two_eq_zero_or_one k with hk|hk
    ·refine⟨.slice (some ⟨b,o,none⟩) 0 0,?_,hz,by simp,.inr ⟨b,o,0,by simp,.inl ⟨by omega,rfl⟩⟩⟩
     have hk':(k % 2 == 1)=false:=by simp[hk]
     simp only[cJ,hu,hT,de,fD,hh,hlo,hk0,T0,hk',cond_true,cond_false]
    ·refine⟨.slice (some ⟨b,o,none⟩) 0 1,?_,hz,by simp,.inr ⟨b,o,1,by simp,.inr ⟨by omega,by omega,row,a3.imp (fun x=>⟨x.1,rfl⟩) id,h1,by simp,by simp;omega⟩⟩⟩
     have hk':(k % 2 == 1)=true:=by simp[hk]
     simp only[cJ,hu,hT,de,fD,hh,hlo,hk0,T0,hk',cond_true,cond_false]
   ·have T0:(l == k / 2)=false:=by simpa using hlk
    have hls:l*sz+(m - l)*sz=m*sz:=by rw[←Nat.add_mul];congr 1;omega
    have hmn:m*sz≤n*sz:=Nat.mul_le_mul_right _ hm
    refine⟨.slice (some ⟨b,o+l*sz,none⟩) (m - l) (k - 2*l),?_,hz,?_,.inr ⟨b,o+l*sz,k - 2*l,rfl,.inr ⟨by omega,by omega,row,?_,h1,?_,by omega⟩⟩⟩
    ·simp only[cJ,hu,hT,de,fD,hh,hlo,hk0,T0,Cf,cond_true,cond_false]
    ·rw[List.length_take,List.length_drop];omega
    ·rcases a3 with a3|a3
     ·exact .inl ⟨a3.1,by omega⟩
     ·exact .inr a3
    ·rw[←h2,List.drop_take,List.take_take,List.drop_drop,Nat.min_eq_left (by omega)]
theorem lI {k:IntKind} {l m:Nat} (h:l≤m):iC (.int k (l:Int)) m=some l:=by
 show(bif Nat.ble l m then some l else none)=_
 rw[show Nat.ble l m=true from by rw[Nat.ble_eq];exact h];rfl
@[simp] theorem VH {h:IH} {sz:Nat} {v:Value} {n:Nat} {cs:List Value} (s:bJ h sz v n cs) {c:Nat} (hc:c<cs.length) : ∃b o,aM v c=ptr b (o+c) ∧ ∀d,aM v d=ptr b (o+d):=by
 obtain⟨hz,hl,⟨rfl,rfl⟩|⟨b,o,k,rfl,s⟩⟩:=s
 ·simp at hl;simp[hl] at hc
 ·exact⟨b,o,rfl,fun _=>rfl⟩
def Sn (h:IH) (n0 k:Nat):Option Nat→Prop
 | none=>True
 | some f=>n0≤f∧f<h.n ∧ ∃rest,h.bT.get f=some (k :: rest) ∧ ∀j∈rest,n0≤j∧j<h.n
def Acc (h:IH) (n0 sz:Nat) (v:Value) (n:Nat) (cs:List Value):Prop :=
 0<sz∧cs.length=n*sz∧((v=.slice none 0 0∧n=0) ∨ ∃k fam,v=.slice (some ⟨2*k,0,none⟩) n (2*n)∧0<n∧n0≤k∧k<h.n∧h.ext.get k=some (.cells cs sz fam)∧Sn h n0 k fam)
theorem Acc.nil (h:IH) (n0:Nat) {sz:Nat} (hz:0<sz):Acc h n0 sz (.slice none 0 0) 0 []:=⟨hz,by simp,.inl ⟨rfl,rfl⟩⟩
theorem Acc.sl {h:IH} {n0 sz:Nat} {v:Value} {n:Nat} {cs:List Value} (a:Acc h n0 sz v n cs):bJ h sz v n cs:=by
 obtain⟨hz,hl,a|⟨k,fam,rfl,hn,h1,h2,h3,h4⟩⟩:=a
 ·exact⟨hz,hl,.inl a⟩
 ·refine⟨hz,hl,.inr ⟨2*k,0,2*n,rfl,.inr ⟨by omega,by omega,cs,.inr ⟨by omega,by omega,fam,?_⟩,?_,?_,by omega⟩⟩⟩
  ·rw[show 2*k / 2=k from by omega,h3]
  ·rw[jl];simp[IH.cells,h3]
  ·rw[List.drop_zero,List.take_of_length_le (by omega)]
theorem Acc.ext {h h':IH} {n0 sz:Nat} {v:Value} {n:Nat} {cs:List Value} (a:Acc h n0 sz v n cs) (e:Ext h h'):Acc h' n0 sz v n cs:=by
 obtain⟨hz,hl,a|⟨k,fam,rfl,hn,h1,h2,h3,h4⟩⟩:=a
 ·exact⟨hz,hl,.inl a⟩
 ·refine⟨hz,hl,.inr ⟨k,fam,rfl,hn,h1,by have:=e.n;omega,by rw[e.get k h2];exact h3,?_⟩⟩
  cases fam with
  | none=>trivial
  | some f =>
   obtain⟨a1,a2,rest,a3,a4⟩:=h4
   exact⟨a1,by have:=e.n;omega,rest,by rw[e.bT f a2];exact a3,fun j hj=>⟨(a4 j hj).1,Nat.lt_of_lt_of_le (a4 j hj).2 e.n⟩⟩
theorem Acc.put {h:IH} {n0 sz:Nat} {v:Value} {n:Nat} {cs:List Value} (a:Acc h n0 sz v n cs) {k:Nat} {c:List Value} {f:Option Nat} (hk:h.ext.get k=some (.cells c 0 f)) (o:bz):Acc (h.put k o) n0 sz v n cs:=by
 obtain⟨hz,hl,a|⟨j,fam,rfl,hn,h1,h2,h3,h4⟩⟩:=a
 ·exact⟨hz,hl,.inl a⟩
 ·refine⟨hz,hl,.inr ⟨j,fam,rfl,hn,h1,h2,?_,?_⟩⟩
  ·rw[iF,if_neg]
   ·exact h3
   ·rintro rfl;rw[hk] at h3;cases h3;omega
  ·cases fam with
   | none=>trivial
   | some f=>exact h4
theorem Acc.app {h:IH} {n0 sz:Nat} {v:Value} {n:Nat} {cs:List Value} (a:Acc h n0 sz v n cs) {P:Program} {t:TypeId} {bytes:Nat} (hT:kG P t=some (sz,bytes)) {x:Value} {m:Nat} {new:List Value} (sx:bJ h sz x m new) (hm:0<m)
  (hc:new.all aA=true) (hsz:(n+m)*(bytes+1)≤aN) (h0:n0≤h.n) {h0':IH} (e0:Ext h0' h) (hn0:h0'.n≤n0) :
  ∃v' h',append P h t v x=some (v',h')∧Acc h' n0 sz v' (n+m) (cs ++ new)∧Grow h h'∧h'.n=h.n+1∧Ext h0' h':=by
 unfold kG at hT
 split at hT
 case h_2=>cases hT
 rename_i e hu
 split at hT
 case h_2=>cases hT
 rename_i zs h1 h2 h3
 simp only[cond_eq_ite] at hT
 split at hT
 case isTrue=>cases hT
 rename_i Jc
 cases hT
 have og:(sz == 0 || (!(Nat.ble bytes 65536) || !(zs.length == sz)))=false:=by simpa using Jc
 have WL:0<sz:=by
  simp at og;omega
 obtain⟨_,hln,hx⟩:=sx
 have Aa:(m == 0)=false:=by simp;omega
 have hx' : ∃b o k row,x=.slice (some ⟨b,o,none⟩) m k∧h.row b=some row∧(row.drop o).take (m*sz)=new∧o+m*sz≤row.length:=by
  rcases hx with⟨rfl,rfl⟩|⟨b,o,k,rfl,⟨rfl,_⟩|⟨_,_,row,_,a1,a2,a3⟩⟩
  ·omega
  ·omega
  ·exact⟨b,o,k,row,rfl,a1,a2,a3⟩
 obtain⟨b,o,k,row,rfl,a1,a2,a3⟩:=hx'
 have hms : ¬m*sz=0:=by
  have:0<m*sz:=Nat.mul_pos hm WL
  omega
 have ml:bL h sz m (.slice (some ⟨b,o,none⟩) m k)=some new:=by
  simp only[bL,cond_eq_ite,Nat.ble_eq,Nat.le_refl,if_true,beq_iff_eq,if_neg hms]
  rw[xn a1,if_pos a3,a2]
 have wD:Nat.ble ((n+m)*(bytes+1)) aN=true:=by rw[Nat.ble_eq];exact hsz
 obtain⟨hz,hl,⟨rfl,rfl⟩|⟨kk,fam,rfl,hn,g1,g2,g3,g4⟩⟩:=a
 ·-- from nothing
  have hcs:cs = []:=List.length_eq_zero_iff.1 (by omega)
  subst hcs
  refine⟨.slice (some ⟨2*h.n,0,none⟩) m (2*m),h.new (.cells new sz none),?_,⟨hz,by simp;exact hln,.inr ⟨h.n,none,by simp,by omega,h0,by simp,by simp[lu],trivial⟩⟩,(Grow.refl h).new _,rfl,e0.new _⟩
  have QY:Nat.ble (m*(bytes+1)) aN=true:=by simpa using wD
  simp only[Id.append,hu,h1,h2,h3,lenOf,Aa,og,ml,hc,QY,cond_true,cond_false,Bool.not_true,BEq.rfl,Bool.and_self]
 ·have od:Nat.ble (n+m) (2*n / 2)=false:=by
   rw[Bool.eq_false_iff];intro hh;rw[Nat.ble_eq] at hh;omega
  have nW:(2*n % 2 == 1)=false:=by simp
  have hlen:(n == 2*n / 2 && Nat.blt 0 n && (2*kk) % 2 == 0)=true:=by
   have:2*n / 2=n:=by omega
   simp[this,Nat.blt,Nat.ble_eq];omega
  have vc:(0+n*sz == cs.length && sz == sz)=true:=by simp[hl]
  have hk2:2*kk / 2=kk:=by omega
  have body : ∀f below,(∀j∈below,n0≤j∧j<h.n)→(n0≤f)→f<h.n+1 →
    Acc (grown h kk f cs sz [] below (cs.drop 0 ++ new) sz) n0 sz (.slice (some ⟨2*h.n,0,none⟩) (n+m) (2*(n+m))) (n+m) (cs ++ new) ∧
    Grow h (grown h kk f cs sz [] below (cs.drop 0 ++ new) sz)∧Ext h0' (grown h kk f cs sz [] below (cs.drop 0 ++ new) sz):=by
   intro f below hbl hf1 hf2
   have cC : ∀j,(grown h kk f cs sz [] below (cs.drop 0 ++ new) sz).ext.get j=if j=h.n then some (.cells (cs ++ new) sz (some f)) else if j=kk then some (.cells cs sz (some f)) else h.ext.get j:=by
    intro j
    simp[grown,IH.dJ,Tr.bK]
   refine⟨⟨hz,by simp[hl,hln,Nat.add_mul],.inr ⟨h.n,some f,rfl,by omega,h0,by simp[grown],by rw[cC,if_pos rfl],hf1,by simp[grown];omega,kk :: below,?_,fun j hj=>by rcases List.mem_cons.1 hj with rfl|hj;exact⟨g1,by simp[grown];omega⟩;exact⟨(hbl j hj).1,by have:=(hbl j hj).2;simp[grown];omega⟩⟩⟩,⟨by simp[grown],rfl,fun j hj=>?_⟩,?_⟩
   ·simp[grown,Tr.bK]
   ·rw[cC,if_neg (by omega)]
    by_cases hjk:j=kk
    ·subst hjk
     exact .inr ⟨cs,sz,fam,some f,by omega,g3,by rw[if_pos rfl]⟩
    ·rw[if_neg hjk];exact .inl rfl
   ·refine⟨by have:=e0.n;simp[grown];omega,e0.base,fun j hj=>?_,fun g hg=>?_⟩
    ·rw[cC,if_neg (by omega),if_neg (by omega)];exact e0.get j hj
    ·simp only[grown,Tr.bK]
     rw[if_neg (by omega)];exact e0.bT g hg
  cases fam with
  | none =>
   obtain⟨b1,b2,b3⟩:=body h.n [] (fun _ h=>by cases h) h0 (by omega)
   refine⟨_,_,?_,b1,b2,rfl,b3⟩
   simp only[Id.append,hu,h1,h2,h3,lenOf,Aa,og,ml,hc,wD,od,nW,hlen,hk2,g3,vc,cond_true,cond_false,Bool.not_true]
  | some f =>
   obtain⟨f1,f2,rest,f3,f4⟩:=g4
   obtain⟨b1,b2,b3⟩:=body f rest f4 f1 (by omega)
   refine⟨_,_,?_,b1,b2,rfl,b3⟩
   have t1:(kk :: rest).takeWhile (· != kk) = []:=by simp
   have t2:((kk :: rest).dropWhile (· != kk)).drop 1=rest:=by simp
   simp only[Id.append,hu,h1,h2,h3,lenOf,Aa,og,ml,hc,wD,od,nW,hlen,hk2,g3,vc,f3,t1,t2,cond_true,cond_false,Bool.not_true]
abbrev K64 (n:Nat):Value:=.int .u64 (n:Int)
abbrev KI (n:Int):Value:=.int .i64 n
theorem fF {w:Nat} {a:Nat} (h:a<2 ^ w):(BitVec.ofInt w (a:Int)).toNat=a:=by
 simp[Nat.mod_eq_of_lt h]
theorem bv_and {w a b:Nat} (ha:a<2 ^ w) (hb:b<2 ^ w):(BitVec.ofInt w (a:Int) &&& BitVec.ofInt w (b:Int)).toNat=a &&& b:=by
 rw[BitVec.toNat_and,fF ha,fF hb]
theorem VA {w a b:Nat} (ha:a<2 ^ w) (hb:b<2 ^ w):(BitVec.ofInt w (a:Int) ||| BitVec.ofInt w (b:Int)).toNat=a ||| b:=by
 rw[BitVec.toNat_or,fF ha,fF hb]
theorem Xy {w a b:Nat} (ha:a<2 ^ w) (hb:b<2 ^ w):(BitVec.ofInt w (a:Int) ^^^ BitVec.ofInt w (b:Int)).toNat=a ^^^ b:=by
 rw[BitVec.toNat_xor,fF ha,fF hb]
theorem Xz {w a b:Nat} (ha:a<2 ^ w) (hb:b<2 ^ w):(BitVec.ofInt w (a:Int) &&& ~~~BitVec.ofInt w (b:Int)).toNat=Ny a b:=by
 apply Nat.eq_of_testBit_eq
 intro i
 rw[Db,BitVec.toNat_and,Nat.testBit_and,fF ha,BitVec.testBit_toNat,BitVec.getLsbD_not,←BitVec.testBit_toNat,fF hb]
 by_cases hi:i<w
 ·simp[hi]
 ·rw[Nat.testBit_lt_two_pow (Nat.lt_of_lt_of_le ha (Nat.pow_le_pow_right (by omega) (by omega)))];simp
section
variable (P:Program) (t:TypeId) (ox oy:Operand) {a b:Int}
theorem R8 (ha:0≤a∧a<18446744073709551616) (hb:0≤b∧b<18446744073709551616):binop P .and t ox oy (.int .u64 a) (.int .u64 b)=some (.int .u64 ((a.toNat &&& b.toNat:Nat):Int)):=by
 obtain⟨m,rfl⟩:=Int.eq_ofNat_of_zero_le ha.1;obtain⟨n,rfl⟩:=Int.eq_ofNat_of_zero_le hb.1
 have h1:m<2 ^ 64:=by omega
 rw[ke,show(BitVec.ofInt IntKind.u64.bits (m:Int) &&& BitVec.ofInt IntKind.u64.bits (n:Int)).toNat=m &&& n from bv_and (w:=64) h1 (by omega),dH (JM h1)];rfl
theorem VE (ha:0≤a∧a<18446744073709551616) (hb:0≤b∧b<18446744073709551616):binop P .or t ox oy (.int .u64 a) (.int .u64 b)=some (.int .u64 ((a.toNat ||| b.toNat:Nat):Int)):=by
 obtain⟨m,rfl⟩:=Int.eq_ofNat_of_zero_le ha.1;obtain⟨n,rfl⟩:=Int.eq_ofNat_of_zero_le hb.1
 have h1:m<2 ^ 64:=by omega
 rw[pB,show(BitVec.ofInt IntKind.u64.bits (m:Int) ||| BitVec.ofInt IntKind.u64.bits (n:Int)).toNat=m ||| n from VA (w:=64) h1 (by omega),dH (Qb h1 (by omega))];rfl
theorem RX (ha:0≤a∧a<18446744073709551616) (hb:0≤b∧b<18446744073709551616):binop P .xor t ox oy (.int .u64 a) (.int .u64 b)=some (.int .u64 ((a.toNat ^^^ b.toNat:Nat):Int)):=by
 obtain⟨m,rfl⟩:=Int.eq_ofNat_of_zero_le ha.1;obtain⟨n,rfl⟩:=Int.eq_ofNat_of_zero_le hb.1
 have h1:m<2 ^ 64:=by omega
 rw[sW,show(BitVec.ofInt IntKind.u64.bits (m:Int) ^^^ BitVec.ofInt IntKind.u64.bits (n:Int)).toNat=m ^^^ n from Xy (w:=64) h1 (by omega),dH (Nat.xor_lt_two_pow h1 (by omega))];rfl
theorem R7 (ha:0≤a∧a<18446744073709551616) (hb:0≤b∧b<18446744073709551616):binop P .andNot t ox oy (.int .u64 a) (.int .u64 b)=some (.int .u64 ((Ny a.toNat b.toNat:Nat):Int)):=by
 obtain⟨m,rfl⟩:=Int.eq_ofNat_of_zero_le ha.1;obtain⟨n,rfl⟩:=Int.eq_ofNat_of_zero_le hb.1
 have h1:m<2 ^ 64:=by omega
 rw[w5,show(BitVec.ofInt IntKind.u64.bits (m:Int) &&& ~~~BitVec.ofInt IntKind.u64.bits (n:Int)).toNat=Ny m n from Xz (w:=64) h1 (by omega),dH (Tz h1)];rfl
theorem R9 (ha:0≤a∧a<9223372036854775808) (hb:0≤b∧b<9223372036854775808):binop P .and t ox oy (.int .i64 a) (.int .i64 b)=some (.int .i64 ((a.toNat &&& b.toNat:Nat):Int)):=by
 obtain⟨m,rfl⟩:=Int.eq_ofNat_of_zero_le ha.1;obtain⟨n,rfl⟩:=Int.eq_ofNat_of_zero_le hb.1
 have h1:m<2 ^ 63:=by omega
 rw[ke,show(BitVec.ofInt IntKind.i64.bits (m:Int) &&& BitVec.ofInt IntKind.i64.bits (n:Int)).toNat=m &&& n from bv_and (w:=64) (by omega) (by omega),kW (JM h1)];rfl
theorem VF (ha:0≤a∧a<9223372036854775808) (hb:0≤b∧b<9223372036854775808):binop P .or t ox oy (.int .i64 a) (.int .i64 b)=some (.int .i64 ((a.toNat ||| b.toNat:Nat):Int)):=by
 obtain⟨m,rfl⟩:=Int.eq_ofNat_of_zero_le ha.1;obtain⟨n,rfl⟩:=Int.eq_ofNat_of_zero_le hb.1
 have h1:m<2 ^ 63:=by omega
 rw[pB,show(BitVec.ofInt IntKind.i64.bits (m:Int) ||| BitVec.ofInt IntKind.i64.bits (n:Int)).toNat=m ||| n from VA (w:=64) (by omega) (by omega),kW (Qb h1 (by omega))];rfl
theorem Ho (ha:0<a∧a<9223372036854775808):binop P .and t ox oy (.int .i64 a) (.int .i64 (-a))=some (.int .i64 ((2 ^ 64 - a.toNat &&& a.toNat:Nat):Int)):=by
 obtain⟨m,rfl⟩:=Int.eq_ofNat_of_zero_le (Int.le_of_lt ha.1)
 have h1:m<2 ^ 63:=by omega
 have h2:BitVec.ofInt 64 (-(m:Int))=BitVec.ofInt 64 ((2 ^ 64 - m:Nat):Int):=by
  apply BitVec.eq_of_toNat_eq
  rw[BitVec.toNat_ofInt,BitVec.toNat_ofInt]
  congr 1
  omega
 rw[ke,show(BitVec.ofInt IntKind.i64.bits (m:Int) &&& BitVec.ofInt IntKind.i64.bits (-(m:Int))).toNat=2 ^ 64 - m &&& m from by
  show(BitVec.ofInt 64 (m:Int) &&& BitVec.ofInt 64 (-(m:Int))).toNat=_
  rw[h2,bv_and (by omega) (by omega),Nat.and_comm],kW (Nat.lt_of_le_of_lt Nat.and_le_right h1)];rfl
theorem GV (m n:Nat) (k:Nat) (h:m<2 ^ k):Int.fdiv (m:Int) (2 ^ min n k)=((m >>> n:Nat):Int):=by
 have e:(2:Int) ^ min n k=((2 ^ min n k:Nat):Int):=by simp
 rw[e,Int.fdiv_eq_ediv_of_nonneg _ (Int.natCast_nonneg _),←Int.natCast_ediv,Nat.shiftRight_eq_div_pow]
 by_cases hn:n≤k
 ·rw[Nat.min_eq_left hn]
 ·rw[Nat.min_eq_right (by omega),Nat.div_eq_of_lt h,Nat.div_eq_of_lt (Nat.lt_of_lt_of_le h (Nat.pow_le_pow_right (by omega) (by omega)))]
def mB (a n:Nat):Nat:=a >>> n
theorem Tx (a n:Nat):mB a n≤a:=Nat.shiftRight_le a n
theorem UY {j:IntKind} (ha:0≤a∧a<18446744073709551616) (hb:0≤b):binop P .shr t ox oy (.int .u64 a) (.int j b)=some (.int .u64 ((mB a.toNat b.toNat:Nat):Int)):=by
 obtain⟨m,rfl⟩:=Int.eq_ofNat_of_zero_le ha.1;obtain⟨n,rfl⟩:=Int.eq_ofNat_of_zero_le hb
 rw[wP P t ox oy (by omega)]
 show some (Value.int .u64 (Int.fdiv (m:Int) (2 ^ min n 64)))=_
 rw[GV m n 64 (by omega)];rfl
theorem UZ {j:IntKind} (ha:0≤a∧a<9223372036854775808) (hb:0≤b):binop P .shr t ox oy (.int .i64 a) (.int j b)=some (.int .i64 ((mB a.toNat b.toNat:Nat):Int)):=by
 obtain⟨m,rfl⟩:=Int.eq_ofNat_of_zero_le ha.1;obtain⟨n,rfl⟩:=Int.eq_ofNat_of_zero_le hb
 rw[wP P t ox oy (by omega)]
 show some (Value.int .i64 (Int.fdiv (m:Int) (2 ^ min n 64)))=_
 rw[GV m n 64 (by omega)];rfl
theorem Pv {j:IntKind} (hb:0≤b∧b<64):binop P .shl t ox oy (.int .u64 1) (.int j b)=some (.int .u64 ((2 ^ b.toNat:Nat):Int)):=by
 obtain⟨n,rfl⟩:=Int.eq_ofNat_of_zero_le hb.1
 rw[ov P t ox oy (by omega)]
 show some (Value.int .u64 (IntKind.u64.wrap (1*2 ^ min n 64)))=_
 rw[Nat.min_eq_left (by omega),Int.one_mul,show(2:Int) ^ n=((2 ^ n:Nat):Int) from by simp,dH (Nat.pow_lt_pow_right (by omega) (by omega))];rfl
theorem Pw {j:IntKind} (hb:0≤b∧b<63):binop P .shl t ox oy (.int .i64 1) (.int j b)=some (.int .i64 ((2 ^ b.toNat:Nat):Int)):=by
 obtain⟨n,rfl⟩:=Int.eq_ofNat_of_zero_le hb.1
 rw[ov P t ox oy (by omega)]
 show some (Value.int .i64 (IntKind.i64.wrap (1*2 ^ min n 64)))=_
 rw[Nat.min_eq_left (by omega),Int.one_mul,show(2:Int) ^ n=((2 ^ n:Nat):Int) from by simp,kW (Nat.pow_lt_pow_right (by omega) (by omega))];rfl
theorem U5 (ha:0≤a∧a<9223372036854775808) (hb:0<b):binop P .quo t ox oy (.int .i64 a) (.int .i64 b)=some (.int .i64 (a / b)):=by
 rw[wR P t ox oy (by omega),Int.tdiv_eq_ediv_of_nonneg ha.1]
 have h1:0≤a / b:=Int.ediv_nonneg ha.1 (by omega)
 have h2:a / b≤a:=Int.ediv_le_self _ ha.1
 rw[wrap_i64 (by omega)]
theorem U4 (ha:0≤a∧a<18446744073709551616) (hb:0<b):binop P .quo t ox oy (.int .u64 a) (.int .u64 b)=some (.int .u64 (a / b)):=by
 rw[wR P t ox oy (by omega),Int.tdiv_eq_ediv_of_nonneg ha.1]
 have h1:0≤a / b:=Int.ediv_nonneg ha.1 (by omega)
 have h2:a / b≤a:=Int.ediv_le_self _ ha.1
 rw[ua (by omega)]
theorem PQ {k:IntKind} (ha:0≤a) (hb:0<b):binop P .rem t ox oy (.int k a) (.int k b)=some (.int k (a % b)):=by
 rw[ow P t ox oy (by omega),Int.tmod_eq_emod_of_nonneg ha]
end
theorem U2 (h:IH) (b o n:Nat):h.rd b o n=(h.row b).bind fun cs=>if o+n≤cs.length then some ((cs.drop o).take n) else none:=by
 cases hr:h.row b with
 | none=>simp[IH.rd,hr]
 | some cs=>rw[xn hr];rfl
end Go.Id
