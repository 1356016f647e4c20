/-
  Weakest preconditions over the ideal machine, fifth part: slices as lists
-/
import Derived.Test.YtnnmjocmapilaaaGreatOutlierRisesAh
import Derived.OpenShut
import Derived.ChangeStays
import Derived.ChangeSame
import Derived.Deep.Slices
set_option linter.unusedVariables false
set_option linter.unusedSimpArgs false
set_option linter.defProp false
set_option linter.deprecated false
namespace Go.Id
open Go
structure aK (h h':IH):Prop where
 n:h.n≤h'.n
 base:h'.base=h.base
 get : ∀k c e f,k<h.n→h.ext.get k=some (.cells c e f)→e≠0 → ∃f',h'.ext.get k=some (.cells c e f')
structure Grow (h h':IH):Prop where
 n:h.n≤h'.n
 base:h'.base=h.base
 get : ∀k,k<h.n→h'.ext.get k=h.ext.get k ∨ ∃c e f f',e≠0∧h.ext.get k=some (.cells c e f)∧h'.ext.get k=some (.cells c e f')
variable {h h':IH}
def Ext.grow (e:Ext h h'):Grow h h':=⟨e.n,e.base,fun k hk=>.inl (e.get k hk)⟩
def Grow.aa (g:Grow h h'):aK h h':=⟨g.n,g.base,fun k c e f hk hg he=>by
 rcases g.get k hk with h1|⟨c1,e1,f1,f2,h0,h1,h2⟩
 ·exact⟨f,by rw[h1,hg]⟩
 ·rw[hg] at h1;cases h1;exact⟨f2,h2⟩⟩
def Ext.aa (e:Ext h h'):aK h h':=e.grow.aa
theorem aK.refl (h:IH):aK h h:=(Ext.refl h).aa
variable {a b:IH}
def aK.trans {c:IH} (x:aK a b) (y:aK b c):aK a c:=⟨Nat.le_trans x.n y.n,y.base.trans x.base,fun k cs e f hk hg he=>by
 obtain⟨f1,h1⟩:=x.get k cs e f hk hg he
 exact y.get k cs e f1 (Nat.lt_of_lt_of_le hk x.n) h1 he⟩
def Grow.refl (h:IH):Grow h h:=(Ext.refl h).grow
def Grow.trans {c:IH} (x:Grow a b) (y:Grow b c):Grow a c:=⟨Nat.le_trans x.n y.n,y.base.trans x.base,fun k hk=>by
 have hk2:=Nat.lt_of_lt_of_le hk x.n
 rcases x.get k hk with h1|⟨c1,e1,f1,f2,h0,h1,h2⟩
 ·rcases y.get k hk2 with h3|⟨c3,e3,f3,f4,h5,h6,h7⟩
  ·exact .inl (h3.trans h1)
  ·exact .inr ⟨c3,e3,f3,f4,h5,by rw[←h1];exact h6,h7⟩
 ·rcases y.get k hk2 with h3|⟨c3,e3,f3,f4,h5,h6,h7⟩
  ·exact .inr ⟨c1,e1,f1,f2,h0,h1,by rw[h3,h2]⟩
  ·rw[h2] at h6;cases h6;exact .inr ⟨c1,e1,f1,f4,h0,h1,h7⟩⟩
def Grow.new (g:Grow a b) (o:bI):Grow a (b.new o):=g.trans ((Ext.refl b).new o).grow
def aK.new (g:aK a b) (o:bI):aK a (b.new o):=g.trans ((Ext.refl b).new o).aa
variable {cs:List Value}{f:Option Nat}
def aK.put (g:aK a b) {k:Nat} (hk:b.ext.get k=some (.cells cs 0 f)) (o:bI):aK a (b.put k o):=⟨g.n,g.base,fun j c e f1 hj hg he=>by
 obtain⟨f2,h2⟩:=g.get j c e f1 hj hg he
 refine⟨f2,?_⟩
 rw[iT,if_neg]
 ·exact h2
 ·rintro rfl;rw[hk] at h2;cases h2;exact he rfl⟩
def Grow.box (g:Grow a b) {k:Nat} (hk:k<a.n) {o:bI} (ho:a.ext.get k=some o) (hne : ∀c e f,o=.cells c e f→e=0):b.ext.get k=some o:=by
 rcases g.get k hk with h1|⟨c1,e1,f1,f2,h0,h1,h2⟩
 ·rw[h1,ho]
 ·rw[ho] at h1;cases h1;exact absurd (hne _ _ _ rfl) h0
def Grow.var (g:Grow a b) {k:Nat} (hk:k<a.n) (ho:a.ext.get k=some (.cells cs 0 f)):b.ext.get k=some (.cells cs 0 f):=g.box hk ho fun c e f h=>by cases h;rfl
def aK.row (g:aK a b) {x:Nat} {row:List Value} (hx:x % 2=1∨(x<2*a.n ∧ ∃e f,e≠0∧a.ext.get (x / 2)=some (.cells row e f))) (hr:a.row x=some row):b.row x=some row:=by
 rcases hx with hx|⟨hx,e,f,he,hg⟩
 ·rw[←hr];simp[IH.row,hx,g.base]
 ·obtain⟨f',h2⟩:=g.get (x / 2) row e f (by omega) hg he
  simp only[IH.row,cond_eq_ite,beq_iff_eq] at hr ⊢
  split
  ·rename_i h1;rw[if_pos h1] at hr;rw[g.base];exact hr
  ·rw[h2]
def bH (h:IH) (sz:Nat) (v:Value) (n:Nat) (cs:List Value):Prop :=
 0<sz∧cs.length=n*sz∧((v=.slice none 0 0∧n=0) ∨ ∃b o k,v=.slice (some ⟨b,o,none⟩) n k∧((n=0∧k=0) ∨
  (0<k∧n≤k / 2 ∧ ∃row,((b % 2=1∧k % 2=1)∨(b % 2=0∧b<2*h.n ∧ ∃f,h.ext.get (b / 2)=some (.cells row sz f)))∧h.row b=some row∧(row.drop o).take (n*sz)=cs∧o+n*sz≤row.length)))
def aP (v:Value) (c:Nat):Value:=match v with
 | .slice (some ⟨b,o,none⟩) _ _=>ptr b (o+c)
 | _=>undef
variable {v:Value}{sz n:Nat}
def bH.aa (s:bH h sz v n cs) (e:aK h h'):bH h' sz v n cs:=by
 obtain⟨hz,hl,s|⟨b,o,k,rfl,s⟩⟩:=s
 ·exact⟨hz,hl,.inl s⟩
 ·refine⟨hz,hl,.inr ⟨b,o,k,rfl,s.imp id fun⟨a1,a2,row,a3,h1,h2,h3⟩=>?_⟩⟩
  rcases a3 with a3|⟨a4,a5,f,a6⟩
  ·exact⟨a1,a2,row,.inl a3,e.row (.inl a3.1) h1,h2,h3⟩
  ·obtain⟨f',h4⟩:=e.get (b / 2) row sz f (by omega) a6 (by omega)
   exact⟨a1,a2,row,.inr ⟨a4,by have:=e.n;omega,f',h4⟩,e.row (.inr ⟨a5,sz,f,by omega,a6⟩) h1,h2,h3⟩
def bH.ext (s:bH h sz v n cs) (e:Ext h h'):bH h' sz v n cs:=s.aa e.aa
def bH.nil (h:IH) (hz:0<sz):bH h sz (.slice none 0 0) 0 []:=⟨hz,by simp,.inl ⟨rfl,rfl⟩⟩
def bH.form (s:bH h sz v n cs) : ∃a k,v=.slice a n k:=by
 obtain⟨hz,hl,⟨rfl,rfl⟩|⟨b,o,k,rfl,s⟩⟩:=s
 ·exact⟨_,_,rfl⟩
 ·exact⟨_,_,rfl⟩
variable {P:Program}{t:TypeId}
theorem bH.len (s:bH h sz v n cs) (hT:cj P (some t)=true) (h':IH):ot P h' t v=some (.int .i64 n):=by
 obtain⟨a,k,rfl⟩:=s.form
 exact uu hT _ _ _ _
def bH.cells (s:bH h sz v n cs):v.cells = #[v]:=by
 obtain⟨a,k,rfl⟩:=s.form;rfl
def bH.cok (s:bH h sz v n cs):aB v=true:=by
 obtain⟨a,k,rfl⟩:=s.form;rfl
variable {k:IntKind}
def bH.idx (s:bH h sz v n cs) (hT:eu P t=some sz) {j:Nat} (hj:j<n):indexAddr P t v (.int k j)=some (aP v (j*sz)):=by
 obtain⟨hz,hl,⟨rfl,rfl⟩|⟨b,o,k,rfl,s⟩⟩:=s
 ·omega
 ·rw[lk,hT];simp[aP,xi hj]
def bH.idxI (s:bH h sz v n cs) (hT:eu P t=some sz) {i:Int} (h0:0≤i) (hj:i<n):indexAddr P t v (.int k i)=some (aP v (i.toNat*sz)):=by
 obtain⟨j,rfl⟩:=Int.eq_ofNat_of_zero_le h0
 exact s.idx hT (by omega)
variable {c:Nat}
def bH.ld (s:bH h sz v n cs) (e:aK h h') (hc:c<cs.length) (hT:bh P t=some false):load P h' t (aP v c)=cs[c]?:=by
 obtain⟨hz,hl,⟨rfl,rfl⟩|⟨b,o,k,rfl,s'⟩⟩:=s.aa e
 ·simp at hl;simp[hl] at hc
 ·obtain⟨rfl,_⟩|⟨a1,a2,row,a3,h1,h2,h3⟩:=s'
  ·simp at hl;simp[hl] at hc
  ·rw[aP,cC hT,WM h1,←h2,List.getElem?_take]
   rw[if_pos (by omega),List.getElem?_drop]
variable {m:Nat}
def bH.C6 (s:bH h sz v n cs) (e:aK h h') (hc:c+m≤cs.length) (hm:0<m) (hT:bh P t=some true) (hS:aO P t=some m) :
  load P h' t (aP v c)=some (.agg ((cs.drop c).take m).toArray):=by
 obtain⟨hz,hl,⟨rfl,rfl⟩|⟨b,o,k,rfl,s'⟩⟩:=s.aa e
 ·simp at hl;simp[hl] at hc;omega
 ·obtain⟨rfl,_⟩|⟨a1,a2,row,a3,h1,h2,h3⟩:=s'
  ·simp at hl;simp[hl] at hc;omega
  ·rw[aP,fg hT hS,tH h1,if_pos (by omega),←h2]
   simp only[Option.map_some,List.drop_take,List.take_take,List.drop_drop]
   rw[Nat.min_eq_left (by omega)]
variable {l:Nat}
def bH.slice (s:bH h sz v n cs) (kp:aK h h') {e:TypeId} (hu:P.underlying t=some (.slice e)) (hT:aO P e=some sz) (hl:l≤m) (hm:m≤n) {lo hi:Option Value} (hlo:HT lo m=some l) (hhi : ∀c,n≤c→Sg hi n c=some m) :
  ∃v',cT P h' t v lo hi none=some v'∧bH h sz v' (m - l) ((cs.drop (l*sz)).take ((m - l)*sz)):=by
 obtain⟨hz,hlen,⟨rfl,rfl⟩|⟨b,o,k,rfl,s⟩⟩:=s
 ·obtain rfl:m=0:=by omega
  obtain rfl:l=0:=by omega
  refine⟨.slice none 0 0,?_,hz,by simp,.inl ⟨rfl,rfl⟩⟩
  have:=hhi 0 (Nat.le_refl _)
  simp[cT,hu,hT,dC,fL,this,hlo]
 ·obtain⟨rfl,rfl⟩|⟨a1,a2,row,a3,h1,h2,h3⟩:=s
  ·obtain rfl:m=0:=by omega
   obtain rfl:l=0:=by omega
   have:=hhi 0 (Nat.le_refl _)
   refine⟨.slice (some ⟨b,o,none⟩) 0 0,?_,hz,by simp,.inr ⟨b,o,0,rfl,.inl ⟨rfl,rfl⟩⟩⟩
   simp[cT,hu,hT,dC,fL,this,hlo]
  ·have hh:=hhi (k / 2) a2
   have hk0:(k == 0)=false:=by simp;omega
   have Da:(k % 2 == 1 || roomy h' sz (.slice (some ⟨b,o,none⟩) n k))=true:=by
    rcases a3 with a3|⟨a4,a5,f,a6⟩
    ·simp[a3.2]
    ·obtain⟨f',h4⟩:=kp.get (b / 2) row sz f (by omega) a6 (by omega)
     simp[roomy,a4,h4]
   by_cases hlk:l=k / 2
   ·have hml:m=l:=by omega
    subst hml
    have Vt:(m == k / 2)=true:=by simpa using hlk
    rcases Nat.mod_two_eq_zero_or_one k with hk|hk
    ·refine⟨.slice (some ⟨b,o,none⟩) 0 0,?_,hz,by simp,.inr ⟨b,o,0,by simp,.inl ⟨by omega,rfl⟩⟩⟩
     have hk':(k % 2 == 1)=false:=by simp[hk]
     simp only[cT,hu,hT,dC,fL,hh,hlo,hk0,Vt,hk',cond_true,cond_false]
    ·refine⟨.slice (some ⟨b,o,none⟩) 0 1,?_,hz,by simp,.inr ⟨b,o,1,by simp,.inr ⟨by omega,by omega,row,a3.imp (fun x=>⟨x.1,rfl⟩) id,h1,by simp,by simp;omega⟩⟩⟩
     have hk':(k % 2 == 1)=true:=by simp[hk]
     simp only[cT,hu,hT,dC,fL,hh,hlo,hk0,Vt,hk',cond_true,cond_false]
   ·have Vt:(l == k / 2)=false:=by simpa using hlk
    have hls:l*sz+(m - l)*sz=m*sz:=by rw[←Nat.add_mul];congr 1;omega
    have hmn:m*sz≤n*sz:=Nat.mul_le_mul_right _ hm
    refine⟨.slice (some ⟨b,o+l*sz,none⟩) (m - l) (k - 2*l),?_,hz,?_,.inr ⟨b,o+l*sz,k - 2*l,rfl,.inr ⟨by omega,by omega,row,?_,h1,?_,by omega⟩⟩⟩
    ·simp only[cT,hu,hT,dC,fL,hh,hlo,hk0,Vt,Da,cond_true,cond_false]
    ·rw[List.length_take,List.length_drop];omega
    ·rcases a3 with a3|a3
     ·exact .inl ⟨a3.1,by omega⟩
     ·exact .inr a3
    ·rw[←h2,List.drop_take,List.take_take,List.drop_drop,Nat.min_eq_left (by omega)]
def mi (h:l≤m):iQ (.int k (l:Int)) m=some l:=by
 show(bif Nat.ble l m then some l else none)=_
 rw[show Nat.ble l m=true from by rw[Nat.ble_eq];exact h];rfl
@[simp] theorem Xl {h:IH} {sz:Nat} {v:Value} {n:Nat} {cs:List Value} (s:bH h sz v n cs) {c:Nat} (hc:c<cs.length) : ∃b o,aP v c=ptr b (o+c) ∧ ∀d,aP v d=ptr b (o+d):=by
 obtain⟨hz,hl,⟨rfl,rfl⟩|⟨b,o,k,rfl,s⟩⟩:=s
 ·simp at hl;simp[hl] at hc
 ·exact⟨b,o,rfl,fun _=>rfl⟩
def K2 (h:IH) (n0 k:Nat):Option Nat→Prop
 | none=>True
 | some f=>n0≤f∧f<h.n ∧ ∃rest,h.bP.get f=some (k :: rest) ∧ ∀j∈rest,n0≤j∧j<h.n
def Acc (h:IH) (n0 sz:Nat) (v:Value) (n:Nat) (cs:List Value):Prop :=
 0<sz∧cs.length=n*sz∧((v=.slice none 0 0∧n=0) ∨ ∃k fam,v=.slice (some ⟨2*k,0,none⟩) n (2*n)∧0<n∧n0≤k∧k<h.n∧h.ext.get k=some (.cells cs sz fam)∧K2 h n0 k fam)
def Acc.nil (h:IH) (n0:Nat) (hz:0<sz):Acc h n0 sz (.slice none 0 0) 0 []:=⟨hz,by simp,.inl ⟨rfl,rfl⟩⟩
variable {n0:Nat}
def Acc.sl (a:Acc h n0 sz v n cs):bH h sz v n cs:=by
 obtain⟨hz,hl,a|⟨k,fam,rfl,hn,h1,h2,h3,h4⟩⟩:=a
 ·exact⟨hz,hl,.inl a⟩
 ·refine⟨hz,hl,.inr ⟨2*k,0,2*n,rfl,.inr ⟨by omega,by omega,cs,.inr ⟨by omega,by omega,fam,?_⟩,?_,?_,by omega⟩⟩⟩
  ·rw[show 2*k / 2=k from by omega,h3]
  ·rw[jD];simp[IH.cells,h3]
  ·rw[List.drop_zero,List.take_of_length_le (by omega)]
def Acc.ext (a:Acc h n0 sz v n cs) (e:Ext h h'):Acc h' n0 sz v n cs:=by
 obtain⟨hz,hl,a|⟨k,fam,rfl,hn,h1,h2,h3,h4⟩⟩:=a
 ·exact⟨hz,hl,.inl a⟩
 ·refine⟨hz,hl,.inr ⟨k,fam,rfl,hn,h1,by have:=e.n;omega,by rw[e.get k h2];exact h3,?_⟩⟩
  cases fam with
  | none=>trivial
  | some f =>
   obtain⟨a1,a2,rest,a3,a4⟩:=h4
   exact⟨a1,by have:=e.n;omega,rest,by rw[e.bP f a2];exact a3,fun j hj=>⟨(a4 j hj).1,Nat.lt_of_lt_of_le (a4 j hj).2 e.n⟩⟩
def Acc.put (a:Acc h n0 sz v n cs) {k:Nat} {c:List Value} (hk:h.ext.get k=some (.cells c 0 f)) (o:bI):Acc (h.put k o) n0 sz v n cs:=by
 obtain⟨hz,hl,a|⟨j,fam,rfl,hn,h1,h2,h3,h4⟩⟩:=a
 ·exact⟨hz,hl,.inl a⟩
 ·refine⟨hz,hl,.inr ⟨j,fam,rfl,hn,h1,h2,?_,?_⟩⟩
  ·rw[iT,if_neg]
   ·exact h3
   ·rintro rfl;rw[hk] at h3;cases h3;omega
  ·cases fam with
   | none=>trivial
   | some f=>exact h4
def Acc.app (a:Acc h n0 sz v n cs) {bytes:Nat} (hT:jh P t=some (sz,bytes)) {x:Value} {new:List Value} (sx:bH h sz x m new) (hm:0<m)
  (hc:new.all aB=true) (hsz:(n+m)*(bytes+1)≤aN) (h0:n0≤h.n) {h0':IH} (e0:Ext h0' h) (hn0:h0'.n≤n0) :
  ∃v' h',append P h t v x=some (v',h')∧Acc h' n0 sz v' (n+m) (cs ++ new)∧Grow h h'∧h'.n=h.n+1∧Ext h0' h':=by
 unfold jh at hT
 split at hT
 case h_2=>cases hT
 rename_i e hu
 split at hT
 case h_2=>cases hT
 rename_i zs h1 h2 h3
 simp only[cond_eq_ite] at hT
 split at hT
 case isTrue=>cases hT
 rename_i AV
 cases hT
 have jN:(sz == 0 || (!(Nat.ble bytes 65536) || !(zs.length == sz)))=false:=by simpa using AV
 have YC:0<sz:=by
  simp at jN;omega
 obtain⟨_,hln,hx⟩:=sx
 have tp:(m == 0)=false:=by simp;omega
 have hx' : ∃b o k row,x=.slice (some ⟨b,o,none⟩) m k∧h.row b=some row∧(row.drop o).take (m*sz)=new∧o+m*sz≤row.length:=by
  rcases hx with⟨rfl,rfl⟩|⟨b,o,k,rfl,⟨rfl,_⟩|⟨_,_,row,_,a1,a2,a3⟩⟩
  ·omega
  ·omega
  ·exact⟨b,o,k,row,rfl,a1,a2,a3⟩
 obtain⟨b,o,k,row,rfl,a1,a2,a3⟩:=hx'
 have hms : ¬m*sz=0:=by
  have:0<m*sz:=Nat.mul_pos hm YC
  omega
 have iF:bF h sz m (.slice (some ⟨b,o,none⟩) m k)=some new:=by
  simp only[bF,cond_eq_ite,Nat.ble_eq,Nat.le_refl,if_true,beq_iff_eq,if_neg hms]
  rw[tH a1,if_pos a3,a2]
 have qv:Nat.ble ((n+m)*(bytes+1)) aN=true:=by rw[Nat.ble_eq];exact hsz
 obtain⟨hz,hl,⟨rfl,rfl⟩|⟨kk,fam,rfl,hn,g1,g2,g3,g4⟩⟩:=a
 ·-- from nothing
  have hcs:cs = []:=List.length_eq_zero_iff.1 (by omega)
  subst hcs
  refine⟨.slice (some ⟨2*h.n,0,none⟩) m (2*m),h.new (.cells new sz none),?_,⟨hz,by simp;exact hln,.inr ⟨h.n,none,by simp,by omega,h0,by simp,by simp[lY],trivial⟩⟩,(Grow.refl h).new _,rfl,e0.new _⟩
  have Sk:Nat.ble (m*(bytes+1)) aN=true:=by simpa using qv
  simp only[Id.append,hu,h1,h2,h3,lenOf,tp,jN,iF,hc,Sk,cond_true,cond_false,Bool.not_true,BEq.rfl,Bool.and_self]
 ·have mQ:Nat.ble (n+m) (2*n / 2)=false:=by
   rw[Bool.eq_false_iff];intro hh;rw[Nat.ble_eq] at hh;omega
  have mP:(2*n % 2 == 1)=false:=by simp
  have hlen:(n == 2*n / 2 && Nat.blt 0 n && (2*kk) % 2 == 0)=true:=by
   have:2*n / 2=n:=by omega
   simp[this,Nat.blt,Nat.ble_eq];omega
  have rJ:(0+n*sz == cs.length && sz == sz)=true:=by simp[hl]
  have hk2:2*kk / 2=kk:=by omega
  have body : ∀f below,(∀j∈below,n0≤j∧j<h.n)→(n0≤f)→f<h.n+1 →
    Acc (grown h kk f cs sz [] below (cs.drop 0 ++ new) sz) n0 sz (.slice (some ⟨2*h.n,0,none⟩) (n+m) (2*(n+m))) (n+m) (cs ++ new) ∧
    Grow h (grown h kk f cs sz [] below (cs.drop 0 ++ new) sz)∧Ext h0' (grown h kk f cs sz [] below (cs.drop 0 ++ new) sz):=by
   intro f below hbl hf1 hf2
   have cD : ∀j,(grown h kk f cs sz [] below (cs.drop 0 ++ new) sz).ext.get j=if j=h.n then some (.cells (cs ++ new) sz (some f)) else if j=kk then some (.cells cs sz (some f)) else h.ext.get j:=by
    intro j
    simp[grown,IH.dJ,Tr.bL]
   refine⟨⟨hz,by simp[hl,hln,Nat.add_mul],.inr ⟨h.n,some f,rfl,by omega,h0,by simp[grown],by rw[cD,if_pos rfl],hf1,by simp[grown];omega,kk :: below,?_,fun j hj=>by rcases List.mem_cons.1 hj with rfl|hj;exact⟨g1,by simp[grown];omega⟩;exact⟨(hbl j hj).1,by have:=(hbl j hj).2;simp[grown];omega⟩⟩⟩,⟨by simp[grown],rfl,fun j hj=>?_⟩,?_⟩
   ·simp[grown,Tr.bL]
   ·rw[cD,if_neg (by omega)]
    by_cases hjk:j=kk
    ·subst hjk
     exact .inr ⟨cs,sz,fam,some f,by omega,g3,by rw[if_pos rfl]⟩
    ·rw[if_neg hjk];exact .inl rfl
   ·refine⟨by have:=e0.n;simp[grown];omega,e0.base,fun j hj=>?_,fun g hg=>?_⟩
    ·rw[cD,if_neg (by omega),if_neg (by omega)];exact e0.get j hj
    ·simp only[grown,Tr.bL]
     rw[if_neg (by omega)];exact e0.bP g hg
  cases fam with
  | none =>
   obtain⟨b1,b2,b3⟩:=body h.n [] (fun _ h=>by cases h) h0 (by omega)
   refine⟨_,_,?_,b1,b2,rfl,b3⟩
   simp only[Id.append,hu,h1,h2,h3,lenOf,tp,jN,iF,hc,qv,mQ,mP,hlen,hk2,g3,rJ,cond_true,cond_false,Bool.not_true]
  | some f =>
   obtain⟨f1,f2,rest,f3,f4⟩:=g4
   obtain⟨b1,b2,b3⟩:=body f rest f4 f1 (by omega)
   refine⟨_,_,?_,b1,b2,rfl,b3⟩
   have t1:(kk :: rest).takeWhile (· != kk) = []:=by simp
   have t2:((kk :: rest).dropWhile (· != kk)).drop 1=rest:=by simp
   simp only[Id.append,hu,h1,h2,h3,lenOf,tp,jN,iF,hc,qv,mQ,mP,hlen,hk2,g3,rJ,f3,t1,t2,cond_true,cond_false,Bool.not_true]
abbrev K64 (n:Nat):Value:=.int .u64 (n:Int)
abbrev KI (n:Int):Value:=.int .i64 n
variable {a w:Nat}
theorem fM (h:a<2 ^ w):(BitVec.ofInt w (a:Int)).toNat=a:=by
 simp[Nat.mod_eq_of_lt h]
variable {b:Nat}
theorem bv_and (ha:a<2 ^ w) (hb:b<2 ^ w):(BitVec.ofInt w (a:Int) &&& BitVec.ofInt w (b:Int)).toNat=a &&& b:=by
 rw[BitVec.toNat_and,fM ha,fM hb]
theorem W7 (ha:a<2 ^ w) (hb:b<2 ^ w):(BitVec.ofInt w (a:Int) ||| BitVec.ofInt w (b:Int)).toNat=a ||| b:=by
 rw[BitVec.toNat_or,fM ha,fM hb]
theorem Zu (ha:a<2 ^ w) (hb:b<2 ^ w):(BitVec.ofInt w (a:Int) ^^^ BitVec.ofInt w (b:Int)).toNat=a ^^^ b:=by
 rw[BitVec.toNat_xor,fM ha,fM hb]
theorem Zv (ha:a<2 ^ w) (hb:b<2 ^ w):(BitVec.ofInt w (a:Int) &&& ~~~BitVec.ofInt w (b:Int)).toNat=OU a b:=by
 apply Nat.eq_of_testBit_eq
 intro i
 rw[D9,BitVec.toNat_and,Nat.testBit_and,fM ha,BitVec.testBit_toNat,BitVec.getLsbD_not,←BitVec.testBit_toNat,fM hb]
 by_cases hi:i<w
 ·simp[hi]
 ·rw[Nat.testBit_lt_two_pow (Nat.lt_of_lt_of_le ha (Nat.pow_le_pow_right (by omega) (by omega)))];simp
section
variable (P:Program) (t:TypeId) (ox oy:Operand) {a b:Int}
def TA (ha:0≤a∧a<18446744073709551616) (hb:0≤b∧b<18446744073709551616):binop P .and t ox oy (.int .u64 a) (.int .u64 b)=some (.int .u64 ((a.toNat &&& b.toNat:Nat):Int)):=by
 obtain⟨m,rfl⟩:=Int.eq_ofNat_of_zero_le ha.1;obtain⟨n,rfl⟩:=Int.eq_ofNat_of_zero_le hb.1
 have h1:m<2 ^ 64:=by omega
 rw[kN,show(BitVec.ofInt IntKind.u64.bits (m:Int) &&& BitVec.ofInt IntKind.u64.bits (n:Int)).toNat=m &&& n from bv_and (w:=64) h1 (by omega),dQ (KY h1)];rfl
def Xi (ha:0≤a∧a<18446744073709551616) (hb:0≤b∧b<18446744073709551616):binop P .or t ox oy (.int .u64 a) (.int .u64 b)=some (.int .u64 ((a.toNat ||| b.toNat:Nat):Int)):=by
 obtain⟨m,rfl⟩:=Int.eq_ofNat_of_zero_le ha.1;obtain⟨n,rfl⟩:=Int.eq_ofNat_of_zero_le hb.1
 have h1:m<2 ^ 64:=by omega
 rw[pZ,show(BitVec.ofInt IntKind.u64.bits (m:Int) ||| BitVec.ofInt IntKind.u64.bits (n:Int)).toNat=m ||| n from W7 (w:=64) h1 (by omega),dQ (Rr h1 (by omega))];rfl
def Tq (ha:0≤a∧a<18446744073709551616) (hb:0≤b∧b<18446744073709551616):binop P .xor t ox oy (.int .u64 a) (.int .u64 b)=some (.int .u64 ((a.toNat ^^^ b.toNat:Nat):Int)):=by
 obtain⟨m,rfl⟩:=Int.eq_ofNat_of_zero_le ha.1;obtain⟨n,rfl⟩:=Int.eq_ofNat_of_zero_le hb.1
 have h1:m<2 ^ 64:=by omega
 rw[tR,show(BitVec.ofInt IntKind.u64.bits (m:Int) ^^^ BitVec.ofInt IntKind.u64.bits (n:Int)).toNat=m ^^^ n from Zu (w:=64) h1 (by omega),dQ (Nat.xor_lt_two_pow h1 (by omega))];rfl
def Tz (ha:0≤a∧a<18446744073709551616) (hb:0≤b∧b<18446744073709551616):binop P .andNot t ox oy (.int .u64 a) (.int .u64 b)=some (.int .u64 ((OU a.toNat b.toNat:Nat):Int)):=by
 obtain⟨m,rfl⟩:=Int.eq_ofNat_of_zero_le ha.1;obtain⟨n,rfl⟩:=Int.eq_ofNat_of_zero_le hb.1
 have h1:m<2 ^ 64:=by omega
 rw[xI,show(BitVec.ofInt IntKind.u64.bits (m:Int) &&& ~~~BitVec.ofInt IntKind.u64.bits (n:Int)).toNat=OU m n from Zv (w:=64) h1 (by omega),dQ (U1 h1)];rfl
def TB (ha:0≤a∧a<9223372036854775808) (hb:0≤b∧b<9223372036854775808):binop P .and t ox oy (.int .i64 a) (.int .i64 b)=some (.int .i64 ((a.toNat &&& b.toNat:Nat):Int)):=by
 obtain⟨m,rfl⟩:=Int.eq_ofNat_of_zero_le ha.1;obtain⟨n,rfl⟩:=Int.eq_ofNat_of_zero_le hb.1
 have h1:m<2 ^ 63:=by omega
 rw[kN,show(BitVec.ofInt IntKind.i64.bits (m:Int) &&& BitVec.ofInt IntKind.i64.bits (n:Int)).toNat=m &&& n from bv_and (w:=64) (by omega) (by omega),lJ (KY h1)];rfl
def Xj (ha:0≤a∧a<9223372036854775808) (hb:0≤b∧b<9223372036854775808):binop P .or t ox oy (.int .i64 a) (.int .i64 b)=some (.int .i64 ((a.toNat ||| b.toNat:Nat):Int)):=by
 obtain⟨m,rfl⟩:=Int.eq_ofNat_of_zero_le ha.1;obtain⟨n,rfl⟩:=Int.eq_ofNat_of_zero_le hb.1
 have h1:m<2 ^ 63:=by omega
 rw[pZ,show(BitVec.ofInt IntKind.i64.bits (m:Int) ||| BitVec.ofInt IntKind.i64.bits (n:Int)).toNat=m ||| n from W7 (w:=64) (by omega) (by omega),lJ (Rr h1 (by omega))];rfl
def IK (ha:0<a∧a<9223372036854775808):binop P .and t ox oy (.int .i64 a) (.int .i64 (-a))=some (.int .i64 ((2 ^ 64 - a.toNat &&& a.toNat:Nat):Int)):=by
 obtain⟨m,rfl⟩:=Int.eq_ofNat_of_zero_le (Int.le_of_lt ha.1)
 have h1:m<2 ^ 63:=by omega
 have h2:BitVec.ofInt 64 (-(m:Int))=BitVec.ofInt 64 ((2 ^ 64 - m:Nat):Int):=by
  apply BitVec.eq_of_toNat_eq
  rw[BitVec.toNat_ofInt,BitVec.toNat_ofInt]
  congr 1
  omega
 rw[kN,show(BitVec.ofInt IntKind.i64.bits (m:Int) &&& BitVec.ofInt IntKind.i64.bits (-(m:Int))).toNat=2 ^ 64 - m &&& m from by
  show(BitVec.ofInt 64 (m:Int) &&& BitVec.ofInt 64 (-(m:Int))).toNat=_
  rw[h2,bv_and (by omega) (by omega),Nat.and_comm],lJ (Nat.lt_of_le_of_lt Nat.and_le_right h1)];rfl
theorem Ij (m n:Nat) (k:Nat) (h:m<2 ^ k):Int.fdiv (m:Int) (2 ^ min n k)=((m >>> n:Nat):Int):=by
 have e:(2:Int) ^ min n k=((2 ^ min n k:Nat):Int):=by simp
 rw[e,Int.fdiv_eq_ediv_of_nonneg _ (Int.natCast_nonneg _),←Int.natCast_ediv,Nat.shiftRight_eq_div_pow]
 by_cases hn:n≤k
 ·rw[Nat.min_eq_left hn]
 ·rw[Nat.min_eq_right (by omega),Nat.div_eq_of_lt h,Nat.div_eq_of_lt (Nat.lt_of_lt_of_le h (Nat.pow_le_pow_right (by omega) (by omega)))]
def m8 (a n:Nat):Nat:=a >>> n
def UZ (a n:Nat):m8 a n≤a:=Nat.shiftRight_le a n
def Wm {j:IntKind} (ha:0≤a∧a<18446744073709551616) (hb:0≤b):binop P .shr t ox oy (.int .u64 a) (.int j b)=some (.int .u64 ((m8 a.toNat b.toNat:Nat):Int)):=by
 obtain⟨m,rfl⟩:=Int.eq_ofNat_of_zero_le ha.1;obtain⟨n,rfl⟩:=Int.eq_ofNat_of_zero_le hb
 rw[xw P t ox oy (by omega)]
 show some (Value.int .u64 (Int.fdiv (m:Int) (2 ^ min n 64)))=_
 rw[Ij m n 64 (by omega)];rfl
def Wn {j:IntKind} (ha:0≤a∧a<9223372036854775808) (hb:0≤b):binop P .shr t ox oy (.int .i64 a) (.int j b)=some (.int .i64 ((m8 a.toNat b.toNat:Nat):Int)):=by
 obtain⟨m,rfl⟩:=Int.eq_ofNat_of_zero_le ha.1;obtain⟨n,rfl⟩:=Int.eq_ofNat_of_zero_le hb
 rw[xw P t ox oy (by omega)]
 show some (Value.int .i64 (Int.fdiv (m:Int) (2 ^ min n 64)))=_
 rw[Ij m n 64 (by omega)];rfl
def QL {j:IntKind} (hb:0≤b∧b<64):binop P .shl t ox oy (.int .u64 1) (.int j b)=some (.int .u64 ((2 ^ b.toNat:Nat):Int)):=by
 obtain⟨n,rfl⟩:=Int.eq_ofNat_of_zero_le hb.1
 rw[oZ P t ox oy (by omega)]
 show some (Value.int .u64 (IntKind.u64.wrap (1*2 ^ min n 64)))=_
 rw[Nat.min_eq_left (by omega),Int.one_mul,show(2:Int) ^ n=((2 ^ n:Nat):Int) from by simp,dQ (Nat.pow_lt_pow_right (by omega) (by omega))];rfl
def QM {j:IntKind} (hb:0≤b∧b<63):binop P .shl t ox oy (.int .i64 1) (.int j b)=some (.int .i64 ((2 ^ b.toNat:Nat):Int)):=by
 obtain⟨n,rfl⟩:=Int.eq_ofNat_of_zero_le hb.1
 rw[oZ P t ox oy (by omega)]
 show some (Value.int .i64 (IntKind.i64.wrap (1*2 ^ min n 64)))=_
 rw[Nat.min_eq_left (by omega),Int.one_mul,show(2:Int) ^ n=((2 ^ n:Nat):Int) from by simp,lJ (Nat.pow_lt_pow_right (by omega) (by omega))];rfl
def Ww (ha:0≤a∧a<9223372036854775808) (hb:0<b):binop P .quo t ox oy (.int .i64 a) (.int .i64 b)=some (.int .i64 (a / b)):=by
 rw[xy P t ox oy (by omega),Int.tdiv_eq_ediv_of_nonneg ha.1]
 have h1:0≤a / b:=Int.ediv_nonneg ha.1 (by omega)
 have h2:a / b≤a:=Int.ediv_le_self _ ha.1
 rw[wrap_i64 (by omega)]
def Wv (ha:0≤a∧a<18446744073709551616) (hb:0<b):binop P .quo t ox oy (.int .u64 a) (.int .u64 b)=some (.int .u64 (a / b)):=by
 rw[xy P t ox oy (by omega),Int.tdiv_eq_ediv_of_nonneg ha.1]
 have h1:0≤a / b:=Int.ediv_nonneg ha.1 (by omega)
 have h2:a / b≤a:=Int.ediv_le_self _ ha.1
 rw[uK (by omega)]
def Q4 {k:IntKind} (ha:0≤a) (hb:0<b):binop P .rem t ox oy (.int k a) (.int k b)=some (.int k (a % b)):=by
 rw[kh P t ox oy (by omega),Int.tmod_eq_emod_of_nonneg ha]
end
def Wq (h:IH) (b o n:Nat):h.rd b o n=(h.row b).bind fun cs=>if o+n≤cs.length then some ((cs.drop o).take n) else none:=by
 cases hr:h.row b with
 | none=>simp[IH.rd,hr]
 | some cs=>rw[tH hr];rfl
def Nx {α:Type} (_:α):Type:=Unit
def nx {α:Type} {a:α}:Nx a:=()
def Do {κ:Type} (m:κ→Prop) (K:κ) (_:Nx K):Prop:=m K
def Bq (b:Bool) (pq:Prop×Prop) (_:Nx pq):Prop:=Br b pq.1 pq.2
def W2 {α:Type} (v:α) (K:α→Prop) (u:Nx K):Do (Ex (some v)) K u=K v:=FZ v K
def Dt {α β:Type} (o:Option α) (f:α→β) (K:β→Prop) (u:Nx K):Do (Ex (o.map f)) K u=Do (Ex o) (fun v=>K (f v)) nx:=ZS o f K
def Bj {α β:Type} (o:Option α) (f:α→Option β) (K:β→Prop) (u:Nx K):Do (Ex (o.bind f)) K u=Do (Ex o) (fun v=>Do (Ex (f v)) K nx) nx:=VY o f K
def Im {α:Type} (c:Prop) [Decidable c] (v:Option α) (hc:c) (K:α→Prop) (u:Nx K):Do (Ex (if c then v else none)) K u=Do (Ex v) K nx:=by rw[if_pos hc];rfl
def FN (p q:Prop) (u:Nx (p,q)):Bq true (p,q) u=p:=V0 p q
def BF (p q:Prop) (u:Nx (p,q)):Bq false (p,q) u=q:=TS p q
def au {b:Bool} {p q:Prop} (h1:b=true→p) (h2:b=false→q):Bq b (p,q) nx:=Br.intro h1 h2
def HH:Value→Option Value
 | .pointer (some a)=>some (.pointer (some a))
 | .func (.func f) xs ys=>some (.func (.func f) xs ys)
 | .func (.yield f) xs ys=>some (.func (.yield f) xs ys)
 | .map r=>some (.map r)
 | _=>none
def HF (b o:Nat):HH (ptr b o)=some (ptr b o):=rfl
def CS (f:FuncId) (xs ys:Array Value):HH (.func (.func f) xs ys)=some (.func (.func f) xs ys):=rfl
def HG (r:Option Nat):HH (.map r)=some (.map r):=rfl
section
variable (P:Program) (fr:Fr) (h:IH) (K:Value→IH→Prop) (u:Nx K)
def SV (x:Operand):Do (wpOp P (.move x) fr h) K u=Do (Ex (opd fr x)) (fun v=>K v h) nx:=rfl
def It (x:Operand):Do (wpOp P (.assign x) fr h) K u=Do (Ex (opd fr x)) (fun v=>K v h) nx:=rfl
def Nn (t:TypeId):Do (wpOp P (.alloc t) fr h) K u=Do (Ex (aE P t)) (fun z=>K (ptr (2*h.n) 0) (h.new (.cells z 0 none))) nx:=rfl
def W6 (t:TypeId) (x:Operand):Do (wpOp P (.box t x) fr h) K u=Do (Ex (opd fr x)) (fun v=>K (ptr (2*h.n) 0) (h.new (.cells v.cells.toList 0 none))) nx:=rfl
def SX (t:TypeId) (a:Operand):Do (wpOp P (.load t a) fr h) K u=Do (Ex (opd fr a)) (fun a=>Do (Ex (load P h t a)) (fun v=>K v h) nx) nx:=rfl
def Nc (t:TypeId) (a x:Operand):Do (wpOp P (.store t a x) fr h) K u=Do (Ex (opd fr a)) (fun a=>Do (Ex (opd fr x)) (fun x=>Do (Ex (store P h t a x)) (fun h=>K undef h) nx) nx) nx:=rfl
def Nm (op:BinOp) (t:TypeId) (x y:Operand) (s:TypeId):Do (wpOp P (.binOp op t x y s) fr h) K u=Do (Ex (opd fr x)) (fun a=>Do (Ex (opd fr y)) (fun b=>Do (Ex (binop P op t x y a b)) (fun v=>K v h) nx) nx) nx:=rfl
def SU (c a b:Operand):Do (wpOp P (.pick c a b) fr h) K u=Do (Ex (opd fr c)) (fun c=>Do (Ex (opd fr a)) (fun a=>Do (Ex (opd fr b)) (fun b=>match c with
  | .bool c=>Bq c (K a h,K b h) nx
  | _=>False) nx) nx) nx:=by
 show wpOp P (.pick c a b) fr h K=_
 rw[NP]
 show _=Ex (opd fr c) _
 congr 1;funext c
 show _=Ex (opd fr a) _
 congr 1;funext a
 show _=Ex (opd fr b) _
 congr 1;funext b
 cases c<;>simp
 rename_i c
 cases c<;>simp[FN,BF]
def Dz (x:Operand) (i:Nat):Do (wpOp P (.extract x i) fr h) K u=Do (Ex (opd fr x)) (fun x=>match x with
  | .tuple vs=>Do (Ex vs[i]?) (fun v=>K v h) nx
  | _=>False) nx:=rfl
def Bt (f:FuncId) (a b:Array Operand):Do (wpOp P (.makeFunc (.func f) a b) fr h) K u=Do (Ex (gL fr a.toList)) (fun x=>Do (Ex (gL fr b.toList)) (fun y=>K (.func (.func f) x.toArray y.toArray) h) nx) nx:=rfl
def S9 (f:Operand) (args:Array Operand) (ts:Array TypeId):Do (wpOp P (.call ⟨.value f,args,ts⟩) fr h) K u=Do (Ex (opd fr f)) (fun fv=>Do (Ex (gL fr args.toList)) (fun vs=>Do (WV P fv vs h) K nx) nx) nx:=rfl
def DB (b:Builtin) (args:Array Operand) (ts:Array TypeId):Do (wpOp P (.call ⟨.builtin b,args,ts⟩) fr h) K u=Do (Ex (gL fr args.toList)) (fun vs=>Do (Ex (builtin P h b ts vs)) (fun r=>K r.1 r.2) nx) nx:=rfl
def yq (t:TypeId) (x:Operand) (f:Nat):Do (wpOp P (.fieldAddr t x f) fr h) K u=Do (Ex (opd fr x)) (fun x=>Do (Ex (fieldAt P t f)) (fun off=>Do (Ex (asAddr x)) (fun a=>K (ptr a.1 (a.2+off)) h) nx) nx) nx:=by
 show wpOp P (.fieldAddr t x f) fr h K=_
 rw[zy]
 show _=Ex (opd fr x) _
 congr 1;funext x
 show _=Ex (fieldAt P t f) _
 cases fieldAt P t f<;>cases asAddr x<;>simp[Do]
def yp (t:TypeId) (x i:Operand):Do (wpOp P (.indexAddr t x i) fr h) K u=Do (Ex (opd fr x)) (fun x=>Do (Ex (opd fr i)) (fun i=>Do (Ex (indexAddr P t x i)) (fun v=>K v h) nx) nx) nx:=rfl
def SQ (op:UnOp) (t:TypeId) (x:Operand):Do (wpOp P (.unOp op t x) fr h) K u=Do (Ex (opd fr x)) (fun v=>Do (Ex (bif plain v then cJ P (Op.unary op v) else none)) (fun v=>K v h) nx) nx:=NO P fr h K op t x
def DA (s d:TypeId) (x:Operand):Do (wpOp P (.convert s d x) fr h) K u=Do (Ex (opd fr x)) (fun v=>Do (Ex (nP P s d v)) (fun v=>K v h) nx) nx:=DV P fr h K s d x
def yn (t:TypeId) (l c:Operand):Do (wpOp P (.makeSlice t l c) fr h) K u=Do (Ex (opd fr l)) (fun l=>Do (Ex (opd fr c)) (fun c=>Do (Ex (makeSlice P h t l c)) (fun r=>K r.1 r.2) nx) nx) nx:=zx P fr h K t l c
def wo (t:TypeId) (n:Nat) (ps:Array (Nat×Operand)):Do (wpOp P (.buildSlice t n ps) fr h) K u=Do (Ex (partsOf fr ps.toList)) (fun ps=>Do (Ex (buildSlice P h t n ps)) (fun r=>K r.1 r.2) nx) nx:=yG P fr h K t n ps
def Nd (t:TypeId) (x:Operand) (lo hi mx:Option Operand):Do (wpOp P (.slice t x lo hi mx) fr h) K u=Do (Ex (opd fr x)) (fun x=>Do (Ex (dr fr lo)) (fun lo=>Do (Ex (dr fr hi)) (fun hi=>Do (Ex (dr fr mx)) (fun mx=>Do (Ex (cT P h t x lo hi mx)) (fun v=>K v h) nx) nx) nx) nx) nx:=I3 P fr h K t x lo hi mx
def Nk (t:TypeId) (ps:Array (Nat×Operand)):Do (wpOp P (.build t ps) fr h) K u=Do (Ex (partsOf fr ps.toList)) (fun ps=>Do (Ex (iI P t ps)) (fun v=>K v h) nx) nx:=I6 P fr h K t ps
def Nj (t:TypeId) (x:Operand) (f:Nat):Do (wpOp P (.field t x f) fr h) K u=Do (Ex (opd fr x)) (fun x=>Do (Ex (uB P t f x)) (fun v=>K v h) nx) nx:=I5 P fr h K t x f
def Bs (x:Operand):Do (wpOp P (.nilCheck x) fr h) K u=Do (Ex (opd fr x)) (fun x=>Do (Ex (HH x)) (fun v=>K v h) nx) nx:=by
 show wpOp P (.nilCheck x) fr h K=_
 rw[BS]
 show _=Ex (opd fr x) _
 congr 1;funext x
 show _=Ex (HH x) _
 cases x with
 | pointer a=>cases a<;>simp[HH]
 | func f xs ys=>cases f<;>simp[HH]
 | _=>simp[HH]
def Ir (t:TypeId) (m k:Operand) (ok:Bool):Do (wpOp P (.lookup t m k ok) fr h) K u=Do (Ex (opd fr m)) (fun m=>Do (Ex (opd fr k)) (fun k=>Do (Ex (lookup P h t m k ok)) (fun v=>K v h) nx) nx) nx:=Gj P fr h K t m k ok
def ym (t:TypeId) (m k v:Operand):Do (wpOp P (.mapUpdate t m k v) fr h) K u=Do (Ex (opd fr m)) (fun m=>Do (Ex (opd fr k)) (fun k=>Do (Ex (opd fr v)) (fun v=>Do (Ex (mapUpdate P h t m k v)) (fun h=>K undef h) nx) nx) nx) nx:=qD P fr h K t m k v
def Is (t:TypeId) (m k v:Operand):Do (wpOp P (.insert t m k v) fr h) K u=Do (Ex (opd fr m)) (fun m=>Do (Ex (opd fr k)) (fun k=>Do (Ex (opd fr v)) (fun v=>Do (Ex (mapUpdate P h t m k v)) (fun h=>K undef h) nx) nx) nx) nx:=Gk P fr h K t m k v
def Dy (t:TypeId):Do (wpOp P (.makeMap t none) fr h) K u=K (.map (some (2*h.n))) (h.new (.map [])):=DU P fr h K t
def Nh (t:TypeId) (x i:Operand):Do (wpOp P (.index t x i) fr h) K u=Do (Ex (opd fr x)) (fun x=>Do (Ex (opd fr i)) (fun i=>Do (Ex (rF P t x i)) (fun v=>K v h) nx) nx) nx:=I4 P fr h K t x i
end
section
variable (P:Program) (nt:Nat) (all:List Oper) (d:Option Tmp) (o:Op) (ty:TypeId) (pos:String) (af:Array Edge) (l:List Oper) (fr:Fr) (h:IH)
def W4 (d:Nat) (v:Value) (K:Fr→Prop) (u:Nx K) (hd:d<nt):Do (fb nt fr (some d) v) K u=K ((d,v) :: fr):=IZ nt fr d v K hd
def Bp (v:Value) (K:Fr→Prop) (u:Nx K):Do (fb nt fr none v) K u=K fr:=rfl
def W5 (K:Fr→IH→Prop) (u:Nx K):Do (wpOps P nt all [] fr h) K u=K fr h:=rfl
def S5 (K:Fr→IH→Prop) (u:Nx K):Do (wpOps P nt all (⟨d,o,ty,pos,af,none⟩ :: l) fr h) K u=Do (wpOp P o fr h) (fun v h=>Do (fb nt fr d v) (fun fr=>Do (wpOps P nt all l fr h) K nx) nx) nx:=rfl
def Ni (j:Nat) (want:Bool) (K:Fr→IH→Prop) (u:Nx K):Do (wpOps P nt all (⟨d,o,ty,pos,af,some (j,want)⟩ :: l) fr h) K u =
  Do (Ex ((all[j]?).bind (·.dst))) (fun g=>Do (Ex (ab fr g)) (fun b=>match b with
   | .bool b=>Bq (b == want) (Do (wpOp P o fr h) (fun v h=>Do (fb nt fr d v) (fun fr=>Do (wpOps P nt all l fr h) K nx) nx) nx,Do (fb nt fr d undef) (fun fr=>Do (wpOps P nt all l fr h) K nx) nx) nx
   | .tuple _=>Do (fb nt fr d undef) (fun fr=>Do (wpOps P nt all l fr h) K nx) nx
   | _=>False) nx) nx:=rfl
def SR (tr:List (Fr×IH)) (K:List (Fr×IH)→Prop) (u:Nx K):Do (cQ P nt all [] fr h tr) K u=K (tr ++ [(fr,h)]):=rfl
def Nb (tr:List (Fr×IH)) (K:List (Fr×IH)→Prop) (u:Nx K):Do (cQ P nt all (⟨d,o,ty,pos,af,none⟩ :: l) fr h tr) K u=Do (wpOp P o fr h) (fun v h1=>Do (fb nt fr d v) (fun fr1=>Do (cQ P nt all l fr1 h1 (tr ++ [(fr,h)])) K nx) nx) nx:=rfl
def Ip (j:Nat) (want:Bool) (tr:List (Fr×IH)) (K:List (Fr×IH)→Prop) (u:Nx K):Do (cQ P nt all (⟨d,o,ty,pos,af,some (j,want)⟩ :: l) fr h tr) K u =
  Do (Ex ((all[j]?).bind (·.dst))) (fun g=>Do (Ex (ab fr g)) (fun b=>match b with
   | .bool b=>Bq (b == want) (Do (wpOp P o fr h) (fun v h1=>Do (fb nt fr d v) (fun fr1=>Do (cQ P nt all l fr1 h1 (tr ++ [(fr,h)])) K nx) nx) nx,Do (fb nt fr d undef) (fun fr1=>Do (cQ P nt all l fr1 h (tr ++ [(fr,h)])) K nx) nx) nx
   | .tuple _=>Do (fb nt fr d undef) (fun fr1=>Do (cQ P nt all l fr1 h (tr ++ [(fr,h)])) K nx) nx
   | _=>False) nx) nx:=rfl
end
section
variable (P:Program) (fn:FuncId) (nt:Nat) (rd:Option Nat) (fr:Fr) (h:IH) (Q:bN→Fr→IH→Prop) (u:Nx Q)
def qS (K:Fr→IH→Prop) (Q:bN→Fr→IH→Prop) (e:bN) (fr:Fr) (h:IH):Prop:=match e with
 | .normal=>K fr h
 | .exit i=>Q (.exit i) fr h
 | .ret=>Q .ret fr h
def mX (id:Nat) (Q:bN→Fr→IH→Prop) (e:bN) (fr:Fr) (h:IH):Prop:=match e with
 | .exit i=>Br (i == id) (Q .normal fr h) (Q (.exit i) fr h)
 | .normal=>Q .normal fr h
 | .ret=>Q .ret fr h
def xS (K:Fr→IH→Prop):qS K Q .normal fr h=K fr h:=rfl
def CB (K:Fr→IH→Prop) (i:Nat):qS K Q (.exit i) fr h=Q (.exit i) fr h:=rfl
def G0 (K:Fr→IH→Prop):qS K Q .ret fr h=Q .ret fr h:=rfl
def tP (id:Nat):mX id Q .normal fr h=Q .normal fr h:=rfl
def BH (id:Nat):mX id Q .ret fr h=Q .ret fr h:=rfl
def yz (id:Nat):mX id Q (.exit id) fr h=Q .normal fr h:=by simp[mX]
def yA (id i:Nat) (hi:(i == id)=false):mX id Q (.exit i) fr h=Q (.exit i) fr h:=by simp[mX,hi]
def SS:Do (wpC P fn nt rd .skip fr h) Q u=Q .normal fr h:=rfl
def Iq (id:Nat) (ops:Array Oper):Do (wpC P fn nt rd (.region id ops false) fr h) Q u=Do (wpOps P nt ops.toList ops.toList fr h) (Q .normal) nx:=rfl
def S8 (id:Nat) (ops:Array Oper) (hc:fX ops.toList=true):Do (wpC P fn nt rd (.region id ops true) fr h) Q u=Do (wpOps P nt ops.toList ops.toList fr h) (Q .normal) nx:=by
 show((fX ops.toList=true→wpOps P nt ops.toList ops.toList fr h (Q .normal))∧(fX ops.toList=false→Lh P nt ops.toList fr h (Q .normal)))=_
 simp only[hc,true_implies,reduceCtorEq,false_implies,and_true]
 rfl
theorem kX (a b:Code):Do (wpC P fn nt rd (.seq a b) fr h) Q u=Do (wpC P fn nt rd a fr h) (qS (fun fr h=>Do (wpC P fn nt rd b fr h) Q nx) Q) nx:=by
 show wpC P fn nt rd a fr h _=wpC P fn nt rd a fr h _
 congr 1
def S6 (c:Operand) (a b:Code):Do (wpC P fn nt rd (.cond c a b) fr h) Q u=Do (Ex (opd fr c)) (fun c=>match c with
  | .bool c=>Bq c (Do (wpC P fn nt rd a fr h) Q nx,Do (wpC P fn nt rd b fr h) Q nx) nx
  | _=>False) nx:=rfl
def Nl (id:Nat) (b:Code):Do (wpC P fn nt rd (.block id b) fr h) Q u=Do (wpC P fn nt rd b fr h) (mX id Q) nx:=rfl
def SW (b:Code):Do (wpC P fn nt rd (.loop b) fr h) Q u=Do (yD P fn nt rd b fr h) Q nx:=rfl
def Nf (b:Code):Do (wpC P fn nt rd (.scope b) fr h) Q u=Do (wpC P fn nt rd b fr h) Q nx:=rfl
def yl (f:Operand) (ps:Array Tmp) (a b:Code):Do (wpC P fn nt rd (.rangeFunc f ps a b) fr h) Q u=Do (uH P fn nt rd f ps a b fr h) Q nx:=rfl
def SZ (i:Nat):Do (wpC P fn nt rd (.exit i) fr h) Q u=Q (.exit i) fr h:=rfl
def W3:Do (wpC P fn nt rd .ret fr h) Q u=Q .ret fr h:=rfl
end
def On (P:Program) (rs:List ResultVar) (K:Value→IH→Prop) (e:bN) (fr:Fr) (h:IH):Prop:=match e with
 | .exit _=>False
 | .normal=>Do (Ex (bf P fr h rs)) (fun l=>K (single l) h) nx
 | .ret=>Do (Ex (bf P fr h rs)) (fun l=>K (single l) h) nx
def xU (P:Program) (rs:List ResultVar) (K:Value→IH→Prop) (fr:Fr) (h:IH):On P rs K .normal fr h=Do (Ex (bf P fr h rs)) (fun l=>K (single l) h) nx:=rfl
def Hc (P:Program) (rs:List ResultVar) (K:Value→IH→Prop) (fr:Fr) (h:IH):On P rs K .ret fr h=Do (Ex (bf P fr h rs)) (fun l=>K (single l) h) nx:=rfl
variable {h:IH}{nt:Nat}{K:Value→IH→Prop}{vs:List Value}{P:Program}
def enter {f:FuncId} {fn:Func} {c:Code} {rs:List ResultVar} {first cap:Array Value} 
  (hf:P.funcs[f]?=some fn) (hb:fn.body=some c) (hn:fn.ntmps=nt) (hr:fn.results.toList=rs) (hl:(first.toList ++ (vs ++ cap.toList)).length≤nt)
  (w:Do (wpC P f nt none c (dL 0 (first.toList ++ (vs ++ cap.toList))) h) (On P rs K) nx):WV P (.func (.func f) first cap) vs h K :=
 P4 hf hb hn hr hl w
theorem call {fv:Value} {L:Value→IH→Prop} (w:WV P fv vs h L) (k : ∀v h',L v h'→K v h'):Do (WV P fv vs h) K nx:=w.mono k
variable {Q:bN→Fr→IH→Prop}{rd:Option Nat}{fn:FuncId}{fr:Fr}
@[reducible] def Pst (p:Prop) (_:Nx p):Prop:=p
theorem cut {a:Code} {K:Fr→IH→Prop} (R:Fr→IH→Prop)
  (w:Do (wpC P fn nt rd a fr h) (qS (fun fr h=>Pst (R fr h) nx) Q) nx) (k : ∀fr h,R fr h→K fr h):Do (wpC P fn nt rd a fr h) (qS K Q) nx :=
 mn (fun e fr h w=>by cases e<;>first|exact k _ _ w|exact w) w
def RS (I:Nat→Fr→IH→Prop) (m:Nat) (Q:bN→Fr→IH→Prop) (e:bN) (fr:Fr) (h:IH):Prop:=match e with
 | .normal => ∃m',m'<m∧I m' fr h
 | .exit i=>Q (.exit i) fr h
 | .ret=>Q .ret fr h
def AI (I:Nat→Fr→IH→Prop) (m:Nat) (Q:bN→Fr→IH→Prop) (i:Nat) (fr:Fr) (h:IH):RS I m Q (.exit i) fr h=Q (.exit i) fr h:=rfl
def C4 (I:Nat→Fr→IH→Prop) (m:Nat) (Q:bN→Fr→IH→Prop) (fr:Fr) (h:IH):RS I m Q .ret fr h=Q .ret fr h:=rfl
def loop {b:Code} (I:Nat→Fr→IH→Prop) (m:Nat) (start:I m fr h)
  (step : ∀m fr h,I m fr h→Do (wpC P fn nt rd b fr h) (RS I m Q) nx) (hm:rK b=none:=by rfl):Do (yD P fn nt rd b fr h) Q nx :=
 Z0 I (fun m fr h hi=>step m fr h hi) start hm
def SY (tr:List (Fr×IH)) (n:Nat) (K:Fr→IH→Prop) (u:Nx K):Do (I7 tr n) K u=Do (Ex tr[n]?) (fun p=>K p.1 p.2) nx:=rfl
variable {o:Oper}{ops:List Oper}{tr:List (Fr×IH)}{i p:Nat}
def ad {fr':Fr} {h':IH} (ho:ops[i]?=some o) (hi:tr[i]?=some (fr,h)) (hw:bE ops o fr=some true) (hp:tr[p]?=some (fr',h')) (hs:gP P fr o.op h h'=true):cS P ops tr [(i,[p])]:=by
 refine⟨?_,trivial⟩
 simp only[ho,hi,hw]
 intro q hq
 simp only[List.mem_singleton] at hq
 subst hq
 simp only[hp]
 exact hs
variable {l:List Nat}
def lK (ho:ops[i]?=some o) (hi:tr[i]?=some (fr,h)) (hw:bE ops o fr=some false):cS P ops tr [(i,l)]:=by
 refine⟨?_,trivial⟩
 simp only[ho,hi,hw]
def kA {e:Nat×List Nat} {l:List (Nat×List Nat)} (h1:cS P ops tr [e]) (h2:cS P ops tr l):cS P ops tr (e :: l):=⟨h1.1,h2⟩
def uL (h1:cS P ops tr [(i,[p])]) (h2:cS P ops tr [(i,l)]):cS P ops tr [(i,p :: l)]:=by
 refine⟨?_,trivial⟩
 have a:=h1.1
 have b:=h2.1
 simp only at a b ⊢
 cases ho:ops[i]? with
 | none=>simp only[ho] at a
 | some o =>
  cases hi:tr[i]? with
  | none=>simp only[ho,hi] at a
  | some x =>
   obtain⟨fr,h⟩:=x
   simp only[ho,hi] at a b ⊢
   cases hw:bE ops o fr with
   | none=>trivial
   | some w =>
    cases w with
    | false=>trivial
    | true =>
     simp only[hw] at a b ⊢
     intro q hq
     rcases List.mem_cons.1 hq with rfl|hq
     ·exact a q (by simp)
     ·exact b q hq
def drawn {id:Nat} {ops:Array Oper} (pl:List (Nat×List Nat)) (ho:lU ops.toList=true) (hp:CK ops.toList=pl) (hne:pl.isEmpty=false)
  (w:Do (cQ P nt ops.toList ops.toList fr h []) (fun tr=>Pst (cS P ops.toList tr pl∧Do (I7 tr ops.toList.length) (Q .normal) nx) nx) nx):Do (wpC P fn nt rd (.region id ops true) fr h) Q nx:=by
 subst hp
 refine⟨fun hc=>?_,fun _=>⟨ho,w⟩⟩
 simp[fX,List.isEmpty_iff] at hc hne
 exact absurd hc.2 hne
def Ng (P:Program) (fn:FuncId) (nt:Nat) (rd:Option Nat) (l:Nat) (fr:Fr) (h:IH) (Q:bN→Fr→IH→Prop) (u:Nx Q):Do (wpC P fn nt rd (.label l) fr h) Q u=Q .normal fr h:=rfl
def z6 (v:Value):single [v]=v:=rfl
def z7:single []=.tuple #[]:=rfl
def zZ (a b:Value):single [a,b]=.tuple #[a,b]:=rfl
def u7 (a b c:Value):single [a,b,c]=.tuple #[a,b,c]:=rfl
def RX (h:IH) (b o:Nat):ld h b o=(h.row b).bind (·[o]?):=rfl
def HE {α:Type} (l:List α) : [] ++ l=l:=rfl
def IM {α:Type} (l:List α):l ++ []=l:=List.append_nil l
def DE {α:Type} (x:α) (l m:List α):(x :: l) ++ m=x :: (l ++ m):=rfl
def Ic {α:Type} {d:Decidable True} (a b:α):ite True a b=a:=if_pos trivial
def C9 {α:Type} {d:Decidable False} (a b:α):ite False a b=b:=if_neg id
def BK {α β:Type} (a:α) (f:α→Option β):(some a).bind f=f a:=rfl
def CW {α β:Type} (a:α) (f:α→β):(some a).map f=some (f a):=rfl
def Dd {α:Type} (x:α) (l:List α):(x :: l)[0]?=some x:=rfl
def De {α:Type} (x:α) (l:List α) (n:Nat):(x :: l)[n+1]?=l[n]?:=rfl
def Ii {α:Type} (l:List α) (n:Nat):l.toArray[n]?=l[n]?:=List.getElem?_toArray
def LA {α:Type} (l:List α):l.toArray.toList=l:=rfl
def Gy:undef=Value.tuple #[]:=rfl
def wpS:=And.intro @SV (And.intro @It (And.intro @Nn (And.intro @W6 (And.intro @SX (And.intro @Nc (And.intro @Nm (And.intro @SU (
 And.intro @Dz (And.intro @Bt (And.intro @S9 (And.intro @DB (And.intro @yq (And.intro @yp (And.intro @SQ (And.intro @DA (
 And.intro @yn (And.intro @wo (And.intro @Nd (And.intro @Nk (And.intro @Nj (And.intro (And.intro @Bs (And.intro @HF (And.intro @CS (And.intro @HG @Ng)))) (And.intro @Ir (And.intro (And.intro @ym @Is) (
 And.intro @Dy (And.intro @Nh (And.intro @W4 (And.intro @Bp (And.intro @W5 (And.intro @S5 (And.intro @Ni (And.intro @SR (
 And.intro @Nb (And.intro @Ip (And.intro @xS (And.intro @CB (And.intro @G0 (And.intro @tP (And.intro @BH (And.intro @yz (
 And.intro @yA (And.intro @SS (And.intro @Iq (And.intro @S8 (And.intro @kX (And.intro @S6 (And.intro @Nl (And.intro @SW (
 And.intro @Nf (And.intro @yl (And.intro @SZ (And.intro @W3 (And.intro @xU (And.intro @Hc (And.intro @AI (And.intro @C4 (
 And.intro @W2 (And.intro @Dt (And.intro @Bj (And.intro @Im (And.intro @FN (And.intro @BF (And.intro @Mt (And.intro @Hr (
 And.intro @Ax (And.intro @tJ (And.intro @rr (And.intro @oK (And.intro @nB (And.intro @mH (And.intro @oL (And.intro @oM (
 And.intro @Hp (And.intro @CO (And.intro @x8 (And.intro @vC (And.intro @ya (And.intro @x9 (And.intro @oV (And.intro @vZ (
 And.intro @yj (And.intro @HE (And.intro @IM (And.intro @DE (And.intro @Ic (And.intro @C9 (And.intro @BK (And.intro @CW (
 And.intro @and_true (And.intro @true_and (And.intro @Nat.zero_add (And.intro @Nat.add_zero (And.intro @Nat.zero_mul (And.intro @Nat.one_mul (And.intro @Nat.mul_one (And.intro @qV (
 And.intro @tF (And.intro @vm (And.intro @tG (And.intro @xJ (And.intro @xu (And.intro @xC (And.intro @xH (And.intro @xz (
 And.intro @xD (And.intro @xE (And.intro @xF (And.intro @xG (And.intro @TA (And.intro @Xi (And.intro @Tq (And.intro @Tz (
 And.intro @TB (And.intro @Xj (And.intro @IK (And.intro @Wm (And.intro @Wn (And.intro @QL (And.intro @QM (And.intro @Ww (
 And.intro @Wv (And.intro @Q4 (And.intro @wM (And.intro @Cl (And.intro @wrap_i64 (And.intro @uK (And.intro @wrap_u8 (And.intro @Gi (
 And.intro @wrap_u32 (And.intro @Int.toNat_natCast (And.intro @Int.toNat_one (And.intro @Int.toNat_zero (And.intro @builtin_len (And.intro @lk (And.intro @tK (And.intro @xi (
 And.intro @Bd (And.intro @RX (And.intro @Wq (And.intro @BL (And.intro @Dd (And.intro @De (And.intro @Ii (And.intro @LA (
 And.intro @DH (And.intro @BA (And.intro @yy (And.intro @DF (And.intro @DI (And.intro @Bz (And.intro @tN (And.intro @DG (
 And.intro @wx (And.intro @aH (And.intro @AB (And.intro @aM (And.intro @Aq (And.intro @jC (And.intro @xT (And.intro @vj (
 And.intro @qU (And.intro @ah (And.intro @aq (And.intro @ae (And.intro @ak (And.intro @z6 (And.intro @zZ (And.intro @z7 (
 And.intro @u7 (And.intro @SY (@Gy))))))))))))))))))))))))))))))))))))))))))))))))))))))))))))))))))))))))))))))))))))))))))))))))))))))))))))))))))))))))))))))))))))))))))))))))))))))))))))))))))))))))))
def wpR:=And.intro @SV (And.intro @It (And.intro @Nn (And.intro @W6 (And.intro @SX (And.intro @Nc (And.intro @Nm (And.intro @SU (
 And.intro @Dz (And.intro @Bt (And.intro @S9 (And.intro @DB (And.intro @yq (And.intro @yp (And.intro @SQ (And.intro @DA (
 And.intro @yn (And.intro @wo (And.intro @Nd (And.intro @Nk (And.intro @Nj (And.intro (And.intro @Bs (And.intro @HF (And.intro @CS (And.intro @HG @Ng)))) (And.intro @Ir (And.intro (And.intro @ym @Is) (
 And.intro @Dy (And.intro @Nh (And.intro @W4 (And.intro @Bp (And.intro @W5 (And.intro @S5 (And.intro @Ni (And.intro @SR (
 And.intro @Nb (And.intro @Ip (And.intro @xS (And.intro @CB (And.intro @G0 (And.intro @tP (And.intro @BH (And.intro @yz (
 And.intro @yA (And.intro @SS (And.intro @Iq (And.intro @S8 (And.intro @S6 (And.intro @Nl (And.intro @SW (And.intro @Nf (
 And.intro @yl (And.intro @SZ (And.intro @W3 (And.intro @xU (And.intro @Hc (And.intro @AI (And.intro @C4 (And.intro @W2 (
 And.intro @Dt (And.intro @Bj (And.intro @Im (And.intro @FN (And.intro @BF (And.intro @Mt (And.intro @Hr (And.intro @Ax (
 And.intro @tJ (And.intro @rr (And.intro @oK (And.intro @nB (And.intro @mH (And.intro @oL (And.intro @oM (And.intro @Hp (
 And.intro @CO (And.intro @x8 (And.intro @vC (And.intro @ya (And.intro @x9 (And.intro @oV (And.intro @vZ (And.intro @yj (
 And.intro @HE (And.intro @IM (And.intro @DE (And.intro @Ic (And.intro @C9 (And.intro @BK (And.intro @CW (And.intro @and_true (
 And.intro @true_and (And.intro @Nat.zero_add (And.intro @Nat.add_zero (And.intro @Nat.zero_mul (And.intro @Nat.one_mul (And.intro @Nat.mul_one (And.intro @qV (And.intro @tF (
 And.intro @vm (And.intro @tG (And.intro @xJ (And.intro @xu (And.intro @xC (And.intro @xH (And.intro @xz (And.intro @xD (
 And.intro @xE (And.intro @xF (And.intro @xG (And.intro @TA (And.intro @Xi (And.intro @Tq (And.intro @Tz (And.intro @TB (
 And.intro @Xj (And.intro @IK (And.intro @Wm (And.intro @Wn (And.intro @QL (And.intro @QM (And.intro @Ww (And.intro @Wv (
 And.intro @Q4 (And.intro @wM (And.intro @Cl (And.intro @wrap_i64 (And.intro @uK (And.intro @wrap_u8 (And.intro @Gi (And.intro @wrap_u32 (
 And.intro @Int.toNat_natCast (And.intro @Int.toNat_one (And.intro @Int.toNat_zero (And.intro @builtin_len (And.intro @lk (And.intro @tK (And.intro @xi (And.intro @Bd (
 And.intro @RX (And.intro @Wq (And.intro @BL (And.intro @Dd (And.intro @De (And.intro @Ii (And.intro @LA (And.intro @DH (
 And.intro @BA (And.intro @yy (And.intro @DF (And.intro @DI (And.intro @Bz (And.intro @tN (And.intro @DG (And.intro @wx (
 And.intro @aH (And.intro @AB (And.intro @aM (And.intro @Aq (And.intro @jC (And.intro @xT (And.intro @vj (And.intro @qU (
 And.intro @ah (And.intro @aq (And.intro @ae (And.intro @ak (And.intro @z6 (And.intro @zZ (And.intro @z7 (And.intro @u7 (
 And.intro @SY (@Gy)))))))))))))))))))))))))))))))))))))))))))))))))))))))))))))))))))))))))))))))))))))))))))))))))))))))))))))))))))))))))))))))))))))))))))))))))))))))))))))))))))))))))
end Go.Id
namespace Go.Id
theorem dx {p : Prop} (h : p := by first | omega | (simp only [aH, aM]; omega) | decide +kernel | ((repeat first | rw [aH] | rw [aM]); all_goals fail) | fail) : p := h
theorem aT {α : Sort _} (a : α) : ∃ x, x = a := ⟨a, rfl⟩
theorem iC {α : Type _} {l : List α} {i : Nat} (h : i < l.length) : ∃ a, l[i]? = some a := ⟨_, List.getElem?_eq_getElem h⟩
open Go Go.RowKit Go.ChangeShapes Go.WideShapes Go.Deep
def KO {n:String} {a:List Value} {v:Value} (h:mW n a=some v):n = "math/bits.Add64" ∨ n = "math/bits.Sub64" := by
 unfold mW at h
 split at h
 ·simp only[cond_eq_ite] at h
  split at h
  ·split at h
   ·rename_i hn;exact .inl (by simpa using hn)
   ·split at h
    ·rename_i hn;exact .inr (by simpa using hn)
    ·cases h
  ·cases h
 ·cases h
def XP {P:Program} (h1:P.follows .mixedOrders=true) (h2:(P.funcs.toList.all fun fn => !(fn.body.isSome && fn.name == "runtime.NumGoroutine") && (fn.body.isSome || ((fn.name == fn.origin || fn.origin == "") || !(fn.name == "math/bits.Add64" || fn.name == "math/bits.Sub64"))))=true):Sound (E0 P) where
 mixed:=h1
 origin f fn hf hb {args v} hc:=by
  have hm:fn∈P.funcs.toList:=by
   rw[Array.mem_toList_iff];exact Array.mem_of_getElem? hf
  have h:=List.all_eq_true.1 h2 fn hm
  rw[hb] at h
  have hn:fn.name = "math/bits.Add64" ∨ fn.name = "math/bits.Sub64" := KO hc
  have h':(fn.name == fn.origin || fn.origin == "")=true:=by
   rcases hn with hn|hn<;>rw[hn] at h ⊢ <;> exact(show _ from by simpa using h)
  rw[Bool.or_eq_true,beq_iff_eq,beq_iff_eq] at h'
  exact h'.imp Eq.symm id
 names f fn hf hb:=by
  have hm:fn∈P.funcs.toList:=by
   rw[Array.mem_toList_iff];exact Array.mem_of_getElem? hf
  have:=List.all_eq_true.1 h2 fn hm
  rw[Bool.and_eq_true] at this
  have:=this.1
  rw[hb] at this
  simpa using this
 Ia f g h:=by cases h
 tk f g h:=by cases h
structure SlArg (W:World) (z:Nat) (v:Value) (n:Nat) (cs:List Value):Prop where
 z0:0<z
 len:cs.length=n*z
 sc : ∀x∈cs,bA x=true
 ex:(v=.slice none 0 0∧n=0) ∨ ∃a cap,v=.slice (some a) n cap∧n≤cap∧(0<n→a.spot=none ∧ ∀j,j<n*z→W.cell? ⟨a.block,a.off+j,none⟩=cs[j]?)
section
variable {H:Type} {enc:TypeId×Value→H} {P:Program} {W:World} {held:Bool}
variable {W':World}
def KV {W:World} (hk:Below W.heap.size W W') {p:MemPlace} (hp:p.block<W.heap.size):W.sameAt W' p:=by
 cases p with
 | cell b off =>
  show W'.cell? _=W.cell? _
  unfold World.cell?
  rw[hk.block b hp]
 | map b=>exact hk.block b hp
def tA {T:TypeId→Prop} (K:Kids P T) (hsz : ∀{t e:TypeId},T t→P.underlying t=some (.slice e)→0<P.cellsOf e) (hk:Below W.heap.size W W') {sp:Nat→Bool} :
  ∀{ts:List TypeId} {vs:List Value} {ds:List (DataW H)} {ps:List MemPlace},DataW.TrodAll enc P W 0 (fun _=>true) true ts vs ds ps→(∀t∈ts,T t)→(∀p∈ps,sp p.block=true)→DataW.TrodAll enc P W' 0 sp true ts vs ds ps
 | [],_,_,_,h,_,_=>by
  obtain⟨rfl,rfl,rfl⟩:=trodAll_nil h
  rfl
 | t :: ts,_,_,_,h,hT,hs=>by
  obtain⟨v,vs,d,ds,p,q,rfl,rfl,rfl,⟨fuel,h1⟩,h2⟩:=trodAll_cons h
  refine⟨p,q,⟨fuel,?_⟩,tA K hsz hk h2 (fun t ht=>hT t (by simp[ht])) (fun x hx=>hs x (by simp[hx])),rfl⟩
  exact DataW.trod_stays K hsz (fun h=>by cases h) (hT t (by simp)) h1 (fun x hx=>KV hk (DataW.trod_lt _ _ _ _ h1 x hx)) (fun x hx=>hs x (by simp[hx]))
end
section
variable {H:Type} {enc:TypeId×Value→H} {P:Program} {W:World} {base:Nat} {sp:Nat→Bool} {held:Bool}
def uQ {t:TypeId} {k:IntKind} {m:Nat} (hk:k.min=0) (hm:k.max=m) (ht:P.underlying t=some (.int k)) {fuel:Nat} {cs:List Value} {x:DataW H×List MemPlace} (h:DataW.trod enc P W base sp held fuel t cs=some x) : ∃i:Nat,cs = [.int k (i:Int)]∧i≤m:=by
 obtain⟨n,rfl,_,hw⟩:=DataW.trod_int ht h
 simp only[Lit.wf,Bool.and_eq_true,decide_eq_true_eq] at hw
 exact⟨n.toNat,by rw[Int.toNat_of_nonneg (by omega)],by omega⟩
end
end Go.Id
