/-
  The ideal machine: functions that give numbers of any length. A number's words, by their length and their value.
-/
import Derived.Test.YtjhnilfelokpcaaGreatOutlierWaysBm
import Derived.Test.YtjhnilfelokpcaaGreatOutlierWaysAt
import Derived.Test.YtjhnilfelokpcaaGreatOutlierWaysBi
import Derived.Test.YtjhnilfelokpcaaGreatOutlierWaysBe
set_option linter.unusedVariables false
set_option linter.unusedSimpArgs false
set_option linter.defProp false
set_option linter.deprecated false
namespace Go.Id
open Go Go.RowKit
theorem num_nums {P:Program} (S:Sound (E0 P)) {B:Nat} {w0:World} {m:Mp} {h:IH} {w:World} (R:Rel B w0 m h w) {bs xs:List Nat} (T:Toks h bs xs) {mk:List Value→List Value} (par:ParaL mk xs.length) {args':Array Value} (ha:LRel m (mk (toksOf bs xs)) args'.toList)
  {f:FuncId} (hb : ∃fn,P.funcs[f]?=some fn∧fn.body.isSome=true) {ys:List Nat} {mkR:List Value→Value} (parR:Para mkR ys.length)
  (hw : ∀us,us.length=xs.length→(∀(i:Nat) (u:Value),us[i]?=some u→NumAt xs i u)→WV P (.func (.func f) #[] #[]) (mk us) (IH.start (numBase xs)) fun r h2 => ∃ss,ss.length=ys.length∧r=mkR ss ∧ ∀(j:Nat) (y:Nat) (s:Value),ys[j]?=some y→ss[j]?=some s→NumSl h2 s y)
  (fr:Fresh m h.n (h.n+ys.length)):CallsTo P f args' B w0 m h w (mkR (toksOf (newBs h.n ys.length) ys)) (addNums h ys):=by
 obtain⟨m2,even2,odd2,r,h2,⟨ss,ls,rfl,hss⟩,key⟩:=num_calls S R T par ha hb hw
 refine key.mono fun e' w' ⟨v',m',he,hvr,R',S'⟩=>?_
 obtain⟨ss',l1,l2⟩:=parR m' ss v' ls hvr
 have ls':ss'.length=ys.length:=by rw[←l1.1,ls]
 have same : ∀r,r<w.heap.size→w'.heap[r]?=w.heap[r]?:=fun r hr=>R'.below.block r hr
 have loc : ∀(j y:Nat),ys[j]?=some y → ∃a cap,ss'[j]?=some (.slice a (wlen y) cap)∧wlen y≤cap∧((y=0∧(a=none→cap=0))∨(y≠0 ∧ ∃r s,a=some ⟨r,s,none⟩∧NumLoc m w w' bs xs y r s)):=by
  intro j y hy
  have hj:=(List.getElem?_eq_some_iff.1 hy).1
  obtain⟨s,hs⟩ : ∃s,ss[j]?=some s:=⟨_,List.getElem?_eq_getElem (by omega)⟩
  obtain⟨s',h1,h3⟩:=l1.get hs
  obtain⟨a,cap,rfl,q1,q2⟩:=num_loc R T odd2 R' S' (hss j y s hy hs) h3
  exact⟨a,cap,h1,q1,q2⟩
 obtain⟨lf,hlf⟩ : ∃lf:Nat→Option (Nat×Nat),∀j,lf j=match ys[j]?,ss'[j]? with|some y,some (.slice (some ⟨r,s,none⟩) _ _)=>if y=0 then none else some (r,s)|_,_=>none:=⟨_,fun _=>rfl⟩
 have lf_some : ∀j r s,lf j=some (r,s) → ∃y,ys[j]?=some y∧y≠0∧NumLoc m w w' bs xs y r s:=by
  intro j r s hj
  rw[hlf] at hj
  cases hy:ys[j]? with
  | none=>simp[hy] at hj
  | some y =>
   obtain⟨a,cap,h1,_,h3⟩:=loc j y hy
   rw[hy,h1] at hj
   rcases h3 with⟨rfl,_⟩|⟨y0,r',s',rfl,hl⟩
   ·exfalso
    cases a with
    | none=>simp at hj
    | some a =>
     obtain⟨a1,a2,a3⟩:=a
     cases a3<;>simp at hj
   ·simp only[if_neg y0] at hj
    cases hj
    exact⟨y,rfl,y0,hl⟩
 have lf_at : ∀j y r s cap,ys[j]?=some y→y≠0→ss'[j]?=some (.slice (some ⟨r,s,none⟩) (wlen y) cap)→lf j=some (r,s):=by
  intro j y r s cap hy y0 hs
  rw[hlf,hy,hs]
  exact if_neg y0
 obtain⟨m3,hm3⟩ : ∃m3:Mp,m3=⟨fun b=>if b % 2=0∧h.n≤b / 2∧b / 2<h.n+ys.length then lf (b / 2 - h.n) else m b,m.ez⟩:=⟨_,rfl⟩
 have m3old : ∀b,¬(b % 2=0∧h.n≤b / 2∧b / 2<h.n+ys.length)→m3 b=m b:=by
  intro b hb;rw[hm3];exact if_neg hb
 have m3new : ∀j,j<ys.length→m3 (2*(h.n+j))=lf j:=by
  intro j hj
  rw[hm3]
  show(if 2*(h.n+j) % 2=0∧h.n≤2*(h.n+j) / 2∧2*(h.n+j) / 2<h.n+ys.length then lf (2*(h.n+j) / 2 - h.n) else m (2*(h.n+j)))=lf j
  rw[if_pos ⟨by omega,by omega,by omega⟩,show 2*(h.n+j) / 2 - h.n=j from by omega]
 have ez3:m3.ez=m.ez:=by rw[hm3]
 have le3:m.le m3:=by
  intro b x hb
  refine⟨?_,by rw[ez3]⟩
  rw[m3old b ?_];exact hb
  rintro⟨h1,h2',h3⟩
  have:=fr (b / 2) h2' h3
  rw[show 2*(b / 2)=b from by omega,hb] at this;cases this
 have nn:(addNums h ys).n=h.n+ys.length:=addNums_n ys h
 have gnew : ∀j y,ys[j]?=some y→(addNums h ys).ext.get (h.n+j)=some (.num y):=by
  intro j y hy
  have hj:=(List.getElem?_eq_some_iff.1 hy).1
  rw[addNums_get,if_pos ⟨by omega,by omega⟩,show h.n+j - h.n=j from by omega,hy];rfl
 have gold : ∀k,k<h.n→(addNums h ys).ext.get k=h.ext.get k:=fun k hk=>by rw[addNums_get,if_neg (by omega)]
 have isnew : ∀k o,(addNums h ys).ext.get k=some o→k<h.n ∨ ∃j y,k=h.n+j∧ys[j]?=some y∧o=.num y:=by
  intro k o hk
  rcases Nat.lt_or_ge k h.n with h1|h1
  ·exact .inl h1
  ·right
   rw[addNums_get] at hk
   by_cases c:h.n≤k∧k<h.n+ys.length
   ·rw[if_pos c] at hk
    obtain⟨y,hy,rfl⟩:=Option.map_eq_some_iff.1 hk
    exact⟨k - h.n,y,by omega,hy,rfl⟩
   ·rw[if_neg c,R.dom k h1] at hk;cases hk
 have mold : ∀k,k<h.n→m3 (2*k)=m (2*k):=fun k hk=>m3old _ (by rintro⟨_,h2',_⟩;omega)
 have oldn : ∀k o,h.ext.get k=some o→k<h.n:=by
  intro k o hk
  rcases Nat.lt_or_ge k h.n with e|e
  ·exact e
  ·rw[R.dom k e] at hk;cases hk
 have srcB : ∀y r s,NumLoc m w w' bs xs y r s→B≤r∧r<w'.heap.size:=by
  intro y r s hl
  refine⟨?_,hl.lt⟩
  rcases hl.src with h1|⟨i,b,x,s0,hb1,hx1,hm1⟩
  ·have:=R.size;omega
  ·obtain⟨t1,t2⟩:=T.2 i b x hb1 hx1
   exact(R.even (b / 2) r s0 (by rw[show 2*(b / 2)=b from by omega];exact hm1)).1
 refine⟨v',m3,he,l2 m3 _ ?_,⟨R.below.trans (R'.below.mono R.size),Nat.le_trans R.size R'.size,?_,fun b hb=>?_,?_,?_,?_,?_,?_,?_,?_,?_⟩,⟨le3,?_,by rw[nn];omega,(addNums_base ys h).1,fun r hr _=>same r hr,fun k hk _=>gold k hk,R'.size,?_,?_⟩⟩
 ·-- the value
  refine⟨by rw[toksOf_len _ _ (newBs_len _ _),ls'],fun j v x hv hx=>?_⟩
  have hj:j<ys.length:=by
   have:=(List.getElem?_eq_some_iff.1 hx).1
   omega
  obtain⟨y,hy⟩ : ∃y,ys[j]?=some y:=⟨_,List.getElem?_eq_getElem hj⟩
  rw[toksOf_get _ _ j _ y (newBs_get hj) hy] at hv
  cases hv
  obtain⟨a,cap,h1,h3,h4⟩:=loc j y hy
  rw[hx] at h1;cases h1
  refine .tok h3 ?_
  rcases h4 with⟨rfl,h5⟩|⟨y0,r,s,rfl,_⟩
  ·exact .inl ⟨wlen_zero.2 rfl,h5⟩
  ·exact .inr ⟨r,s,by rw[m3new j hj];exact lf_at j y r s cap hy y0 hx,rfl⟩
 ·intro b cs hcs
  rw[(addNums_base ys h).1] at hcs
  obtain⟨r,s,h1,h3,c,el,fz,h4,h5,h6⟩:=R.base b cs hcs
  exact⟨r,s,(le3 _ _ h1).1,h3,c,el,fz,by rw[same r (by have:=R.size;omega)];exact h4,h5,fun i v hv=>let ⟨v',a,e⟩:=h6 i v hv;⟨v',a,e.mono le3⟩⟩
 ·rw[m3old _ (by rintro⟨h1,_⟩;omega)];exact R.odd b hb
 ·intro k r s hk
  by_cases c:h.n≤k∧k<h.n+ys.length
  ·have:=m3new (k - h.n) (by omega)
   rw[show h.n+(k - h.n)=k from by omega,hk] at this
   obtain⟨y,_,_,hl⟩:=lf_some _ r s this.symm
   exact srcB y r s hl
  ·rw[m3old _ (by rintro⟨_,h2',h3⟩;exact c ⟨by omega,by omega⟩)] at hk
   have:=R.even k r s hk
   have:=R'.size
   exact⟨by omega,by omega⟩
 ·intro k hk
  rw[nn] at hk
  rw[addNums_get,if_neg (by omega)]
  exact R.dom k (by omega)
 ·intro k o r s hk hm
  rcases isnew k o hk with hkn|⟨j,y,rfl,hy,rfl⟩
  ·rw[gold k hkn] at hk
   rw[mold k hkn] at hm
   exact(R.obj k o r s hk hm).mono le3 (same r (R.even k r s hm).2) (by rw[ez3])
  ·rw[m3new j (List.getElem?_eq_some_iff.1 hy).1] at hm
   obtain⟨y',hy',y0,hl⟩:=lf_some _ r s hm
   rw[hy] at hy';cases hy'
   obtain⟨c,el,h1,h3,h4⟩:=hl.row
   exact .inr ⟨c,el,h1,h3,fun i v hv=>let ⟨v',a,e⟩:=h4 i v hv;⟨v',a,e.mono le3⟩⟩
 ·-- who shares memory
  have one : ∀j y k o r s s',ys[j]?=some y→k<h.n→h.ext.get k=some o→o.alive=true→lf j=some (r,s)→m (2*k)=some (r,s')→o.isNum=true:=by
   intro j y k o r s s' hy hkn hk ha hj hm
   obtain⟨y',_,_,hl⟩:=lf_some j r s hj
   rcases hl.src with h1|⟨i,b,x,s0,hb1,hx1,hm1⟩
   ·have:=(R.even k r s' hm).2;omega
   ·obtain⟨t1,t2⟩:=T.2 i b x hb1 hx1
    have hmb:m (2*(b / 2))=some (r,s0):=by rw[show 2*(b / 2)=b from by omega];exact hm1
    by_cases e:b / 2=k
    ·rw[e,hk] at t2;cases t2;rfl
    ·rcases R.own (b / 2) k _ o r s0 s' e t2 hk rfl ha hmb hm with⟨_,_,_,_,_,_,e1,_⟩|⟨_,e2⟩
     ·rw[t2] at e1;cases e1
     ·exact e2
  intro k k' o o' r s s' hne hk hk' ha ha' hm hm'
  rcases isnew k o hk with hkn|⟨j,y,rfl,hy,rfl⟩
  ·rcases isnew k' o' hk' with hkn'|⟨j',y',rfl,hy',rfl⟩
   ·rw[gold k hkn] at hk
    rw[gold k' hkn'] at hk'
    rw[mold k hkn] at hm
    rw[mold k' hkn'] at hm'
    refine(R.own k k' o o' r s s' hne hk hk' ha ha' hm hm').imp (fun⟨c1,t1,c2,t2,f,st,e1,e2,e3,e4,e5⟩=>⟨c1,t1,c2,t2,f,st,?_,?_,?_,e4,e5⟩) id
    ·rw[gold k hkn];exact e1
    ·rw[gold k' hkn'];exact e2
    ·rw[(addNums_base ys h).2];exact e3
   ·rw[gold k hkn] at hk
    rw[mold k hkn] at hm
    rw[m3new j' (List.getElem?_eq_some_iff.1 hy').1] at hm'
    exact .inr ⟨one j' y' k o r s' s hy' hkn hk ha hm' hm,rfl⟩
  ·rcases isnew k' o' hk' with hkn'|⟨j',y',rfl,hy',rfl⟩
   ·rw[gold k' hkn'] at hk'
    rw[mold k' hkn'] at hm'
    rw[m3new j (List.getElem?_eq_some_iff.1 hy).1] at hm
    exact .inr ⟨rfl,one j y k' o' r s s' hy hkn' hk' ha' hm hm'⟩
   ·exact .inr ⟨rfl,rfl⟩
 ·intro f st hf
  rw[(addNums_base ys h).2] at hf
  obtain⟨a,b,c⟩:=R.famdom f st hf
  rw[nn]
  exact⟨by omega,fun x hx=>by have:=b x hx;omega,c⟩
 ·intro k cs t f hk
  rcases isnew k _ hk with hkn|⟨j,y,_,_,e⟩
  ·rw[gold k hkn] at hk
   rw[(addNums_base ys h).2]
   exact R.fam k cs t f hk
  ·cases e
 ·intro f st hf
  rw[(addNums_base ys h).2] at hf
  refine(R.long f st hf).imp fun {x y} hxy=>?_
  intro cs t g cs' t' g' r s s' h1 h3 h4 h5
  have c1:x<h.n:=by
   rcases isnew x _ h1 with h6|⟨_,_,_,_,e⟩
   ·exact h6
   ·cases e
  have c2:y<h.n:=by
   rcases isnew y _ h3 with h6|⟨_,_,_,_,e⟩
   ·exact h6
   ·cases e
  rw[gold x c1] at h1
  rw[gold y c2] at h3
  rw[mold x c1] at h4
  rw[mold y c2] at h5
  exact hxy cs t g cs' t' g' r s s' h1 h3 h4 h5
 ·intro f st x y hf hx hy hs
  rw[(addNums_base ys h).2] at hf
  have b:=(R.famdom f st hf).2.1
  rw[mold x (b x hx)] at hs
  rw[mold y (b y hy)]
  exact R.whole f st x y hf hx hy hs
 ·intro b hb
  refine⟨b / 2,?_⟩
  rw[nn]
  by_cases c:b % 2=0∧h.n≤b / 2∧b / 2<h.n+ys.length
  ·exact⟨by omega,c.2⟩
  ·exact absurd (m3old b c) hb
 ·intro k r s h1 h3 h4
  rw[nn] at h3
  have:=m3new (k - h.n) (by omega)
  rw[show h.n+(k - h.n)=k from by omega,h4] at this
  obtain⟨y,_,_,hl⟩:=lf_some _ r s this.symm
  rcases hl.src with h5|⟨i,b,x,s0,hb1,hx1,hm1⟩
  ·exact .inl h5
  ·obtain⟨t1,t2⟩:=T.2 i b x hb1 hx1
   exact .inr ⟨b / 2,s0,oldn _ _ t2,by rw[show 2*(b / 2)=b from by omega];exact hm1⟩
 ·intro k hk hm hn f st hf
  rw[(addNums_base ys h).2] at hf
  exact hn f st hf
end Go.Id

namespace Go.Id
open Go
theorem digs_step {x:Nat} (h:x≠0):digs x=x % 18446744073709551616 :: digs (x / 18446744073709551616):=by
 rw[digs,dif_neg h]
theorem digs_val (x:Nat):B.valD (digs x)=x:=by
 induction x using Nat.strongRecOn with
 | ind x ih =>
  by_cases h:x=0
  ·subst h;rw[digs_zero];rfl
  ·rw[digs_step h,B.valD_cons,ih _ (Nat.div_lt_self (by omega) (by decide))]
   exact Nat.mod_add_div x _
theorem digs_digs (x:Nat):B.Digs (digs x):=by
 induction x using Nat.strongRecOn with
 | ind x ih =>
  by_cases h:x=0
  ·subst h;rw[digs_zero];intro d hd;cases hd
  ·rw[digs_step h]
   intro d hd
   rcases List.mem_cons.1 hd with rfl|hd
   ·exact Nat.mod_lt _ (by decide)
   ·exact ih _ (Nat.div_lt_self (by omega) (by decide)) d hd
theorem digs_norm (x:Nat):B.Norm (digs x):=by
 induction x using Nat.strongRecOn with
 | ind x ih =>
  by_cases h:x=0
  ·subst h;rw[digs_zero];exact .inl rfl
  ·rw[digs_step h]
   right
   have ih:=ih _ (Nat.div_lt_self (by omega) (by decide:1<18446744073709551616))
   by_cases h2:x / 18446744073709551616=0
   ·rw[h2,digs_zero]
    show x % 18446744073709551616≠0
    have:=Nat.mod_add_div x 18446744073709551616
    rw[h2] at this;omega
   ·rcases ih with e|e
    ·have:=digs_val (x / 18446744073709551616)
     rw[e] at this
     exact absurd this.symm h2
    ·have hl:0<(digs (x / 18446744073709551616)).length:=by
      rw[digs_step h2];simp
     rw[List.length_cons,show(digs (x / 18446744073709551616)).length+1 - 1=((digs (x / 18446744073709551616)).length - 1)+1 from by omega,List.getD_cons_succ]
     exact e
theorem wlen_lt (x:Nat):x<18446744073709551616 ^ wlen x:=by
 have:=B.valD_lt (digs_digs x)
 rwa [digs_val] at this
noncomputable def wlK (f:Nat):Nat→Nat:=Nat.rec (motive:=fun _=>Nat→Nat) (fun _=>0) (fun _ ih x=>Bool.rec (motive:=fun _=>Nat) (fN (Nat.div x 18446744073709551616) fun y=>Nat.succ (ih y)) 0 (Nat.beq x 0)) f
theorem wlen_step {x:Nat} (h:x≠0):wlen x=wlen (x / 18446744073709551616)+1:=by
 unfold wlen
 rw[digs_step h,List.length_cons]
theorem wlK_eq : ∀(f x:Nat),x≤f→wlK f x=wlen x
 | 0,x,h=>by
  obtain rfl:x=0:=by omega
  exact(wlen_zero.2 rfl).symm
 | f+1,x,h=>by
  show Bool.rec (motive:=fun _=>Nat) (fN (Nat.div x 18446744073709551616) fun y=>Nat.succ (wlK f y)) 0 (Nat.beq x 0)=_
  rw[fN_eq]
  show Bool.rec (motive:=fun _=>Nat) (wlK f (x / 18446744073709551616)+1) 0 (Nat.beq x 0)=_
  by_cases hx:x=0
  ·subst hx
   exact(wlen_zero.2 rfl).symm
  ·have hlt:x / 18446744073709551616<x:=Nat.div_lt_self (by omega) (by decide)
   rw[wlK_eq f _ (by omega),wlen_step hx]
   cases hb:Nat.beq x 0 with
   | true=>exact absurd (Nat.beq_eq.mp hb) hx
   | false=>rfl
noncomputable def wlenK (x:Nat):Nat:=wlK x x
theorem wlenK_eq (x:Nat):wlenK x=wlen x:=wlK_eq x x (Nat.le_refl x)
end Go.Id

namespace Go.Id
open Go
inductive NK where
 | val|long|rat
inductive NV where
 | val (v:Value)
 | long (n:Bool) (b x:Nat)
 | rat (n:Bool) (b x c y:Nat)
def sint (n:Bool) (x:Nat):Int:=if n=true then -(x:Int) else x
def qrat (n:Bool) (x y:Nat):Rat:=Rat.divInt (sint n x) y
theorem sint_abs (n:Bool) (x:Nat):(sint n x).natAbs=x:=by unfold sint;split<;>omega
theorem sint_neg {n:Bool} {x:Nat} (h:n=true→x≠0):decide (sint n x<0)=n:=by
 unfold sint
 cases n
 ·simp
 ·have:=h rfl
  simp;omega
theorem wrd_sl {h:IH} {s:Value} {x:Nat} (w:Wrd h s x):NumSl h s x:=by
 obtain⟨ds,a,b,c⟩:=w
 obtain⟨a1,a2,a3⟩:=a
 have e:ds=digs x:=B.norm_unique a2 (digs_digs x) b (digs_norm x) (by rw[c,digs_val])
 subst e
 exact a1
theorem sl_wrd {h:IH} {s:Value} {x:Nat} (w:NumSl h s x) (hl:wlen x≤1100000):Wrd h s x:=⟨digs x,⟨w,digs_digs x,hl⟩,digs_norm x,digs_val x⟩
theorem numAt_sl {xs:List Nat} {i:Nat} {u:Value} {x:Nat} (h:NumAt xs i u) (hx:xs[i]?=some x):NumSl (IH.start (numBase xs)) u x:=by
 obtain⟨x',hx',h⟩:=h
 rw[hx] at hx';cases hx'
 rcases h with⟨rfl,rfl|rfl⟩|⟨x0,cap,hc,rfl⟩
 ·exact⟨by omega,by rw[wordsOf_len,Nat.mul_one],.inl ⟨rfl,wlen_zero.2 rfl⟩⟩
 ·unfold NumSl
  rw[wlen_zero.2 rfl,wordsOf_zero]
  exact⟨by omega,rfl,.inr ⟨0,0,0,rfl,.inl ⟨rfl,rfl⟩⟩⟩
 ·refine⟨by omega,by rw[wordsOf_len,Nat.mul_one],.inr ⟨_,_,_,rfl,.inr ⟨by omega,by omega,wordsOf x,.inl ⟨by omega,by omega⟩,?_,?_,?_⟩⟩⟩
  ·unfold IH.row
   have e1:((2*(4294967296+i)+1) % 2 == 1)=true:=by simp
   rw[e1]
   show numBase xs ((2*(4294967296+i)+1) / 2)=_
   unfold numBase
   rw[show(2*(4294967296+i)+1) / 2 - 4294967296=i from by omega,hx]
   exact if_pos ⟨by omega,x0⟩
  ·rw[List.drop_zero,List.take_of_length_le (by rw[wordsOf_len];omega)]
  ·rw[wordsOf_len];omega
noncomputable section
def numOf (h:IH) (v:Value):Option (Nat×Nat):=match v with
 | .slice (some ⟨b,0,some 0⟩) l 0=>match trGet h.ext (Nat.div b 2) with
  | some (.num x)=>iB (Nat.beq (Nat.mod b 2) 0) (iB (Nat.beq l (wlenK x)) (iB (Nat.ble l 64) (some (b,x)) none) none) none
  | _=>none
 | _=>none
theorem ib_some {α:Type} {b:Bool} {x:Option α} {v:α} (h:iB b x none=some v):b=true∧x=some v:=by
 cases b
 ·cases h
 ·exact⟨rfl,h⟩
theorem ib_none {α:Type} {b:Bool} {x:Option α} {v:α} (h:iB b none x=some v):b=false∧x=some v:=by
 cases b
 ·exact⟨rfl,h⟩
 ·cases h
theorem numOf_some {h:IH} {v:Value} {b x:Nat} (e:numOf h v=some (b,x)):v=tokV b x∧(b % 2=0∧h.ext.get (b / 2)=some (.num x))∧wlen x≤64:=by
 unfold numOf at e
 split at e
 ·rename_i b' l
  split at e
  ·rename_i x' hx
   obtain⟨h1,e⟩:=ib_some e
   obtain⟨h2,e⟩:=ib_some e
   obtain⟨h3,e⟩:=ib_some e
   cases e
   have h2:=Nat.beq_eq.mp h2
   rw[wlenK_eq] at h2
   subst h2
   rw[trGet_eq] at hx
   exact⟨rfl,⟨Nat.beq_eq.mp h1,hx⟩,Nat.le_of_ble_eq_true h3⟩
  ·cases e
 ·cases e
def decode (h:IH) (k:NK) (v:Value):Option NV:=match k,v with
 | .val,v=>bif plain v then some (.val v) else none
 | .long,.agg cs=>match cs.toList with
  | [.bool n,s]=>match numOf h s with
   | some (b,x)=>iB (iB n (Nat.beq x 0) false) none (some (.long n b x))
   | none=>none
  | _=>none
 | .rat,.agg cs=>match cs.toList with
  | [.bool n,s,.bool false,t]=>match numOf h s with
   | some (b,x)=>match numOf h t with
    | some (c,y)=>iB (iB n (Nat.beq x 0) false) none (iB (Nat.beq y 0) none (iB (Nat.beq (Nat.gcd x y) 1) (some (.rat n b x c y)) none))
    | none=>none
   | none=>none
  | _=>none
 | _,_=>none
def NV.value:NV→Value
 | .val v=>v
 | .long n b x=>.agg #[.bool n,tokV b x]
 | .rat n b x c y=>.agg #[.bool n,tokV b x,.bool false,tokV c y]
def NV.good:NV→Prop
 | .val v=>plain v=true
 | .long n _ x=>(n=true→x≠0)∧wlen x≤64
 | .rat n _ x _ y=>((n=true→x≠0)∧(y≠0∧Nat.gcd x y=1))∧wlen x≤64∧wlen y≤64
def NV.at_ (h:IH):NV→Prop
 | .val _=>True
 | .long _ b x=>b % 2=0∧h.ext.get (b / 2)=some (.num x)
 | .rat _ b x c y=>(b % 2=0∧h.ext.get (b / 2)=some (.num x))∧c % 2=0∧h.ext.get (c / 2)=some (.num y)
theorem decode_some {h:IH} {k:NK} {v:Value} {a:NV} (e:decode h k v=some a):v=a.value∧a.good∧a.at_ h:=by
 unfold decode at e
 split at e
 ·rename_i v'
  simp only[cond_eq_ite] at e
  split at e
  ·cases e;rename_i hp;exact⟨rfl,hp,trivial⟩
  ·cases e
 ·rename_i cs
  split at e
  ·rename_i n s hcs
   split at e
   ·rename_i b x hx
    obtain⟨hn,e⟩:=ib_none e
    cases e
    obtain⟨h1,h2,h3⟩:=numOf_some hx
    refine⟨?_,⟨(fun h4 h5=>by rw[h4,h5] at hn;cases hn),h3⟩,h2⟩
    show Value.agg cs=Value.agg #[.bool n,tokV b x]
    rw[←h1]
    congr 1
    exact Array.ext' hcs
   ·cases e
  ·cases e
 ·rename_i cs
  split at e
  ·rename_i n s t hcs
   split at e
   ·rename_i b x hx
    split at e
    ·rename_i c y hy
     obtain⟨hn,e⟩:=ib_none e
     obtain⟨hm,e⟩:=ib_none e
     obtain⟨hk,e⟩:=ib_some e
     cases e
     obtain⟨h1,h2,h3⟩:=numOf_some hx
     obtain⟨h4,h5,h6⟩:=numOf_some hy
     refine⟨?_,⟨⟨(fun h7 h8=>by rw[h7,h8] at hn;cases hn),(fun h7=>by rw[h7] at hm;cases hm),Nat.beq_eq.mp hk⟩,h3,h6⟩,h2,h5⟩
     show Value.agg cs=Value.agg #[.bool n,tokV b x,.bool false,tokV c y]
     rw[←h1,←h4]
     congr 1
     exact Array.ext' hcs
    ·cases e
   ·cases e
  ·cases e
 ·cases e
def NV.bs:NV→List Nat
 | .val _ => []
 | .long _ b _ => [b]
 | .rat _ b _ c _ => [b,c]
def NV.xs:NV→List Nat
 | .val _ => []
 | .long _ _ x => [x]
 | .rat _ _ x _ y => [x,y]
def bsL:List NV→List Nat
 | [] => []
 | a :: l=>a.bs ++ bsL l
def xsL:List NV→List Nat
 | [] => []
 | a :: l=>a.xs ++ xsL l
def fillA:List NV→List Value→List Value
 | [],_ => []
 | .val v :: l,ss=>v :: fillA l ss
 | .long n _ _ :: l,s :: ss=>.agg #[.bool n,s] :: fillA l ss
 | .rat n _ _ _ _ :: l,s :: t :: ss=>.agg #[.bool n,s,.bool false,t] :: fillA l ss
 | _ :: l,_=>undef :: fillA l []
theorem fillA_toks : ∀al:List NV,fillA al (toksOf (bsL al) (xsL al))=al.map NV.value
 | []=>rfl
 | .val v :: l=>by
  show v :: fillA l (toksOf (bsL l) (xsL l))=v :: l.map NV.value
  rw[fillA_toks l]
 | .long n b x :: l=>by
  show Value.agg #[.bool n,tokV b x] :: fillA l (toksOf (bsL l) (xsL l))=Value.agg #[.bool n,tokV b x] :: l.map NV.value
  rw[fillA_toks l]
 | .rat n b x c y :: l=>by
  show Value.agg #[.bool n,tokV b x,.bool false,tokV c y] :: fillA l (toksOf (bsL l) (xsL l))=Value.agg #[.bool n,tokV b x,.bool false,tokV c y] :: l.map NV.value
  rw[fillA_toks l]
theorem cons_rel {m:Mp} {v:Value} {l vs':List Value} (h:LRel m (v :: l) vs') : ∃v' l',vs'=v' :: l'∧VRel m v v'∧LRel m l l':=by
 match vs',h with
 | [],h=>have:=h.1;simp at this
 | v' :: l',h=>exact⟨v',l',rfl,h.2 0 v v' rfl rfl,by have:=h.1;simpa using this,fun i a b ha hb=>h.2 (i+1) a b (by simpa using ha) (by simpa using hb)⟩
theorem nil_rel {m:Mp} {vs':List Value} (h:LRel m [] vs'):vs' = []:=List.length_eq_zero_iff.1 h.1.symm
theorem fillA_para : ∀al:List NV,(∀a∈al,a.good)→ParaL (fillA al) (xsL al).length
 | [],_=>fun m ss vs' hl h=>by
  obtain rfl:=nil_rel h
  obtain rfl:ss = []:=List.length_eq_zero_iff.1 hl
  exact⟨[],.nil m,fun m2 us _=>.nil m2⟩
 | .val v :: l,hg=>fun m ss vs' hl h=>by
  obtain⟨v',l',rfl,h1,h2⟩:=cons_rel (l:=fillA l ss) h
  obtain⟨ss',h3,h4⟩:=fillA_para l (fun a ha=>hg a (List.mem_cons_of_mem _ ha)) m ss l' hl h2
  have hp:plain v=true:=hg (.val v) List.mem_cons_self
  obtain rfl:=h1.plain_eq hp
  exact⟨ss',h3,fun m2 us hu=>.cons (.plain_mk hp) (h4 m2 us hu)⟩
 | .long n b x :: l,hg=>fun m ss vs' hl h=>by
  match ss,hl with
  | s :: ss,hl =>
   obtain⟨v',l',rfl,h1,h2⟩:=cons_rel (v:=.agg #[.bool n,s]) (l:=fillA l ss) h
   obtain⟨ss',h3,h4⟩:=fillA_para l (fun a ha=>hg a (List.mem_cons_of_mem _ ha)) m ss l' (by simpa [xsL,NV.xs] using hl) h2
   obtain⟨cs',rfl,h5⟩:=h1.agg_inv
   obtain⟨b',r',e1,h6,h7⟩:=cons_rel h5
   obtain⟨s',r2,rfl,h8,h9⟩:=cons_rel h7
   obtain rfl:=nil_rel h9
   have hb:=h6.scal_eq rfl
   subst hb
   refine⟨s' :: ss',.cons h8 h3,fun m2 us hu=>?_⟩
   match us,hu with
   | [],hu=>have:=hu.1;simp at this
   | u :: us,hu =>
    refine .cons (.agg_iff ?_) (h4 m2 us ⟨by have:=hu.1;simpa using this,fun i a c ha hc=>hu.2 (i+1) a c (by simpa using ha) (by simpa using hc)⟩)
    rw[e1]
    exact .cons (.scal rfl) (.cons (hu.2 0 u s' rfl rfl) (.nil m2))
  | [],hl=>simp[xsL,NV.xs] at hl
 | .rat n b x c y :: l,hg=>fun m ss vs' hl h=>by
  match ss,hl with
  | s :: t :: ss,hl =>
   obtain⟨v',l',rfl,h1,h2⟩:=cons_rel (v:=.agg #[.bool n,s,.bool false,t]) (l:=fillA l ss) h
   obtain⟨ss',h3,h4⟩:=fillA_para l (fun a ha=>hg a (List.mem_cons_of_mem _ ha)) m ss l' (by simpa [xsL,NV.xs] using hl) h2
   obtain⟨cs',rfl,h5⟩:=h1.agg_inv
   obtain⟨b',r',e1,h6,h7⟩:=cons_rel h5
   obtain⟨s',r2,rfl,h8,h9⟩:=cons_rel h7
   obtain⟨b2,r3,rfl,h10,h11⟩:=cons_rel h9
   obtain⟨t',r4,rfl,h12,h13⟩:=cons_rel h11
   obtain rfl:=nil_rel h13
   have hb:=h6.scal_eq rfl
   subst hb
   have hb2:=h10.scal_eq rfl
   subst hb2
   refine⟨s' :: t' :: ss',.cons h8 (.cons h12 h3),fun m2 us hu=>?_⟩
   match us,hu with
   | [],hu=>have:=hu.1;simp at this
   | [_],hu=>have:=hu.1;simp at this
   | u :: u2 :: us,hu =>
    refine .cons (.agg_iff ?_) (h4 m2 us ⟨by have:=hu.1;simpa using this,fun i a c ha hc=>hu.2 (i+2) a c (by simpa using ha) (by simpa using hc)⟩)
    rw[e1]
    exact .cons (.scal rfl) (.cons (hu.2 0 u s' rfl rfl) (.cons (.scal rfl) (.cons (hu.2 1 u2 t' rfl rfl) (.nil m2))))
  | [_],hl=>simp[xsL,NV.xs] at hl
  | [],hl=>simp[xsL,NV.xs] at hl
end
end Go.Id
