/-
  Functions on numbers of any length that are not evaluated by their text: arguments and results told apart, and what makes such a function right. The ideal machine with functions on numbers of any length that are not evaluated by their text.
-/
import Derived.Test.YtnanhedgenokpaaGreatTemperDetailedBm
import Derived.Test.YtnanhedgenokpaaGreatTemperDetailedBc
import Derived.Test.YtnanhedgenokpaaGreatTemperDetailedBg
set_option linter.unusedVariables false
set_option linter.unusedSimpArgs false
set_option linter.defProp false
set_option linter.deprecated false
namespace Go.Id
open Go
inductive NK where
 | val|long|rat
inductive NV where
 | val (v:Value)
 | long (n:Bool) (b x:Nat)
 | rat (n:Bool) (b x c y:Nat)
def sint (n:Bool) (x:Nat):Int:=if n=true then -(x:Int) else x
def qrat (n:Bool) (x y:Nat):Rat:=Rat.divInt (sint n x) y
theorem sint_abs (n:Bool) (x:Nat):(sint n x).natAbs=x:=by unfold sint;split<;>omega
theorem sint_neg {n:Bool} {x:Nat} (h:n=true→x≠0):decide (sint n x<0)=n:=by
 unfold sint
 cases n
 ·simp
 ·have:=h rfl
  simp;omega
theorem wrd_sl {h:IH} {s:Value} {x:Nat} (w:Wrd h s x):NumSl h s x:=by
 obtain⟨ds,a,b,c⟩:=w
 obtain⟨a1,a2,a3⟩:=a
 have e:ds=digs x:=B.norm_unique a2 (digs_digs x) b (digs_norm x) (by rw[c,digs_val])
 subst e
 exact a1
theorem sl_wrd {h:IH} {s:Value} {x:Nat} (w:NumSl h s x) (hl:wlen x≤1100000):Wrd h s x:=⟨digs x,⟨w,digs_digs x,hl⟩,digs_norm x,digs_val x⟩
theorem numAt_sl {xs:List Nat} {i:Nat} {u:Value} {x:Nat} (h:NumAt xs i u) (hx:xs[i]?=some x):NumSl (IH.start (numBase xs)) u x:=by
 obtain⟨x',hx',h⟩:=h
 rw[hx] at hx';cases hx'
 rcases h with⟨rfl,rfl|rfl⟩|⟨x0,cap,hc,rfl⟩
 ·exact⟨by omega,by rw[wordsOf_len,Nat.mul_one],.inl ⟨rfl,wlen_zero.2 rfl⟩⟩
 ·unfold NumSl
  rw[wlen_zero.2 rfl,wordsOf_zero]
  exact⟨by omega,rfl,.inr ⟨0,0,0,rfl,.inl ⟨rfl,rfl⟩⟩⟩
 ·refine⟨by omega,by rw[wordsOf_len,Nat.mul_one],.inr ⟨_,_,_,rfl,.inr ⟨by omega,by omega,wordsOf x,.inl ⟨by omega,by omega⟩,?_,?_,?_⟩⟩⟩
  ·unfold IH.row
   have e1:((2*(4294967296+i)+1) % 2 == 1)=true:=by simp
   rw[e1]
   show numBase xs ((2*(4294967296+i)+1) / 2)=_
   unfold numBase
   rw[show(2*(4294967296+i)+1) / 2 - 4294967296=i from by omega,hx]
   exact if_pos ⟨by omega,x0⟩
  ·rw[List.drop_zero,List.take_of_length_le (by rw[wordsOf_len];omega)]
  ·rw[wordsOf_len];omega
noncomputable section
def numOf (h:IH) (v:Value):Option (Nat×Nat):=match v with
 | .slice (some ⟨b,0,some 0⟩) l 0=>match trGet h.ext (Nat.div b 2) with
  | some (.num x)=>iB (Nat.beq (Nat.mod b 2) 0) (iB (Nat.beq l (wlenK x)) (iB (Nat.ble l 64) (some (b,x)) none) none) none
  | _=>none
 | _=>none
theorem ib_some {α:Type} {b:Bool} {x:Option α} {v:α} (h:iB b x none=some v):b=true∧x=some v:=by
 cases b
 ·cases h
 ·exact⟨rfl,h⟩
theorem ib_none {α:Type} {b:Bool} {x:Option α} {v:α} (h:iB b none x=some v):b=false∧x=some v:=by
 cases b
 ·exact⟨rfl,h⟩
 ·cases h
theorem numOf_some {h:IH} {v:Value} {b x:Nat} (e:numOf h v=some (b,x)):v=tokV b x∧(b % 2=0∧h.ext.get (b / 2)=some (.num x))∧wlen x≤64:=by
 unfold numOf at e
 split at e
 ·rename_i b' l
  split at e
  ·rename_i x' hx
   obtain⟨h1,e⟩:=ib_some e
   obtain⟨h2,e⟩:=ib_some e
   obtain⟨h3,e⟩:=ib_some e
   cases e
   have h2:=Nat.beq_eq.mp h2
   rw[wlenK_eq] at h2
   subst h2
   rw[trGet_eq] at hx
   exact⟨rfl,⟨Nat.beq_eq.mp h1,hx⟩,Nat.le_of_ble_eq_true h3⟩
  ·cases e
 ·cases e
def decode (h:IH) (k:NK) (v:Value):Option NV:=match k,v with
 | .val,v=>bif plain v then some (.val v) else none
 | .long,.agg cs=>match cs.toList with
  | [.bool n,s]=>match numOf h s with
   | some (b,x)=>iB (iB n (Nat.beq x 0) false) none (some (.long n b x))
   | none=>none
  | _=>none
 | .rat,.agg cs=>match cs.toList with
  | [.bool n,s,.bool false,t]=>match numOf h s with
   | some (b,x)=>match numOf h t with
    | some (c,y)=>iB (iB n (Nat.beq x 0) false) none (iB (Nat.beq y 0) none (iB (Nat.beq (Nat.gcd x y) 1) (some (.rat n b x c y)) none))
    | none=>none
   | none=>none
  | _=>none
 | _,_=>none
def NV.value:NV→Value
 | .val v=>v
 | .long n b x=>.agg #[.bool n,tokV b x]
 | .rat n b x c y=>.agg #[.bool n,tokV b x,.bool false,tokV c y]
def NV.good:NV→Prop
 | .val v=>plain v=true
 | .long n _ x=>(n=true→x≠0)∧wlen x≤64
 | .rat n _ x _ y=>((n=true→x≠0)∧(y≠0∧Nat.gcd x y=1))∧wlen x≤64∧wlen y≤64
def NV.at_ (h:IH):NV→Prop
 | .val _=>True
 | .long _ b x=>b % 2=0∧h.ext.get (b / 2)=some (.num x)
 | .rat _ b x c y=>(b % 2=0∧h.ext.get (b / 2)=some (.num x))∧c % 2=0∧h.ext.get (c / 2)=some (.num y)
theorem decode_some {h:IH} {k:NK} {v:Value} {a:NV} (e:decode h k v=some a):v=a.value∧a.good∧a.at_ h:=by
 unfold decode at e
 split at e
 ·rename_i v'
  simp only[cond_eq_ite] at e
  split at e
  ·cases e;rename_i hp;exact⟨rfl,hp,trivial⟩
  ·cases e
 ·rename_i cs
  split at e
  ·rename_i n s hcs
   split at e
   ·rename_i b x hx
    obtain⟨hn,e⟩:=ib_none e
    cases e
    obtain⟨h1,h2,h3⟩:=numOf_some hx
    refine⟨?_,⟨(fun h4 h5=>by rw[h4,h5] at hn;cases hn),h3⟩,h2⟩
    show Value.agg cs=Value.agg #[.bool n,tokV b x]
    rw[←h1]
    congr 1
    exact Array.ext' hcs
   ·cases e
  ·cases e
 ·rename_i cs
  split at e
  ·rename_i n s t hcs
   split at e
   ·rename_i b x hx
    split at e
    ·rename_i c y hy
     obtain⟨hn,e⟩:=ib_none e
     obtain⟨hm,e⟩:=ib_none e
     obtain⟨hk,e⟩:=ib_some e
     cases e
     obtain⟨h1,h2,h3⟩:=numOf_some hx
     obtain⟨h4,h5,h6⟩:=numOf_some hy
     refine⟨?_,⟨⟨(fun h7 h8=>by rw[h7,h8] at hn;cases hn),(fun h7=>by rw[h7] at hm;cases hm),Nat.beq_eq.mp hk⟩,h3,h6⟩,h2,h5⟩
     show Value.agg cs=Value.agg #[.bool n,tokV b x,.bool false,tokV c y]
     rw[←h1,←h4]
     congr 1
     exact Array.ext' hcs
    ·cases e
   ·cases e
  ·cases e
 ·cases e
def NV.bs:NV→List Nat
 | .val _ => []
 | .long _ b _ => [b]
 | .rat _ b _ c _ => [b,c]
def NV.xs:NV→List Nat
 | .val _ => []
 | .long _ _ x => [x]
 | .rat _ _ x _ y => [x,y]
def bsL:List NV→List Nat
 | [] => []
 | a :: l=>a.bs ++ bsL l
def xsL:List NV→List Nat
 | [] => []
 | a :: l=>a.xs ++ xsL l
def fillA:List NV→List Value→List Value
 | [],_ => []
 | .val v :: l,ss=>v :: fillA l ss
 | .long n _ _ :: l,s :: ss=>.agg #[.bool n,s] :: fillA l ss
 | .rat n _ _ _ _ :: l,s :: t :: ss=>.agg #[.bool n,s,.bool false,t] :: fillA l ss
 | _ :: l,_=>undef :: fillA l []
theorem fillA_toks : ∀al:List NV,fillA al (toksOf (bsL al) (xsL al))=al.map NV.value
 | []=>rfl
 | .val v :: l=>by
  show v :: fillA l (toksOf (bsL l) (xsL l))=v :: l.map NV.value
  rw[fillA_toks l]
 | .long n b x :: l=>by
  show Value.agg #[.bool n,tokV b x] :: fillA l (toksOf (bsL l) (xsL l))=Value.agg #[.bool n,tokV b x] :: l.map NV.value
  rw[fillA_toks l]
 | .rat n b x c y :: l=>by
  show Value.agg #[.bool n,tokV b x,.bool false,tokV c y] :: fillA l (toksOf (bsL l) (xsL l))=Value.agg #[.bool n,tokV b x,.bool false,tokV c y] :: l.map NV.value
  rw[fillA_toks l]
theorem cons_rel {m:Mp} {v:Value} {l vs':List Value} (h:LRel m (v :: l) vs') : ∃v' l',vs'=v' :: l'∧VRel m v v'∧LRel m l l':=by
 match vs',h with
 | [],h=>have:=h.1;simp at this
 | v' :: l',h=>exact⟨v',l',rfl,h.2 0 v v' rfl rfl,by have:=h.1;simpa using this,fun i a b ha hb=>h.2 (i+1) a b (by simpa using ha) (by simpa using hb)⟩
theorem nil_rel {m:Mp} {vs':List Value} (h:LRel m [] vs'):vs' = []:=List.length_eq_zero_iff.1 h.1.symm
theorem fillA_para : ∀al:List NV,(∀a∈al,a.good)→ParaL (fillA al) (xsL al).length
 | [],_=>fun m ss vs' hl h=>by
  obtain rfl:=nil_rel h
  obtain rfl:ss = []:=List.length_eq_zero_iff.1 hl
  exact⟨[],.nil m,fun m2 us _=>.nil m2⟩
 | .val v :: l,hg=>fun m ss vs' hl h=>by
  obtain⟨v',l',rfl,h1,h2⟩:=cons_rel (l:=fillA l ss) h
  obtain⟨ss',h3,h4⟩:=fillA_para l (fun a ha=>hg a (List.mem_cons_of_mem _ ha)) m ss l' hl h2
  have hp:plain v=true:=hg (.val v) List.mem_cons_self
  obtain rfl:=h1.plain_eq hp
  exact⟨ss',h3,fun m2 us hu=>.cons (.plain_mk hp) (h4 m2 us hu)⟩
 | .long n b x :: l,hg=>fun m ss vs' hl h=>by
  match ss,hl with
  | s :: ss,hl =>
   obtain⟨v',l',rfl,h1,h2⟩:=cons_rel (v:=.agg #[.bool n,s]) (l:=fillA l ss) h
   obtain⟨ss',h3,h4⟩:=fillA_para l (fun a ha=>hg a (List.mem_cons_of_mem _ ha)) m ss l' (by simpa [xsL,NV.xs] using hl) h2
   obtain⟨cs',rfl,h5⟩:=h1.agg_inv
   obtain⟨b',r',e1,h6,h7⟩:=cons_rel h5
   obtain⟨s',r2,rfl,h8,h9⟩:=cons_rel h7
   obtain rfl:=nil_rel h9
   have hb:=h6.scal_eq rfl
   subst hb
   refine⟨s' :: ss',.cons h8 h3,fun m2 us hu=>?_⟩
   match us,hu with
   | [],hu=>have:=hu.1;simp at this
   | u :: us,hu =>
    refine .cons (.agg_iff ?_) (h4 m2 us ⟨by have:=hu.1;simpa using this,fun i a c ha hc=>hu.2 (i+1) a c (by simpa using ha) (by simpa using hc)⟩)
    rw[e1]
    exact .cons (.scal rfl) (.cons (hu.2 0 u s' rfl rfl) (.nil m2))
  | [],hl=>simp[xsL,NV.xs] at hl
 | .rat n b x c y :: l,hg=>fun m ss vs' hl h=>by
  match ss,hl with
  | s :: t :: ss,hl =>
   obtain⟨v',l',rfl,h1,h2⟩:=cons_rel (v:=.agg #[.bool n,s,.bool false,t]) (l:=fillA l ss) h
   obtain⟨ss',h3,h4⟩:=fillA_para l (fun a ha=>hg a (List.mem_cons_of_mem _ ha)) m ss l' (by simpa [xsL,NV.xs] using hl) h2
   obtain⟨cs',rfl,h5⟩:=h1.agg_inv
   obtain⟨b',r',e1,h6,h7⟩:=cons_rel h5
   obtain⟨s',r2,rfl,h8,h9⟩:=cons_rel h7
   obtain⟨b2,r3,rfl,h10,h11⟩:=cons_rel h9
   obtain⟨t',r4,rfl,h12,h13⟩:=cons_rel h11
   obtain rfl:=nil_rel h13
   have hb:=h6.scal_eq rfl
   subst hb
   have hb2:=h10.scal_eq rfl
   subst hb2
   refine⟨s' :: t' :: ss',.cons h8 (.cons h12 h3),fun m2 us hu=>?_⟩
   match us,hu with
   | [],hu=>have:=hu.1;simp at this
   | [_],hu=>have:=hu.1;simp at this
   | u :: u2 :: us,hu =>
    refine .cons (.agg_iff ?_) (h4 m2 us ⟨by have:=hu.1;simpa using this,fun i a c ha hc=>hu.2 (i+2) a c (by simpa using ha) (by simpa using hc)⟩)
    rw[e1]
    exact .cons (.scal rfl) (.cons (hu.2 0 u s' rfl rfl) (.cons (.scal rfl) (.cons (hu.2 1 u2 t' rfl rfl) (.nil m2))))
  | [_],hl=>simp[xsL,NV.xs] at hl
  | [],hl=>simp[xsL,NV.xs] at hl
end
end Go.Id

namespace Go.Id
open Go
noncomputable section
def NV.real (h:IH):NV→Value→Prop
 | .val v,u=>u=v
 | .long n _ x,u=>PLong h u (sint n x)
 | .rat n _ x _ y,u=>PRat h u (qrat n x y)
def Reals (h:IH):List NV→List Value→Prop
 | [],[]=>True
 | a :: al,u :: us=>a.real h u∧Reals h al us
 | _,_=>False
theorem long_of {h:IH} {n:Bool} {x:Nat} {s:Value} (hn:n=true→x≠0) (w:Wrd h s x):PLong h (.agg #[.bool n,s]) (sint n x):=⟨s,by rw[sint_neg hn],by rw[sint_abs];exact w⟩
theorem qrat_parts {n:Bool} {x y:Nat} (hy:y≠0) (hg:Nat.gcd x y=1):(qrat n x y).num=sint n x∧(qrat n x y).den=y:=by
 unfold qrat
 have e:Nat.gcd (sint n x).natAbs y=1:=by rw[sint_abs];exact hg
 have:=Rat.divInt_ofNat (sint n x) y
 rw[show Rat.divInt (sint n x) (y:Int)=mkRat (sint n x) y from Rat.divInt_ofNat (sint n x) y]
 rw[←Rat.mk_eq_mkRat (sint n x) y hy e]
 exact⟨rfl,rfl⟩
theorem rat_of {h:IH} {n:Bool} {x y:Nat} {s t:Value} (hn:n=true→x≠0) (hy:y≠0) (hg:Nat.gcd x y=1) (w:Wrd h s x) (u:Wrd h t y):PRat h (.agg #[.bool n,s,.bool false,t]) (qrat n x y):=by
 obtain⟨e1,e2⟩:=qrat_parts (n:=n) hy hg
 refine⟨_,_,_,_,rfl,?_,?_⟩
 ·rw[e1];exact long_of hn w
 ·rw[e2];exact long_of (n:=false) (fun h=>by cases h) u
theorem reals_fill (hB:IH) : ∀(al:List NV) (us:List Value),us.length=(xsL al).length→(∀(i x:Nat) (u:Value),(xsL al)[i]?=some x→us[i]?=some u→NumSl hB u x)→(∀a∈al,a.good)→Reals hB al (fillA al us)
 | [],_,_,_,_=>trivial
 | .val v :: l,us,hl,h,hg=>⟨rfl,reals_fill hB l us hl h fun a ha=>hg a (List.mem_cons_of_mem _ ha)⟩
 | .long n b x :: l,us,hl,h,hg=>by
  have g:(n=true→x≠0)∧wlen x≤64:=hg _ List.mem_cons_self
  match us,hl,h with
  | [],hl,_=>simp[xsL,NV.xs] at hl
  | u :: us,hl,h =>
   exact⟨long_of g.1 (sl_wrd (h 0 x u rfl rfl) (Nat.le_trans g.2 (by decide))),reals_fill hB l us (by simpa [xsL,NV.xs] using hl) (fun i x' u' hx hu=>h (i+1) x' u' hx (by simpa using hu)) fun a ha=>hg a (List.mem_cons_of_mem _ ha)⟩
 | .rat n b x c y :: l,us,hl,h,hg=>by
  have g:((n=true→x≠0)∧(y≠0∧Nat.gcd x y=1))∧wlen x≤64∧wlen y≤64:=hg _ List.mem_cons_self
  match us,hl,h with
  | [],hl,_=>simp[xsL,NV.xs] at hl
  | [_],hl,_=>simp[xsL,NV.xs] at hl
  | u :: u2 :: us,hl,h =>
   exact⟨rat_of g.1.1 g.1.2.1 g.1.2.2 (sl_wrd (h 0 x u rfl rfl) (Nat.le_trans g.2.1 (by decide))) (sl_wrd (h 1 y u2 rfl rfl) (Nat.le_trans g.2.2 (by decide))),reals_fill hB l us (by simpa [xsL,NV.xs] using hl) (fun i x' u' hx hu=>h (i+2) x' u' hx (by simpa using hu)) fun a ha=>hg a (List.mem_cons_of_mem _ ha)⟩
inductive NR where
 | val (v:Value)
 | long (n:Bool) (x:Nat)
 | rat (n:Bool) (x y:Nat)
 | two (n:Bool) (x:Nat) (k:Bool) (y:Nat)
def NR.real (h:IH):NR→Value→Prop
 | .val v0,v=>v=v0
 | .long n x,v=>PLong h v (sint n x)
 | .rat n x y,v=>PRat h v (qrat n x y)
 | .two n x k y,v => ∃a b,v=.tuple #[a,b]∧PLong h a (sint n x)∧PLong h b (sint k y)
def NR.good:NR→Prop
 | .val v=>plainT v=true
 | .long n x=>n=true→x≠0
 | .rat n x y=>(n=true→x≠0)∧y≠0∧Nat.gcd x y=1
 | .two n x k y=>(n=true→x≠0)∧(k=true→y≠0)
def NR.nums:NR→List Nat
 | .val _ => []
 | .long _ x => [x]
 | .rat _ x y => [x,y]
 | .two _ x _ y => [x,y]
def tokK (b x:Nat):Value:=.slice (some ⟨b,0,some 0⟩) (wlenK x) 0
theorem tokK_eq (b x:Nat):tokK b x=tokV b x:=by unfold tokK tokV;rw[wlenK_eq]
def NR.value (n0:Nat):NR→Value
 | .val v=>v
 | .long n x=>.agg #[.bool n,tokK (2*n0) x]
 | .rat n x y=>.agg #[.bool n,tokK (2*n0) x,.bool false,tokK (2*(n0+1)) y]
 | .two n x k y=>.tuple #[.agg #[.bool n,tokK (2*n0) x],.agg #[.bool k,tokK (2*(n0+1)) y]]
def NR.fill:NR→List Value→Value
 | .val v,_=>v
 | .long n _,ss=>.agg #[.bool n,ss.headD undef]
 | .rat n _ _,ss=>.agg #[.bool n,ss.headD undef,.bool false,(ss.drop 1).headD undef]
 | .two n _ k _,ss=>.tuple #[.agg #[.bool n,ss.headD undef],.agg #[.bool k,(ss.drop 1).headD undef]]
theorem NR.fill_toks (r:NR) (n0:Nat):r.fill (toksOf (newBs n0 r.nums.length) r.nums)=r.value n0:=by
 cases r with
 | val v=>rfl
 | long n x=>show Value.agg #[.bool n,tokV (2*(n0+0)) x]=.agg #[.bool n,tokK (2*n0) x];rw[tokK_eq,Nat.add_zero]
 | rat n x y=>show Value.agg #[.bool n,tokV (2*(n0+0)) x,.bool false,tokV (2*(n0+1)) y]=.agg #[.bool n,tokK (2*n0) x,.bool false,tokK (2*(n0+1)) y];rw[tokK_eq,tokK_eq,Nat.add_zero]
 | two n x k y=>show Value.tuple #[.agg #[.bool n,tokV (2*(n0+0)) x],.agg #[.bool k,tokV (2*(n0+1)) y]]=.tuple #[.agg #[.bool n,tokK (2*n0) x],.agg #[.bool k,tokK (2*(n0+1)) y]];rw[tokK_eq,tokK_eq,Nat.add_zero]
theorem long_rel {m:Mp} {n:Bool} {s v':Value} (h:VRel m (.agg #[.bool n,s]) v') : ∃s',VRel m s s' ∧ ∀(m2:Mp) (u:Value),VRel m2 u s'→VRel m2 (.agg #[.bool n,u]) v':=by
 obtain⟨cs',rfl,h5⟩:=h.agg_inv
 obtain⟨b',r',e1,h6,h7⟩:=cons_rel h5
 obtain⟨s',r2,rfl,h8,h9⟩:=cons_rel h7
 obtain rfl:=nil_rel h9
 have hb:=h6.scal_eq rfl
 subst hb
 refine⟨s',h8,fun m2 u hu=>.agg_iff ?_⟩
 rw[e1]
 exact .cons (.scal rfl) (.cons hu (.nil m2))
theorem NR.para (r:NR) (hv : ∀v,r≠.val v):Para r.fill r.nums.length:=by
 intro m ss v' hl h
 cases r with
 | val v=>exact absurd rfl (hv v)
 | long n x =>
  match ss,hl with
  | [s],_ =>
   obtain⟨s',h1,h2⟩:=long_rel h
   refine⟨[s'],.cons h1 (.nil m),fun m2 us hu=>?_⟩
   match us,hu with
   | [u],hu=>exact h2 m2 u (hu.2 0 u s' rfl rfl)
   | [],hu=>have:=hu.1;simp at this
   | _ :: _ :: _,hu=>have:=hu.1;simp at this
  | [],hl=>simp[NR.nums] at hl
  | _ :: _ :: _,hl=>simp[NR.nums] at hl
 | rat n x y =>
  match ss,hl with
  | [s,t],_ =>
   obtain⟨ss',h1,h2⟩:=fillA_para [.rat n 0 1 0 1] (fun a ha=>by
    simp at ha;subst ha
    refine⟨⟨fun _=>by decide,by decide,by decide⟩,?_⟩
    have:wlen 1≤64:=by
     unfold wlen;rw[digs_step (by decide),show 1 / 18446744073709551616=0 from rfl,digs_zero];decide
    exact⟨this,this⟩) m [s,t] [v'] rfl (.cons h (.nil m))
   exact⟨ss',h1,fun m2 us hu=>by
    have h3:=h2 m2 us hu
    match us,hu with
    | [u,w],hu=>exact h3.2 0 _ _ rfl rfl
    | [],hu=>have a:=hu.1;have b:=h1.1;rw[←a] at b;simp at b
    | [_],hu=>have a:=hu.1;have b:=h1.1;rw[←a] at b;simp at b
    | _ :: _ :: _ :: _,hu=>have a:=hu.1;have b:=h1.1;rw[←a] at b;simp at b⟩
  | [],hl=>simp[NR.nums] at hl
  | [_],hl=>simp[NR.nums] at hl
  | _ :: _ :: _ :: _,hl=>simp[NR.nums] at hl
 | two n x k y =>
  match ss,hl with
  | [s,t],_ =>
   obtain⟨cs',rfl,h5⟩:=h.tuple_inv
   obtain⟨v1,r1,e1,h6,h7⟩:=cons_rel h5
   obtain⟨v2,r2,rfl,h8,h9⟩:=cons_rel h7
   obtain rfl:=nil_rel h9
   obtain⟨s',a1,a2⟩:=long_rel h6
   obtain⟨t',b1,b2⟩:=long_rel h8
   refine⟨[s',t'],.cons a1 (.cons b1 (.nil m)),fun m2 us hu=>?_⟩
   match us,hu with
   | [u,w],hu =>
    refine .tuple_iff ?_
    rw[e1]
    exact .cons (a2 m2 u (hu.2 0 u s' rfl rfl)) (.cons (b2 m2 w (hu.2 1 w t' rfl rfl)) (.nil m2))
   | [],hu=>have:=hu.1;simp at this
   | [_],hu=>have:=hu.1;simp at this
   | _ :: _ :: _ :: _,hu=>have:=hu.1;simp at this
  | [],hl=>simp[NR.nums] at hl
  | [_],hl=>simp[NR.nums] at hl
  | _ :: _ :: _ :: _,hl=>simp[NR.nums] at hl
theorem long_sl {h:IH} {v:Value} {n:Bool} {x:Nat} (hn:n=true→x≠0) (p:PLong h v (sint n x)) : ∃s,v=.agg #[.bool n,s]∧NumSl h s x:=by
 obtain⟨s,rfl,w⟩:=p
 rw[sint_abs] at w
 rw[sint_neg hn]
 exact⟨s,rfl,wrd_sl w⟩
theorem NR.real_fill {r:NR} (hv : ∀v,r≠.val v) (hg:r.good) {h:IH} {v:Value} (p:r.real h v) : ∃ss,ss.length=r.nums.length∧v=r.fill ss ∧ ∀(j y:Nat) (s:Value),r.nums[j]?=some y→ss[j]?=some s→NumSl h s y:=by
 cases r with
 | val v=>exact absurd rfl (hv v)
 | long n x =>
  obtain⟨s,rfl,w⟩:=long_sl hg p
  refine⟨[s],rfl,rfl,fun j y s' hy hs=>?_⟩
  match j with
  | 0=>cases hy;cases hs;exact w
  | j+1=>simp at hs
 | rat n x y =>
  obtain⟨a,s,b,t,rfl,p1,p2⟩:=p
  obtain⟨e1,e2⟩:=qrat_parts (n:=n) hg.2.1 hg.2.2
  rw[e1] at p1
  rw[e2] at p2
  obtain⟨s1,q1,w1⟩:=long_sl hg.1 p1
  obtain⟨s2,q2,w2⟩:=long_sl (n:=false) (x:=y) (fun h=>by cases h) p2
  cases q1
  cases q2
  refine⟨[s,t],rfl,rfl,fun j z s' hy hs=>?_⟩
  match j with
  | 0=>cases hy;cases hs;exact w1
  | 1=>cases hy;cases hs;exact w2
  | j+2=>simp at hs
 | two n x k y =>
  obtain⟨a,b,rfl,p1,p2⟩:=p
  obtain⟨s1,rfl,w1⟩:=long_sl hg.1 p1
  obtain⟨s2,rfl,w2⟩:=long_sl hg.2 p2
  refine⟨[s1,s2],rfl,rfl,fun j z s' hy hs=>?_⟩
  match j with
  | 0=>cases hy;cases hs;exact w1
  | 1=>cases hy;cases hs;exact w2
  | j+2=>simp at hs
structure NumFn (P:Program) (f:FuncId) (sem:List NV→Option NR):Prop where
 body : ∃fn,P.funcs[f]?=some fn∧fn.body.isSome=true
 right : ∀al r,(∀a∈al,a.good)→sem al=some r→r.good ∧ ∀h us,Reals h al us→WV P (.func (.func f) #[] #[]) us h fun v h'=>r.real h' v
def decodeL (h:IH):List NK→List Value→Option (List NV)
 | [],[]=>some []
 | k :: ks,v :: vs=>match decode h k v with
  | some a=>match decodeL h ks vs with
   | some al=>some (a :: al)
   | none=>none
  | none=>none
 | _,_=>none
theorem decodeL_some {h:IH} : ∀{ks:List NK} {vs:List Value} {al:List NV},decodeL h ks vs=some al→vs=al.map NV.value∧(∀a∈al,a.good) ∧ ∀a∈al,a.at_ h
 | [],[],al,e=>by cases e;exact⟨rfl,(fun a ha=>by cases ha),(fun a ha=>by cases ha)⟩
 | [],_ :: _,_,e=>by cases e
 | _ :: _,[],_,e=>by cases e
 | k :: ks,v :: vs,al,e=>by
  unfold decodeL at e
  split at e
  ·rename_i a ha
   split at e
   ·rename_i l hl
    cases e
    obtain⟨h1,h2,h3⟩:=decode_some ha
    obtain⟨h4,h5,h6⟩:=decodeL_some hl
    refine⟨by rw[h1,h4];rfl,fun b hb=>?_,fun b hb=>?_⟩
    ·rcases List.mem_cons.1 hb with rfl|hb
     ·exact h2
     ·exact h5 b hb
    ·rcases List.mem_cons.1 hb with rfl|hb
     ·exact h3
     ·exact h6 b hb
   ·cases e
  ·cases e
theorem toks_at {h:IH} : ∀(al:List NV),(∀a∈al,a.at_ h)→Toks h (bsL al) (xsL al)
 | [],_=>⟨rfl,fun i b x hb=>by simp[bsL] at hb⟩
 | a :: l,hg=>by
  obtain⟨h1,h2⟩:=toks_at l fun b hb=>hg b (List.mem_cons_of_mem _ hb)
  have ha:=hg a List.mem_cons_self
  cases a with
  | val v=>exact⟨h1,h2⟩
  | long n b x =>
   refine⟨by show(bsL l).length+1=(xsL l).length+1;rw[h1],fun i c y hc hy=>?_⟩
   match i with
   | 0=>cases hc;cases hy;exact ha
   | i+1=>exact h2 i c y hc hy
  | rat n b x c y =>
   refine⟨by show(bsL l).length+1+1=(xsL l).length+1+1;rw[h1],fun i d z hd hz=>?_⟩
   match i with
   | 0=>cases hd;cases hz;exact ha.1
   | 1=>cases hd;cases hz;exact ha.2
   | i+2=>exact h2 i d z hd hz
def numsF {α:Type} (l:List Nat) (h:IH) (k:IH→α):α:=List.rec (motive:=fun _=>IH→α) k (fun y _ ih h=>newF h (.num y) fun _ h'=>ih h') l h
theorem numsF_eq {α:Type} : ∀(l:List Nat) (h:IH) (k:IH→α),numsF l h k=k (addNums h l)
 | [],_,_=>rfl
 | y :: l,h,k=>by
  show newF h (.num y) (fun _ h'=>numsF l h' k)=_
  rw[newF_eq,numsF_eq l];rfl
def outF (r:NR) (h:IH):Option (Value×IH):=match r with
 | .val v=>some (v,h)
 | .long n x=>fN (Nat.mul 2 h.n) fun a=>fN (wlenK x) fun i=>numsF [x] h fun h'=>some (.agg ⟨[.bool n,.slice (some ⟨a,0,some 0⟩) i 0]⟩,h')
 | .rat n x y=>fN (Nat.mul 2 h.n) fun a=>fN (Nat.mul 2 (Nat.succ h.n)) fun b=>fN (wlenK x) fun i=>fN (wlenK y) fun j=>numsF [x,y] h fun h'=>some (.agg ⟨[.bool n,.slice (some ⟨a,0,some 0⟩) i 0,.bool false,.slice (some ⟨b,0,some 0⟩) j 0]⟩,h')
 | .two n x k y=>fN (Nat.mul 2 h.n) fun a=>fN (Nat.mul 2 (Nat.succ h.n)) fun b=>fN (wlenK x) fun i=>fN (wlenK y) fun j=>numsF [x,y] h fun h'=>some (.tuple ⟨[.agg ⟨[.bool n,.slice (some ⟨a,0,some 0⟩) i 0]⟩,.agg ⟨[.bool k,.slice (some ⟨b,0,some 0⟩) j 0]⟩]⟩,h')
theorem outF_eq (r:NR) (h:IH):outF r h=some (r.value h.n,addNums h r.nums):=by
 unfold outF
 cases r<;>simp only[fN_eq,numsF_eq]<;>rfl
def nint (ks:List NK) (sem:List NV→Option NR) (args:List Value) (h:IH):Option (Value×IH):=match decodeL h ks args with
 | some al=>match sem al with
  | some r=>outF r h
  | none=>none
 | none=>none
theorem nint_calls {P:Program} (S:Sound (E0 P)) {f:FuncId} {ks:List NK} {sem:List NV→Option NR} (F:NumFn P f sem) {args:List Value} {h h':IH} {v:Value} (e:nint ks sem args h=some (v,h'))
  {B:Nat} {w0:World} {m:Mp} {w:World} {args':Array Value} (R:Rel B w0 m h w) (ha:LRel m args args'.toList) (fr:Fresh m h.n h'.n):CallsTo P f args' B w0 m h w v h':=by
 unfold nint at e
 split at e
 case h_2=>cases e
 rename_i al has
 split at e
 case h_2=>cases e
 rename_i r hr
 rw[outF_eq] at e
 cases e
 obtain⟨e1,e2,e3⟩:=decodeL_some has
 obtain⟨g,W⟩:=F.right al r e2 hr
 have T:=toks_at al e3
 rw[e1,←fillA_toks] at ha
 have hw : ∀us,us.length=(xsL al).length→(∀(i:Nat) (u:Value),us[i]?=some u→NumAt (xsL al) i u)→WV P (.func (.func f) #[] #[]) (fillA al us) (IH.start (numBase (xsL al))) fun v h'=>r.real h' v :=
  fun us hl hu=>W _ _ (reals_fill _ al us hl (fun i x u hx h2=>numAt_sl (hu i u h2) hx) e2)
 by_cases c : ∃v,r=.val v
 ·obtain⟨v,rfl⟩:=c
  exact num_plain S R T (fillA_para al e2) ha F.body g hw
 ·have nv : ∀v,r≠.val v:=fun v e=>c ⟨v,e⟩
  have:=num_nums S R T (fillA_para al e2) ha F.body (r.para nv) (fun us hl hu=>(hw us hl hu).mono fun v h' p=>NR.real_fill nv g p) (by rw[addNums_n] at fr;exact fr)
  rw[NR.fill_toks] at this
  exact this
def E2 (P:Program) (tb:FuncId→Option (List Value→Option Value)) (tn:FuncId→Option (List Value→IH→Option (Value×IH))):Env:=⟨P,fun _ _=>none,fun f=>match tn f with
 | some g=>some g
 | none=>(E1 P tb).intr f⟩
theorem sound2 {P:Program} {tb:FuncId→Option (List Value→Option Value)} {tn:FuncId→Option (List Value→IH→Option (Value×IH))} (S0:Sound (E0 P)) (S:Sound (E1 P tb)) (hn : ∀f g,tn f=some g → ∃ks sem,g=nint ks sem∧NumFn P f sem):Sound (E2 P tb tn) where
 mixed:=S.mixed
 names:=S.names
 origin:=S.origin
 intrN:=fun f g hg args h v h' e=>by
  have hg:(match tn f with|some g=>some g|none=>(E1 P tb).intr f)=some g:=hg
  split at hg
  ·rename_i g' hg'
   cases hg
   obtain⟨ks,sem,rfl,F⟩:=hn f _ hg'
   unfold nint at e
   split at e
   case h_2=>cases e
   split at e
   case h_2=>cases e
   rw[outF_eq] at e
   cases e
   rw[addNums_n];omega
  ·exact S.intrN f g hg args h v h' e
 intr:=fun f g hg=>by
  have hg:(match tn f with|some g=>some g|none=>(E1 P tb).intr f)=some g:=hg
  split at hg
  ·rename_i g' hg'
   cases hg
   obtain⟨ks,sem,rfl,F⟩:=hn f _ hg'
   exact⟨F.body,fun args h v h' e B w0 m w args' R ha fr=>nint_calls S0 F e R ha fr⟩
  ·exact S.intr f g hg
end
end Go.Id
