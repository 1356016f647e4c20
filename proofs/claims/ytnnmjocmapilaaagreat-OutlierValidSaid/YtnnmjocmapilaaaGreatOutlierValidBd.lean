/-
  Functions on numbers of any length that are not evaluated by their text: arguments and res
-/
import Derived.Test.YtnnmjocmapilaaaGreatOutlierValidBc
set_option linter.unusedVariables false
set_option linter.unusedSimpArgs false
set_option linter.defProp false
set_option linter.deprecated false
namespace Go.Id
open Go
inductive NK where
 | val|long|rat
inductive NV where
 | val (v:Value)
 | long (n:Bool) (b x:Nat)
 | rat (n:Bool) (b x c y:Nat)
def sint (n:Bool) (x:Nat):Int:=if n=true then -(x:Int) else x
def kC (n:Bool) (x y:Nat):Rat:=Rat.divInt (sint n x) y
theorem ir (n:Bool) (x:Nat):(sint n x).natAbs=x:=by unfold sint;split<;>omega
theorem Ft {n:Bool} {x:Nat} (h:n=true→x≠0):decide (sint n x<0)=n:=by
 unfold sint
 cases n
 ·simp
 ·have:=h rfl
  simp;omega
theorem VO {h:IH} {s:Value} {x:Nat} (w:Wrd h s x):vG h s x:=by
 obtain⟨ds,a,b,c⟩:=w
 obtain⟨a1,a2,a3⟩:=a
 have e:ds=qX x:=B.xw a2 (wJ x) b (Cx x) (by rw[c,vm])
 subst e
 exact a1
theorem HX {h:IH} {s:Value} {x:Nat} (w:vG h s x) (hl:gw x≤1100000):Wrd h s x:=⟨qX x,⟨w,wJ x,hl⟩,Cx x,vm x⟩
theorem Qj {xs:List Nat} {i:Nat} {u:Value} {x:Nat} (h:AV xs i u) (hx:xs[i]?=some x):vG (IH.start (fL xs)) u x:=by
 obtain⟨x',hx',h⟩:=h
 rw[hx] at hx';cases hx'
 rcases h with⟨rfl,rfl|rfl⟩|⟨x0,cap,hc,rfl⟩
 ·exact⟨by omega,by rw[iU,Nat.mul_one],.inl ⟨rfl,fY.2 rfl⟩⟩
 ·unfold vG
  rw[fY.2 rfl,CY]
  exact⟨by omega,rfl,.inr ⟨0,0,0,rfl,.inl ⟨rfl,rfl⟩⟩⟩
 ·refine⟨by omega,by rw[iU,Nat.mul_one],.inr ⟨_,_,_,rfl,.inr ⟨by omega,by omega,fI x,.inl ⟨by omega,by omega⟩,?_,?_,?_⟩⟩⟩
  ·unfold IH.row
   have e1:((2*(4294967296+i)+1) % 2 == 1)=true:=by simp
   rw[e1]
   show fL xs ((2*(4294967296+i)+1) / 2)=_
   unfold fL
   rw[show(2*(4294967296+i)+1) / 2 - 4294967296=i from by omega,hx]
   exact if_pos ⟨by omega,x0⟩
  ·rw[List.drop_zero,List.take_of_length_le (by rw[iU];omega)]
  ·rw[iU];omega
noncomputable section
def numOf (h:IH) (v:Value):Option (Nat×Nat):=match v with
 | .slice (some ⟨b,0,some 0⟩) l 0=>match ug h.ext (Nat.div b 2) with
  | some (.num x)=>iB (Nat.beq (Nat.mod b 2) 0) (iB (Nat.beq l (w8 x)) (iB (Nat.ble l 64) (some (b,x)) none) none) none
  | _=>none
 | _=>none
theorem yx {α:Type} {b:Bool} {x:Option α} {v:α} (h:iB b x none=some v):b=true∧x=some v:=by
 cases b
 ·cases h
 ·exact⟨rfl,h⟩
theorem DO {α:Type} {b:Bool} {x:Option α} {v:α} (h:iB b none x=some v):b=false∧x=some v:=by
 cases b
 ·exact⟨rfl,h⟩
 ·cases h
theorem tB {h:IH} {v:Value} {b x:Nat} (e:numOf h v=some (b,x)):v=mA b x∧(b % 2=0∧h.ext.get (b / 2)=some (.num x))∧gw x≤64:=by
 unfold numOf at e
 split at e
 ·rename_i b' l
  split at e
  ·rename_i x' hx
   obtain⟨h1,e⟩:=yx e
   obtain⟨h2,e⟩:=yx e
   obtain⟨h3,e⟩:=yx e
   cases e
   have h2:=Nat.beq_eq.mp h2
   rw[EK] at h2
   subst h2
   rw[lU] at hx
   exact⟨rfl,⟨Nat.beq_eq.mp h1,hx⟩,Nat.le_of_ble_eq_true h3⟩
  ·cases e
 ·cases e
def decode (h:IH) (k:NK) (v:Value):Option NV:=match k,v with
 | .val,v=>bif plain v then some (.val v) else none
 | .long,.agg cs=>match cs.toList with
  | [.bool n,s]=>match numOf h s with
   | some (b,x)=>iB (iB n (Nat.beq x 0) false) none (some (.long n b x))
   | none=>none
  | _=>none
 | .rat,.agg cs=>match cs.toList with
  | [.bool n,s,.bool false,t]=>match numOf h s with
   | some (b,x)=>match numOf h t with
    | some (c,y)=>iB (iB n (Nat.beq x 0) false) none (iB (Nat.beq y 0) none (iB (Nat.beq (Nat.gcd x y) 1) (some (.rat n b x c y)) none))
    | none=>none
   | none=>none
  | _=>none
 | _,_=>none
def NV.value:NV→Value
 | .val v=>v
 | .long n b x=>.agg #[.bool n,mA b x]
 | .rat n b x c y=>.agg #[.bool n,mA b x,.bool false,mA c y]
def NV.jo:NV→Prop
 | .val v=>plain v=true
 | .long n _ x=>(n=true→x≠0)∧gw x≤64
 | .rat n _ x _ y=>((n=true→x≠0)∧(y≠0∧Nat.gcd x y=1))∧gw x≤64∧gw y≤64
def NV.at_ (h:IH):NV→Prop
 | .val _=>True
 | .long _ b x=>b % 2=0∧h.ext.get (b / 2)=some (.num x)
 | .rat _ b x c y=>(b % 2=0∧h.ext.get (b / 2)=some (.num x))∧c % 2=0∧h.ext.get (c / 2)=some (.num y)
theorem GZ {h:IH} {k:NK} {v:Value} {a:NV} (e:decode h k v=some a):v=a.value∧a.jo∧a.at_ h:=by
 unfold decode at e
 split at e
 ·rename_i v'
  simp only[cond_eq_ite] at e
  split at e
  ·cases e;rename_i hp;exact⟨rfl,hp,trivial⟩
  ·cases e
 ·rename_i cs
  split at e
  ·rename_i n s hcs
   split at e
   ·rename_i b x hx
    obtain⟨hn,e⟩:=DO e
    cases e
    obtain⟨h1,h2,h3⟩:=tB hx
    refine⟨?_,⟨(fun h4 h5=>by rw[h4,h5] at hn;cases hn),h3⟩,h2⟩
    show Value.agg cs=Value.agg #[.bool n,mA b x]
    rw[←h1]
    congr 1
    exact Array.ext' hcs
   ·cases e
  ·cases e
 ·rename_i cs
  split at e
  ·rename_i n s t hcs
   split at e
   ·rename_i b x hx
    split at e
    ·rename_i c y hy
     obtain⟨hn,e⟩:=DO e
     obtain⟨hm,e⟩:=DO e
     obtain⟨hk,e⟩:=yx e
     cases e
     obtain⟨h1,h2,h3⟩:=tB hx
     obtain⟨h4,h5,h6⟩:=tB hy
     refine⟨?_,⟨⟨(fun h7 h8=>by rw[h7,h8] at hn;cases hn),(fun h7=>by rw[h7] at hm;cases hm),Nat.beq_eq.mp hk⟩,h3,h6⟩,h2,h5⟩
     show Value.agg cs=Value.agg #[.bool n,mA b x,.bool false,mA c y]
     rw[←h1,←h4]
     congr 1
     exact Array.ext' hcs
    ·cases e
   ·cases e
  ·cases e
 ·cases e
def NV.bs:NV→List Nat
 | .val _ => []
 | .long _ b _ => [b]
 | .rat _ b _ c _ => [b,c]
def NV.xs:NV→List Nat
 | .val _ => []
 | .long _ _ x => [x]
 | .rat _ _ x _ y => [x,y]
def bsL:List NV→List Nat
 | [] => []
 | a :: l=>a.bs ++ bsL l
def xsL:List NV→List Nat
 | [] => []
 | a :: l=>a.xs ++ xsL l
def mY:List NV→List Value→List Value
 | [],_ => []
 | .val v :: l,ss=>v :: mY l ss
 | .long n _ _ :: l,s :: ss=>.agg #[.bool n,s] :: mY l ss
 | .rat n _ _ _ _ :: l,s :: t :: ss=>.agg #[.bool n,s,.bool false,t] :: mY l ss
 | _ :: l,_=>undef :: mY l []
theorem pf : ∀al:List NV,mY al (iH (bsL al) (xsL al))=al.map NV.value
 | []=>rfl
 | .val v :: l=>by
  show v :: mY l (iH (bsL l) (xsL l))=v :: l.map NV.value
  rw[pf l]
 | .long n b x :: l=>by
  show Value.agg #[.bool n,mA b x] :: mY l (iH (bsL l) (xsL l))=Value.agg #[.bool n,mA b x] :: l.map NV.value
  rw[pf l]
 | .rat n b x c y :: l=>by
  show Value.agg #[.bool n,mA b x,.bool false,mA c y] :: mY l (iH (bsL l) (xsL l))=Value.agg #[.bool n,mA b x,.bool false,mA c y] :: l.map NV.value
  rw[pf l]
theorem fB {m:Mp} {v:Value} {l vs':List Value} (h:bm m (v :: l) vs') : ∃v' l',vs'=v' :: l'∧aD m v v'∧bm m l l':=by
 match vs',h with
 | [],h=>have:=h.1;simp at this
 | v' :: l',h=>exact⟨v',l',rfl,h.2 0 v v' rfl rfl,by have:=h.1;simpa using this,fun i a b ha hb=>h.2 (i+1) a b (by simpa using ha) (by simpa using hb)⟩
theorem uR {m:Mp} {vs':List Value} (h:bm m [] vs'):vs' = []:=List.length_eq_zero_iff.1 h.1.symm
theorem jM : ∀al:List NV,(∀a∈al,a.jo)→Ml (mY al) (xsL al).length
 | [],_=>fun m ss vs' hl h=>by
  obtain rfl:=uR h
  obtain rfl:ss = []:=List.length_eq_zero_iff.1 hl
  exact⟨[],.nil m,fun m2 us _=>.nil m2⟩
 | .val v :: l,hg=>fun m ss vs' hl h=>by
  obtain⟨v',l',rfl,h1,h2⟩:=fB (l:=mY l ss) h
  obtain⟨ss',h3,h4⟩:=jM l (fun a ha=>hg a (List.mem_cons_of_mem _ ha)) m ss l' hl h2
  have hp:plain v=true:=hg (.val v) List.mem_cons_self
  obtain rfl:=h1.cV hp
  exact⟨ss',h3,fun m2 us hu=>.cons (.bP hp) (h4 m2 us hu)⟩
 | .long n b x :: l,hg=>fun m ss vs' hl h=>by
  match ss,hl with
  | s :: ss,hl =>
   obtain⟨v',l',rfl,h1,h2⟩:=fB (v:=.agg #[.bool n,s]) (l:=mY l ss) h
   obtain⟨ss',h3,h4⟩:=jM l (fun a ha=>hg a (List.mem_cons_of_mem _ ha)) m ss l' (by simpa [xsL,NV.xs] using hl) h2
   obtain⟨cs',rfl,h5⟩:=h1.pD
   obtain⟨b',r',e1,h6,h7⟩:=fB h5
   obtain⟨s',r2,rfl,h8,h9⟩:=fB h7
   obtain rfl:=uR h9
   have hb:=h6.cj rfl
   subst hb
   refine⟨s' :: ss',.cons h8 h3,fun m2 us hu=>?_⟩
   match us,hu with
   | [],hu=>have:=hu.1;simp at this
   | u :: us,hu =>
    refine .cons (.kf ?_) (h4 m2 us ⟨by have:=hu.1;simpa using this,fun i a c ha hc=>hu.2 (i+1) a c (by simpa using ha) (by simpa using hc)⟩)
    rw[e1]
    exact .cons (.bD rfl) (.cons (hu.2 0 u s' rfl rfl) (.nil m2))
  | [],hl=>simp[xsL,NV.xs] at hl
 | .rat n b x c y :: l,hg=>fun m ss vs' hl h=>by
  match ss,hl with
  | s :: t :: ss,hl =>
   obtain⟨v',l',rfl,h1,h2⟩:=fB (v:=.agg #[.bool n,s,.bool false,t]) (l:=mY l ss) h
   obtain⟨ss',h3,h4⟩:=jM l (fun a ha=>hg a (List.mem_cons_of_mem _ ha)) m ss l' (by simpa [xsL,NV.xs] using hl) h2
   obtain⟨cs',rfl,h5⟩:=h1.pD
   obtain⟨b',r',e1,h6,h7⟩:=fB h5
   obtain⟨s',r2,rfl,h8,h9⟩:=fB h7
   obtain⟨b2,r3,rfl,h10,h11⟩:=fB h9
   obtain⟨t',r4,rfl,h12,h13⟩:=fB h11
   obtain rfl:=uR h13
   have hb:=h6.cj rfl
   subst hb
   have hb2:=h10.cj rfl
   subst hb2
   refine⟨s' :: t' :: ss',.cons h8 (.cons h12 h3),fun m2 us hu=>?_⟩
   match us,hu with
   | [],hu=>have:=hu.1;simp at this
   | [_],hu=>have:=hu.1;simp at this
   | u :: u2 :: us,hu =>
    refine .cons (.kf ?_) (h4 m2 us ⟨by have:=hu.1;simpa using this,fun i a c ha hc=>hu.2 (i+2) a c (by simpa using ha) (by simpa using hc)⟩)
    rw[e1]
    exact .cons (.bD rfl) (.cons (hu.2 0 u s' rfl rfl) (.cons (.bD rfl) (.cons (hu.2 1 u2 t' rfl rfl) (.nil m2))))
  | [_],hl=>simp[xsL,NV.xs] at hl
  | [],hl=>simp[xsL,NV.xs] at hl
end
noncomputable section
def NV.real (h:IH):NV→Value→Prop
 | .val v,u=>u=v
 | .long n _ x,u=>a9 h u (sint n x)
 | .rat n _ x _ y,u=>bg h u (kC n x y)
def Hw (h:IH):List NV→List Value→Prop
 | [],[]=>True
 | a :: al,u :: us=>a.real h u∧Hw h al us
 | _,_=>False
theorem DK {h:IH} {n:Bool} {x:Nat} {s:Value} (hn:n=true→x≠0) (w:Wrd h s x):a9 h (.agg #[.bool n,s]) (sint n x):=⟨s,by rw[Ft hn],by rw[ir];exact w⟩
theorem tu {n:Bool} {x y:Nat} (hy:y≠0) (hg:Nat.gcd x y=1):(kC n x y).num=sint n x∧(kC n x y).den=y:=by
 unfold kC
 have e:Nat.gcd (sint n x).natAbs y=1:=by rw[ir];exact hg
 have:=Rat.divInt_ofNat (sint n x) y
 rw[show Rat.divInt (sint n x) (y:Int)=mkRat (sint n x) y from Rat.divInt_ofNat (sint n x) y]
 rw[←Rat.mk_eq_mkRat (sint n x) y hy e]
 exact⟨rfl,rfl⟩
theorem Wn {h:IH} {n:Bool} {x y:Nat} {s t:Value} (hn:n=true→x≠0) (hy:y≠0) (hg:Nat.gcd x y=1) (w:Wrd h s x) (u:Wrd h t y):bg h (.agg #[.bool n,s,.bool false,t]) (kC n x y):=by
 obtain⟨e1,e2⟩:=tu (n:=n) hy hg
 refine⟨_,_,_,_,rfl,?_,?_⟩
 ·rw[e1];exact DK hn w
 ·rw[e2];exact DK (n:=false) (fun h=>by cases h) u
theorem oV (hB:IH) : ∀(al:List NV) (us:List Value),us.length=(xsL al).length→(∀(i x:Nat) (u:Value),(xsL al)[i]?=some x→us[i]?=some u→vG hB u x)→(∀a∈al,a.jo)→Hw hB al (mY al us)
 | [],_,_,_,_=>trivial
 | .val v :: l,us,hl,h,hg=>⟨rfl,oV hB l us hl h fun a ha=>hg a (List.mem_cons_of_mem _ ha)⟩
 | .long n b x :: l,us,hl,h,hg=>by
  have g:(n=true→x≠0)∧gw x≤64:=hg _ List.mem_cons_self
  match us,hl,h with
  | [],hl,_=>simp[xsL,NV.xs] at hl
  | u :: us,hl,h =>
   exact⟨DK g.1 (HX (h 0 x u rfl rfl) (Nat.le_trans g.2 (by decide))),oV hB l us (by simpa [xsL,NV.xs] using hl) (fun i x' u' hx hu=>h (i+1) x' u' hx (by simpa using hu)) fun a ha=>hg a (List.mem_cons_of_mem _ ha)⟩
 | .rat n b x c y :: l,us,hl,h,hg=>by
  have g:((n=true→x≠0)∧(y≠0∧Nat.gcd x y=1))∧gw x≤64∧gw y≤64:=hg _ List.mem_cons_self
  match us,hl,h with
  | [],hl,_=>simp[xsL,NV.xs] at hl
  | [_],hl,_=>simp[xsL,NV.xs] at hl
  | u :: u2 :: us,hl,h =>
   exact⟨Wn g.1.1 g.1.2.1 g.1.2.2 (HX (h 0 x u rfl rfl) (Nat.le_trans g.2.1 (by decide))) (HX (h 1 y u2 rfl rfl) (Nat.le_trans g.2.2 (by decide))),oV hB l us (by simpa [xsL,NV.xs] using hl) (fun i x' u' hx hu=>h (i+2) x' u' hx (by simpa using hu)) fun a ha=>hg a (List.mem_cons_of_mem _ ha)⟩
inductive NR where
 | val (v:Value)
 | long (n:Bool) (x:Nat)
 | rat (n:Bool) (x y:Nat)
 | two (n:Bool) (x:Nat) (k:Bool) (y:Nat)
def NR.real (h:IH):NR→Value→Prop
 | .val v0,v=>v=v0
 | .long n x,v=>a9 h v (sint n x)
 | .rat n x y,v=>bg h v (kC n x y)
 | .two n x k y,v => ∃a b,v=.tuple #[a,b]∧a9 h a (sint n x)∧a9 h b (sint k y)
def NR.jo:NR→Prop
 | .val v=>mc v=true
 | .long n x=>n=true→x≠0
 | .rat n x y=>(n=true→x≠0)∧y≠0∧Nat.gcd x y=1
 | .two n x k y=>(n=true→x≠0)∧(k=true→y≠0)
def NR.rX:NR→List Nat
 | .val _ => []
 | .long _ x => [x]
 | .rat _ x y => [x,y]
 | .two _ x _ y => [x,y]
def xV (b x:Nat):Value:=.slice (some ⟨b,0,some 0⟩) (w8 x) 0
theorem uh (b x:Nat):xV b x=mA b x:=by unfold xV mA;rw[EK]
def NR.value (n0:Nat):NR→Value
 | .val v=>v
 | .long n x=>.agg #[.bool n,xV (2*n0) x]
 | .rat n x y=>.agg #[.bool n,xV (2*n0) x,.bool false,xV (2*(n0+1)) y]
 | .two n x k y=>.tuple #[.agg #[.bool n,xV (2*n0) x],.agg #[.bool k,xV (2*(n0+1)) y]]
def NR.fill:NR→List Value→Value
 | .val v,_=>v
 | .long n _,ss=>.agg #[.bool n,ss.headD undef]
 | .rat n _ _,ss=>.agg #[.bool n,ss.headD undef,.bool false,(ss.drop 1).headD undef]
 | .two n _ k _,ss=>.tuple #[.agg #[.bool n,ss.headD undef],.agg #[.bool k,(ss.drop 1).headD undef]]
theorem NR.N6 (r:NR) (n0:Nat):r.fill (iH (BX n0 r.rX.length) r.rX)=r.value n0:=by
 cases r with
 | val v=>rfl
 | long n x=>show Value.agg #[.bool n,mA (2*(n0+0)) x]=.agg #[.bool n,xV (2*n0) x];rw[uh,Nat.add_zero]
 | rat n x y=>show Value.agg #[.bool n,mA (2*(n0+0)) x,.bool false,mA (2*(n0+1)) y]=.agg #[.bool n,xV (2*n0) x,.bool false,xV (2*(n0+1)) y];rw[uh,uh,Nat.add_zero]
 | two n x k y=>show Value.tuple #[.agg #[.bool n,mA (2*(n0+0)) x],.agg #[.bool k,mA (2*(n0+1)) y]]=.tuple #[.agg #[.bool n,xV (2*n0) x],.agg #[.bool k,xV (2*(n0+1)) y]];rw[uh,uh,Nat.add_zero]
theorem zU {m:Mp} {n:Bool} {s v':Value} (h:aD m (.agg #[.bool n,s]) v') : ∃s',aD m s s' ∧ ∀(m2:Mp) (u:Value),aD m2 u s'→aD m2 (.agg #[.bool n,u]) v':=by
 obtain⟨cs',rfl,h5⟩:=h.pD
 obtain⟨b',r',e1,h6,h7⟩:=fB h5
 obtain⟨s',r2,rfl,h8,h9⟩:=fB h7
 obtain rfl:=uR h9
 have hb:=h6.cj rfl
 subst hb
 refine⟨s',h8,fun m2 u hu=>.kf ?_⟩
 rw[e1]
 exact .cons (.bD rfl) (.cons hu (.nil m2))
theorem NR.para (r:NR) (hv : ∀v,r≠.val v):Para r.fill r.rX.length:=by
 intro m ss v' hl h
 cases r with
 | val v=>exact absurd rfl (hv v)
 | long n x =>
  match ss,hl with
  | [s],_ =>
   obtain⟨s',h1,h2⟩:=zU h
   refine⟨[s'],.cons h1 (.nil m),fun m2 us hu=>?_⟩
   match us,hu with
   | [u],hu=>exact h2 m2 u (hu.2 0 u s' rfl rfl)
   | [],hu=>have:=hu.1;simp at this
   | _ :: _ :: _,hu=>have:=hu.1;simp at this
  | [],hl=>simp[NR.rX] at hl
  | _ :: _ :: _,hl=>simp[NR.rX] at hl
 | rat n x y =>
  match ss,hl with
  | [s,t],_ =>
   obtain⟨ss',h1,h2⟩:=jM [.rat n 0 1 0 1] (fun a ha=>by
    simp at ha;subst ha
    refine⟨⟨fun _=>by decide,by decide,by decide⟩,?_⟩
    have:gw 1≤64:=by
     unfold gw;rw[lK (by decide),show 1 / 18446744073709551616=0 from rfl,jO];decide
    exact⟨this,this⟩) m [s,t] [v'] rfl (.cons h (.nil m))
   exact⟨ss',h1,fun m2 us hu=>by
    have h3:=h2 m2 us hu
    match us,hu with
    | [u,w],hu=>exact h3.2 0 _ _ rfl rfl
    | [],hu=>have a:=hu.1;have b:=h1.1;rw[←a] at b;simp at b
    | [_],hu=>have a:=hu.1;have b:=h1.1;rw[←a] at b;simp at b
    | _ :: _ :: _ :: _,hu=>have a:=hu.1;have b:=h1.1;rw[←a] at b;simp at b⟩
  | [],hl=>simp[NR.rX] at hl
  | [_],hl=>simp[NR.rX] at hl
  | _ :: _ :: _ :: _,hl=>simp[NR.rX] at hl
 | two n x k y =>
  match ss,hl with
  | [s,t],_ =>
   obtain⟨cs',rfl,h5⟩:=h.nL
   obtain⟨v1,r1,e1,h6,h7⟩:=fB h5
   obtain⟨v2,r2,rfl,h8,h9⟩:=fB h7
   obtain rfl:=uR h9
   obtain⟨s',a1,a2⟩:=zU h6
   obtain⟨t',b1,b2⟩:=zU h8
   refine⟨[s',t'],.cons a1 (.cons b1 (.nil m)),fun m2 us hu=>?_⟩
   match us,hu with
   | [u,w],hu =>
    refine .fx ?_
    rw[e1]
    exact .cons (a2 m2 u (hu.2 0 u s' rfl rfl)) (.cons (b2 m2 w (hu.2 1 w t' rfl rfl)) (.nil m2))
   | [],hu=>have:=hu.1;simp at this
   | [_],hu=>have:=hu.1;simp at this
   | _ :: _ :: _ :: _,hu=>have:=hu.1;simp at this
  | [],hl=>simp[NR.rX] at hl
  | [_],hl=>simp[NR.rX] at hl
  | _ :: _ :: _ :: _,hl=>simp[NR.rX] at hl
theorem uV {h:IH} {v:Value} {n:Bool} {x:Nat} (hn:n=true→x≠0) (p:a9 h v (sint n x)) : ∃s,v=.agg #[.bool n,s]∧vG h s x:=by
 obtain⟨s,rfl,w⟩:=p
 rw[ir] at w
 rw[Ft hn]
 exact⟨s,rfl,VO w⟩
theorem NR.MX {r:NR} (hv : ∀v,r≠.val v) (hg:r.jo) {h:IH} {v:Value} (p:r.real h v) : ∃ss,ss.length=r.rX.length∧v=r.fill ss ∧ ∀(j y:Nat) (s:Value),r.rX[j]?=some y→ss[j]?=some s→vG h s y:=by
 cases r with
 | val v=>exact absurd rfl (hv v)
 | long n x =>
  obtain⟨s,rfl,w⟩:=uV hg p
  refine⟨[s],rfl,rfl,fun j y s' hy hs=>?_⟩
  match j with
  | 0=>cases hy;cases hs;exact w
  | j+1=>simp at hs
 | rat n x y =>
  obtain⟨a,s,b,t,rfl,p1,p2⟩:=p
  obtain⟨e1,e2⟩:=tu (n:=n) hg.2.1 hg.2.2
  rw[e1] at p1
  rw[e2] at p2
  obtain⟨s1,q1,w1⟩:=uV hg.1 p1
  obtain⟨s2,q2,w2⟩:=uV (n:=false) (x:=y) (fun h=>by cases h) p2
  cases q1
  cases q2
  refine⟨[s,t],rfl,rfl,fun j z s' hy hs=>?_⟩
  match j with
  | 0=>cases hy;cases hs;exact w1
  | 1=>cases hy;cases hs;exact w2
  | j+2=>simp at hs
 | two n x k y =>
  obtain⟨a,b,rfl,p1,p2⟩:=p
  obtain⟨s1,rfl,w1⟩:=uV hg.1 p1
  obtain⟨s2,rfl,w2⟩:=uV hg.2 p2
  refine⟨[s1,s2],rfl,rfl,fun j z s' hy hs=>?_⟩
  match j with
  | 0=>cases hy;cases hs;exact w1
  | 1=>cases hy;cases hs;exact w2
  | j+2=>simp at hs
structure sX (P:Program) (f:FuncId) (sem:List NV→Option NR):Prop where
 body : ∃fn,P.funcs[f]?=some fn∧fn.body.isSome=true
 right : ∀al r,(∀a∈al,a.jo)→sem al=some r→r.jo ∧ ∀h us,Hw h al us→WV P (.func (.func f) #[] #[]) us h fun v h'=>r.real h' v
def yA (h:IH):List NK→List Value→Option (List NV)
 | [],[]=>some []
 | k :: ks,v :: vs=>match decode h k v with
  | some a=>match yA h ks vs with
   | some al=>some (a :: al)
   | none=>none
  | none=>none
 | _,_=>none
theorem vn {h:IH} : ∀{ks:List NK} {vs:List Value} {al:List NV},yA h ks vs=some al→vs=al.map NV.value∧(∀a∈al,a.jo) ∧ ∀a∈al,a.at_ h
 | [],[],al,e=>by cases e;exact⟨rfl,(fun a ha=>by cases ha),(fun a ha=>by cases ha)⟩
 | [],_ :: _,_,e=>by cases e
 | _ :: _,[],_,e=>by cases e
 | k :: ks,v :: vs,al,e=>by
  unfold yA at e
  split at e
  ·rename_i a ha
   split at e
   ·rename_i l hl
    cases e
    obtain⟨h1,h2,h3⟩:=GZ ha
    obtain⟨h4,h5,h6⟩:=vn hl
    refine⟨by rw[h1,h4];rfl,fun b hb=>?_,fun b hb=>?_⟩
    ·rcases List.mem_cons.1 hb with rfl|hb
     ·exact h2
     ·exact h5 b hb
    ·rcases List.mem_cons.1 hb with rfl|hb
     ·exact h3
     ·exact h6 b hb
   ·cases e
  ·cases e
theorem J7 {h:IH} : ∀(al:List NV),(∀a∈al,a.at_ h)→OM h (bsL al) (xsL al)
 | [],_=>⟨rfl,fun i b x hb=>by simp[bsL] at hb⟩
 | a :: l,hg=>by
  obtain⟨h1,h2⟩:=J7 l fun b hb=>hg b (List.mem_cons_of_mem _ hb)
  have ha:=hg a List.mem_cons_self
  cases a with
  | val v=>exact⟨h1,h2⟩
  | long n b x =>
   refine⟨by show(bsL l).length+1=(xsL l).length+1;rw[h1],fun i c y hc hy=>?_⟩
   match i with
   | 0=>cases hc;cases hy;exact ha
   | i+1=>exact h2 i c y hc hy
  | rat n b x c y =>
   refine⟨by show(bsL l).length+1+1=(xsL l).length+1+1;rw[h1],fun i d z hd hz=>?_⟩
   match i with
   | 0=>cases hd;cases hz;exact ha.1
   | 1=>cases hd;cases hz;exact ha.2
   | i+2=>exact h2 i d z hd hz
def Gh {α:Type} (l:List Nat) (h:IH) (k:IH→α):α:=List.rec (motive:=fun _=>IH→α) k (fun y _ ih h=>Nu h (.num y) fun _ h'=>ih h') l h
theorem Gg {α:Type} : ∀(l:List Nat) (h:IH) (k:IH→α),Gh l h k=k (gv h l)
 | [],_,_=>rfl
 | y :: l,h,k=>by
  show Nu h (.num y) (fun _ h'=>Gh l h' k)=_
  rw[yq,Gg l];rfl
def Wq (r:NR) (h:IH):Option (Value×IH):=match r with
 | .val v=>some (v,h)
 | .long n x=>fN (Nat.mul 2 h.n) fun a=>fN (w8 x) fun i=>Gh [x] h fun h'=>some (.agg ⟨[.bool n,.slice (some ⟨a,0,some 0⟩) i 0]⟩,h')
 | .rat n x y=>fN (Nat.mul 2 h.n) fun a=>fN (Nat.mul 2 (Nat.succ h.n)) fun b=>fN (w8 x) fun i=>fN (w8 y) fun j=>Gh [x,y] h fun h'=>some (.agg ⟨[.bool n,.slice (some ⟨a,0,some 0⟩) i 0,.bool false,.slice (some ⟨b,0,some 0⟩) j 0]⟩,h')
 | .two n x k y=>fN (Nat.mul 2 h.n) fun a=>fN (Nat.mul 2 (Nat.succ h.n)) fun b=>fN (w8 x) fun i=>fN (w8 y) fun j=>Gh [x,y] h fun h'=>some (.tuple ⟨[.agg ⟨[.bool n,.slice (some ⟨a,0,some 0⟩) i 0]⟩,.agg ⟨[.bool k,.slice (some ⟨b,0,some 0⟩) j 0]⟩]⟩,h')
theorem KL (r:NR) (h:IH):Wq r h=some (r.value h.n,gv h r.rX):=by
 unfold Wq
 cases r<;>simp only[dO,Gg]<;>rfl
def IT (ks:List NK) (sem:List NV→Option NR) (args:List Value) (h:IH):Option (Value×IH):=match yA h ks args with
 | some al=>match sem al with
  | some r=>Wq r h
  | none=>none
 | none=>none
theorem IS {P:Program} (S:Sound (E0 P)) {f:FuncId} {ks:List NK} {sem:List NV→Option NR} (F:sX P f sem) {args:List Value} {h h':IH} {v:Value} (e:IT ks sem args h=some (v,h'))
  {B:Nat} {w0:World} {m:Mp} {w:World} {args':Array Value} (R:Rel B w0 m h w) (ha:bm m args args'.toList) (fr:eo m h.n h'.n):kh P f args' B w0 m h w v h':=by
 unfold IT at e
 split at e
 case h_2=>cases e
 rename_i al has
 split at e
 case h_2=>cases e
 rename_i r hr
 rw[KL] at e
 cases e
 obtain⟨e1,e2,e3⟩:=vn has
 obtain⟨g,W⟩:=F.right al r e2 hr
 have T:=J7 al e3
 rw[e1,←pf] at ha
 have hw : ∀us,us.length=(xsL al).length→(∀(i:Nat) (u:Value),us[i]?=some u→AV (xsL al) i u)→WV P (.func (.func f) #[] #[]) (mY al us) (IH.start (fL (xsL al))) fun v h'=>r.real h' v :=
  fun us hl hu=>W _ _ (oV _ al us hl (fun i x u hx h2=>Qj (hu i u h2) hx) e2)
 by_cases c : ∃v,r=.val v
 ·obtain⟨v,rfl⟩:=c
  exact Nr S R T (jM al e2) ha F.body g hw
 ·have nv : ∀v,r≠.val v:=fun v e=>c ⟨v,e⟩
  have:=Qh S R T (jM al e2) ha F.body (r.para nv) (fun us hl hu=>(hw us hl hu).mono fun v h' p=>NR.MX nv g p) (by rw[rU] at fr;exact fr)
  rw[NR.N6] at this
  exact this
def E2 (P:Program) (tb:FuncId→Option (List Value→Option Value)) (tn:FuncId→Option (List Value→IH→Option (Value×IH))):Env:=⟨P,fun _ _=>none,fun f=>match tn f with
 | some g=>some g
 | none=>(E1 P tb).rZ f⟩
theorem Wc {P:Program} {tb:FuncId→Option (List Value→Option Value)} {tn:FuncId→Option (List Value→IH→Option (Value×IH))} (S0:Sound (E0 P)) (S:Sound (E1 P tb)) (hn : ∀f g,tn f=some g → ∃ks sem,g=IT ks sem∧sX P f sem):Sound (E2 P tb tn) where
 mixed:=S.mixed
 names:=S.names
 origin:=S.origin
 GM:=fun f g hg args h v h' e=>by
  have hg:(match tn f with|some g=>some g|none=>(E1 P tb).rZ f)=some g:=hg
  split at hg
  ·rename_i g' hg'
   cases hg
   obtain⟨ks,sem,rfl,F⟩:=hn f _ hg'
   unfold IT at e
   split at e
   case h_2=>cases e
   split at e
   case h_2=>cases e
   rw[KL] at e
   cases e
   rw[rU];omega
  ·exact S.GM f g hg args h v h' e
 rZ:=fun f g hg=>by
  have hg:(match tn f with|some g=>some g|none=>(E1 P tb).rZ f)=some g:=hg
  split at hg
  ·rename_i g' hg'
   cases hg
   obtain⟨ks,sem,rfl,F⟩:=hn f _ hg'
   exact⟨F.body,fun args h v h' e B w0 m w args' R ha fr=>IS S0 F e R ha fr⟩
  ·exact S.rZ f g hg
end
noncomputable section
def iN {α:Type} (a:Int) (k:Bool→Nat→α):α:=Int.rec (motive:=fun _=>α) (fun n=>fN n (k false)) (fun n=>fN (Nat.succ n) (k true)) a
theorem GP {α:Type} (a:Int) (k:Bool→Nat→α):iN a k=k (decide (a<0)) a.natAbs:=by
 cases a with
 | ofNat n =>
  show fN n (k false)=k (decide ((n:Int)<0)) n
  rw[dO,decide_eq_false (by omega)]
 | negSucc n =>
  show fN (n+1) (k true)=k (decide (Int.negSucc n<0)) (n+1)
  rw[dO,decide_eq_true (by omega)]
def sI (n:Bool) (x:Nat):Int:=iB n (Int.neg (Int.ofNat x)) (Int.ofNat x)
theorem iY (n:Bool) (x:Nat):sI n x=sint n x:=by cases n<;>rfl
def uW (a:Int):NR:=iN a NR.long
def zx (a:Int) (d:Nat):NR:=iN a fun s x=>fN (Nat.gcd x d) fun g=>fN (Nat.div x g) fun x=>fN (Nat.div d g) fun y=>.rat s x y
def Pe (a b:Int):NR:=iN a fun s x=>iN b fun k y=>.two s x k y
theorem rD (a:Int):sint (decide (a<0)) a.natAbs=a:=by
 unfold sint
 by_cases h:a<0
 ·rw[if_pos (decide_eq_true h)];omega
 ·rw[if_neg (by simpa using h)];omega
theorem Pt (s:Bool) (x g:Nat):sint s (x*g)=sint s x*g:=by
 unfold sint
 split
 ·rw[Int.natCast_mul,Int.neg_mul]
 ·rw[Int.natCast_mul]
theorem GB (a:Int):uW a=.long (decide (a<0)) a.natAbs:=by unfold uW;rw[GP]
theorem J4 (a b:Int):Pe a b=.two (decide (a<0)) a.natAbs (decide (b<0)) b.natAbs:=by unfold Pe;rw[GP,GP]
theorem DE {a:Int} (h:decide (a<0)=true):a.natAbs≠0:=by have:=of_decide_eq_true h;omega
theorem mi (a:Int):(uW a).jo:=by rw[GB];exact DE
theorem mh {a:Int} {h:IH} {v:Value} (p:a9 h v a):(uW a).real h v:=by
 rw[GB]
 show a9 h v (sint _ _)
 rw[rD];exact p
theorem Mz (a b:Int):(Pe a b).jo:=by rw[J4];exact⟨DE,DE⟩
theorem My {a b:Int} {h:IH} {v:Value} (p : ∃q t,v=.tuple #[q,t]∧a9 h q a∧a9 h t b):(Pe a b).real h v:=by
 rw[J4]
 show ∃q t,v=.tuple #[q,t]∧a9 h q (sint _ _)∧a9 h t (sint _ _)
 rw[rD,rD];exact p
theorem Kw (a:Int) {d:Nat} (hd:0<d) : ∃x y,zx a d=.rat (decide (a<0)) x y∧sint (decide (a<0)) x=(Rat.divInt a d).num∧y=(Rat.divInt a d).den∧(a<0→x≠0):=by
 have g0:0<Nat.gcd a.natAbs d:=Nat.gcd_pos_of_pos_right _ hd
 have k1:a.natAbs / Nat.gcd a.natAbs d*Nat.gcd a.natAbs d=a.natAbs:=Nat.div_mul_cancel (Nat.gcd_dvd_left _ _)
 have k2:d / Nat.gcd a.natAbs d*Nat.gcd a.natAbs d=d:=Nat.div_mul_cancel (Nat.gcd_dvd_right _ _)
 obtain⟨l1,l2⟩:=mP (n:=a) (d:=d) (by omega)
 have eg:Int.gcd a d=Nat.gcd a.natAbs d:=by unfold Int.gcd;rw[Int.natAbs_natCast]
 rw[eg] at l1 l2
 refine⟨a.natAbs / Nat.gcd a.natAbs d,d / Nat.gcd a.natAbs d,?_,?_,?_,fun h e=>?_⟩
 ·unfold zx
  rw[GP,dO,dO,dO];rfl
 ·rw[←l1]
  have:a=sint (decide (a<0)) (a.natAbs / Nat.gcd a.natAbs d)*(Nat.gcd a.natAbs d:Nat):=by rw[←Pt,k1,rD]
  exact(Int.ediv_eq_of_eq_mul_left (by omega) this).symm
 ·rw[←Int.natCast_ediv] at l2
  exact Int.ofNat.inj l2
 ·rw[e] at k1;omega
theorem lG (a:Int) {d:Nat} (hd:0<d):(zx a d).jo:=by
 obtain⟨x,y,e,e1,e2,e3⟩:=Kw a hd
 rw[e]
 refine⟨fun h=>e3 (of_decide_eq_true h),?_,?_⟩
 ·rw[e2];exact Rat.den_nz _
 ·have r:=(Rat.divInt a d).reduced
  rw[←e1,←e2,ir] at r
  exact r
theorem lF {a:Int} {d:Nat} (hd:0<d) {h:IH} {v:Value} (p:bg h v (Rat.divInt a d)):(zx a d).real h v:=by
 obtain⟨x,y,e,e1,e2,e3⟩:=Kw a hd
 rw[e]
 show bg h v (kC _ _ _)
 unfold kC
 rw[e1,e2,Rat.num_divInt_den];exact p
theorem PY (n:Bool) (x:Nat):kC n x 1=(sint n x:Rat):=Rat.num_divInt_den ((sint n x:Int):Rat)
theorem R5 {x k:Nat} (h:gw x≤64) (hk:64*64≤k):x≤2 ^ k:=by
 have a:=Sx x
 have p:(18446744073709551616:Nat) ^ gw x=2 ^ (64*gw x):=by rw[Nat.pow_mul]
 rw[p] at a
 exact Nat.le_trans (Nat.le_of_lt a) (Nat.pow_le_pow_right (by omega) (by omega))
theorem Ep {x:Nat} (h:gw x≤64):x≤2 ^ 4096:=R5 (k:=4096) h (Nat.le_refl _)
theorem uH {n:Bool} {b x c y:Nat} (g:(NV.rat n b x c y).jo):(kC n x y).num=sint n x∧(kC n x y).den=y:=tu g.1.2.1 g.1.2.2
theorem nm {n:Bool} {b x c y:Nat} (g:(NV.rat n b x c y).jo):QB 4096 (kC n x y):=by
 obtain⟨e1,e2⟩:=uH g
 exact⟨by rw[e1,ir];exact Ep g.2.1,by rw[e2];exact Ep g.2.2⟩
theorem wu {n:Bool} {b x:Nat} (g:(NV.long n b x).jo):CQ (sint n x):=aS (k:=4096) (by rw[ir];exact Ep g.2) (by omega)
theorem fk {n:Bool} {b x:Nat} (g:(NV.long n b x).jo):aU (sint n x):=(wu g).small
theorem Io {h:IH} {a:NV} {us:List Value} (R:Hw h [a] us) : ∃v,us = [v]∧a.real h v:=by
 match us,R with
 | [],R=>exact R.elim
 | [v],R=>exact⟨v,rfl,R.1⟩
 | _ :: _ :: _,R=>exact R.2.elim
theorem PR {h:IH} {a b:NV} {us:List Value} (R:Hw h [a,b] us) : ∃v w,us = [v,w]∧a.real h v∧b.real h w:=by
 match us,R with
 | [],R=>exact R.elim
 | [_],R=>exact R.2.elim
 | [v,w],R=>exact⟨v,w,rfl,R.1,R.2.1⟩
 | _ :: _ :: _ :: _,R=>exact R.2.2.elim
def onV (k:Value→Option NR) (l:List NV):Option NR:=match l with
 | [.val v]=>k v
 | _=>none
def onL (k:Bool→Nat→Option NR) (l:List NV):Option NR:=match l with
 | [.long n _ x]=>k n x
 | _=>none
def onQ (k:Bool→Nat→Nat→Option NR) (l:List NV):Option NR:=match l with
 | [.rat n _ x _ y]=>k n x y
 | _=>none
def Gc (k:Bool→Nat→Bool→Nat→Option NR) (l:List NV):Option NR:=match l with
 | [.long n _ x,.long m _ y]=>k n x m y
 | _=>none
def IB (k:Bool→Nat→Nat→Bool→Nat→Nat→Option NR) (l:List NV):Option NR:=match l with
 | [.rat n _ x _ y,.rat m _ u _ w]=>k n x y m u w
 | _=>none
theorem KS {P:Program} {f:FuncId} {k:Value→Option NR} (hb : ∃fn,P.funcs[f]?=some fn∧fn.body.isSome=true)
  (w : ∀v r,k v=some r→r.jo ∧ ∀h,WV P (.func (.func f) #[] #[]) [v] h fun u h'=>r.real h' u):sX P f (onV k) where
 body:=hb
 right:=fun al r hg e=>by
  unfold onV at e
  split at e
  case h_2=>cases e
  obtain⟨h1,h2⟩:=w _ _ e
  refine⟨h1,fun h us R=>?_⟩
  obtain⟨v,rfl,rfl⟩:=Io R
  exact h2 h
theorem KT {P:Program} {f:FuncId} {k:Bool→Nat→Option NR} (hb : ∃fn,P.funcs[f]?=some fn∧fn.body.isSome=true)
  (w : ∀n b x r,(NV.long n b x).jo→k n x=some r→r.jo ∧ ∀h v,a9 h v (sint n x)→WV P (.func (.func f) #[] #[]) [v] h fun u h'=>r.real h' u):sX P f (onL k) where
 body:=hb
 right:=fun al r hg e=>by
  unfold onL at e
  split at e
  case h_2=>cases e
  obtain⟨h1,h2⟩:=w _ _ _ _ (hg _ List.mem_cons_self) e
  refine⟨h1,fun h us R=>?_⟩
  obtain⟨v,rfl,p⟩:=Io R
  exact h2 h v p
theorem U8 {P:Program} {f:FuncId} {k:Bool→Nat→Nat→Option NR} (hb : ∃fn,P.funcs[f]?=some fn∧fn.body.isSome=true)
  (w : ∀n b x c y r,(NV.rat n b x c y).jo→k n x y=some r→r.jo ∧ ∀h v,bg h v (kC n x y)→WV P (.func (.func f) #[] #[]) [v] h fun u h'=>r.real h' u):sX P f (onQ k) where
 body:=hb
 right:=fun al r hg e=>by
  unfold onQ at e
  split at e
  case h_2=>cases e
  obtain⟨h1,h2⟩:=w _ _ _ _ _ _ (hg _ List.mem_cons_self) e
  refine⟨h1,fun h us R=>?_⟩
  obtain⟨v,rfl,p⟩:=Io R
  exact h2 h v p
theorem wo {P:Program} {f:FuncId} {k:Bool→Nat→Bool→Nat→Option NR} (hb : ∃fn,P.funcs[f]?=some fn∧fn.body.isSome=true)
  (w : ∀n b x m c y r,(NV.long n b x).jo→(NV.long m c y).jo→k n x m y=some r→r.jo ∧ ∀h v v2,a9 h v (sint n x)→a9 h v2 (sint m y)→WV P (.func (.func f) #[] #[]) [v,v2] h fun u h'=>r.real h' u):sX P f (Gc k) where
 body:=hb
 right:=fun al r hg e=>by
  unfold Gc at e
  split at e
  case h_2=>cases e
  obtain⟨h1,h2⟩:=w _ _ _ _ _ _ _ (hg _ List.mem_cons_self) (hg _ (List.mem_cons_of_mem _ List.mem_cons_self)) e
  refine⟨h1,fun h us R=>?_⟩
  obtain⟨v,v2,rfl,p,q⟩:=PR R
  exact h2 h v v2 p q
theorem zN {P:Program} {f:FuncId} {k:Bool→Nat→Nat→Bool→Nat→Nat→Option NR} (hb : ∃fn,P.funcs[f]?=some fn∧fn.body.isSome=true)
  (w : ∀n b x c y m d u e z r,(NV.rat n b x c y).jo→(NV.rat m d u e z).jo→k n x y m u z=some r→r.jo ∧ ∀h v v2,bg h v (kC n x y)→bg h v2 (kC m u z)→WV P (.func (.func f) #[] #[]) [v,v2] h fun u h'=>r.real h' u):sX P f (IB k) where
 body:=hb
 right:=fun al r hg e=>by
  unfold IB at e
  split at e
  case h_2=>cases e
  obtain⟨h1,h2⟩:=w _ _ _ _ _ _ _ _ _ _ _ (hg _ List.mem_cons_self) (hg _ (List.mem_cons_of_mem _ List.mem_cons_self)) e
  refine⟨h1,fun h us R=>?_⟩
  obtain⟨v,v2,rfl,p,q⟩:=PR R
  exact h2 h v v2 p q
def MO (z:Int):NR:=Int.rec (motive:=fun _=>NR) (fun n=>Nat.rec (motive:=fun _=>NR) (.val (.int .i64 (Int.ofNat 0))) (fun _ _=>.val (.int .i64 (Int.ofNat 1))) n) (fun _=>.val (.int .i64 (Int.negSucc 0))) z
theorem Dj (x y:Int):MO (Int.sub x y)=.val (KI (if x<y then -1 else if x=y then 0 else 1)):=by
 unfold MO
 have e:Int.sub x y=x - y:=rfl
 rw[e]
 cases h:x - y with
 | ofNat n =>
  have h:x - y=(n:Int):=h
  cases n with
  | zero=>rw[if_neg (by omega),if_pos (by omega)];rfl
  | succ m=>rw[if_neg (by omega),if_neg (by omega)];rfl
 | negSucc n=>rw[if_pos (by omega)];rfl
theorem MN (x:Int):MO x=.val (KI (if x<0 then -1 else if x=0 then 0 else 1)):=by
 rw[←Dj x 0]
 congr 1
 exact(Int.sub_zero x).symm
def U6 (n d:Int):Option Value:=some (.tuple #[.int .i64 n,.int .i64 d])
def Wt (k:Int→Int→Option NR) (v:Value):Option NR:=match v with
 | .tuple cs=>match cs.toList with
  | [.int _ n,.int _ d]=>k n d
  | _=>none
 | _=>none
def Gd (k:Int→Option NR) (v:Value):Option NR:=match v with
 | .int .i64 n=>k n
 | _=>none
def U1:List NV→Option NR:=onV fun v=>bO (tp v U6) (Wt fun n d=>iB (okF n d) (iN d fun _ y=>some (zx n y)) none)
def PO:List NV→Option NR:=onV (Gd fun n=>iB (GN n) (some (zx n 1)) none)
def O1:List NV→Option NR:=onL fun n x=>some (.rat n x 1)
def PE:List NV→Option NR:=onQ fun n x y=>some (.val (xd (sI n x) (Int.ofNat y)))
def PD:List NV→Option NR:=onQ fun n x y=>some (.rat (iB n false (Nat.ble 1 x)) x y)
def PL:List NV→Option NR:=IB fun n x y m u z=>some (zx (Int.add (Int.mul (sI n x) (Int.ofNat z)) (Int.mul (sI m u) (Int.ofNat y))) (Nat.mul y z))
def Kt:List NV→Option NR:=IB fun n x y m u z=>some (zx (Int.sub (Int.mul (sI n x) (Int.ofNat z)) (Int.mul (sI m u) (Int.ofNat y))) (Nat.mul y z))
def Ko:List NV→Option NR:=IB fun n x y m u z=>some (zx (Int.mul (sI n x) (sI m u)) (Nat.mul y z))
def PM:List NV→Option NR:=IB fun n x y m u z=>iB (Nat.beq u 0) none (some (zx (Int.mul (sI n x) (sI m z)) (Nat.mul y u)))
def U3:List NV→Option NR:=IB fun n x y m u z=>some (MO (Int.sub (Int.mul (sI n x) (Int.ofNat z)) (Int.mul (sI m u) (Int.ofNat y))))
def EJ:List NV→Option NR:=onV fun v=>bO (Bk v fun n=>some (.int .i64 n)) (Gd fun n=>some (uW n))
def O2:List NV→Option NR:=onV (Gd fun n=>iB (GN n) (some (uW n)) none)
def OS:List NV→Option NR:=onL fun n x=>iB (inF (sI n x)) (some (.val (.tuple #[.agg ⟨pY 8 (JW (sI n x)) []⟩,.int .i64 0]))) (some (.val (.tuple #[.agg ⟨pY 8 0 []⟩,.int .i64 6])))
def OR:List NV→Option NR:=onL fun n x=>some (.long (iB n false (Nat.ble 1 x)) x)
def OT:List NV→Option NR:=onL fun n x=>some (MO (sI n x))
def OY:List NV→Option NR:=Gc fun n x m y=>some (uW (Int.add (sI n x) (sI m y)))
def JX:List NV→Option NR:=Gc fun n x m y=>some (uW (Int.sub (sI n x) (sI m y)))
def JT:List NV→Option NR:=Gc fun n x m y=>some (uW (Int.mul (sI n x) (sI m y)))
def UK:List NV→Option NR:=Gc fun n x m y=>some (MO (Int.sub (sI n x) (sI m y)))
def ES:List NV→Option NR:=Gc fun _ x _ y=>some (.long false (Nat.gcd x y))
def JU:List NV→Option NR:=Gc fun n x m y=>iB (Nat.beq y 0) none (some (Pe (Int.ediv (sI n x) (sI m y)) (Int.emod (sI n x) (sI m y))))
end
abbrev Num (f:FuncId) (sem:List NV→Option NR):Prop:=sX Proofs.Tryz.prog f sem
theorem mr {n m:Bool} {b x c y d u e z:Nat} (g:(NV.rat n b x c y).jo) (k:(NV.rat m d u e z).jo) :
  (kC n x y).num=sI n x∧((kC n x y).den:Int)=y∧(kC m u z).num=sI m u∧((kC m u z).den:Int)=z∧0<y*z:=by
 rw[(uH g).1,(uH g).2,(uH k).1,(uH k).2,iY,iY]
 exact⟨rfl,rfl,rfl,rfl,Nat.mul_pos (Nat.pos_of_ne_zero g.1.2.1) (Nat.pos_of_ne_zero k.1.2.1)⟩
theorem No:Num 83 PL:=zN ⟨_,Proofs.Tryz.func83,rfl⟩ fun n b x c y m d u e z r g k h0=>by
 cases h0
 obtain⟨e1,e2,e3,e4,p⟩:=mr g k
 refine⟨lG _ p,fun h v v2 hv hw=>(jj hv hw (nm g) (nm k) (by omega)).mono fun r h' q=>lF p ?_⟩
 have:=q.2
 rw[uI,e1,e2,e3,e4] at this
 rw[Int.natCast_mul];exact this
theorem IM:Num 198 Kt:=zN ⟨_,Proofs.Tryz.func198,rfl⟩ fun n b x c y m d u e z r g k h0=>by
 cases h0
 obtain⟨e1,e2,e3,e4,p⟩:=mr g k
 refine⟨lG _ p,fun h v v2 hv hw=>(MT hv hw (nm g) (nm k) (by omega)).mono fun r h' q=>lF p ?_⟩
 have:=q.2
 rw[PW,e1,e2,e3,e4] at this
 rw[Int.natCast_mul];exact this
theorem IL:Num 87 Ko:=zN ⟨_,Proofs.Tryz.func87,rfl⟩ fun n b x c y m d u e z r g k h0=>by
 cases h0
 obtain⟨e1,e2,e3,e4,p⟩:=mr g k
 refine⟨lG _ p,fun h v v2 hv hw=>(iZ hv hw (nm g) (nm k) (by omega)).mono fun r h' q=>lF p ?_⟩
 have:=q.2
 rw[yi,e1,e2,e3,e4] at this
 rw[Int.natCast_mul];exact this
theorem MH (n m:Bool) (x y z u:Nat):Rat.divInt (sint n x*z) ((y:Int)*sint m u)=Rat.divInt (sint n x*sint m z) ((y:Int)*u):=by
 cases m
 ·rfl
 ·show Rat.divInt (sint n x*z) ((y:Int) * -(u:Int))=Rat.divInt (sint n x * -(z:Int)) _
  rw[Int.mul_neg,Rat.divInt_neg',Int.mul_neg]
theorem Np:Num 84 PM:=zN ⟨_,Proofs.Tryz.func84,rfl⟩ fun n b x c y m d u e z r g k h0=>by
 obtain⟨h1,h0⟩:=mj h0
 cases h0
 obtain⟨e1,e2,e3,e4,_⟩:=mr g k
 have u0:u≠0:=fun h=>by rw[h] at h1;cases h1
 have p:0<y*u:=Nat.mul_pos (Nat.pos_of_ne_zero g.1.2.1) (Nat.pos_of_ne_zero u0)
 have q0:kC m u z≠0:=fun h=>by
  rw[h,iY] at e3
  have:(sint m u).natAbs=0:=by rw[←e3];rfl
  rw[ir] at this
  exact u0 this
 refine⟨lG _ p,fun h v v2 hv hw=>(zm hv hw (nm g) (nm k) (by omega) q0).mono fun r h' q=>lF p ?_⟩
 have:=q.2
 rw[yj,e1,e2,e3,e4,iY,iY,MH,←iY,←iY] at this
 rw[Int.natCast_mul];exact this
theorem Qg:Num 90 U3:=zN ⟨_,Proofs.Tryz.func90,rfl⟩ fun n b x c y m d u e z r g k h0=>by
 cases h0
 obtain⟨e1,e2,e3,e4,p⟩:=mr g k
 rw[Dj]
 refine⟨rfl,fun h v v2 hv hw=>(rH hv hw (nm g) (nm k) (by omega)).mono fun r h' q=>q.2.trans ?_⟩
 rw[←Ef,e1,e2,e3,e4];rfl
theorem Nm:Num 247 PD:=U8 ⟨_,Proofs.Tryz.func247,rfl⟩ fun n b x c y r g h0=>by
 cases h0
 refine⟨⟨?_,g.1.2⟩,fun h v hv=>(zl hv).mono fun r h' q=>?_⟩
 ·cases n
  ·intro h1 h2
   rw[h2] at h1;cases h1
  ·intro h1;cases h1
 ·have : -kC n x y=kC (iB n false (Nat.ble 1 x)) x y:=by
   unfold kC
   rw[Rat.neg_divInt]
   congr 1
   cases n
   ·cases x with
    | zero=>rfl
    | succ x=>rfl
   ·exact Int.neg_neg _
  show bg h' r (kC _ x y)
  rw[←this];exact q.2
theorem Nn:Num 132 PE:=U8 ⟨_,Proofs.Tryz.func132,rfl⟩ fun n b x c y r g h0=>by
 cases h0
 have y0:=g.1.2.1
 have e:xd (sI n x) (Int.ofNat y)=gY (kC n x y):=by
  rw[yU (by show(0:Int)<(y:Int);omega),iY];rfl
 rw[e]
 exact⟨mL _,fun h v hv=>(uD hv).mono fun r h' q=>q.2⟩
theorem Nk:Num 131 O1:=KT ⟨_,Proofs.Tryz.func131,rfl⟩ fun n b x r g h0=>by
 cases h0
 exact⟨⟨g.1,by omega,Nat.gcd_one_right x⟩,fun h v hv=>(uc hv).mono fun r h' q=>by
  show bg h' r (kC n x 1)
  rw[PY];exact q.2⟩
theorem zK {k:Int→Option NR} {v:Value} {r:NR} (h:Gd k v=some r) : ∃n,v=KI n∧k n=some r:=by
 unfold Gd at h
 split at h
 case h_2=>cases h
 exact⟨_,rfl,h⟩
theorem Nq:Num 75 PO:=KS ⟨_,Proofs.Tryz.func75,rfl⟩ fun v r h0=>by
 obtain⟨n,rfl,h0⟩:=zK h0
 obtain⟨h1,h0⟩:=cq h0
 cases h0
 refine⟨lG _ (by omega),fun h=>(eH n (iD h1)).mono fun r h' q=>lF (by omega) ?_⟩
 rw[show Rat.divInt n ((1:Nat):Int)=(n:Rat) from Rat.num_divInt_den (n:Rat)]
 exact q.2
theorem Qf:Num 156 U1:=KS ⟨_,Proofs.Tryz.func156,rfl⟩ fun v r h0=>by
 cases hs:tp v U6 with
 | none=>rw[hs] at h0;cases h0
 | some w =>
  rw[hs,aW] at h0
  obtain⟨p,hp,rfl,h1⟩:=mI hs
  cases h1
  change iB (okF (wdI p.1) (wdI p.2)) (iN (wdI p.2) fun _ y=>some (zx (wdI p.1) y)) none=some r at h0
  obtain⟨h1,h0⟩:=cq h0
  have ok:=DB h1
  rw[GP] at h0
  cases h0
  have d0:=ok.1
  have e:((wdI p.2).natAbs:Int)=wdI p.2:=by omega
  refine⟨lG _ (by omega),fun h=>(cW p.1 p.2 hp.1 hp.2).mono fun r h' q=>lF (by omega) ?_⟩
  rw[e]
  show rp h' r (rOf p).num ((rOf p).den:Int)
  rw[(dC ok).1,(dC ok).2]
  exact q.2
theorem Nj:Num 187 OY:=wo ⟨_,Proofs.Tryz.func187,rfl⟩ fun n b x m c y r g k h0=>by
 cases h0
 refine⟨mi _,fun h v v2 hv hw=>(qC hv hw (fk g) (fk k)).mono fun r h' q=>mh ?_⟩
 rw[iY,iY];exact q.2
theorem IK:Num 242 JX:=wo ⟨_,Proofs.Tryz.func242,rfl⟩ fun n b x m c y r g k h0=>by
 cases h0
 refine⟨mi _,fun h v v2 hv hw=>(BN hv hw (fk g) (fk k)).mono fun r h' q=>mh ?_⟩
 rw[iY,iY];exact q.2
theorem II:Num 104 JT:=wo ⟨_,Proofs.Tryz.func104,rfl⟩ fun n b x m c y r g k h0=>by
 cases h0
 refine⟨mi _,fun h v v2 hv hw=>(gf hv hw (wu g) (wu k)).mono fun r h' q=>mh ?_⟩
 rw[iY,iY];exact q.2
theorem Qe:Num 190 UK:=wo ⟨_,Proofs.Tryz.func190,rfl⟩ fun n b x m c y r g k h0=>by
 cases h0
 rw[Dj,iY,iY]
 exact⟨rfl,fun h v v2 hv hw=>(Dx hv hw (fk g) (fk k)).mono fun r h' q=>q.2⟩
theorem Gk:Num 207 ES:=wo ⟨_,Proofs.Tryz.func207,rfl⟩ fun n b x m c y r g k h0=>by
 cases h0
 refine⟨(fun h=>by cases h),fun h v v2 hv hw=>(tx hv hw (fk g) (fk k)).mono fun r h' q=>?_⟩
 have:=q.2
 unfold Int.gcd at this
 rw[ir,ir] at this
 exact this
theorem IJ:Num 206 JU:=wo ⟨_,Proofs.Tryz.func206,rfl⟩ fun n b x m c y r g k h0=>by
 obtain⟨h1,h0⟩:=mj h0
 cases h0
 have y0:sint m y≠0:=fun h=>by
  have e:(sint m y).natAbs=0:=by rw[h];rfl
  rw[ir] at e
  rw[e] at h1;cases h1
 refine⟨Mz _ _,fun h v v2 hv hw=>(rI hv hw (fk g) (fk k) y0).mono fun r h' q=>My ?_⟩
 rw[iY,iY];exact q.2
theorem Ng:Num 236 OR:=KT ⟨_,Proofs.Tryz.func236,rfl⟩ fun n b x r g h0=>by
 cases h0
 refine⟨?_,fun h v hv=>(mb hv).mono fun r h' q=>?_⟩
 ·cases n
  ·intro h1 h2
   rw[h2] at h1;cases h1
  ·intro h1;cases h1
 ·have : -sint n x=sint (iB n false (Nat.ble 1 x)) x:=by
   cases n
   ·cases x with
    | zero=>rfl
    | succ x=>rfl
   ·exact Int.neg_neg _
  show a9 h' r (sint _ x)
  rw[←this];exact q.2
theorem Ni:Num 92 OT:=KT ⟨_,Proofs.Tryz.func92,rfl⟩ fun n b x r g h0=>by
 cases h0
 rw[MN,iY]
 exact⟨rfl,fun h v hv=>(kD hv).mono fun r h' q=>q.2⟩
theorem Nl:Num 101 O2:=KS ⟨_,Proofs.Tryz.func101,rfl⟩ fun v r h0=>by
 obtain⟨n,rfl,h0⟩:=zK h0
 obtain⟨h1,h0⟩:=cq h0
 cases h0
 exact⟨mi _,fun h=>(uO n (iD h1)).mono fun r h' q=>mh q.2⟩
theorem Gj:Num 103 EJ:=KS ⟨_,Proofs.Tryz.func103,rfl⟩ fun v r h0=>by
 cases hs:Bk v (fun n=>some (.int .i64 n)) with
 | none=>rw[hs] at h0;cases h0
 | some w =>
  rw[hs,aW] at h0
  obtain⟨n,hn,rfl,h1⟩:=tc hs
  cases h1
  cases h0
  exact⟨mi _,fun h=>(jb n hn).mono fun r h' q=>mh q.2⟩
theorem Nh:Num 105 OS:=KT ⟨_,Proofs.Tryz.func105,rfl⟩ fun n b x r g h0=>by
 have pl : ∀z,plain (wdV z)=true:=fun z=>by
  show(wdC z).toArray.all bD=true
  rw[wdC,List.all_toArray,List.all_map]
  simp[bD]
 have ew : ∀z,Value.agg ⟨pY 8 z []⟩=wdV z:=fun z=>by
  unfold wdV wdC
  rw[rB,List.append_nil]
 have key : ∀z e,(NR.val (.tuple #[.agg ⟨pY 8 z []⟩,KI e])).jo:=fun z e=>by
  rw[ew]
  show [wdV z,KI e].all plain=true
  rw[List.all_cons,pl];rfl
 change iB (inF (sI n x)) _ _=some r at h0
 rw[eh,I3,iY] at h0
 by_cases c:InW (sint n x)
 ·rw[decide_eq_true c] at h0
  cases h0
  refine⟨key _ _,fun h v hv=>(qA hv).mono fun r h' q=>q.2.trans ?_⟩
  rw[if_pos c,ew,yN c]
 ·rw[decide_eq_false c] at h0
  cases h0
  refine⟨key _ _,fun h v hv=>(qA hv).mono fun r h' q=>q.2.trans ?_⟩
  rw[if_neg c,ew]
end Go.Id
