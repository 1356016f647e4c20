/-
  The ideal machine: functions that give numbers of any length. Weakest preconditions over the ideal machine, sixth part: bits of numbers that are not negative.
-/
import Derived.Test.YtepckjjfhhncoaaGreatTemperKnownAq
set_option linter.unusedVariables false
set_option linter.unusedSimpArgs false
set_option linter.defProp false
set_option linter.deprecated false
namespace Go.Id
open Go Go.RowKit
theorem num_nums {P:Program} (S:Sound (E0 P)) {B:Nat} {w0:World} {m:Mp} {h:IH} {w:World} (R:Rel B w0 m h w) {bs xs:List Nat} (T:Toks h bs xs) {mk:List Value→List Value} (par:ParaL mk xs.length) {args':Array Value} (ha:LRel m (mk (toksOf bs xs)) args'.toList)
  {f:FuncId} (hb : ∃fn,P.funcs[f]?=some fn∧fn.body.isSome=true) {ys:List Nat} {mkR:List Value→Value} (parR:Para mkR ys.length)
  (hw : ∀us,us.length=xs.length→(∀(i:Nat) (u:Value),us[i]?=some u→NumAt xs i u)→WV P (.func (.func f) #[] #[]) (mk us) (IH.start (numBase xs)) fun r h2 => ∃ss,ss.length=ys.length∧r=mkR ss ∧ ∀(j:Nat) (y:Nat) (s:Value),ys[j]?=some y→ss[j]?=some s→NumSl h2 s y)
  (fr:Fresh m h.n (h.n+ys.length)):CallsTo P f args' B w0 m h w (mkR (toksOf (newBs h.n ys.length) ys)) (addNums h ys):=by
 obtain⟨m2,even2,odd2,r,h2,⟨ss,ls,rfl,hss⟩,key⟩:=num_calls S R T par ha hb hw
 refine key.mono fun e' w' ⟨v',m',he,hvr,R',S'⟩=>?_
 obtain⟨ss',l1,l2⟩:=parR m' ss v' ls hvr
 have ls':ss'.length=ys.length:=by rw[←l1.1,ls]
 have same : ∀r,r<w.heap.size→w'.heap[r]?=w.heap[r]?:=fun r hr=>R'.below.block r hr
 have loc : ∀(j y:Nat),ys[j]?=some y → ∃a cap,ss'[j]?=some (.slice a (wlen y) cap)∧wlen y≤cap∧((y=0∧(a=none→cap=0))∨(y≠0 ∧ ∃r s,a=some ⟨r,s,none⟩∧NumLoc m w w' bs xs y r s)):=by
  intro j y hy
  have hj:=(List.getElem?_eq_some_iff.1 hy).1
  obtain⟨s,hs⟩ : ∃s,ss[j]?=some s:=⟨_,List.getElem?_eq_getElem (by omega)⟩
  obtain⟨s',h1,h3⟩:=l1.get hs
  obtain⟨a,cap,rfl,q1,q2⟩:=num_loc R T odd2 R' S' (hss j y s hy hs) h3
  exact⟨a,cap,h1,q1,q2⟩
 obtain⟨lf,hlf⟩ : ∃lf:Nat→Option (Nat×Nat),∀j,lf j=match ys[j]?,ss'[j]? with|some y,some (.slice (some ⟨r,s,none⟩) _ _)=>if y=0 then none else some (r,s)|_,_=>none:=⟨_,fun _=>rfl⟩
 have lf_some : ∀j r s,lf j=some (r,s) → ∃y,ys[j]?=some y∧y≠0∧NumLoc m w w' bs xs y r s:=by
  intro j r s hj
  rw[hlf] at hj
  cases hy:ys[j]? with
  | none=>simp[hy] at hj
  | some y =>
   obtain⟨a,cap,h1,_,h3⟩:=loc j y hy
   rw[hy,h1] at hj
   rcases h3 with⟨rfl,_⟩|⟨y0,r',s',rfl,hl⟩
   ·exfalso
    cases a with
    | none=>simp at hj
    | some a =>
     obtain⟨a1,a2,a3⟩:=a
     cases a3<;>simp at hj
   ·simp only[if_neg y0] at hj
    cases hj
    exact⟨y,rfl,y0,hl⟩
 have lf_at : ∀j y r s cap,ys[j]?=some y→y≠0→ss'[j]?=some (.slice (some ⟨r,s,none⟩) (wlen y) cap)→lf j=some (r,s):=by
  intro j y r s cap hy y0 hs
  rw[hlf,hy,hs]
  exact if_neg y0
 obtain⟨m3,hm3⟩ : ∃m3:Mp,m3=⟨fun b=>if b % 2=0∧h.n≤b / 2∧b / 2<h.n+ys.length then lf (b / 2 - h.n) else m b,m.ez⟩:=⟨_,rfl⟩
 have m3old : ∀b,¬(b % 2=0∧h.n≤b / 2∧b / 2<h.n+ys.length)→m3 b=m b:=by
  intro b hb;rw[hm3];exact if_neg hb
 have m3new : ∀j,j<ys.length→m3 (2*(h.n+j))=lf j:=by
  intro j hj
  rw[hm3]
  show(if 2*(h.n+j) % 2=0∧h.n≤2*(h.n+j) / 2∧2*(h.n+j) / 2<h.n+ys.length then lf (2*(h.n+j) / 2 - h.n) else m (2*(h.n+j)))=lf j
  rw[if_pos ⟨by omega,by omega,by omega⟩,show 2*(h.n+j) / 2 - h.n=j from by omega]
 have ez3:m3.ez=m.ez:=by rw[hm3]
 have le3:m.le m3:=by
  intro b x hb
  refine⟨?_,by rw[ez3]⟩
  rw[m3old b ?_];exact hb
  rintro⟨h1,h2',h3⟩
  have:=fr (b / 2) h2' h3
  rw[show 2*(b / 2)=b from by omega,hb] at this;cases this
 have nn:(addNums h ys).n=h.n+ys.length:=addNums_n ys h
 have gnew : ∀j y,ys[j]?=some y→(addNums h ys).ext.get (h.n+j)=some (.num y):=by
  intro j y hy
  have hj:=(List.getElem?_eq_some_iff.1 hy).1
  rw[addNums_get,if_pos ⟨by omega,by omega⟩,show h.n+j - h.n=j from by omega,hy];rfl
 have gold : ∀k,k<h.n→(addNums h ys).ext.get k=h.ext.get k:=fun k hk=>by rw[addNums_get,if_neg (by omega)]
 have isnew : ∀k o,(addNums h ys).ext.get k=some o→k<h.n ∨ ∃j y,k=h.n+j∧ys[j]?=some y∧o=.num y:=by
  intro k o hk
  rcases Nat.lt_or_ge k h.n with h1|h1
  ·exact .inl h1
  ·right
   rw[addNums_get] at hk
   by_cases c:h.n≤k∧k<h.n+ys.length
   ·rw[if_pos c] at hk
    obtain⟨y,hy,rfl⟩:=Option.map_eq_some_iff.1 hk
    exact⟨k - h.n,y,by omega,hy,rfl⟩
   ·rw[if_neg c,R.dom k h1] at hk;cases hk
 have mold : ∀k,k<h.n→m3 (2*k)=m (2*k):=fun k hk=>m3old _ (by rintro⟨_,h2',_⟩;omega)
 have oldn : ∀k o,h.ext.get k=some o→k<h.n:=by
  intro k o hk
  rcases Nat.lt_or_ge k h.n with e|e
  ·exact e
  ·rw[R.dom k e] at hk;cases hk
 have srcB : ∀y r s,NumLoc m w w' bs xs y r s→B≤r∧r<w'.heap.size:=by
  intro y r s hl
  refine⟨?_,hl.lt⟩
  rcases hl.src with h1|⟨i,b,x,s0,hb1,hx1,hm1⟩
  ·have:=R.size;omega
  ·obtain⟨t1,t2⟩:=T.2 i b x hb1 hx1
   exact(R.even (b / 2) r s0 (by rw[show 2*(b / 2)=b from by omega];exact hm1)).1
 refine⟨v',m3,he,l2 m3 _ ?_,⟨R.below.trans (R'.below.mono R.size),Nat.le_trans R.size R'.size,?_,fun b hb=>?_,?_,?_,?_,?_,?_,?_,?_,?_⟩,⟨le3,?_,by rw[nn];omega,(addNums_base ys h).1,fun r hr _=>same r hr,fun k hk _=>gold k hk,R'.size,?_,?_⟩⟩
 ·-- the value
  refine⟨by rw[toksOf_len _ _ (newBs_len _ _),ls'],fun j v x hv hx=>?_⟩
  have hj:j<ys.length:=by
   have:=(List.getElem?_eq_some_iff.1 hx).1
   omega
  obtain⟨y,hy⟩ : ∃y,ys[j]?=some y:=⟨_,List.getElem?_eq_getElem hj⟩
  rw[toksOf_get _ _ j _ y (newBs_get hj) hy] at hv
  cases hv
  obtain⟨a,cap,h1,h3,h4⟩:=loc j y hy
  rw[hx] at h1;cases h1
  refine .tok h3 ?_
  rcases h4 with⟨rfl,h5⟩|⟨y0,r,s,rfl,_⟩
  ·exact .inl ⟨wlen_zero.2 rfl,h5⟩
  ·exact .inr ⟨r,s,by rw[m3new j hj];exact lf_at j y r s cap hy y0 hx,rfl⟩
 ·intro b cs hcs
  rw[(addNums_base ys h).1] at hcs
  obtain⟨r,s,h1,h3,c,el,fz,h4,h5,h6⟩:=R.base b cs hcs
  exact⟨r,s,(le3 _ _ h1).1,h3,c,el,fz,by rw[same r (by have:=R.size;omega)];exact h4,h5,fun i v hv=>let ⟨v',a,e⟩:=h6 i v hv;⟨v',a,e.mono le3⟩⟩
 ·rw[m3old _ (by rintro⟨h1,_⟩;omega)];exact R.odd b hb
 ·intro k r s hk
  by_cases c:h.n≤k∧k<h.n+ys.length
  ·have:=m3new (k - h.n) (by omega)
   rw[show h.n+(k - h.n)=k from by omega,hk] at this
   obtain⟨y,_,_,hl⟩:=lf_some _ r s this.symm
   exact srcB y r s hl
  ·rw[m3old _ (by rintro⟨_,h2',h3⟩;exact c ⟨by omega,by omega⟩)] at hk
   have:=R.even k r s hk
   have:=R'.size
   exact⟨by omega,by omega⟩
 ·intro k hk
  rw[nn] at hk
  rw[addNums_get,if_neg (by omega)]
  exact R.dom k (by omega)
 ·intro k o r s hk hm
  rcases isnew k o hk with hkn|⟨j,y,rfl,hy,rfl⟩
  ·rw[gold k hkn] at hk
   rw[mold k hkn] at hm
   exact(R.obj k o r s hk hm).mono le3 (same r (R.even k r s hm).2) (by rw[ez3])
  ·rw[m3new j (List.getElem?_eq_some_iff.1 hy).1] at hm
   obtain⟨y',hy',y0,hl⟩:=lf_some _ r s hm
   rw[hy] at hy';cases hy'
   obtain⟨c,el,h1,h3,h4⟩:=hl.row
   exact .inr ⟨c,el,h1,h3,fun i v hv=>let ⟨v',a,e⟩:=h4 i v hv;⟨v',a,e.mono le3⟩⟩
 ·-- who shares memory
  have one : ∀j y k o r s s',ys[j]?=some y→k<h.n→h.ext.get k=some o→o.alive=true→lf j=some (r,s)→m (2*k)=some (r,s')→o.isNum=true:=by
   intro j y k o r s s' hy hkn hk ha hj hm
   obtain⟨y',_,_,hl⟩:=lf_some j r s hj
   rcases hl.src with h1|⟨i,b,x,s0,hb1,hx1,hm1⟩
   ·have:=(R.even k r s' hm).2;omega
   ·obtain⟨t1,t2⟩:=T.2 i b x hb1 hx1
    have hmb:m (2*(b / 2))=some (r,s0):=by rw[show 2*(b / 2)=b from by omega];exact hm1
    by_cases e:b / 2=k
    ·rw[e,hk] at t2;cases t2;rfl
    ·rcases R.own (b / 2) k _ o r s0 s' e t2 hk rfl ha hmb hm with⟨_,_,_,_,_,_,e1,_⟩|⟨_,e2⟩
     ·rw[t2] at e1;cases e1
     ·exact e2
  intro k k' o o' r s s' hne hk hk' ha ha' hm hm'
  rcases isnew k o hk with hkn|⟨j,y,rfl,hy,rfl⟩
  ·rcases isnew k' o' hk' with hkn'|⟨j',y',rfl,hy',rfl⟩
   ·rw[gold k hkn] at hk
    rw[gold k' hkn'] at hk'
    rw[mold k hkn] at hm
    rw[mold k' hkn'] at hm'
    refine(R.own k k' o o' r s s' hne hk hk' ha ha' hm hm').imp (fun⟨c1,t1,c2,t2,f,st,e1,e2,e3,e4,e5⟩=>⟨c1,t1,c2,t2,f,st,?_,?_,?_,e4,e5⟩) id
    ·rw[gold k hkn];exact e1
    ·rw[gold k' hkn'];exact e2
    ·rw[(addNums_base ys h).2];exact e3
   ·rw[gold k hkn] at hk
    rw[mold k hkn] at hm
    rw[m3new j' (List.getElem?_eq_some_iff.1 hy').1] at hm'
    exact .inr ⟨one j' y' k o r s' s hy' hkn hk ha hm' hm,rfl⟩
  ·rcases isnew k' o' hk' with hkn'|⟨j',y',rfl,hy',rfl⟩
   ·rw[gold k' hkn'] at hk'
    rw[mold k' hkn'] at hm'
    rw[m3new j (List.getElem?_eq_some_iff.1 hy).1] at hm
    exact .inr ⟨rfl,one j y k' o' r s s' hy hkn' hk' ha' hm hm'⟩
   ·exact .inr ⟨rfl,rfl⟩
 ·intro f st hf
  rw[(addNums_base ys h).2] at hf
  obtain⟨a,b,c⟩:=R.famdom f st hf
  rw[nn]
  exact⟨by omega,fun x hx=>by have:=b x hx;omega,c⟩
 ·intro k cs t f hk
  rcases isnew k _ hk with hkn|⟨j,y,_,_,e⟩
  ·rw[gold k hkn] at hk
   rw[(addNums_base ys h).2]
   exact R.fam k cs t f hk
  ·cases e
 ·intro f st hf
  rw[(addNums_base ys h).2] at hf
  refine(R.long f st hf).imp fun {x y} hxy=>?_
  intro cs t g cs' t' g' r s s' h1 h3 h4 h5
  have c1:x<h.n:=by
   rcases isnew x _ h1 with h6|⟨_,_,_,_,e⟩
   ·exact h6
   ·cases e
  have c2:y<h.n:=by
   rcases isnew y _ h3 with h6|⟨_,_,_,_,e⟩
   ·exact h6
   ·cases e
  rw[gold x c1] at h1
  rw[gold y c2] at h3
  rw[mold x c1] at h4
  rw[mold y c2] at h5
  exact hxy cs t g cs' t' g' r s s' h1 h3 h4 h5
 ·intro f st x y hf hx hy hs
  rw[(addNums_base ys h).2] at hf
  have b:=(R.famdom f st hf).2.1
  rw[mold x (b x hx)] at hs
  rw[mold y (b y hy)]
  exact R.whole f st x y hf hx hy hs
 ·intro b hb
  refine⟨b / 2,?_⟩
  rw[nn]
  by_cases c:b % 2=0∧h.n≤b / 2∧b / 2<h.n+ys.length
  ·exact⟨by omega,c.2⟩
  ·exact absurd (m3old b c) hb
 ·intro k r s h1 h3 h4
  rw[nn] at h3
  have:=m3new (k - h.n) (by omega)
  rw[show h.n+(k - h.n)=k from by omega,h4] at this
  obtain⟨y,_,_,hl⟩:=lf_some _ r s this.symm
  rcases hl.src with h5|⟨i,b,x,s0,hb1,hx1,hm1⟩
  ·exact .inl h5
  ·obtain⟨t1,t2⟩:=T.2 i b x hb1 hx1
   exact .inr ⟨b / 2,s0,oldn _ _ t2,by rw[show 2*(b / 2)=b from by omega];exact hm1⟩
 ·intro k hk hm hn f st hf
  rw[(addNums_base ys h).2] at hf
  exact hn f st hf
end Go.Id

namespace Go.Id
open Go
abbrev K64 (n:Nat):Value:=.int .u64 (n:Int)
abbrev KI (n:Int):Value:=.int .i64 n
theorem ofInt_toNat {w:Nat} {a:Nat} (h:a<2 ^ w):(BitVec.ofInt w (a:Int)).toNat=a:=by
 simp[Nat.mod_eq_of_lt h]
theorem bv_and {w a b:Nat} (ha:a<2 ^ w) (hb:b<2 ^ w):(BitVec.ofInt w (a:Int) &&& BitVec.ofInt w (b:Int)).toNat=a &&& b:=by
 rw[BitVec.toNat_and,ofInt_toNat ha,ofInt_toNat hb]
theorem bv_or {w a b:Nat} (ha:a<2 ^ w) (hb:b<2 ^ w):(BitVec.ofInt w (a:Int) ||| BitVec.ofInt w (b:Int)).toNat=a ||| b:=by
 rw[BitVec.toNat_or,ofInt_toNat ha,ofInt_toNat hb]
theorem bv_xor {w a b:Nat} (ha:a<2 ^ w) (hb:b<2 ^ w):(BitVec.ofInt w (a:Int) ^^^ BitVec.ofInt w (b:Int)).toNat=a ^^^ b:=by
 rw[BitVec.toNat_xor,ofInt_toNat ha,ofInt_toNat hb]
theorem bv_clr {w a b:Nat} (ha:a<2 ^ w) (hb:b<2 ^ w):(BitVec.ofInt w (a:Int) &&& ~~~BitVec.ofInt w (b:Int)).toNat=nclr a b:=by
 apply Nat.eq_of_testBit_eq
 intro i
 rw[testBit_nclr,BitVec.toNat_and,Nat.testBit_and,ofInt_toNat ha,BitVec.testBit_toNat,BitVec.getLsbD_not,←BitVec.testBit_toNat,ofInt_toNat hb]
 by_cases hi:i<w
 ·simp[hi]
 ·rw[Nat.testBit_lt_two_pow (Nat.lt_of_lt_of_le ha (Nat.pow_le_pow_right (by omega) (by omega)))];simp
section
variable (P:Program) (t:TypeId) (ox oy:Operand) {a b:Int}
theorem band_u (ha:0≤a∧a<18446744073709551616) (hb:0≤b∧b<18446744073709551616):binop P .and t ox oy (.int .u64 a) (.int .u64 b)=some (.int .u64 ((a.toNat &&& b.toNat:Nat):Int)):=by
 obtain⟨m,rfl⟩:=Int.eq_ofNat_of_zero_le ha.1;obtain⟨n,rfl⟩:=Int.eq_ofNat_of_zero_le hb.1
 have h1:m<2 ^ 64:=by omega
 rw[binop_and_raw,show(BitVec.ofInt IntKind.u64.bits (m:Int) &&& BitVec.ofInt IntKind.u64.bits (n:Int)).toNat=m &&& n from bv_and (w:=64) h1 (by omega),wrap_nat_u64 (and_lt h1)];rfl
theorem bor_u (ha:0≤a∧a<18446744073709551616) (hb:0≤b∧b<18446744073709551616):binop P .or t ox oy (.int .u64 a) (.int .u64 b)=some (.int .u64 ((a.toNat ||| b.toNat:Nat):Int)):=by
 obtain⟨m,rfl⟩:=Int.eq_ofNat_of_zero_le ha.1;obtain⟨n,rfl⟩:=Int.eq_ofNat_of_zero_le hb.1
 have h1:m<2 ^ 64:=by omega
 rw[binop_or_raw,show(BitVec.ofInt IntKind.u64.bits (m:Int) ||| BitVec.ofInt IntKind.u64.bits (n:Int)).toNat=m ||| n from bv_or (w:=64) h1 (by omega),wrap_nat_u64 (or_lt h1 (by omega))];rfl
theorem bxor_u (ha:0≤a∧a<18446744073709551616) (hb:0≤b∧b<18446744073709551616):binop P .xor t ox oy (.int .u64 a) (.int .u64 b)=some (.int .u64 ((a.toNat ^^^ b.toNat:Nat):Int)):=by
 obtain⟨m,rfl⟩:=Int.eq_ofNat_of_zero_le ha.1;obtain⟨n,rfl⟩:=Int.eq_ofNat_of_zero_le hb.1
 have h1:m<2 ^ 64:=by omega
 rw[binop_xor_raw,show(BitVec.ofInt IntKind.u64.bits (m:Int) ^^^ BitVec.ofInt IntKind.u64.bits (n:Int)).toNat=m ^^^ n from bv_xor (w:=64) h1 (by omega),wrap_nat_u64 (Nat.xor_lt_two_pow h1 (by omega))];rfl
theorem bclr_u (ha:0≤a∧a<18446744073709551616) (hb:0≤b∧b<18446744073709551616):binop P .andNot t ox oy (.int .u64 a) (.int .u64 b)=some (.int .u64 ((nclr a.toNat b.toNat:Nat):Int)):=by
 obtain⟨m,rfl⟩:=Int.eq_ofNat_of_zero_le ha.1;obtain⟨n,rfl⟩:=Int.eq_ofNat_of_zero_le hb.1
 have h1:m<2 ^ 64:=by omega
 rw[binop_andNot_raw,show(BitVec.ofInt IntKind.u64.bits (m:Int) &&& ~~~BitVec.ofInt IntKind.u64.bits (n:Int)).toNat=nclr m n from bv_clr (w:=64) h1 (by omega),wrap_nat_u64 (nclr_lt h1)];rfl
theorem band_i (ha:0≤a∧a<9223372036854775808) (hb:0≤b∧b<9223372036854775808):binop P .and t ox oy (.int .i64 a) (.int .i64 b)=some (.int .i64 ((a.toNat &&& b.toNat:Nat):Int)):=by
 obtain⟨m,rfl⟩:=Int.eq_ofNat_of_zero_le ha.1;obtain⟨n,rfl⟩:=Int.eq_ofNat_of_zero_le hb.1
 have h1:m<2 ^ 63:=by omega
 rw[binop_and_raw,show(BitVec.ofInt IntKind.i64.bits (m:Int) &&& BitVec.ofInt IntKind.i64.bits (n:Int)).toNat=m &&& n from bv_and (w:=64) (by omega) (by omega),wrap_nat_i64 (and_lt h1)];rfl
theorem bor_i (ha:0≤a∧a<9223372036854775808) (hb:0≤b∧b<9223372036854775808):binop P .or t ox oy (.int .i64 a) (.int .i64 b)=some (.int .i64 ((a.toNat ||| b.toNat:Nat):Int)):=by
 obtain⟨m,rfl⟩:=Int.eq_ofNat_of_zero_le ha.1;obtain⟨n,rfl⟩:=Int.eq_ofNat_of_zero_le hb.1
 have h1:m<2 ^ 63:=by omega
 rw[binop_or_raw,show(BitVec.ofInt IntKind.i64.bits (m:Int) ||| BitVec.ofInt IntKind.i64.bits (n:Int)).toNat=m ||| n from bv_or (w:=64) (by omega) (by omega),wrap_nat_i64 (or_lt h1 (by omega))];rfl
theorem band_neg (ha:0<a∧a<9223372036854775808):binop P .and t ox oy (.int .i64 a) (.int .i64 (-a))=some (.int .i64 ((2 ^ 64 - a.toNat &&& a.toNat:Nat):Int)):=by
 obtain⟨m,rfl⟩:=Int.eq_ofNat_of_zero_le (Int.le_of_lt ha.1)
 have h1:m<2 ^ 63:=by omega
 have h2:BitVec.ofInt 64 (-(m:Int))=BitVec.ofInt 64 ((2 ^ 64 - m:Nat):Int):=by
  apply BitVec.eq_of_toNat_eq
  rw[BitVec.toNat_ofInt,BitVec.toNat_ofInt]
  congr 1
  omega
 rw[binop_and_raw,show(BitVec.ofInt IntKind.i64.bits (m:Int) &&& BitVec.ofInt IntKind.i64.bits (-(m:Int))).toNat=2 ^ 64 - m &&& m from by
  show(BitVec.ofInt 64 (m:Int) &&& BitVec.ofInt 64 (-(m:Int))).toNat=_
  rw[h2,bv_and (by omega) (by omega),Nat.and_comm],wrap_nat_i64 (Nat.lt_of_le_of_lt Nat.and_le_right h1)];rfl
theorem fdiv_shr (m n:Nat) (k:Nat) (h:m<2 ^ k):Int.fdiv (m:Int) (2 ^ min n k)=((m >>> n:Nat):Int):=by
 have e:(2:Int) ^ min n k=((2 ^ min n k:Nat):Int):=by simp
 rw[e,Int.fdiv_eq_ediv_of_nonneg _ (Int.natCast_nonneg _),←Int.natCast_ediv,Nat.shiftRight_eq_div_pow]
 by_cases hn:n≤k
 ·rw[Nat.min_eq_left hn]
 ·rw[Nat.min_eq_right (by omega),Nat.div_eq_of_lt h,Nat.div_eq_of_lt (Nat.lt_of_lt_of_le h (Nat.pow_le_pow_right (by omega) (by omega)))]
def nshr (a n:Nat):Nat:=a >>> n
theorem shr_u {j:IntKind} (ha:0≤a∧a<18446744073709551616) (hb:0≤b):binop P .shr t ox oy (.int .u64 a) (.int j b)=some (.int .u64 ((nshr a.toNat b.toNat:Nat):Int)):=by
 obtain⟨m,rfl⟩:=Int.eq_ofNat_of_zero_le ha.1;obtain⟨n,rfl⟩:=Int.eq_ofNat_of_zero_le hb
 rw[binop_shr P t ox oy (by omega)]
 show some (Value.int .u64 (Int.fdiv (m:Int) (2 ^ min n 64)))=_
 rw[fdiv_shr m n 64 (by omega)];rfl
theorem shr_i {j:IntKind} (ha:0≤a∧a<9223372036854775808) (hb:0≤b):binop P .shr t ox oy (.int .i64 a) (.int j b)=some (.int .i64 ((nshr a.toNat b.toNat:Nat):Int)):=by
 obtain⟨m,rfl⟩:=Int.eq_ofNat_of_zero_le ha.1;obtain⟨n,rfl⟩:=Int.eq_ofNat_of_zero_le hb
 rw[binop_shr P t ox oy (by omega)]
 show some (Value.int .i64 (Int.fdiv (m:Int) (2 ^ min n 64)))=_
 rw[fdiv_shr m n 64 (by omega)];rfl
theorem shl1_u {j:IntKind} (hb:0≤b∧b<64):binop P .shl t ox oy (.int .u64 1) (.int j b)=some (.int .u64 ((2 ^ b.toNat:Nat):Int)):=by
 obtain⟨n,rfl⟩:=Int.eq_ofNat_of_zero_le hb.1
 rw[binop_shl P t ox oy (by omega)]
 show some (Value.int .u64 (IntKind.u64.wrap (1*2 ^ min n 64)))=_
 rw[Nat.min_eq_left (by omega),Int.one_mul,show(2:Int) ^ n=((2 ^ n:Nat):Int) from by simp,wrap_nat_u64 (Nat.pow_lt_pow_right (by omega) (by omega))];rfl
theorem shl1_i {j:IntKind} (hb:0≤b∧b<63):binop P .shl t ox oy (.int .i64 1) (.int j b)=some (.int .i64 ((2 ^ b.toNat:Nat):Int)):=by
 obtain⟨n,rfl⟩:=Int.eq_ofNat_of_zero_le hb.1
 rw[binop_shl P t ox oy (by omega)]
 show some (Value.int .i64 (IntKind.i64.wrap (1*2 ^ min n 64)))=_
 rw[Nat.min_eq_left (by omega),Int.one_mul,show(2:Int) ^ n=((2 ^ n:Nat):Int) from by simp,wrap_nat_i64 (Nat.pow_lt_pow_right (by omega) (by omega))];rfl
theorem quo_i (ha:0≤a∧a<9223372036854775808) (hb:0<b):binop P .quo t ox oy (.int .i64 a) (.int .i64 b)=some (.int .i64 (a / b)):=by
 rw[binop_quo P t ox oy (by omega),Int.tdiv_eq_ediv_of_nonneg ha.1]
 have h1:0≤a / b:=Int.ediv_nonneg ha.1 (by omega)
 have h2:a / b≤a:=Int.ediv_le_self _ ha.1
 rw[wrap_i64 (by omega)]
theorem quo_u (ha:0≤a∧a<18446744073709551616) (hb:0<b):binop P .quo t ox oy (.int .u64 a) (.int .u64 b)=some (.int .u64 (a / b)):=by
 rw[binop_quo P t ox oy (by omega),Int.tdiv_eq_ediv_of_nonneg ha.1]
 have h1:0≤a / b:=Int.ediv_nonneg ha.1 (by omega)
 have h2:a / b≤a:=Int.ediv_le_self _ ha.1
 rw[wrap_u64 (by omega)]
theorem rem_nn {k:IntKind} (ha:0≤a) (hb:0<b):binop P .rem t ox oy (.int k a) (.int k b)=some (.int k (a % b)):=by
 rw[binop_rem P t ox oy (by omega),Int.tmod_eq_emod_of_nonneg ha]
end
theorem rd_eq (h:IH) (b o n:Nat):h.rd b o n=(h.row b).bind fun cs=>if o+n≤cs.length then some ((cs.drop o).take n) else none:=by
 cases hr:h.row b with
 | none=>simp[IH.rd,hr]
 | some cs=>rw[rd_of hr];rfl
end Go.Id
