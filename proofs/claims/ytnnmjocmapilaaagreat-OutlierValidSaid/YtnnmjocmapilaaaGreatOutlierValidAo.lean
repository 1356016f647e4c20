/-
  Weakest preconditions over the ideal machine, eighth part: stores, made slices, built valu
-/
import Derived.Test.YtnnmjocmapilaaaGreatOutlierValidAn
set_option linter.unusedVariables false
set_option linter.unusedSimpArgs false
set_option linter.defProp false
set_option linter.deprecated false
namespace Go.Id
open Go
theorem HV (cs:List Value):IH.aG cs 0 []=cs:=by simp[IH.aG]
theorem Fq (c v:Value) (cs vs:List Value):IH.aG (c :: cs) 0 (v :: vs)=v :: IH.aG cs 0 vs:=by simp[IH.aG]
theorem xg (c:Value) (cs vs:List Value) (n:Nat):IH.aG (c :: cs) (n+1) vs=c :: IH.aG cs n vs:=by
 simp[IH.aG,show n+1+vs.length=(n+vs.length)+1 from by omega]
theorem gG {cs:List Value} {n:Nat} {v:Value} (h:n<cs.length):IH.aG cs n [v]=cs.set n v:=by
 simp only[IH.aG,List.length_singleton,List.singleton_append]
 exact(List.set_eq_take_append_cons_drop.trans (if_pos h)).symm
theorem iI {cs vs:List Value} (h:cs.length=vs.length):IH.aG cs 0 vs=vs:=by
 simp[IH.aG,h]
theorem Uq (k:IntKind) (n:Int):aA (.int k n)=true:=rfl
theorem He (b:Bool):aA (.bool b)=true:=rfl
theorem Oj (a:Option Addr) (n k:Nat):aA (.slice a n k)=true:=rfl
theorem Uo (b o:Nat):aA (ptr b o)=true:=rfl
theorem RP (f:Fn) (a b:Array Value):aA (.func f a b)=true:=rfl
theorem Up (r:Option Nat):aA (.map r)=true:=rfl
theorem Hd:aA .nilFunc=true:=rfl
theorem Jz:aA (.pointer none)=true:=rfl
theorem Sg (p:Value→Bool):([]:List Value).all p=true:=rfl
theorem OH (p:Value→Bool) (v:Value) (l:List Value):(v :: l).all p=(p v && l.all p):=rfl
theorem Yl (b:Bool):(true && b)=b:=rfl
theorem Z4 (b:Bool):(false && b)=false:=rfl
theorem ZaD (b:Bool):(b && true)=b:=by cases b<;>rfl
theorem QC {α:Type}:([]:List α).length=0:=rfl
theorem NC {α:Type} (v:α) (l:List α):(v :: l).length=l.length+1:=rfl
def stE (n:Nat) (h:IH) (k o:Nat) (vs:List Value):Option bz→Option IH
 | some (.cells cs e none)=>if vs.length=n∧vs.all aA=true∧o+n≤cs.length then some (h.put k (.cells (IH.aG cs o vs) e none)) else none
 | some (.cells cs e (some f))=>if vs.length=n∧vs.all aA=true then h.wr (2*k) o vs else none
 | _=>none
theorem dA {P:Program} {t:TypeId} {n:Nat} (hT:aK P t=some n) (h:IH) (k o:Nat) (v:Value):store P h t (ptr (2*k) o) v=stE n h k o v.cells.toList (h.ext.get k):=by
 have h1:(2*k % 2 == 1)=false:=by simp
 have h2:2*k / 2=k:=by omega
 simp only[store,asAddr,ptr,hT,cond_eq_ite,Bool.and_eq_true,beq_iff_eq]
 rw[show v.cells.size=v.cells.toList.length from by simp]
 generalize v.cells.toList=vs
 cases hg:h.ext.get k with
 | none=>simp[stE,IH.wr,h2,hg]
 | some ob =>
  cases ob with
  | cells cs e f =>
   cases f with
   | none =>
    simp only[stE,IH.wr,h1,h2,hg,cond_eq_ite,Nat.ble_eq,Bool.false_eq_true,if_false]
    by_cases hc:vs.length=n∧vs.all aA=true
    ·rw[if_pos hc]
     obtain⟨rfl,hc2⟩:=hc
     by_cases hl:o+vs.length≤cs.length
     ·rw[if_pos hl,if_pos ⟨rfl,hc2,hl⟩];rfl
     ·rw[if_neg hl,if_neg fun x=>hl x.2.2]
    ·rw[if_neg hc,if_neg fun x=>hc ⟨x.1,x.2.1⟩]
   | some f=>simp[stE]
  | _=>simp[stE,IH.wr,h2,hg]
theorem Wb (n:Nat) (h:IH) (k o:Nat) (vs cs:List Value) (e:Nat):stE n h k o vs (some (.cells cs e none))=if vs.length=n∧vs.all aA=true∧o+n≤cs.length then some (h.put k (.cells (IH.aG cs o vs) e none)) else none:=rfl
theorem vz (h:IH) {sz m:Nat} {cs:List Value} (hz:0<sz) (hl:cs.length=m*sz) (hm:0<m):bJ (h.new (.cells cs sz none)) sz (.slice (some ⟨2*h.n,0,none⟩) m (2*m+1)) m cs:=by
 refine⟨hz,hl,.inr ⟨2*h.n,0,2*m+1,rfl,.inr ⟨by omega,by omega,cs,.inr ⟨by omega,by simp,none,?_⟩,?_,?_,by omega⟩⟩⟩
 ·rw[show 2*h.n / 2=h.n from by omega,lu,if_pos rfl]
 ·exact jk _ _ _ _ rfl
 ·rw[List.drop_zero,List.take_of_length_le (by omega)]
theorem cT {h:IH} {k sz n c:Nat} {cs:List Value} {f:Option Nat} (hg:h.ext.get k=some (.cells cs sz f)) (hk:k<h.n) (hz:0<sz) (hl:cs.length=n*sz) (hc:0<c) (hn:n≤c / 2):bJ h sz (.slice (some ⟨2*k,0,none⟩) n c) n cs:=by
 refine⟨hz,hl,.inr ⟨2*k,0,c,rfl,.inr ⟨hc,hn,cs,.inr ⟨by omega,by omega,f,?_⟩,?_,?_,by omega⟩⟩⟩
 ·rw[show 2*k / 2=k from by omega,hg]
 ·rw[jl];simp[IH.cells,hg]
 ·rw[List.drop_zero,List.take_of_length_le (by omega)]
theorem Acc.se {h:IH} {n0 sz:Nat} {v:Value} {n:Nat} {cs:List Value} (a:Acc h n0 sz v n cs) {P:Program} {t:TypeId} {bytes:Nat} (hT:kG P t=some (sz,bytes)) {m:Nat} {new:List Value} (hm:0<m) (hl:new.length=m*sz)
  (hc:new.all aA=true) (hsz:(n+m)*(bytes+1)≤1099511627776) (h0:n0≤h.n) {h0':IH} (e0:Ext h0' h) (hn0:h0'.n≤n0) :
  ∃v' h',append P (h.new (.cells new sz none)) t v (.slice (some ⟨2*h.n,0,none⟩) m (2*m+1))=some (v',h')∧Acc h' n0 sz v' (n+m) (cs ++ new)∧Grow h h'∧Ext h0' h':=by
 have e1:Ext h (h.new (.cells new sz none)):=(Ext.refl h).new _
 obtain⟨v',h',b1,b2,b3,b4,b5⟩:=(a.ext e1).app hT (vz h a.1 hl hm) hm hc hsz (by simp;omega) (e0.trans e1) hn0
 exact⟨v',h',b1,b2,e1.grow.trans b3,b5⟩
theorem Acc.Et {h:IH} {n0:Nat} {v:Value} {n:Nat} {cs:List Value} (a:Acc h n0 1 v n cs) {P:Program} {t:TypeId} {bytes:Nat} (hT:kG P t=some (1,bytes)) {x:Value}
  (hc:aA x=true) (hsz:(n+1)*(bytes+1)≤1099511627776) (h0:n0≤h.n) {h0':IH} (e0:Ext h0' h) (hn0:h0'.n≤n0) :
  ∃v' h',append P (h.new (.cells [x] 1 none)) t v (.slice (some ⟨2*h.n,0,none⟩) 1 3)=some (v',h')∧Acc h' n0 1 v' (n+1) (cs ++ [x])∧Grow h h'∧Ext h0' h' :=
 a.se hT (m:=1) (new:=[x]) (by omega) rfl (by simp[hc]) hsz h0 e0 hn0
theorem Acc.app2 {h:IH} {n0:Nat} {v:Value} {n:Nat} {cs:List Value} (a:Acc h n0 1 v n cs) {P:Program} {t:TypeId} {bytes:Nat} (hT:kG P t=some (1,bytes)) {x y:Value}
  (hc:aA x=true) (hc2:aA y=true) (hsz:(n+2)*(bytes+1)≤1099511627776) (h0:n0≤h.n) {h0':IH} (e0:Ext h0' h) (hn0:h0'.n≤n0) :
  ∃v' h',append P (h.new (.cells [x,y] 1 none)) t v (.slice (some ⟨2*h.n,0,none⟩) 2 5)=some (v',h')∧Acc h' n0 1 v' (n+2) (cs ++ [x,y])∧Grow h h'∧Ext h0' h' :=
 a.se hT (m:=2) (new:=[x,y]) (by omega) rfl (by simp[hc,hc2]) hsz h0 e0 hn0
theorem lq {P:Program} {t:TypeId} {n b:Nat} {z:List Value} (hT:nT P t=some (n,b,z)) (h:IH) (k j:IntKind) {l c:Int} (h0:0≤l) (h1:l≤c) (h2:c*(b+1)≤1099511627776) :
  makeSlice P h t (.int k l) (.int j c)=some (.slice (some ⟨2*h.n,0,none⟩) l.toNat (2*c.toNat+1),h.new (.cells (bq c.toNat z) n none)):=by
 obtain⟨l,rfl⟩:=Int.eq_ofNat_of_zero_le h0
 obtain⟨c,rfl⟩:=Int.eq_ofNat_of_zero_le (Int.le_trans h0 h1)
 unfold nT at hT
 split at hT
 case h_2=>cases hT
 rename_i e hu
 split at hT
 case h_2=>cases hT
 rename_i zz a1 a2 a3
 simp only[cond_eq_ite,beq_iff_eq] at hT
 split at hT
 case isFalse=>cases hT
 rename_i hz
 cases hT
 have hc2:c*(b+1)≤aN:=by
  have:((c*(b+1):Nat):Int)≤1099511627776:=by simpa using h2
  simp only[aN];omega
 have hcm:c≤aN:=Nat.le_trans (Nat.le_mul_of_pos_right c (by omega)) hc2
 have e1:iC (.int k (l:Int)) aN=some l:=lI (by omega)
 have e2:iC (.int j (c:Int)) aN=some c:=lI hcm
 have e3:(Nat.ble l c && Nat.ble (c*(b+1)) aN && z.length == n)=true:=by
  simp[Nat.ble_eq,hz,hc2];omega
 simp only[makeSlice,hu,e1,e2,a1,a2,a3,e3,cond_true,Int.toNat_natCast]
theorem cZ {P:Program} {t:TypeId} {n b:Nat} {z:List Value} (hT:nT P t=some (n,b,z)) (h:IH) (len:Nat) (ps:List (Nat×Value)) (hl:len*n≤16777216) :
  buildSlice P h t len ps=(cd (fun i=>some (i*n,n)) (bq len z) ps).map fun cells=>(.slice (some ⟨2*h.n,0,none⟩) len (2*len+1),h.new (.cells cells n none)):=by
 unfold nT at hT
 split at hT
 case h_2=>cases hT
 rename_i e hu
 split at hT
 case h_2=>cases hT
 rename_i zz a1 a2 a3
 simp only[cond_eq_ite,beq_iff_eq] at hT
 split at hT
 case isFalse=>cases hT
 rename_i hz
 cases hT
 have e3:(Nat.ble (len*n) jd && z.length == n)=true:=by
  simp[Nat.ble_eq,hz,jd];exact hl
 simp only[buildSlice,hu,a1,a3,e3,cond_true]
 cases cd (fun i=>some (i*n,n)) (bq len z) ps<;>rfl
theorem N7 (place:Nat→Option (Nat×Nat)) (cs:List Value):cd place cs []=some cs:=rfl
theorem Jm (place:Nat→Option (Nat×Nat)) (cs:List Value) (i:Nat) (v:Value) (l:List (Nat×Value)) :
  cd place cs ((i,v) :: l)=(place i).bind fun p=>if v.cells.toList.length=p.2∧p.1+p.2≤cs.length then cd place (IH.aG cs p.1 v.cells.toList) l else none:=by
 simp only[cd]
 cases place i with
 | none=>rfl
 | some p =>
  simp only[Option.bind_some,cond_eq_ite,Bool.and_eq_true,beq_iff_eq,Nat.ble_eq]
  simp
theorem BH (z:List Value):bq 0 z = []:=rfl
theorem vX (n:Nat) (z:List Value):bq (n+1) z=z ++ bq n z:=rfl
theorem zq (n:Nat) (v:Value):bq n [v]=List.replicate n v:=by
 induction n with
 | zero=>rfl
 | succ n ih=>rw[vX,ih,List.replicate_succ];rfl
theorem gi {P:Program} {t:TypeId} {z:List Value} (hz:aC P t=some z) (ha:cu P t=true) (ps:List (Nat×Value)):iS P t ps=(cd (placeOf P t) z ps).map fun cs=>.agg cs.toArray:=by
 simp[iS,hz,ha]
theorem fC {P:Program} {fn:FuncId} {nt:Nat} {rd:Option Nat} {a c:Code} {fr:Fr} {h:IH} {K:Fr→IH→Prop} {Q:bf→Fr→IH→Prop} {b:Bool} (R:Fr→IH→Prop)
  (h1:b=true→Do (wpC P fn nt rd a fr h) (qq (fun fr h=>Pst (R fr h) nx) Q) nx) (h2:b=false→Do (wpC P fn nt rd c fr h) (qq (fun fr h=>Pst (R fr h) nx) Q) nx) (k : ∀fr h,R fr h→K fr h) :
  Bq b (Do (wpC P fn nt rd a fr h) (qq K Q) nx,Do (wpC P fn nt rd c fr h) (qq K Q) nx) nx :=
 aq (fun hb=>cut R (h1 hb) k) fun hb=>cut R (h2 hb) k
theorem Fm {P:Program} {fr:Fr} {o:Op} {h h' x y:IH} {v:Value} (h1:iop P fr o h=some (v,x)) (h2:iop P fr o h'=some (v,y)):gE P fr o h h'=true:=by
 simp[gE,h1,h2,GX]
theorem ai {P:Program} {fr:Fr} {t:TypeId} {a:Operand} {av v:Value} {h h':IH} (ha:opd fr a=some av) (h1:load P h t av=some v) (h2:load P h' t av=some v):gE P fr (.load t a) h h'=true :=
 Fm (by simp[iop,ha,h1];exact⟨rfl,rfl⟩) (by simp[iop,ha,h2];rfl)
theorem fE (P:Program) {α β:Type} (f:α→Sem β) : ∀s:Sem α,aw P (s.bind f)=(aw P s).bind fun a=>aw P (f a)
 | .pure a=>rfl
 | .program k=>fE P f (k P)
 | .load _ _ _=>rfl
 | .store _ _ _ _=>rfl
 | .new _ _=>rfl
 | .shape _ _=>rfl
 | .freeze _ _ _=>rfl
 | .frozen _ _=>rfl
 | .getObj _ _=>rfl
 | .setObj _ _ _=>rfl
 | .choose _ _=>rfl
 | .sys _ _=>rfl
 | .mark _ _=>rfl
 | .halt _=>rfl
theorem Ao {P:Program} {t:TypeId} (hT:P.underlying t=some .bool) (a b:Bool):aw P (Op.equal t (.bool a) (.bool b))=some (a == b):=by
 show aw P (Sem.bind (underlying t) _)=_
 rw[iK hT];rfl
theorem AO {P:Program} {t:TypeId} (hT:P.underlying t=some .bool) (ox oy:Operand) (a b:Bool):binop P .eql t ox oy (.bool a) (.bool b)=some (.bool (a == b)):=by
 refine di P t ox oy rfl rfl rfl ?_
 show aw P (Sem.bind (Op.equal t (.bool a) (.bool b)) fun r=>Sem.pure (Value.bool r))=_
 rw[fE,Ao hT];rfl
theorem AN {P:Program} {t:TypeId} (hT:P.underlying t=some .bool) (ox oy:Operand) (a b:Bool):binop P .neq t ox oy (.bool a) (.bool b)=some (.bool (!(a == b))):=by
 refine di P t ox oy rfl rfl rfl ?_
 show aw P (Sem.bind (Op.equal t (.bool a) (.bool b)) fun r=>Sem.pure (Value.bool (!r)))=_
 rw[fE,Ao hT];rfl
theorem Ki (P:Program) (t:TypeId) (ox oy:Operand) {j:IntKind} {a b:Nat} (h:a*2 ^ b<18446744073709551616) (hb:b≤64):binop P .shl t ox oy (.int .u64 (a:Int)) (.int j (b:Int))=some (.int .u64 ((a*2 ^ b:Nat):Int)):=by
 rw[ov P t ox oy (by omega)]
 show some (Value.int .u64 (IntKind.u64.wrap ((a:Int)*2 ^ min b 64)))=_
 rw[Nat.min_eq_left hb,show(a:Int)*2 ^ b=((a*2 ^ b:Nat):Int) from by simp,dH h]
theorem vo {a b:Int} (h:a<b):decide (a<b)=true:=by simpa using h
theorem vu {a b:Int} (h : ¬a<b):decide (a<b)=false:=by simpa using h
theorem Ru {a b:Int} (h:a≤b):decide (a≤b)=true:=by simpa using h
theorem Rv {a b:Int} (h : ¬a≤b):decide (a≤b)=false:=by simpa using h
theorem Oz {a b:Int} (h:a=b):(a == b)=true:=by simpa using h
theorem OA {a b:Int} (h : ¬a=b):(a == b)=false:=by simpa using h
theorem Ou {a b:Int} (h : ¬a=b):(a != b)=true:=by simpa using h
theorem Ov {a b:Int} (h:a=b):(a != b)=false:=by simpa using h
theorem Oy (b:Bool):(b == true)=b:=by cases b<;>rfl
theorem JJ (b:Bool):(b == false) = !b:=by cases b<;>rfl
theorem Ns:(!true)=false:=rfl
theorem IQ:(!false)=true:=rfl
theorem Ql (b:Bool):(!(!b))=b:=by cases b<;>rfl
theorem Rg {α:Type} (a:α):(a=a)=True:=by simp
def wpT:=And.intro @N7 (And.intro @Jm (And.intro @HV (And.intro @Fq (And.intro @xg (And.intro @BH (And.intro @vX (And.intro @Wb (
 And.intro @Yl (And.intro @Z4 (And.intro @ZaD (And.intro @Uq (And.intro @He (And.intro @Oj (And.intro @Uo (And.intro @RP (
 And.intro @Up (And.intro @Hd (And.intro @Jz (And.intro @Sg (And.intro @OH (And.intro @QC (And.intro @NC (And.intro @Rg (
 And.intro @vo (And.intro @vu (And.intro @Ru (And.intro @Rv (And.intro @Oz (And.intro @OA (And.intro @Ou (And.intro @Ov (
 And.intro @Oy (And.intro @JJ (And.intro @Ns (And.intro @IQ (And.intro @Ql (And.intro @true_and (@and_true))))))))))))))))))))))))))))))))))))))
section
variable {P:Program}
theorem eK {α β:Type} {s:Sem α} {f:α→Sem β} {a:α} (h:aw P s=some a):aw P (s >>= f)=aw P (f a):=by
 show aw P (s.bind f)=_
 rw[fE,h];rfl
theorem Td {α:Type} (a:α):aw P (pure a:Sem α)=some a:=rfl
theorem iz {t:TypeId} {d:TypeDesc} (h:P.underlying t=some d):aw P (underlying t)=some d:=by
 have e:aw P (underlying t)=aw P ((match P.underlying t with|some d=>(pure d:Sem TypeDesc)|none=>stuck "no such type")):=rfl
 rw[e,h];rfl
theorem Nb {e:TypeId} {n:Nat} (h:aK P e=some n):aw P (sizeOf e)=some n:=by
 simp only[aK,Option.map_eq_some_iff] at h
 obtain⟨i,hi,rfl⟩:=h
 have e2:aw P (sizeOf e)=aw P ((match P.info? e with|some i=>(pure i:Sem TypeInfo)|none=>stuck "no such type").bind fun i=>pure i.size):=rfl
 rw[e2,hi];rfl
theorem KA {e:TypeId} {k:IntKind} (he:P.underlying e=some (.int k)) {cs:Array Value} {off:Nat} {v:Value} (hv:cs[off]?=some v):aw P (part e cs off)=some v:=by
 unfold part
 have h1:aw P (isAgg e)=some false:=by
  unfold isAgg
  rw[eK (iz he)];rfl
 rw[eK h1]
 simp only[Bool.false_eq_true,if_false,hv]
 rfl
theorem Dv {e:TypeId} {k j:IntKind} (he:P.underlying e=some (.int j)) (d:Nat) (a b:Int):aw P (Op.equalIn (d+1) e (.int k a) (.int k b))=some (a == b):=by
 unfold Op.equalIn
 rw[eK (iz he)]
 simp only[if_true]
 rfl
def GW (xs ys:List Int) (is:List Nat):Bool:=is.all fun i=>xs[i]? == ys[i]?
theorem P3 {n:Nat} {xs ys:List Int} (body:Nat→Option Bool×Unit→Sem (ForInStep (Option Bool×Unit))) (g:Option Bool×Unit→Sem Bool)
  (hb : ∀i,i<n → ∀r,aw P (body i r)=some (if (xs[i]? == ys[i]?)=true then .yield (none,()) else .done (some false,()))) : ∀is:List Nat,(∀i∈is,i<n) →
  aw P (forIn is ((none,()):Option Bool×Unit) body >>= g)=aw P (g (if GW xs ys is=true then (none,()) else (some false,()))):=by
 have assoc : ∀(s:Sem (ForInStep (Option Bool×Unit))) (g1:ForInStep (Option Bool×Unit)→Sem (Option Bool×Unit)) (f2:Option Bool×Unit→Sem Bool),aw P ((s >>= g1) >>= f2)=aw P (s >>= fun x=>g1 x >>= f2):=fun s g1 f2=>by
  show aw P ((s.bind g1).bind f2)=aw P (s.bind fun x=>(g1 x).bind f2)
  rw[fE,fE,fE]
  cases aw P s with
  | none=>rfl
  | some a=>simp only[Option.bind_some];rw[fE]
 intro is
 induction is with
 | nil=>intro _;rfl
 | cons i is ih =>
  intro hi
  have h1:=hb i (hi i (by simp)) (none,())
  rw[List.forIn_cons,assoc,eK h1]
  have hz:GW xs ys (i :: is)=((xs[i]? == ys[i]?) && GW xs ys is):=rfl
  rw[hz]
  cases hc:(xs[i]? == ys[i]?) with
  | true =>
   rw[Bool.true_and,←ih fun j hj=>hi j (by simp[hj])]
   rfl
  | false =>
   rw[Bool.false_and]
   rfl
theorem uL {t e:TypeId} {n:Nat} {k:IntKind} (hT:P.underlying t=some (.array n e)) (he:P.underlying e=some (.int k)) (hs:aK P e=some 1) (d:Nat) (xs ys:List Int) (hx:xs.length=n) (hy:ys.length=n) :
  aw P (Op.equalIn (d+2) t (.agg (xs.map (.int k)).toArray) (.agg (ys.map (.int k)).toArray))=some (decide (xs=ys)):=by
 unfold Op.equalIn
 rw[eK (iz hT)]
 simp only
 rw[eK (Nb hs)]
 simp only[Std.Legacy.Range.forIn_eq_forIn_range',Std.Legacy.Range.size,Nat.sub_zero,Nat.add_one_sub_one,Nat.div_one]
 rw[P3 (n:=n) (xs:=xs) (ys:=ys) _ _ (fun i hin r=>?_) (List.range' 0 n) (fun i hi=>?_)]
 ·have hz:GW xs ys (List.range' 0 n)=decide (xs=ys):=by
   rw[Bool.eq_iff_iff]
   simp only[GW,List.all_eq_true,List.mem_range'_1,beq_iff_eq,decide_eq_true_eq]
   constructor
   ·intro h
    apply List.ext_getElem?
    intro i
    by_cases hi:i<n
    ·exact h i ⟨Nat.zero_le _,by omega⟩
    ·rw[List.getElem?_eq_none (by omega),List.getElem?_eq_none (by omega)]
   ·rintro rfl i _;rfl
  rw[hz]
  by_cases h:xs=ys
  ·simp[h];rfl
  ·simp[h];rfl
 ·have hxi:(xs.map (Value.int k)).toArray[i*1]?=some (.int k (xs[i]'(by omega))):=by simp[hx,hin]
  have hyi:(ys.map (Value.int k)).toArray[i*1]?=some (.int k (ys[i]'(by omega))):=by simp[hy,hin]
  rw[eK (KA he hxi),eK (KA he hyi),eK (Dv he d _ _)]
  rw[List.getElem?_eq_getElem (show i<xs.length by omega),List.getElem?_eq_getElem (show i<ys.length by omega)]
  rw[show(some (xs[i]'(by omega)) == some (ys[i]'(by omega)))=(xs[i]'(by omega) == ys[i]'(by omega)) from rfl]
  cases(xs[i]'(by omega) == ys[i]'(by omega))<;>rfl
 ·rw[List.mem_range'_1] at hi;omega
theorem Bh {t e:TypeId} {n:Nat} {k:IntKind} (hT:P.underlying t=some (.array n e)) (he:P.underlying e=some (.int k)) (hs:aK P e=some 1) (hg:P.eqGuardType P.depth t=false) (ox oy:Operand) (xs ys:List Int) (hx:xs.length=n) (hy:ys.length=n) :
  binop P .eql t ox oy (.agg (xs.map (.int k)).toArray) (.agg (ys.map (.int k)).toArray)=some (.bool (decide (xs=ys))):=by
 have hp : ∀l:List Int,plain (.agg (l.map (Value.int k)).toArray)=true:=by intro l;simp[plain,bD]
 refine di P t ox oy (hp _) (hp _) rfl ?_
 have h1:aw P (eqGuard .eql t ox oy (.agg (xs.map (.int k)).toArray) (.agg (ys.map (.int k)).toArray))=some ():=by
  show aw P (if (!P.eqGuardType P.depth t)=true then _ else _)=_
  rw[hg];rfl
 rw[eK h1]
 show aw P (Op.equal t _ _ >>= fun r=>pure (Value.bool r))=_
 have h2:aw P (Op.equal t (.agg (xs.map (.int k)).toArray) (.agg (ys.map (.int k)).toArray))=some (decide (xs=ys)):=uL hT he hs 9998 xs ys hx hy
 rw[eK h2];rfl
theorem Bg {t e:TypeId} {n:Nat} {k:IntKind} (hT:P.underlying t=some (.array n e)) (he:P.underlying e=some (.int k)) (hs:aK P e=some 1) (hg:P.eqGuardType P.depth t=false) (ox oy:Operand) (xs ys:List Int) (hx:xs.length=n) (hy:ys.length=n) :
  binop P .neq t ox oy (.agg (xs.map (.int k)).toArray) (.agg (ys.map (.int k)).toArray)=some (.bool (!decide (xs=ys))):=by
 have hp : ∀l:List Int,plain (.agg (l.map (Value.int k)).toArray)=true:=by intro l;simp[plain,bD]
 refine di P t ox oy (hp _) (hp _) rfl ?_
 have h1:aw P (eqGuard .neq t ox oy (.agg (xs.map (.int k)).toArray) (.agg (ys.map (.int k)).toArray))=some ():=by
  show aw P (if (!P.eqGuardType P.depth t)=true then _ else _)=_
  rw[hg];rfl
 rw[eK h1]
 show aw P (Op.equal t _ _ >>= fun r=>pure (Value.bool (!r)))=_
 have h2:aw P (Op.equal t (.agg (xs.map (.int k)).toArray) (.agg (ys.map (.int k)).toArray))=some (decide (xs=ys)):=uL hT he hs 9998 xs ys hx hy
 rw[eK h2];rfl
end
def pO (h:IH) (sz:Nat) (v:Value) (n:Nat) (cs:List Value):Prop :=
 0<sz∧cs.length=n*sz∧((v=.slice none 0 0∧n=0) ∨ ∃b o k,v=.slice (some ⟨b,o,none⟩) n k∧(n=0 ∨ ∃row,h.row b=some row∧(row.drop o).take (n*sz)=cs∧o+n*sz≤row.length))
theorem bJ.now {h:IH} {sz:Nat} {v:Value} {n:Nat} {cs:List Value} (s:bJ h sz v n cs):pO h sz v n cs:=by
 obtain⟨hz,hl,s|⟨b,o,k,rfl,s⟩⟩:=s
 ·exact⟨hz,hl,.inl s⟩
 ·refine⟨hz,hl,.inr ⟨b,o,k,rfl,?_⟩⟩
  rcases s with⟨h1,_⟩|⟨_,_,row,_,h1,h2,h3⟩
  ·exact .inl h1
  ·exact .inr ⟨row,h1,h2,h3⟩
theorem pO.form {h:IH} {sz:Nat} {v:Value} {n:Nat} {cs:List Value} (s:pO h sz v n cs) : ∃a k,v=.slice a n k:=by
 obtain⟨hz,hl,⟨rfl,rfl⟩|⟨b,o,k,rfl,s⟩⟩:=s
 ·exact⟨_,_,rfl⟩
 ·exact⟨_,_,rfl⟩
theorem By {P:Program} {t e:TypeId} {n sz:Nat} (hu:P.underlying t=some (.array n e)) (hs:aK P e=some sz) (hn:0<n) (h:IH) (b o:Nat):cJ P h t (ptr b o) none none none=some (.slice (some ⟨b,o,none⟩) n (2*n+1)):=by
 have h1:(2*n+1) / 2=n:=by omega
 have h2:(2*n+1 == 0)=false:=by simp
 have h3:(0 == n)=false:=by simp;omega
 have h4:((2*n+1) % 2 == 1)=true:=by simp
 simp only[cJ,hu,hs,asAddr,ptr,de,fD,QS,GD,h1,h2,h3,h4,cond_true,cond_false,Bool.true_or]
 simp
theorem Uw {h:IH} {b o n sz k:Nat} {row cs:List Value} (hr:h.row b=some row) (hz:0<sz) (hl:cs.length=n*sz) (h1:(row.drop o).take (n*sz)=cs) (h2:o+n*sz≤row.length):pO h sz (.slice (some ⟨b,o,none⟩) n k) n cs :=
 ⟨hz,hl,.inr ⟨b,o,k,rfl,.inr ⟨row,hr,h1,h2⟩⟩⟩
theorem Gl {P:Program} {t e:TypeId} (hu:P.underlying t=some (.slice e)) (ox oy:Operand) (b o:Nat) (n k:Nat):binop P .eql t ox oy (.slice (some ⟨b,o,none⟩) n k) (.slice none 0 0)=some (.bool false):=by
 have h1:plain (.slice (some ⟨b,o,none⟩) n k)=false:=rfl
 simp only[binop,h1,Bool.false_and,cond_false,uS,hu,tC,Option.map_some]
theorem Gm {P:Program} {t e:TypeId} (hu:P.underlying t=some (.slice e)) (ox oy:Operand):binop P .eql t ox oy (.slice none 0 0) (.slice none 0 0)=some (.bool true):=by
 refine di P t ox oy rfl rfl rfl ?_
 show aw P (Op.equal t _ _ >>= fun r=>pure (Value.bool r))=_
 have h2:aw P (Op.equal t (.slice none 0 0) (.slice none 0 0))=some true:=by
  show aw P (Op.equalIn 10000 t _ _)=_
  unfold Op.equalIn
  rw[eK (iz hu)];rfl
 rw[eK h2];rfl
theorem rf {P:Program} {t:TypeId} {sz bytes:Nat} (hT:kG P t=some (sz,bytes)) (h:IH) {x:Value} {m:Nat} {new:List Value} (sx:pO h sz x m new) (hm:0<m) (hc:new.all aA=true) (hsz:m*(bytes+1)≤1099511627776) (b o:Nat) :
  append P h t (.slice (some ⟨b,o,none⟩) 0 1) x=some (.slice (some ⟨2*h.n,0,none⟩) m (2*m),h.new (.cells new sz none)):=by
 unfold kG at hT
 split at hT
 case h_2=>cases hT
 rename_i e hu
 split at hT
 case h_2=>cases hT
 rename_i zs h1 h2 h3
 simp only[cond_eq_ite] at hT
 split at hT
 case isTrue=>cases hT
 rename_i Jc
 cases hT
 have og:(sz == 0 || (!(Nat.ble bytes 65536) || !(zs.length == sz)))=false:=by simpa using Jc
 obtain⟨hz,hl,⟨rfl,rfl⟩|⟨b2,o2,k2,rfl,rfl|⟨row,a1,a2,a3⟩⟩⟩:=sx
 ·omega
 ·omega
 have hms : ¬m*sz=0:=by
  have:0<m*sz:=Nat.mul_pos hm hz
  omega
 have Aa:(m == 0)=false:=by simp;omega
 have ml:bL h sz m (.slice (some ⟨b2,o2,none⟩) m k2)=some new:=by
  simp only[bL,cond_eq_ite,Nat.ble_eq,Nat.le_refl,if_true,beq_iff_eq,if_neg hms]
  rw[xn a1,if_pos a3,a2]
 have wD:Nat.ble (m*(bytes+1)) aN=true:=by rw[Nat.ble_eq];exact hsz
 have od:Nat.ble m (1 / 2)=false:=by
  rw[Bool.eq_false_iff];intro hh;rw[Nat.ble_eq] at hh;omega
 have nW:(1 % 2 == 1)=true:=rfl
 have Ua:bL h sz 0 (.slice (some ⟨b,o,none⟩) 0 1)=some []:=by
  simp[bL];rfl
 simp only[Id.append,hu,h1,h2,h3,lenOf,Aa,og,ml,hc,wD,od,nW,Ua,cond_true,cond_false,Bool.not_true,List.nil_append,Nat.zero_add]
theorem copy_eq {P:Program} {t e:TypeId} {sz:Nat} (hu:P.underlying t=some (.slice e)) (hS:aK P e=some sz) {h:IH} {k o dn c:Nat} {cs:List Value} {e2:Nat} (hg:h.ext.get k=some (.cells cs e2 none)) {s:Value} {sn:Nat} {ss:List Value} (hs:pO h sz s sn ss) (hc:ss.all aA=true)
  (uY:0<min sn dn) (hl:o+min sn dn*sz≤cs.length) (ts:Array TypeId) (ht:ts[0]?=some t) :
  builtin P h .copy ts [.slice (some ⟨2*k,o,none⟩) dn c,s]=some (.int .i64 ((min sn dn:Nat):Int),h.put k (.cells (IH.aG cs o (ss.take (min sn dn*sz))) e2 none)):=by
 obtain⟨hz,hln,⟨rfl,rfl⟩|⟨b2,o2,k2,rfl,rfl|⟨row,a1,a2,a3⟩⟩⟩:=hs
 ·simp at uY
 ·simp at uY
 have hm:Nat.min sn dn=min sn dn:=rfl
 generalize hmm:min sn dn=m at *
 have hmn:m≤sn:=by omega
 have hms : ¬m*sz=0:=by
  have:0<m*sz:=Nat.mul_pos uY hz
  omega
 have hmle:m*sz≤sn*sz:=Nat.mul_le_mul_right _ hmn
 have hrd:h.rd b2 o2 (m*sz)=some (ss.take (m*sz)):=by
  have hle:o2+m*sz≤row.length:=by omega
  rw[xn a1,←a2,List.take_take,Nat.min_eq_left hmle]
  exact if_pos hle
 have ml:bL h sz m (.slice (some ⟨b2,o2,none⟩) sn k2)=some (ss.take (m*sz)):=by
  have hb:Nat.ble m sn=true:=by rw[Nat.ble_eq];exact hmn
  simp only[bL,hb,cond_eq_ite,beq_iff_eq,if_neg hms,hrd,if_true]
 have hlen:(ss.take (m*sz)).length=m*sz:=by rw[List.length_take];omega
 have hne:(ss.take (m*sz)).isEmpty=false:=by
  cases hx:ss.take (m*sz) with
  | nil=>rw[hx] at hlen;simp at hlen;omega
  | cons a b=>rfl
 have hc2:(ss.take (m*sz)).all aA=true:=by
  rw[List.all_eq_true] at hc ⊢
  intro x hx;exact hc x (List.mem_of_mem_take hx)
 have h1:(2*k % 2 == 1)=false:=by simp
 have h2:2*k / 2=k:=by omega
 have h3:Nat.ble (o+(ss.take (m*sz)).length) cs.length=true:=by rw[Nat.ble_eq,hlen];exact hl
 simp only[builtin,ht,tR,hu,lenOf,hS,hm,ml,hne,hc2,IH.wr,h1,h2,hg,h3,cond_true,cond_false,Bool.not_true,Option.map_some]
 rfl
theorem yF {h:IH} {sz m:Nat} {cs:List Value} (hz:0<sz) (hl:cs.length=m*sz) (hm:0<m):Acc (h.new (.cells cs sz none)) h.n sz (.slice (some ⟨2*h.n,0,none⟩) m (2*m)) m cs :=
 ⟨hz,hl,.inr ⟨h.n,none,rfl,hm,Nat.le_refl _,by simp,ah _ _ rfl,trivial⟩⟩
theorem Acc.from {h:IH} {n0 n1 sz:Nat} {v:Value} {n:Nat} {cs:List Value} (a:Acc h n1 sz v n cs) (hn:n0≤n1):Acc h n0 sz v n cs:=by
 obtain⟨hz,hl,a|⟨k,fam,rfl,hn2,h1,h2,h3,h4⟩⟩:=a
 ·exact⟨hz,hl,.inl a⟩
 ·refine⟨hz,hl,.inr ⟨k,fam,rfl,hn2,by omega,h2,h3,?_⟩⟩
  cases fam with
  | none=>trivial
  | some f =>
   obtain⟨a1,a2,rest,a3,a4⟩:=h4
   exact⟨by omega,a2,rest,a3,fun j hj=>by have:=a4 j hj;omega⟩
noncomputable def asc:List (Value×Value)→Value→Option Value
 | [],_=>none
 | e :: l,k=>@ite _ (e.1=k) (Classical.propDecidable _) (some e.2) (asc l k)
section
variable {P:Program}
end
def AJ (r:gT):gT:={ r with state:=.busy }
theorem fW {h:IH} {k:Nat} {r:gT} (hg:h.ext.get k=some (.loop r)):fj h k=some r:=by simp[fj,hg]
structure Mem (m:Nat) (h h':IH):Prop where
 n:h.n≤h'.n
 base:h'.base=h.base
 get : ∀k,k<h.n→k≠m→h'.ext.get k=h.ext.get k
 bT : ∀f,f<h.n→h'.bT.get f=h.bT.get f
theorem Ext.mem {h h':IH} (e:Ext h h') (m:Nat):Mem m h h':=⟨e.n,e.base,fun k hk _=>e.get k hk,e.bT⟩
theorem Mem.put {m:Nat} {a b:IH} (x:Mem m a b) {k:Nat} (hk:a.n≤k∨k=m) (o:bz):Mem m a (b.put k o) :=
 ⟨x.n,x.base,fun j hj hm=>by rw[iF,if_neg (by omega)];exact x.get j hj hm,x.bT⟩

theorem ED {P:Program} {f:FuncId} {fn:Func} {args:List Value} {v:Value} {h:IH} {K:Value→IH→Prop} (hf:P.funcs[f]?=some fn) (hb:fn.body=none) (hc:mw fn.name args=some v) (k:K v h):WV P (.func (.func f) #[] #[]) args h K:=by
 refine⟨(v,h),⟨1,fun n hn=>?_⟩,k⟩
 obtain⟨n,rfl⟩ : ∃m,n=m+1:=⟨n - 1,by omega⟩
 simp only[bU,nD,show(E0 P).rZ f=none from rfl,show(E0 P).P=P from rfl,hf,hb,List.append_nil,List.nil_append,hc,Option.map_some]
theorem On {n:String} (hn:n = "math/bits.Add64") (x y:Nat) {c:Nat} (hc:c≤1):mw n [.int .u64 (x:Int),.int .u64 (y:Int),.int .u64 (c:Int)]=some (.tuple #[.int .u64 ((x+y+c) % 18446744073709551616:Nat),.int .u64 ((x+y+c) / 18446744073709551616:Nat)]):=by
 have h1:Nat.ble c 1=true:=by rw[Nat.ble_eq];exact hc
 subst hn
 show(bif Nat.ble c 1 then _ else none)=_
 rw[h1];rfl
theorem Ol {n:String} (hn:n = "math/bits.Sub64") (x y:Nat) {c:Nat} (hc:c≤1):mw n [.int .u64 (x:Int),.int .u64 (y:Int),.int .u64 (c:Int)]=some (.tuple #[.int .u64 ((x+18446744073709551616 - y - c) % 18446744073709551616:Nat),.int .u64 ((bif Nat.blt x (y+c) then 1 else 0:Nat))]):=by
 have h1:Nat.ble c 1=true:=by rw[Nat.ble_eq];exact hc
 subst hn
 show(bif Nat.ble c 1 then _ else none)=_
 rw[h1];rfl
theorem WV.and {P:Program} {fv:Value} {vs:List Value} {h:IH} {K L:Value→IH→Prop} (a:WV P fv vs h K) (b:WV P fv vs h L):WV P fv vs h fun v h'=>K v h'∧L v h':=by
 obtain⟨x,⟨N,hN⟩,kx⟩:=a
 obtain⟨y,⟨M,hM⟩,ky⟩:=b
 have h1:=hN (max N M) (Nat.le_max_left _ _)
 have h2:=hM (max N M) (Nat.le_max_right _ _)
 rw[h1] at h2
 cases h2
 exact⟨x,⟨N,hN⟩,kx,ky⟩
def dF:Value→Option Nat
 | .slice (some a) _ _=>some a.block
 | _=>none
theorem zn {size:Nat} {b:Bool} {x r:Value} {lo hi mx:Option Value} (h:de size b x lo hi mx=some r):dF r=dF x:=by
 unfold de at h
 split at h
 ·simp only[cond_eq_ite] at h
  split at h
  ·split at h
   ·cases h;rfl
   ·cases h
  ·cases h
 ·split at h
  ·cases h
  ·rename_i b o n c _ _ _ _
   simp only[cond_eq_ite] at h
   repeat' split at h
   all_goals first|(cases h;rfl)|cases h
 ·cases h
theorem xh {P:Program} {t e:TypeId} (hu:P.underlying t=some (.slice e)) {h:IH} {x r:Value} {lo hi mx:Option Value} (hs:cJ P h t x lo hi mx=some r):dF r=dF x:=by
 simp only[cJ,hu] at hs
 split at hs
 ·exact zn hs
 ·cases hs
theorem bJ.putAt {h:IH} {sz:Nat} {v:Value} {n:Nat} {cs:List Value} (s:bJ h sz v n cs) {k:Nat} (hk:dF v≠some (2*k)) (o:bz):bJ (h.put k o) sz v n cs:=by
 obtain⟨hz,hl,s|⟨b,o2,c,rfl,s⟩⟩:=s
 ·exact⟨hz,hl,.inl s⟩
 ·refine⟨hz,hl,.inr ⟨b,o2,c,rfl,?_⟩⟩
  rcases s with s|⟨h1,h2,row,h3,h4,h5,h6⟩
  ·exact .inl s
  ·have hb:b≠2*k:=fun e=>hk (by rw[e];rfl)
   refine .inr ⟨h1,h2,row,?_,?_,h5,h6⟩
   ·rcases h3 with h3|⟨a1,a2,f,a3⟩
    ·exact .inl h3
    ·exact .inr ⟨a1,a2,f,by rw[ak _ _ (by omega)];exact a3⟩
   ·rw[qv _ _ _ hb];exact h4
theorem zS {P:Program} {fn:FuncId} {nt:Nat} {rd:Option Nat} {id:Nat} {b:Code} {fr:Fr} {h:IH} {K:Fr→IH→Prop} {Q:bf→Fr→IH→Prop} (R:Fr→IH→Prop)
  (w:Do (xR P fn nt rd b fr h) (my id (qq (fun fr h=>Pst (R fr h) nx) Q)) nx) (k : ∀fr h,R fr h→K fr h):Do (xR P fn nt rd b fr h) (my id (qq K Q)) nx :=
 cut (a:=.block id (.loop b)) R w k
theorem U0 {P:Program} {t:TypeId} {ox oy:Operand} {j:IntKind} (a:Nat) {b:Int} (hb:0≤b∧b≤64):binop P .shl t ox oy (.int .u64 (a:Int)) (.int j b)=some (.int .u64 ((a*2 ^ b.toNat % 18446744073709551616:Nat):Int)):=by
 rw[ov P t ox oy hb.1]
 have e:min b.toNat IntKind.u64.bits=b.toNat:=by simp only[IntKind.bits];omega
 rw[e]
 have e2:IntKind.u64.wrap ((a:Int)*2 ^ b.toNat)=((a*2 ^ b.toNat % 18446744073709551616:Nat):Int):=by
  simp[IntKind.wrap,IntKind.bits,IntKind.signed]
 rw[e2]
def QB (k:Nat) (q:Rat):Prop:=q.num.natAbs≤2 ^ k∧q.den≤2 ^ k
theorem QB.mono {a b:Nat} {x:Rat} (h:QB a x) (k:a≤b):QB b x :=
 ⟨Nat.le_trans h.1 (Nat.pow_le_pow_right (by omega) k),Nat.le_trans h.2 (Nat.pow_le_pow_right (by omega) k)⟩
theorem mP {n d:Int} (hd:0<d):n / (Int.gcd n d:Int)=(Rat.divInt n d).num∧d / (Int.gcd n d:Int)=(Rat.divInt n d).den:=by
 constructor
 ·rw[Rat.num_divInt,Int.sign_eq_one_of_pos hd,Int.one_mul,Int.gcd_comm d n]
 ·rw[Rat.den_divInt,if_neg (by omega),Int.gcd_comm d n]
  have:(d.natAbs:Int)=d:=by omega
  rw[Int.natCast_ediv,this]
theorem yr {n d:Int} (hd:d<0) : -(n / (Int.gcd n d:Int))=(Rat.divInt n d).num ∧ -(d / (Int.gcd n d:Int))=(Rat.divInt n d).den:=by
 constructor
 ·rw[Rat.num_divInt,Int.sign_eq_neg_one_of_neg hd,Int.gcd_comm d n,Int.neg_one_mul,Int.neg_ediv_of_dvd (Int.gcd_dvd_left ..)]
 ·rw[Rat.den_divInt,if_neg (by omega),Int.gcd_comm d n]
  have:(d.natAbs:Int) = -d:=by omega
  rw[Int.natCast_ediv,this,Int.neg_ediv_of_dvd (Int.gcd_dvd_right ..)]
theorem Af {n d:Int} (hd:d≠0):(Int.gcd n d:Int)≠0:=by
 intro h
 have:Int.gcd n d=0:=by omega
 rw[Int.gcd_eq_zero_iff] at this
 exact hd this.2
theorem Qx {n d:Int} (hd:d≠0):d / (Int.gcd n d:Int)<0↔d<0:=by
 rcases Int.lt_or_gt_of_ne hd with h|h
 ·have:=(yr (n:=n) h).2
  have:=(Rat.divInt n d).den_pos
  omega
 ·have:=(mP (n:=n) h).2
  have:=(Rat.divInt n d).den_pos
  omega
theorem vj (n:Int) (g:Nat):(n / (g:Int)).natAbs≤n.natAbs:=by
 rcases Int.le_total 0 n with h|h
 ·have h1:n / (g:Int)≤n:=Int.ediv_le_self _ h
  have h2:0≤n / (g:Int):=Int.ediv_nonneg h (by omega)
  omega
 ·rcases Nat.eq_zero_or_pos g with rfl|hg
  ·simp
  ·have h2:n / (g:Int)≤0:=by
    have:=Int.ediv_le_ediv (c:=(g:Int)) (by omega) h
    simpa using this
   have h3:n≤n / (g:Int):=by
    rw[Int.le_ediv_iff_mul_le (by omega)]
    have:n*(g:Int)≤n*1:=Int.mul_le_mul_of_nonpos_left h (by omega)
    omega
   omega
theorem QB.divInt {k:Nat} {n d:Int} (hd:d≠0) (h1:n.natAbs≤2 ^ k) (h2:d.natAbs≤2 ^ k):QB k (Rat.divInt n d):=by
 have e1:=vj n (Int.gcd n d)
 have e2:=vj d (Int.gcd n d)
 rcases Int.lt_or_gt_of_ne hd with h|h
 ·obtain⟨a,b⟩:=yr (n:=n) h
  exact⟨by omega,by omega⟩
 ·obtain⟨a,b⟩:=mP (n:=n) h
  exact⟨by omega,by omega⟩
theorem uI (x y:Rat):x+y=Rat.divInt (x.num*y.den+y.num*x.den) ((x.den:Int)*y.den):=by
 rw[Rat.add_def',←Rat.divInt_ofNat];simp
theorem yi (x y:Rat):x*y=Rat.divInt (x.num*y.num) ((x.den:Int)*y.den):=by
 rw[Rat.mul_def',←Rat.divInt_ofNat];simp
theorem yj (x y:Rat):x / y=Rat.divInt (x.num*y.den) ((x.den:Int)*y.num):=by
 rw[Rat.div_def,Rat.inv_def,←Rat.divInt_mul_divInt,Rat.num_divInt_den]
theorem Av (x:Rat):(x.den:Int)≠0:=by have:=x.den_pos;omega
theorem IN {x:Rat} (h:x≠0):x.num≠0:=fun e=>h (Rat.num_eq_zero.1 e)
theorem Cy (x y:Rat):(x.den:Int)*y.den≠0:=Int.mul_ne_zero (Av x) (Av y)
theorem bQ {a b:Nat} {x y:Int} (hx:x.natAbs≤2 ^ a) (hy:y.natAbs≤2 ^ b):(x*y).natAbs≤2 ^ (a+b):=by
 rw[Int.natAbs_mul,Nat.pow_add];exact Nat.mul_le_mul hx hy
theorem Sk {a:Nat} {x y:Int} (hx:x.natAbs≤2 ^ a) (hy:y.natAbs≤2 ^ a):(x+y).natAbs≤2 ^ (a+1):=by
 have:(x+y).natAbs≤x.natAbs+y.natAbs:=Int.natAbs_add_le _ _
 rw[Nat.pow_succ];omega
theorem SD {a b:Nat} {x:Int} (hx:x.natAbs≤2 ^ a) (h:a≤b):x.natAbs≤2 ^ b:=Nat.le_trans hx (Nat.pow_le_pow_right (by omega) h)
theorem QB.dM {a:Nat} {x:Rat} (h:QB a x):(x.den:Int).natAbs≤2 ^ a:=by rw[Int.natAbs_natCast];exact h.2
theorem QB.XR {a b:Nat} {x y:Rat} (hx:QB a x) (hy:QB b y):(x.num*y.den+y.num*x.den).natAbs≤2 ^ (a+b+1) :=
 Sk (bQ hx.1 hy.dM) (by rw[Nat.add_comm];exact bQ hy.1 hx.dM)
theorem QB.add {a b:Nat} {x y:Rat} (hx:QB a x) (hy:QB b y):QB (a+b+1) (x+y):=by
 rw[uI]
 exact QB.divInt (Cy x y) (hx.XR hy) (SD (bQ hx.dM hy.dM) (by omega))
theorem QB.mul {a b:Nat} {x y:Rat} (hx:QB a x) (hy:QB b y):QB (a+b) (x*y):=by
 rw[yi]
 exact QB.divInt (Cy x y) (bQ hx.1 hy.1) (bQ hx.dM hy.dM)
theorem QB.div {a b:Nat} {x y:Rat} (hx:QB a x) (hy:QB b y) (y0:y≠0):QB (a+b) (x / y):=by
 rw[yj]
 exact QB.divInt (Int.mul_ne_zero (Av x) (IN y0)) (bQ hx.1 hy.dM) (bQ hx.dM hy.1)
theorem QB.neg {a:Nat} {x:Rat} (hx:QB a x):QB a (-x):=⟨by rw[Rat.neg_num,Int.natAbs_neg];exact hx.1,hx.2⟩
theorem QB.int {k:Nat} {n:Int} (h:n.natAbs≤2 ^ k):QB k (n:Rat):=⟨h,Nat.pow_pos (by omega)⟩
theorem zV {P:Program} {H0 hi:IH} {t:TypeId} {b o:Nat} (hb:b % 2=1∨b / 2<H0.n) (e:Ext H0 hi):load P hi t (ptr b o)=load P H0 t (ptr b o):=by
 have hr:hi.row b=H0.row b:=e.row (by omega)
 have hr' : ∀n,hi.rd b o n=H0.rd b o n:=fun n=>by simp only[IH.rd,hr]
 simp only[load,asAddr,ptr]
 cases bj P t with
 | none=>rfl
 | some c=>cases c<;>cases aK P t<;>simp only[hr']
theorem aT {P:Program} {fr:Fr} {t:TypeId} {a:Operand} {b o:Nat} {H0 hi hj:IH} {v:Value} (ha:opd fr a=some (ptr b o)) (hb:b % 2=1∨b / 2<H0.n) (ei:Ext H0 hi) (ej:Ext H0 hj) (hv:load P H0 t (ptr b o)=some v):gE P fr (.load t a) hi hj=true :=
 ai ha ((zV hb ei).trans hv) ((zV hb ej).trans hv)
theorem ay {P:Program} {ops:List Oper} {tr:List (Fr×IH)} {e e':Nat×List Nat} {l:List (Nat×List Nat)} (h1:cI P ops tr [e]) (h2:cI P ops tr (e' :: l)):cI P ops tr (e :: e' :: l):=jS h1 h2
theorem az {P:Program} {ops:List Oper} {tr:List (Fr×IH)} {i p p':Nat} {l:List Nat} (h1:cI P ops tr [(i,[p])]) (h2:cI P ops tr [(i,p' :: l)]):cI P ops tr [(i,p :: p' :: l)]:=ub h1 h2
theorem fP (h:IH) (a b c:List Value) : ∃H0,H0=((h.new (.cells a 0 none)).new (.cells b 0 none)).new (.cells c 0 none)∧H0.n=h.n+3∧Ext h H0∧H0.ext.get h.n=some (.cells a 0 none)∧H0.ext.get (h.n+1)=some (.cells b 0 none)∧H0.ext.get (h.n+1+1)=some (.cells c 0 none) :=
 ⟨_,rfl,rfl,(((Ext.refl h).new _).new _).new _,(ax _ _ (by simp<;>omega)).trans ((ax _ _ (by simp<;>omega)).trans (ah _ _ rfl)),(ax _ _ (by simp<;>omega)).trans (ah _ _ rfl),ah _ _ rfl⟩
theorem dY (h:IH) (a b:List Value) : ∃H0,H0=(h.new (.cells a 0 none)).new (.cells b 0 none)∧H0.n=h.n+2∧Ext h H0∧H0.ext.get h.n=some (.cells a 0 none)∧H0.ext.get (h.n+1)=some (.cells b 0 none) :=
 ⟨_,rfl,rfl,((Ext.refl h).new _).new _,(ax _ _ (by simp<;>omega)).trans (ah _ _ rfl),ah _ _ rfl⟩
theorem aj {h:IH} {b:Nat} {cs:List Value} {e:Nat} {f:Option Nat} (hg:h.ext.get b=some (.cells cs e f)):h.row (2*b)=some cs:=by rw[jl];simp only[IH.cells,hg]
theorem Ext.kept {a b:IH} (e:Ext a b) {k:Nat} {o:bz} (hk:k<a.n) (g:a.ext.get k=some o):b.ext.get k=some o:=(e.get k hk).trans g
theorem tkA (a s b t:Value):List.take 2 (List.drop 0 [a,s,b,t]) = [a,s]:=rfl
theorem tkB (a s b t:Value):List.take 2 (List.drop 2 [a,s,b,t]) = [b,t]:=rfl
theorem qh (a s:Value):List.take 2 (List.drop 0 [a,s]) = [a,s]:=rfl
theorem fg (a s b t:Value):List.take 4 (List.drop 0 [a,s,b,t]) = [a,s,b,t]:=rfl
def jR (R:IH→Value→Rat→Prop) (h:IH):List Rat→List Value→Prop
 | [],cs=>cs = []
 | q :: l,cs => ∃a s b t cs',cs=a :: s :: b :: t :: cs'∧R h (.agg #[a,s,b,t]) q∧jR R h l cs'
def Kept (R:IH→Value→Rat→Prop):Prop:=∀h h' v q,R h v q→aJ h h'→R h' v q
theorem jR.aa {R:IH→Value→Rat→Prop} (k:Kept R) {h h':IH} (e:aJ h h') : ∀{l:List Rat} {cs:List Value},jR R h l cs→jR R h' l cs
 | [],_,H=>H
 | _ :: _,_,⟨a,s,b,t,cs',h1,h2,h3⟩=>⟨a,s,b,t,cs',h1,k _ _ _ _ h2 e,jR.aa k e h3⟩
theorem jR.len {R:IH→Value→Rat→Prop} {h:IH} : ∀{l:List Rat} {cs:List Value},jR R h l cs→cs.length=l.length*4
 | [],_,H=>by cases H;rfl
 | _ :: l,_,⟨a,s,b,t,cs',h1,h2,h3⟩=>by
  have:=jR.len h3
  subst h1
  simp only[List.length_cons,this];omega
theorem jR.at {R:IH→Value→Rat→Prop} {h:IH} : ∀{l:List Rat} {cs:List Value} {i:Nat} {q:Rat},jR R h l cs→l[i]?=some q → ∃a s b t,(cs.drop (i*4)).take 4 = [a,s,b,t]∧R h (.agg #[a,s,b,t]) q
 | [],_,_,_,_,H=>by simp at H
 | x :: l,_,0,q,⟨a,s,b,t,cs',h1,h2,h3⟩,H=>by
  subst h1
  simp at H;subst H
  exact⟨a,s,b,t,rfl,h2⟩
 | x :: l,_,i+1,q,⟨a,s,b,t,cs',h1,h2,h3⟩,H=>by
  subst h1
  simp at H
  obtain⟨a',s',b',t',e,r⟩:=jR.at h3 H
  refine⟨a',s',b',t',?_,r⟩
  rw[show(i+1)*4=i*4+4 by omega]
  simpa using e
theorem jR.snoc {R:IH→Value→Rat→Prop} {h:IH} {a s b t:Value} {q:Rat} (r:R h (.agg #[a,s,b,t]) q) : ∀{l:List Rat} {cs:List Value},jR R h l cs→jR R h (l ++ [q]) (cs ++ [a,s,b,t])
 | [],_,H=>by cases H;exact⟨a,s,b,t,[],rfl,r,rfl⟩
 | _ :: l,_,⟨a',s',b',t',cs',h1,h2,h3⟩=>by
  subst h1
  exact⟨a',s',b',t',cs' ++ [a,s,b,t],rfl,h2,jR.snoc r h3⟩
def nF (R:IH→Value→Rat→Prop) (h:IH) (v:Value) (l:List Rat):Prop:=∃cs,bJ h 4 v l.length cs∧jR R h l cs∧l.length≤100000
theorem nF.aa {R:IH→Value→Rat→Prop} (k:Kept R) {h h':IH} {v:Value} {l:List Rat} (s:nF R h v l) (e:aJ h h'):nF R h' v l:=let ⟨cs,a,b,c⟩:=s;⟨cs,a.aa e,b.aa k e,c⟩
theorem nF.ld {R:IH→Value→Rat→Prop} (k:Kept R) {h h':IH} {v:Value} {l:List Rat} (s:nF R h v l) (e:aJ h h') {i:Nat} {q:Rat} (hi:l[i]?=some q) {P:Program} {t:TypeId} (hT:bj P t=some true) (hS:aK P t=some 4) :
  ∃a s b u,load P h' t (aM v (i*4))=some (.agg #[a,s,b,u])∧R h' (.agg #[a,s,b,u]) q:=by
 obtain⟨cs,hs,hc,hl⟩:=s
 have hil:=(List.getElem?_eq_some_iff.1 hi).1
 have hcl:=hc.len
 obtain⟨a,s,b,u,e1,r⟩:=hc.at hi
 exact⟨a,s,b,u,by rw[hs.Cb e (by omega) (by omega) hT hS,e1],k _ _ _ _ r e⟩
def fU (l:List Rat):Rat:=l.foldl (· + ·) 0
theorem jF (l:List Rat) (q:Rat):fU (l ++ [q])=fU l+q:=by simp[fU]
theorem fy {α:Type} {l:List α} {i:Nat} {q:α} (h:l[i]?=some q):l.take (i+1)=l.take i ++ [q]:=by
 rw[List.take_add_one,h];rfl
theorem QB.zero:QB 0 (0:Rat):=⟨by simp,by simp⟩
theorem QB.fU {k:Nat} {l:List Rat} (h : ∀q∈l,QB k q) : ∀i,i≤l.length→QB (i*(k+1)) (fU (l.take i))
 | 0,_=>by rw[Nat.zero_mul];exact QB.zero
 | i+1,hi=>by
  obtain⟨q,hq⟩:=il (l:=l) (i:=i) (by omega)
  rw[fy hq,jF]
  exact((QB.fU h i (by omega)).add (h q (List.mem_of_getElem? hq))).mono (by rw[Nat.add_mul];omega)
end Go.Id
