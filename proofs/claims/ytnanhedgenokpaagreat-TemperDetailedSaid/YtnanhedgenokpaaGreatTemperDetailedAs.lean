/-
  Weakest preconditions over the ideal machine, eighth part: stores, made slices, built values. Weakest preconditions over the ideal machine, ninth part: equality of arrays of numbers.
-/
import Derived.Test.YtnanhedgenokpaaGreatTemperDetailedAr
set_option linter.unusedVariables false
set_option linter.unusedSimpArgs false
set_option linter.defProp false
set_option linter.deprecated false
namespace Go.Id
open Go
theorem splice_nil (cs:List Value):IH.splice cs 0 []=cs:=by simp[IH.splice]
theorem splice_zero (c v:Value) (cs vs:List Value):IH.splice (c :: cs) 0 (v :: vs)=v :: IH.splice cs 0 vs:=by simp[IH.splice]
theorem splice_succ (c:Value) (cs vs:List Value) (n:Nat):IH.splice (c :: cs) (n+1) vs=c :: IH.splice cs n vs:=by
 simp[IH.splice,show n+1+vs.length=(n+vs.length)+1 from by omega]
theorem splice_set {cs:List Value} {n:Nat} {v:Value} (h:n<cs.length):IH.splice cs n [v]=cs.set n v:=by
 simp only[IH.splice,List.length_singleton,List.singleton_append]
 exact(List.set_eq_take_append_cons_drop.trans (if_pos h)).symm
theorem splice_all {cs vs:List Value} (h:cs.length=vs.length):IH.splice cs 0 vs=vs:=by
 simp[IH.splice,h]
theorem cok_int (k:IntKind) (n:Int):cellOK (.int k n)=true:=rfl
theorem cok_bool (b:Bool):cellOK (.bool b)=true:=rfl
theorem cok_slice (a:Option Addr) (n k:Nat):cellOK (.slice a n k)=true:=rfl
theorem cok_ptr (b o:Nat):cellOK (ptr b o)=true:=rfl
theorem cok_func (f:Fn) (a b:Array Value):cellOK (.func f a b)=true:=rfl
theorem cok_map (r:Option Nat):cellOK (.map r)=true:=rfl
theorem cok_nilFunc:cellOK .nilFunc=true:=rfl
theorem cok_nilPtr:cellOK (.pointer none)=true:=rfl
theorem all_nil0 (p:Value→Bool):([]:List Value).all p=true:=rfl
theorem all_cons0 (p:Value→Bool) (v:Value) (l:List Value):(v :: l).all p=(p v && l.all p):=rfl
theorem tand0 (b:Bool):(true && b)=b:=rfl
theorem fand0 (b:Bool):(false && b)=false:=rfl
theorem andt0 (b:Bool):(b && true)=b:=by cases b<;>rfl
theorem len_nil0 {α:Type}:([]:List α).length=0:=rfl
theorem len_cons0 {α:Type} (v:α) (l:List α):(v :: l).length=l.length+1:=rfl
def stE (n:Nat) (h:IH) (k o:Nat) (vs:List Value):Option IObj→Option IH
 | some (.cells cs e none)=>if vs.length=n∧vs.all cellOK=true∧o+n≤cs.length then some (h.put k (.cells (IH.splice cs o vs) e none)) else none
 | some (.cells cs e (some f))=>if vs.length=n∧vs.all cellOK=true then h.wr (2*k) o vs else none
 | _=>none
theorem store_stE {P:Program} {t:TypeId} {n:Nat} (hT:sizeT P t=some n) (h:IH) (k o:Nat) (v:Value):store P h t (ptr (2*k) o) v=stE n h k o v.cells.toList (h.ext.get k):=by
 have h1:(2*k % 2 == 1)=false:=by simp
 have h2:2*k / 2=k:=by omega
 simp only[store,asAddr,ptr,hT,cond_eq_ite,Bool.and_eq_true,beq_iff_eq]
 rw[show v.cells.size=v.cells.toList.length from by simp]
 generalize v.cells.toList=vs
 cases hg:h.ext.get k with
 | none=>simp[stE,IH.wr,h2,hg]
 | some ob =>
  cases ob with
  | cells cs e f =>
   cases f with
   | none =>
    simp only[stE,IH.wr,h1,h2,hg,cond_eq_ite,Nat.ble_eq,Bool.false_eq_true,if_false]
    by_cases hc:vs.length=n∧vs.all cellOK=true
    ·rw[if_pos hc]
     obtain⟨rfl,hc2⟩:=hc
     by_cases hl:o+vs.length≤cs.length
     ·rw[if_pos hl,if_pos ⟨rfl,hc2,hl⟩];rfl
     ·rw[if_neg hl,if_neg fun x=>hl x.2.2]
    ·rw[if_neg hc,if_neg fun x=>hc ⟨x.1,x.2.1⟩]
   | some f=>simp[stE]
  | _=>simp[stE,IH.wr,h2,hg]
theorem stE_if (n:Nat) (h:IH) (k o:Nat) (vs cs:List Value) (e:Nat):stE n h k o vs (some (.cells cs e none))=if vs.length=n∧vs.all cellOK=true∧o+n≤cs.length then some (h.put k (.cells (IH.splice cs o vs) e none)) else none:=rfl
theorem built_sl (h:IH) {sz m:Nat} {cs:List Value} (hz:0<sz) (hl:cs.length=m*sz) (hm:0<m):SlOf (h.new (.cells cs sz none)) sz (.slice (some ⟨2*h.n,0,none⟩) m (2*m+1)) m cs:=by
 refine⟨hz,hl,.inr ⟨2*h.n,0,2*m+1,rfl,.inr ⟨by omega,by omega,cs,.inr ⟨by omega,by simp,none,?_⟩,?_,?_,by omega⟩⟩⟩
 ·rw[show 2*h.n / 2=h.n from by omega,get_new,if_pos rfl]
 ·exact row_new_same _ _ _ _ rfl
 ·rw[List.drop_zero,List.take_of_length_le (by omega)]
theorem sl_block {h:IH} {k sz n c:Nat} {cs:List Value} {f:Option Nat} (hg:h.ext.get k=some (.cells cs sz f)) (hk:k<h.n) (hz:0<sz) (hl:cs.length=n*sz) (hc:0<c) (hn:n≤c / 2):SlOf h sz (.slice (some ⟨2*k,0,none⟩) n c) n cs:=by
 refine⟨hz,hl,.inr ⟨2*k,0,c,rfl,.inr ⟨hc,hn,cs,.inr ⟨by omega,by omega,f,?_⟩,?_,?_,by omega⟩⟩⟩
 ·rw[show 2*k / 2=k from by omega,hg]
 ·rw[row_even];simp[IH.cells,hg]
 ·rw[List.drop_zero,List.take_of_length_le (by omega)]
theorem Acc.appN {h:IH} {n0 sz:Nat} {v:Value} {n:Nat} {cs:List Value} (a:Acc h n0 sz v n cs) {P:Program} {t:TypeId} {bytes:Nat} (hT:appT P t=some (sz,bytes)) {m:Nat} {new:List Value} (hm:0<m) (hl:new.length=m*sz)
  (hc:new.all cellOK=true) (hsz:(n+m)*(bytes+1)≤1099511627776) (h0:n0≤h.n) {h0':IH} (e0:Ext h0' h) (hn0:h0'.n≤n0) :
  ∃v' h',append P (h.new (.cells new sz none)) t v (.slice (some ⟨2*h.n,0,none⟩) m (2*m+1))=some (v',h')∧Acc h' n0 sz v' (n+m) (cs ++ new)∧Grow h h'∧Ext h0' h':=by
 have e1:Ext h (h.new (.cells new sz none)):=(Ext.refl h).new _
 obtain⟨v',h',b1,b2,b3,b4,b5⟩:=(a.ext e1).app hT (built_sl h a.1 hl hm) hm hc hsz (by simp;omega) (e0.trans e1) hn0
 exact⟨v',h',b1,b2,e1.grow.trans b3,b5⟩
theorem Acc.app1 {h:IH} {n0:Nat} {v:Value} {n:Nat} {cs:List Value} (a:Acc h n0 1 v n cs) {P:Program} {t:TypeId} {bytes:Nat} (hT:appT P t=some (1,bytes)) {x:Value}
  (hc:cellOK x=true) (hsz:(n+1)*(bytes+1)≤1099511627776) (h0:n0≤h.n) {h0':IH} (e0:Ext h0' h) (hn0:h0'.n≤n0) :
  ∃v' h',append P (h.new (.cells [x] 1 none)) t v (.slice (some ⟨2*h.n,0,none⟩) 1 3)=some (v',h')∧Acc h' n0 1 v' (n+1) (cs ++ [x])∧Grow h h'∧Ext h0' h' :=
 a.appN hT (m:=1) (new:=[x]) (by omega) rfl (by simp[hc]) hsz h0 e0 hn0
theorem makeSlice_eq {P:Program} {t:TypeId} {n b:Nat} {z:List Value} (hT:makeT P t=some (n,b,z)) (h:IH) (k j:IntKind) {l c:Int} (h0:0≤l) (h1:l≤c) (h2:c*(b+1)≤1099511627776) :
  makeSlice P h t (.int k l) (.int j c)=some (.slice (some ⟨2*h.n,0,none⟩) l.toNat (2*c.toNat+1),h.new (.cells (repl c.toNat z) n none)):=by
 obtain⟨l,rfl⟩:=Int.eq_ofNat_of_zero_le h0
 obtain⟨c,rfl⟩:=Int.eq_ofNat_of_zero_le (Int.le_trans h0 h1)
 unfold makeT at hT
 split at hT
 case h_2=>cases hT
 rename_i e hu
 split at hT
 case h_2=>cases hT
 rename_i zz a1 a2 a3
 simp only[cond_eq_ite,beq_iff_eq] at hT
 split at hT
 case isFalse=>cases hT
 rename_i hz
 cases hT
 have hc2:c*(b+1)≤sizeMost:=by
  have:((c*(b+1):Nat):Int)≤1099511627776:=by simpa using h2
  simp only[sizeMost];omega
 have hcm:c≤sizeMost:=Nat.le_trans (Nat.le_mul_of_pos_right c (by omega)) hc2
 have e1:natOf (.int k (l:Int)) sizeMost=some l:=natOf_nat (by omega)
 have e2:natOf (.int j (c:Int)) sizeMost=some c:=natOf_nat hcm
 have e3:(Nat.ble l c && Nat.ble (c*(b+1)) sizeMost && z.length == n)=true:=by
  simp[Nat.ble_eq,hz,hc2];omega
 simp only[makeSlice,hu,e1,e2,a1,a2,a3,e3,cond_true,Int.toNat_natCast]
theorem buildSlice_eq {P:Program} {t:TypeId} {n b:Nat} {z:List Value} (hT:makeT P t=some (n,b,z)) (h:IH) (len:Nat) (ps:List (Nat×Value)) (hl:len*n≤16777216) :
  buildSlice P h t len ps=(fillP (fun i=>some (i*n,n)) (repl len z) ps).map fun cells=>(.slice (some ⟨2*h.n,0,none⟩) len (2*len+1),h.new (.cells cells n none)):=by
 unfold makeT at hT
 split at hT
 case h_2=>cases hT
 rename_i e hu
 split at hT
 case h_2=>cases hT
 rename_i zz a1 a2 a3
 simp only[cond_eq_ite,beq_iff_eq] at hT
 split at hT
 case isFalse=>cases hT
 rename_i hz
 cases hT
 have e3:(Nat.ble (len*n) cellsMost && z.length == n)=true:=by
  simp[Nat.ble_eq,hz,cellsMost];exact hl
 simp only[buildSlice,hu,a1,a3,e3,cond_true]
 cases fillP (fun i=>some (i*n,n)) (repl len z) ps<;>rfl
theorem fillP_nil (place:Nat→Option (Nat×Nat)) (cs:List Value):fillP place cs []=some cs:=rfl
theorem fillP_cons (place:Nat→Option (Nat×Nat)) (cs:List Value) (i:Nat) (v:Value) (l:List (Nat×Value)) :
  fillP place cs ((i,v) :: l)=(place i).bind fun p=>if v.cells.toList.length=p.2∧p.1+p.2≤cs.length then fillP place (IH.splice cs p.1 v.cells.toList) l else none:=by
 simp only[fillP]
 cases place i with
 | none=>rfl
 | some p =>
  simp only[Option.bind_some,cond_eq_ite,Bool.and_eq_true,beq_iff_eq,Nat.ble_eq]
  simp
theorem repl_zero (z:List Value):repl 0 z = []:=rfl
theorem repl_succ (n:Nat) (z:List Value):repl (n+1) z=z ++ repl n z:=rfl
theorem repl_one (n:Nat) (v:Value):repl n [v]=List.replicate n v:=by
 induction n with
 | zero=>rfl
 | succ n ih=>rw[repl_succ,ih,List.replicate_succ];rfl
theorem buildV_eq {P:Program} {t:TypeId} {z:List Value} (hz:zeroCellsT P t=some z) (ha:allSized P t=true) (ps:List (Nat×Value)):buildV P t ps=(fillP (placeOf P t) z ps).map fun cs=>.agg cs.toArray:=by
 simp[buildV,hz,ha]
theorem bq_cut {P:Program} {fn:FuncId} {nt:Nat} {rd:Option Nat} {a c:Code} {fr:Fr} {h:IH} {K:Fr→IH→Prop} {Q:IExit→Fr→IH→Prop} {b:Bool} (R:Fr→IH→Prop)
  (h1:b=true→Do (wpC P fn nt rd a fr h) (seqK (fun fr h=>Pst (R fr h) nx) Q) nx) (h2:b=false→Do (wpC P fn nt rd c fr h) (seqK (fun fr h=>Pst (R fr h) nx) Q) nx) (k : ∀fr h,R fr h→K fr h) :
  Bq b (Do (wpC P fn nt rd a fr h) (seqK K Q) nx,Do (wpC P fn nt rd c fr h) (seqK K Q) nx) nx :=
 bq_intro (fun hb=>cut R (h1 hb) k) fun hb=>cut R (h2 hb) k
theorem steadyAt_of {P:Program} {fr:Fr} {o:Op} {h h' x y:IH} {v:Value} (h1:iop P fr o h=some (v,x)) (h2:iop P fr o h'=some (v,y)):steadyAt P fr o h h'=true:=by
 simp[steadyAt,h1,h2,eqV_refl]
theorem steady_load {P:Program} {fr:Fr} {t:TypeId} {a:Operand} {av v:Value} {h h':IH} (ha:opd fr a=some av) (h1:load P h t av=some v) (h2:load P h' t av=some v):steadyAt P fr (.load t a) h h'=true :=
 steadyAt_of (by simp[iop,ha,h1];exact⟨rfl,rfl⟩) (by simp[iop,ha,h2];rfl)
theorem pureRun_seq (P:Program) {α β:Type} (f:α→Sem β) : ∀s:Sem α,pureRun P (s.bind f)=(pureRun P s).bind fun a=>pureRun P (f a)
 | .pure a=>rfl
 | .program k=>pureRun_seq P f (k P)
 | .load _ _ _=>rfl
 | .store _ _ _ _=>rfl
 | .new _ _=>rfl
 | .shape _ _=>rfl
 | .freeze _ _ _=>rfl
 | .frozen _ _=>rfl
 | .getObj _ _=>rfl
 | .setObj _ _ _=>rfl
 | .choose _ _=>rfl
 | .sys _ _=>rfl
 | .mark _ _=>rfl
 | .halt _=>rfl
theorem equal_bool {P:Program} {t:TypeId} (hT:P.underlying t=some .bool) (a b:Bool):pureRun P (Op.equal t (.bool a) (.bool b))=some (a == b):=by
 show pureRun P (Sem.bind (underlying t) _)=_
 rw[pureRun_underlying hT];rfl
theorem binop_eql_bool {P:Program} {t:TypeId} (hT:P.underlying t=some .bool) (ox oy:Operand) (a b:Bool):binop P .eql t ox oy (.bool a) (.bool b)=some (.bool (a == b)):=by
 refine binop_of P t ox oy rfl rfl rfl ?_
 show pureRun P (Sem.bind (Op.equal t (.bool a) (.bool b)) fun r=>Sem.pure (Value.bool r))=_
 rw[pureRun_seq,equal_bool hT];rfl
theorem binop_neq_bool {P:Program} {t:TypeId} (hT:P.underlying t=some .bool) (ox oy:Operand) (a b:Bool):binop P .neq t ox oy (.bool a) (.bool b)=some (.bool (!(a == b))):=by
 refine binop_of P t ox oy rfl rfl rfl ?_
 show pureRun P (Sem.bind (Op.equal t (.bool a) (.bool b)) fun r=>Sem.pure (Value.bool (!r)))=_
 rw[pureRun_seq,equal_bool hT];rfl
theorem shl_nat (P:Program) (t:TypeId) (ox oy:Operand) {j:IntKind} {a b:Nat} (h:a*2 ^ b<18446744073709551616) (hb:b≤64):binop P .shl t ox oy (.int .u64 (a:Int)) (.int j (b:Int))=some (.int .u64 ((a*2 ^ b:Nat):Int)):=by
 rw[binop_shl P t ox oy (by omega)]
 show some (Value.int .u64 (IntKind.u64.wrap ((a:Int)*2 ^ min b 64)))=_
 rw[Nat.min_eq_left hb,show(a:Int)*2 ^ b=((a*2 ^ b:Nat):Int) from by simp,wrap_nat_u64 h]
theorem dec_lt_t {a b:Int} (h:a<b):decide (a<b)=true:=by simpa using h
theorem dec_lt_f {a b:Int} (h : ¬a<b):decide (a<b)=false:=by simpa using h
theorem dec_le_t {a b:Int} (h:a≤b):decide (a≤b)=true:=by simpa using h
theorem dec_le_f {a b:Int} (h : ¬a≤b):decide (a≤b)=false:=by simpa using h
theorem beq_int_t {a b:Int} (h:a=b):(a == b)=true:=by simpa using h
theorem beq_int_f {a b:Int} (h : ¬a=b):(a == b)=false:=by simpa using h
theorem bne_int_t {a b:Int} (h : ¬a=b):(a != b)=true:=by simpa using h
theorem bne_int_f {a b:Int} (h:a=b):(a != b)=false:=by simpa using h
theorem beq_true0 (b:Bool):(b == true)=b:=by cases b<;>rfl
theorem beq_false0 (b:Bool):(b == false) = !b:=by cases b<;>rfl
theorem not_true0:(!true)=false:=rfl
theorem not_false0:(!false)=true:=rfl
theorem not_not0 (b:Bool):(!(!b))=b:=by cases b<;>rfl
theorem eq_self0 {α:Type} (a:α):(a=a)=True:=by simp
def wpT:=And.intro @fillP_nil (And.intro @fillP_cons (And.intro @splice_nil (And.intro @splice_zero (And.intro @splice_succ (And.intro @repl_zero (And.intro @repl_succ (And.intro @stE_if (
 And.intro @tand0 (And.intro @fand0 (And.intro @andt0 (And.intro @cok_int (And.intro @cok_bool (And.intro @cok_slice (And.intro @cok_ptr (And.intro @cok_func (
 And.intro @cok_map (And.intro @cok_nilFunc (And.intro @cok_nilPtr (And.intro @all_nil0 (And.intro @all_cons0 (And.intro @len_nil0 (And.intro @len_cons0 (And.intro @eq_self0 (
 And.intro @dec_lt_t (And.intro @dec_lt_f (And.intro @dec_le_t (And.intro @dec_le_f (And.intro @beq_int_t (And.intro @beq_int_f (And.intro @bne_int_t (And.intro @bne_int_f (
 And.intro @beq_true0 (And.intro @beq_false0 (And.intro @not_true0 (And.intro @not_false0 (And.intro @not_not0 (And.intro @true_and (@and_true))))))))))))))))))))))))))))))))))))))
end Go.Id

namespace Go.Id
open Go
section
variable {P:Program}
theorem pr_bind {α β:Type} {s:Sem α} {f:α→Sem β} {a:α} (h:pureRun P s=some a):pureRun P (s >>= f)=pureRun P (f a):=by
 show pureRun P (s.bind f)=_
 rw[pureRun_seq,h];rfl
theorem pr_pure {α:Type} (a:α):pureRun P (pure a:Sem α)=some a:=rfl
theorem pr_underlying {t:TypeId} {d:TypeDesc} (h:P.underlying t=some d):pureRun P (underlying t)=some d:=by
 have e:pureRun P (underlying t)=pureRun P ((match P.underlying t with|some d=>(pure d:Sem TypeDesc)|none=>stuck "no such type")):=rfl
 rw[e,h];rfl
theorem pr_sizeOf {e:TypeId} {n:Nat} (h:sizeT P e=some n):pureRun P (sizeOf e)=some n:=by
 simp only[sizeT,Option.map_eq_some_iff] at h
 obtain⟨i,hi,rfl⟩:=h
 have e2:pureRun P (sizeOf e)=pureRun P ((match P.info? e with|some i=>(pure i:Sem TypeInfo)|none=>stuck "no such type").bind fun i=>pure i.size):=rfl
 rw[e2,hi];rfl
theorem pr_part {e:TypeId} {k:IntKind} (he:P.underlying e=some (.int k)) {cs:Array Value} {off:Nat} {v:Value} (hv:cs[off]?=some v):pureRun P (part e cs off)=some v:=by
 unfold part
 have h1:pureRun P (isAgg e)=some false:=by
  unfold isAgg
  rw[pr_bind (pr_underlying he)];rfl
 rw[pr_bind h1]
 simp only[Bool.false_eq_true,if_false,hv]
 rfl
theorem pr_equal_int {e:TypeId} {k j:IntKind} (he:P.underlying e=some (.int j)) (d:Nat) (a b:Int):pureRun P (Op.equalIn (d+1) e (.int k a) (.int k b))=some (a == b):=by
 unfold Op.equalIn
 rw[pr_bind (pr_underlying he)]
 simp only[if_true]
 rfl
def eqZip (xs ys:List Int) (is:List Nat):Bool:=is.all fun i=>xs[i]? == ys[i]?
theorem pr_items {n:Nat} {xs ys:List Int} (body:Nat→Option Bool×Unit→Sem (ForInStep (Option Bool×Unit))) (g:Option Bool×Unit→Sem Bool)
  (hb : ∀i,i<n → ∀r,pureRun P (body i r)=some (if (xs[i]? == ys[i]?)=true then .yield (none,()) else .done (some false,()))) : ∀is:List Nat,(∀i∈is,i<n) →
  pureRun P (forIn is ((none,()):Option Bool×Unit) body >>= g)=pureRun P (g (if eqZip xs ys is=true then (none,()) else (some false,()))):=by
 have assoc : ∀(s:Sem (ForInStep (Option Bool×Unit))) (g1:ForInStep (Option Bool×Unit)→Sem (Option Bool×Unit)) (f2:Option Bool×Unit→Sem Bool),pureRun P ((s >>= g1) >>= f2)=pureRun P (s >>= fun x=>g1 x >>= f2):=fun s g1 f2=>by
  show pureRun P ((s.bind g1).bind f2)=pureRun P (s.bind fun x=>(g1 x).bind f2)
  rw[pureRun_seq,pureRun_seq,pureRun_seq]
  cases pureRun P s with
  | none=>rfl
  | some a=>simp only[Option.bind_some];rw[pureRun_seq]
 intro is
 induction is with
 | nil=>intro _;rfl
 | cons i is ih =>
  intro hi
  have h1:=hb i (hi i (by simp)) (none,())
  rw[List.forIn_cons,assoc,pr_bind h1]
  have hz:eqZip xs ys (i :: is)=((xs[i]? == ys[i]?) && eqZip xs ys is):=rfl
  rw[hz]
  cases hc:(xs[i]? == ys[i]?) with
  | true =>
   rw[Bool.true_and,←ih fun j hj=>hi j (by simp[hj])]
   rfl
  | false =>
   rw[Bool.false_and]
   rfl
theorem pr_equal_arr {t e:TypeId} {n:Nat} {k:IntKind} (hT:P.underlying t=some (.array n e)) (he:P.underlying e=some (.int k)) (hs:sizeT P e=some 1) (d:Nat) (xs ys:List Int) (hx:xs.length=n) (hy:ys.length=n) :
  pureRun P (Op.equalIn (d+2) t (.agg (xs.map (.int k)).toArray) (.agg (ys.map (.int k)).toArray))=some (decide (xs=ys)):=by
 unfold Op.equalIn
 rw[pr_bind (pr_underlying hT)]
 simp only
 rw[pr_bind (pr_sizeOf hs)]
 simp only[Std.Legacy.Range.forIn_eq_forIn_range',Std.Legacy.Range.size,Nat.sub_zero,Nat.add_one_sub_one,Nat.div_one]
 rw[pr_items (n:=n) (xs:=xs) (ys:=ys) _ _ (fun i hin r=>?_) (List.range' 0 n) (fun i hi=>?_)]
 ·have hz:eqZip xs ys (List.range' 0 n)=decide (xs=ys):=by
   rw[Bool.eq_iff_iff]
   simp only[eqZip,List.all_eq_true,List.mem_range'_1,beq_iff_eq,decide_eq_true_eq]
   constructor
   ·intro h
    apply List.ext_getElem?
    intro i
    by_cases hi:i<n
    ·exact h i ⟨Nat.zero_le _,by omega⟩
    ·rw[List.getElem?_eq_none (by omega),List.getElem?_eq_none (by omega)]
   ·rintro rfl i _;rfl
  rw[hz]
  by_cases h:xs=ys
  ·simp[h];rfl
  ·simp[h];rfl
 ·have hxi:(xs.map (Value.int k)).toArray[i*1]?=some (.int k (xs[i]'(by omega))):=by simp[hx,hin]
  have hyi:(ys.map (Value.int k)).toArray[i*1]?=some (.int k (ys[i]'(by omega))):=by simp[hy,hin]
  rw[pr_bind (pr_part he hxi),pr_bind (pr_part he hyi),pr_bind (pr_equal_int he d _ _)]
  rw[List.getElem?_eq_getElem (show i<xs.length by omega),List.getElem?_eq_getElem (show i<ys.length by omega)]
  rw[show(some (xs[i]'(by omega)) == some (ys[i]'(by omega)))=(xs[i]'(by omega) == ys[i]'(by omega)) from rfl]
  cases(xs[i]'(by omega) == ys[i]'(by omega))<;>rfl
 ·rw[List.mem_range'_1] at hi;omega
theorem binop_eql_arr {t e:TypeId} {n:Nat} {k:IntKind} (hT:P.underlying t=some (.array n e)) (he:P.underlying e=some (.int k)) (hs:sizeT P e=some 1) (hg:P.eqGuardType P.depth t=false) (ox oy:Operand) (xs ys:List Int) (hx:xs.length=n) (hy:ys.length=n) :
  binop P .eql t ox oy (.agg (xs.map (.int k)).toArray) (.agg (ys.map (.int k)).toArray)=some (.bool (decide (xs=ys))):=by
 have hp : ∀l:List Int,plain (.agg (l.map (Value.int k)).toArray)=true:=by intro l;simp[plain,scal]
 refine binop_of P t ox oy (hp _) (hp _) rfl ?_
 have h1:pureRun P (eqGuard .eql t ox oy (.agg (xs.map (.int k)).toArray) (.agg (ys.map (.int k)).toArray))=some ():=by
  show pureRun P (if (!P.eqGuardType P.depth t)=true then _ else _)=_
  rw[hg];rfl
 rw[pr_bind h1]
 show pureRun P (Op.equal t _ _ >>= fun r=>pure (Value.bool r))=_
 have h2:pureRun P (Op.equal t (.agg (xs.map (.int k)).toArray) (.agg (ys.map (.int k)).toArray))=some (decide (xs=ys)):=pr_equal_arr hT he hs 9998 xs ys hx hy
 rw[pr_bind h2];rfl
end
end Go.Id

namespace Go.Id
open Go
def SlNow (h:IH) (sz:Nat) (v:Value) (n:Nat) (cs:List Value):Prop :=
 0<sz∧cs.length=n*sz∧((v=.slice none 0 0∧n=0) ∨ ∃b o k,v=.slice (some ⟨b,o,none⟩) n k∧(n=0 ∨ ∃row,h.row b=some row∧(row.drop o).take (n*sz)=cs∧o+n*sz≤row.length))
theorem SlOf.now {h:IH} {sz:Nat} {v:Value} {n:Nat} {cs:List Value} (s:SlOf h sz v n cs):SlNow h sz v n cs:=by
 obtain⟨hz,hl,s|⟨b,o,k,rfl,s⟩⟩:=s
 ·exact⟨hz,hl,.inl s⟩
 ·refine⟨hz,hl,.inr ⟨b,o,k,rfl,?_⟩⟩
  rcases s with⟨h1,_⟩|⟨_,_,row,_,h1,h2,h3⟩
  ·exact .inl h1
  ·exact .inr ⟨row,h1,h2,h3⟩
theorem SlNow.form {h:IH} {sz:Nat} {v:Value} {n:Nat} {cs:List Value} (s:SlNow h sz v n cs) : ∃a k,v=.slice a n k:=by
 obtain⟨hz,hl,⟨rfl,rfl⟩|⟨b,o,k,rfl,s⟩⟩:=s
 ·exact⟨_,_,rfl⟩
 ·exact⟨_,_,rfl⟩
theorem SlNow.len {h:IH} {sz:Nat} {v:Value} {n:Nat} {cs:List Value} (s:SlNow h sz v n cs) {P:Program} {t:TypeId} (hT:isSliceT P (some t)=true) (h':IH):lenB P h' t v=some (.int .i64 n):=by
 obtain⟨a,k,rfl⟩:=s.form
 exact lenB_slice hT _ _ _ _
theorem SlNow.idx {h:IH} {sz:Nat} {v:Value} {n:Nat} {cs:List Value} (s:SlNow h sz v n cs) {P:Program} {t:TypeId} (hT:elemSize P t=some sz) {k:IntKind} {j:Nat} (hj:j<n):indexAddr P t v (.int k j)=some (elemAddr v (j*sz)):=by
 obtain⟨hz,hl,⟨rfl,rfl⟩|⟨b,o,k,rfl,s⟩⟩:=s
 ·omega
 ·rw[indexAddr_slice,hT];simp[elemAddr,idxAt_nat hj]
theorem SlNow.ld {h:IH} {sz:Nat} {v:Value} {n:Nat} {cs:List Value} (s:SlNow h sz v n cs) {c:Nat} (hc:c<cs.length) {P:Program} {t:TypeId} (hT:isAggT P t=some false):load P h t (elemAddr v c)=cs[c]?:=by
 obtain⟨hz,hl,⟨rfl,rfl⟩|⟨b,o,k,rfl,s'⟩⟩:=s
 ·simp at hl;simp[hl] at hc
 ·obtain rfl|⟨row,h1,h2,h3⟩:=s'
  ·simp at hl;simp[hl] at hc
  ·rw[elemAddr,load_scal hT,ld_of h1,←h2,List.getElem?_take]
   rw[if_pos (by omega),List.getElem?_drop]
theorem slice_arr {P:Program} {t e:TypeId} {n sz:Nat} (hu:P.underlying t=some (.array n e)) (hs:sizeT P e=some sz) (hn:0<n) (h:IH) (b o:Nat):sliceOp P h t (ptr b o) none none none=some (.slice (some ⟨b,o,none⟩) n (2*n+1)):=by
 have h1:(2*n+1) / 2=n:=by omega
 have h2:(2*n+1 == 0)=false:=by simp
 have h3:(0 == n)=false:=by simp;omega
 have h4:((2*n+1) % 2 == 1)=true:=by simp
 simp only[sliceOp,hu,hs,asAddr,ptr,resliced,boundsOf,hiOf,loOf,h1,h2,h3,h4,cond_true,cond_false,Bool.true_or]
 simp
theorem arr_now {h:IH} {b o n sz k:Nat} {row cs:List Value} (hr:h.row b=some row) (hz:0<sz) (hl:cs.length=n*sz) (h1:(row.drop o).take (n*sz)=cs) (h2:o+n*sz≤row.length):SlNow h sz (.slice (some ⟨b,o,none⟩) n k) n cs :=
 ⟨hz,hl,.inr ⟨b,o,k,rfl,.inr ⟨row,hr,h1,h2⟩⟩⟩
theorem append_zero {P:Program} {t:TypeId} {sz bytes:Nat} (hT:appT P t=some (sz,bytes)) (h:IH) {x:Value} {m:Nat} {new:List Value} (sx:SlNow h sz x m new) (hm:0<m) (hc:new.all cellOK=true) (hsz:m*(bytes+1)≤1099511627776) (b o:Nat) :
  append P h t (.slice (some ⟨b,o,none⟩) 0 1) x=some (.slice (some ⟨2*h.n,0,none⟩) m (2*m),h.new (.cells new sz none)):=by
 unfold appT at hT
 split at hT
 case h_2=>cases hT
 rename_i e hu
 split at hT
 case h_2=>cases hT
 rename_i zs h1 h2 h3
 simp only[cond_eq_ite] at hT
 split at hT
 case isTrue=>cases hT
 rename_i hbad
 cases hT
 have hbad':(sz == 0 || (!(Nat.ble bytes 65536) || !(zs.length == sz)))=false:=by simpa using hbad
 obtain⟨hz,hl,⟨rfl,rfl⟩|⟨b2,o2,k2,rfl,rfl|⟨row,a1,a2,a3⟩⟩⟩:=sx
 ·omega
 ·omega
 have hms : ¬m*sz=0:=by
  have:0<m*sz:=Nat.mul_pos hm hz
  omega
 have hmne:(m == 0)=false:=by simp;omega
 have hfirst:firstOf h sz m (.slice (some ⟨b2,o2,none⟩) m k2)=some new:=by
  simp only[firstOf,cond_eq_ite,Nat.ble_eq,Nat.le_refl,if_true,beq_iff_eq,if_neg hms]
  rw[rd_of a1,if_pos a3,a2]
 have hble:Nat.ble (m*(bytes+1)) sizeMost=true:=by rw[Nat.ble_eq];exact hsz
 have hcap:Nat.ble m (1 / 2)=false:=by
  rw[Bool.eq_false_iff];intro hh;rw[Nat.ble_eq] at hh;omega
 have hodd:(1 % 2 == 1)=true:=rfl
 have hfirst0:firstOf h sz 0 (.slice (some ⟨b,o,none⟩) 0 1)=some []:=by
  simp[firstOf];rfl
 simp only[Id.append,hu,h1,h2,h3,lenOf,hmne,hbad',hfirst,hc,hble,hcap,hodd,hfirst0,cond_true,cond_false,Bool.not_true,List.nil_append,Nat.zero_add]
theorem copy_eq {P:Program} {t e:TypeId} {sz:Nat} (hu:P.underlying t=some (.slice e)) (hS:sizeT P e=some sz) {h:IH} {k o dn c:Nat} {cs:List Value} {e2:Nat} (hg:h.ext.get k=some (.cells cs e2 none)) {s:Value} {sn:Nat} {ss:List Value} (hs:SlNow h sz s sn ss) (hc:ss.all cellOK=true)
  (hpos:0<min sn dn) (hl:o+min sn dn*sz≤cs.length) (ts:Array TypeId) (ht:ts[0]?=some t) :
  builtin P h .copy ts [.slice (some ⟨2*k,o,none⟩) dn c,s]=some (.int .i64 ((min sn dn:Nat):Int),h.put k (.cells (IH.splice cs o (ss.take (min sn dn*sz))) e2 none)):=by
 obtain⟨hz,hln,⟨rfl,rfl⟩|⟨b2,o2,k2,rfl,rfl|⟨row,a1,a2,a3⟩⟩⟩:=hs
 ·simp at hpos
 ·simp at hpos
 have hm:Nat.min sn dn=min sn dn:=rfl
 generalize hmm:min sn dn=m at *
 have hmn:m≤sn:=by omega
 have hms : ¬m*sz=0:=by
  have:0<m*sz:=Nat.mul_pos hpos hz
  omega
 have hmle:m*sz≤sn*sz:=Nat.mul_le_mul_right _ hmn
 have hrd:h.rd b2 o2 (m*sz)=some (ss.take (m*sz)):=by
  have hle:o2+m*sz≤row.length:=by omega
  rw[rd_of a1,←a2,List.take_take,Nat.min_eq_left hmle]
  exact if_pos hle
 have hfirst:firstOf h sz m (.slice (some ⟨b2,o2,none⟩) sn k2)=some (ss.take (m*sz)):=by
  have hb:Nat.ble m sn=true:=by rw[Nat.ble_eq];exact hmn
  simp only[firstOf,hb,cond_eq_ite,beq_iff_eq,if_neg hms,hrd,if_true]
 have hlen:(ss.take (m*sz)).length=m*sz:=by rw[List.length_take];omega
 have hne:(ss.take (m*sz)).isEmpty=false:=by
  cases hx:ss.take (m*sz) with
  | nil=>rw[hx] at hlen;simp at hlen;omega
  | cons a b=>rfl
 have hc2:(ss.take (m*sz)).all cellOK=true:=by
  rw[List.all_eq_true] at hc ⊢
  intro x hx;exact hc x (List.mem_of_mem_take hx)
 have h1:(2*k % 2 == 1)=false:=by simp
 have h2:2*k / 2=k:=by omega
 have h3:Nat.ble (o+(ss.take (m*sz)).length) cs.length=true:=by rw[Nat.ble_eq,hlen];exact hl
 simp only[builtin,ht,copyOp,hu,lenOf,hS,hm,hfirst,hne,hc2,IH.wr,h1,h2,hg,h3,cond_true,cond_false,Bool.not_true,Option.map_some]
 rfl
theorem acc_new {h:IH} {sz m:Nat} {cs:List Value} (hz:0<sz) (hl:cs.length=m*sz) (hm:0<m):Acc (h.new (.cells cs sz none)) h.n sz (.slice (some ⟨2*h.n,0,none⟩) m (2*m)) m cs :=
 ⟨hz,hl,.inr ⟨h.n,none,rfl,hm,Nat.le_refl _,by simp,get_new_same _ _ rfl,trivial⟩⟩
end Go.Id

namespace Go.Id
open Go
abbrev MapL:=List (Value×Value)
noncomputable def asc:List (Value×Value)→Value→Option Value
 | [],_=>none
 | e :: l,k=>@ite _ (e.1=k) (Classical.propDecidable _) (some e.2) (asc l k)
noncomputable def place:List (Value×Value)→Value→Option Nat
 | [],_=>none
 | e :: l,k=>@ite _ (e.1=k) (Classical.propDecidable _) (some 0) ((place l k).map (· + 1))
noncomputable def upd (l:MapL) (k v:Value):MapL:=match place l k with
 | none=>l ++ [(k,v)]
 | some i=>l.set i (k,v)
theorem place_none : ∀{l:MapL} {k:Value},place l k=none→asc l k=none
 | [],_,_=>rfl
 | e :: l,k,h=>by
  unfold place at h
  unfold asc
  split at h
  ·cases h
  ·rename_i hne
   rw[if_neg hne]
   exact place_none (by simpa using h)
theorem place_some : ∀{l:MapL} {k:Value} {i:Nat},place l k=some i → ∃v,l[i]?=some (k,v)∧asc l k=some v
 | [],_,_,h=>by cases h
 | e :: l,k,i,h=>by
  unfold place at h
  unfold asc
  split at h
  ·rename_i he
   cases h
   exact⟨e.2,by rw[←he];rfl,if_pos he⟩
  ·rename_i hne
   rw[if_neg hne]
   simp only[Option.map_eq_some_iff] at h
   obtain⟨j,hj,rfl⟩:=h
   obtain⟨v,h1,h2⟩:=place_some hj
   exact⟨v,by simpa using h1,h2⟩
section
variable {P:Program}
def KeyT (P:Program) (kt:TypeId) (ok:Value→Prop):Prop :=
 (∀k,ok k→plain k=true∧Instr.sameBits 10000 k k=true ∧ ∀b,pureRun P (Instr.checkKey b 10000 kt k)=some ()) ∧
  ∀(k:Value) (l:MapL),ok k→(∀e∈l,ok e.1)→(pureRun P (Instr.findKey kt k (keyEntries l))).map (fun r=>r.map (·.1))=some (place l k)
theorem findK_eq {kt:TypeId} {ok:Value→Prop} (hK:KeyT P kt ok) {k:Value} {l:MapL} (hk:ok k) (hl : ∀e∈l,ok e.1):findK P kt k l=some (place l k):=by
 have h1:=hK.2 k l hk hl
 unfold findK
 rw[(hK.1 k hk).1,cond_true,(hK.1 k hk).2.2 l.isEmpty]
 cases hp:pureRun P (Instr.findKey kt k (keyEntries l)) with
 | none=>rw[hp] at h1;cases h1
 | some r=>rw[hp] at h1;simpa using h1
def MapT (P:Program) (mt kt:TypeId) (z:Value):Prop:=∃et,P.underlying mt=some (.map kt et)∧zeroT P et=some z∧plain z=true
theorem lookup_eq1 {mt kt:TypeId} {z:Value} {ok:Value→Prop} (hM:MapT P mt kt z) (hK:KeyT P kt ok) {h:IH} {m:Nat} {l:MapL} (hg:h.ext.get m=some (.map l)) {k:Value} (hk:ok k) (hl : ∀e∈l,ok e.1) :
  lookup P h mt (.map (some (2*m))) k false=some ((asc l k).getD z):=by
 obtain⟨et,hu,hz,hp⟩:=hM
 have hm:entriesOf h (.map (some (2*m)))=some l:=by
  have h1:(2*m % 2 == 1)=false:=by simp
  have h2:2*m / 2=m:=by omega
  simp[entriesOf,mapOf,h2,hg]
 simp only[lookup,hu,hm,findK_eq hK hk hl]
 cases hp2:place l k with
 | none=>simp only[place_none hp2,hz,hp,cond_true,cond_false,Option.getD]
 | some i =>
  obtain⟨v,h1,h2⟩:=place_some hp2
  simp only[h1,h2,Option.map_some,cond_false,Option.getD]
theorem mapUpdate_eq {mt kt:TypeId} {z:Value} {ok:Value→Prop} (hM:MapT P mt kt z) (hK:KeyT P kt ok) {h:IH} {m:Nat} {l:MapL} (hg:h.ext.get m=some (.map l)) {k:Value} (hk:ok k) (hl : ∀e∈l,ok e.1) (v:Value) :
  mapUpdate P h mt (.map (some (2*m))) k v=some (h.put m (.map (upd l k v))):=by
 obtain⟨et,hu,hz,hp⟩:=hM
 have h1:(2*m % 2 == 1)=false:=by simp
 have h2:2*m / 2=m:=by omega
 have hm:mapOf h (2*m)=some l:=by simp[mapOf,h2,hg]
 simp only[mapUpdate,hu,hm,findK_eq hK hk hl,(hK.1 k hk).2.2 false,okUnit,cond_true,h2]
 cases hp2:place l k with
 | none=>simp only[upd,hp2];rfl
 | some i =>
  obtain⟨w,h1,h2⟩:=place_some hp2
  simp only[h1,(hK.1 k hk).2.1,cond_true,upd,hp2];rfl
theorem findNow_int {kt:TypeId} {kd:IntKind} (a:Int) : ∀(l:MapL) (i:Nat),(∀e∈l,∃b,e.1=.int kd b)→(Instr.findNow (.int kd) (.int kd a) (keyEntries l) i).map (fun r=>r.map (·.1))=some ((place l (.int kd a)).map (· + i))
 | [],_,_=>rfl
 | e :: l,i,h=>by
  obtain⟨b,hb⟩:=h e (by simp)
  have e1:keyEntries (e :: l) = { key:=e.1,val:=.nilIface,born:=0 } :: keyEntries l:=rfl
  rw[e1]
  unfold Instr.findNow
  simp only[Instr.sameNow,hb,if_true]
  unfold place
  by_cases h1:a=b
  ·have h2:(a == b)=true:=by simpa using h1
   rw[h2]
   simp[h1,hb]
  ·have h2:(a == b)=false:=by simpa using h1
   rw[h2]
   have h3 : ¬e.1=.int kd a:=by rw[hb];intro hh;cases hh;exact h1 rfl
   rw[if_neg h3]
   simp only
   rw[findNow_int (kt:=kt) a l (i+1) fun e he=>h e (by simp[he])]
   cases place l (.int kd a) with
   | none=>rfl
   | some j=>simp;omega
theorem pr_checkKey_int {kt:TypeId} {kd:IntKind} (hu:P.underlying kt=some (.int kd)) (b:Bool) (a:Int) (n:Nat):pureRun P (Instr.checkKey b (n+1) kt (.int kd a))=some ():=by
 unfold Instr.checkKey
 rw[pr_bind (pr_underlying hu)]
 rfl
theorem keyT_int {kt:TypeId} {kd:IntKind} (hu:P.underlying kt=some (.int kd)):KeyT P kt fun k => ∃a,k=.int kd a:=by
 refine⟨?_,?_⟩
 ·rintro k ⟨a,rfl⟩
  exact⟨rfl,by simp[Instr.sameBits],fun b=>pr_checkKey_int hu b a 9999⟩
 ·rintro k l ⟨a,rfl⟩ hl
  have h1:=findNow_int (kt:=kt) (kd:=kd) a l 0 hl
  unfold Instr.findKey
  rw[pr_bind (pr_underlying hu)]
  cases hf:Instr.findNow (.int kd) (.int kd a) (keyEntries l) 0 with
  | none=>rw[hf] at h1;cases h1
  | some r =>
   rw[hf] at h1
   simp only
   rw[pr_pure]
   simpa using h1
end
structure Mem (m:Nat) (h h':IH):Prop where
 n:h.n≤h'.n
 base:h'.base=h.base
 get : ∀k,k<h.n→k≠m→h'.ext.get k=h.ext.get k
 fams : ∀f,f<h.n→h'.fams.get f=h.fams.get f
end Go.Id

namespace Go.Id
open Go
end Go.Id

namespace Go.Id
open Go
theorem wv_carry {P:Program} {f:FuncId} {fn:Func} {args:List Value} {v:Value} {h:IH} {K:Value→IH→Prop} (hf:P.funcs[f]?=some fn) (hb:fn.body=none) (hc:carryI fn.name args=some v) (k:K v h):WV P (.func (.func f) #[] #[]) args h K:=by
 refine⟨(v,h),⟨1,fun n hn=>?_⟩,k⟩
 obtain⟨n,rfl⟩ : ∃m,n=m+1:=⟨n - 1,by omega⟩
 simp only[callV,callFn,show(E0 P).intr f=none from rfl,show(E0 P).P=P from rfl,hf,hb,List.append_nil,List.nil_append,hc,Option.map_some]
theorem carry_add {n:String} (hn:n = "math/bits.Add64") (x y:Nat) {c:Nat} (hc:c≤1):carryI n [.int .u64 (x:Int),.int .u64 (y:Int),.int .u64 (c:Int)]=some (.tuple #[.int .u64 ((x+y+c) % 18446744073709551616:Nat),.int .u64 ((x+y+c) / 18446744073709551616:Nat)]):=by
 have h1:Nat.ble c 1=true:=by rw[Nat.ble_eq];exact hc
 subst hn
 show(bif Nat.ble c 1 then _ else none)=_
 rw[h1];rfl
theorem carry_sub {n:String} (hn:n = "math/bits.Sub64") (x y:Nat) {c:Nat} (hc:c≤1):carryI n [.int .u64 (x:Int),.int .u64 (y:Int),.int .u64 (c:Int)]=some (.tuple #[.int .u64 ((x+18446744073709551616 - y - c) % 18446744073709551616:Nat),.int .u64 ((bif Nat.blt x (y+c) then 1 else 0:Nat))]):=by
 have h1:Nat.ble c 1=true:=by rw[Nat.ble_eq];exact hc
 subst hn
 show(bif Nat.ble c 1 then _ else none)=_
 rw[h1];rfl
theorem WV.and {P:Program} {fv:Value} {vs:List Value} {h:IH} {K L:Value→IH→Prop} (a:WV P fv vs h K) (b:WV P fv vs h L):WV P fv vs h fun v h'=>K v h'∧L v h':=by
 obtain⟨x,⟨N,hN⟩,kx⟩:=a
 obtain⟨y,⟨M,hM⟩,ky⟩:=b
 have h1:=hN (max N M) (Nat.le_max_left _ _)
 have h2:=hM (max N M) (Nat.le_max_right _ _)
 rw[h1] at h2
 cases h2
 exact⟨x,⟨N,hN⟩,kx,ky⟩
def blockOf:Value→Option Nat
 | .slice (some a) _ _=>some a.block
 | _=>none
theorem resliced_block {size:Nat} {b:Bool} {x r:Value} {lo hi mx:Option Value} (h:resliced size b x lo hi mx=some r):blockOf r=blockOf x:=by
 unfold resliced at h
 split at h
 ·simp only[cond_eq_ite] at h
  split at h
  ·split at h
   ·cases h;rfl
   ·cases h
  ·cases h
 ·split at h
  ·cases h
  ·rename_i b o n c _ _ _ _
   simp only[cond_eq_ite] at h
   repeat' split at h
   all_goals first|(cases h;rfl)|cases h
 ·cases h
theorem slice_block {P:Program} {t e:TypeId} (hu:P.underlying t=some (.slice e)) {h:IH} {x r:Value} {lo hi mx:Option Value} (hs:sliceOp P h t x lo hi mx=some r):blockOf r=blockOf x:=by
 simp only[sliceOp,hu] at hs
 split at hs
 ·exact resliced_block hs
 ·cases hs
theorem SlOf.putAt {h:IH} {sz:Nat} {v:Value} {n:Nat} {cs:List Value} (s:SlOf h sz v n cs) {k:Nat} (hk:blockOf v≠some (2*k)) (o:IObj):SlOf (h.put k o) sz v n cs:=by
 obtain⟨hz,hl,s|⟨b,o2,c,rfl,s⟩⟩:=s
 ·exact⟨hz,hl,.inl s⟩
 ·refine⟨hz,hl,.inr ⟨b,o2,c,rfl,?_⟩⟩
  rcases s with s|⟨h1,h2,row,h3,h4,h5,h6⟩
  ·exact .inl s
  ·have hb:b≠2*k:=fun e=>hk (by rw[e];rfl)
   refine .inr ⟨h1,h2,row,?_,?_,h5,h6⟩
   ·rcases h3 with h3|⟨a1,a2,f,a3⟩
    ·exact .inl h3
    ·exact .inr ⟨a1,a2,f,by rw[get_put_old _ _ (by omega)];exact a3⟩
   ·rw[row_put_old _ _ _ hb];exact h4
theorem loop_cut {P:Program} {fn:FuncId} {nt:Nat} {rd:Option Nat} {id:Nat} {b:Code} {fr:Fr} {h:IH} {K:Fr→IH→Prop} {Q:IExit→Fr→IH→Prop} (R:Fr→IH→Prop)
  (w:Do (WLoop P fn nt rd b fr h) (blockK id (seqK (fun fr h=>Pst (R fr h) nx) Q)) nx) (k : ∀fr h,R fr h→K fr h):Do (WLoop P fn nt rd b fr h) (blockK id (seqK K Q)) nx :=
 cut (a:=.block id (.loop b)) R w k
theorem shl_n {P:Program} {t:TypeId} {ox oy:Operand} {j:IntKind} (a:Nat) {b:Int} (hb:0≤b∧b≤64):binop P .shl t ox oy (.int .u64 (a:Int)) (.int j b)=some (.int .u64 ((a*2 ^ b.toNat % 18446744073709551616:Nat):Int)):=by
 rw[binop_shl P t ox oy hb.1]
 have e:min b.toNat IntKind.u64.bits=b.toNat:=by simp only[IntKind.bits];omega
 rw[e]
 have e2:IntKind.u64.wrap ((a:Int)*2 ^ b.toNat)=((a*2 ^ b.toNat % 18446744073709551616:Nat):Int):=by
  simp[IntKind.wrap,IntKind.bits,IntKind.signed]
 rw[e2]
end Go.Id
