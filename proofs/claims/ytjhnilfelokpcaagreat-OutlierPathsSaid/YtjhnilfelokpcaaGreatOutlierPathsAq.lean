/-
  Weakest preconditions over the ideal machine, ninth part: equality of arrays of numbers. Weakest preconditions over the ideal machine, tenth part: slices as they are now.
-/
import Derived.Test.YtjhnilfelokpcaaGreatOutlierPathsAp
import Init
set_option linter.unusedVariables false
set_option linter.unusedSimpArgs false
set_option linter.defProp false
set_option linter.deprecated false
namespace Go.Id
open Go
section
variable {P:Program}
theorem cz {α β:Type} {s:Sem α} {f:α→Sem β} {a:α} (h:az P s=some a):az P (s >>= f)=az P (f a):=by
 show az P (s.bind f)=_
 rw[cS,h];rfl
theorem Jz {α:Type} (a:α):az P (pure a:Sem α)=some a:=rfl
theorem dM {t:TypeId} {d:TypeDesc} (h:P.underlying t=some d):az P (underlying t)=some d:=by
 have e:az P (underlying t)=az P ((match P.underlying t with|some d=>(pure d:Sem TypeDesc)|none=>stuck "no such type")):=rfl
 rw[e,h];rfl
theorem LO {e:TypeId} {n:Nat} (h:aJ P e=some n):az P (sizeOf e)=some n:=by
 simp only[aJ,Option.map_eq_some_iff] at h
 obtain⟨i,hi,rfl⟩:=h
 have e2:az P (sizeOf e)=az P ((match P.info? e with|some i=>(pure i:Sem TypeInfo)|none=>stuck "no such type").bind fun i=>pure i.size):=rfl
 rw[e2,hi];rfl
theorem JA {e:TypeId} {k:IntKind} (he:P.underlying e=some (.int k)) {cs:Array Value} {off:Nat} {v:Value} (hv:cs[off]?=some v):az P (part e cs off)=some v:=by
 unfold part
 have h1:az P (isAgg e)=some false:=by
  unfold isAgg
  rw[cz (dM he)];rfl
 rw[cz h1]
 simp only[Bool.false_eq_true,if_false,hv]
 rfl
theorem ud {e:TypeId} {k j:IntKind} (he:P.underlying e=some (.int j)) (d:Nat) (a b:Int):az P (Op.equalIn (d+1) e (.int k a) (.int k b))=some (a == b):=by
 unfold Op.equalIn
 rw[cz (dM he)]
 simp only[if_true]
 rfl
def Gf (xs ys:List Int) (is:List Nat):Bool:=is.all fun i=>xs[i]? == ys[i]?
theorem OW {n:Nat} {xs ys:List Int} (body:Nat→Option Bool×Unit→Sem (ForInStep (Option Bool×Unit))) (g:Option Bool×Unit→Sem Bool)
  (hb : ∀i,i<n → ∀r,az P (body i r)=some (if (xs[i]? == ys[i]?)=true then .yield (none,()) else .done (some false,()))) : ∀is:List Nat,(∀i∈is,i<n) →
  az P (forIn is ((none,()):Option Bool×Unit) body >>= g)=az P (g (if Gf xs ys is=true then (none,()) else (some false,()))):=by
 have assoc : ∀(s:Sem (ForInStep (Option Bool×Unit))) (g1:ForInStep (Option Bool×Unit)→Sem (Option Bool×Unit)) (f2:Option Bool×Unit→Sem Bool),az P ((s >>= g1) >>= f2)=az P (s >>= fun x=>g1 x >>= f2):=fun s g1 f2=>by
  show az P ((s.bind g1).bind f2)=az P (s.bind fun x=>(g1 x).bind f2)
  rw[cS,cS,cS]
  cases az P s with
  | none=>rfl
  | some a=>simp only[Option.bind_some];rw[cS]
 intro is
 induction is with
 | nil=>intro _;rfl
 | cons i is ih =>
  intro hi
  have h1:=hb i (hi i (by simp)) (none,())
  rw[List.forIn_cons,assoc,cz h1]
  have hz:Gf xs ys (i :: is)=((xs[i]? == ys[i]?) && Gf xs ys is):=rfl
  rw[hz]
  cases hc:(xs[i]? == ys[i]?) with
  | true =>
   rw[Bool.true_and,←ih fun j hj=>hi j (by simp[hj])]
   rfl
  | false =>
   rw[Bool.false_and]
   rfl
theorem C4 {t e:TypeId} {n:Nat} {k:IntKind} (hT:P.underlying t=some (.array n e)) (he:P.underlying e=some (.int k)) (hs:aJ P e=some 1) (d:Nat) (xs ys:List Int) (hx:xs.length=n) (hy:ys.length=n) :
  az P (Op.equalIn (d+2) t (.agg (xs.map (.int k)).toArray) (.agg (ys.map (.int k)).toArray))=some (decide (xs=ys)):=by
 unfold Op.equalIn
 rw[cz (dM hT)]
 simp only
 rw[cz (LO hs)]
 simp only[Std.Legacy.Range.forIn_eq_forIn_range',Std.Legacy.Range.size,Nat.sub_zero,Nat.add_one_sub_one,Nat.div_one]
 rw[OW (n:=n) (xs:=xs) (ys:=ys) _ _ (fun i hin r=>?_) (List.range' 0 n) (fun i hi=>?_)]
 ·have hz:Gf xs ys (List.range' 0 n)=decide (xs=ys):=by
   rw[Bool.eq_iff_iff]
   simp only[Gf,List.all_eq_true,List.mem_range'_1,beq_iff_eq,decide_eq_true_eq]
   constructor
   ·intro h
    apply List.ext_getElem?
    intro i
    by_cases hi:i<n
    ·exact h i ⟨Nat.zero_le _,by omega⟩
    ·rw[List.getElem?_eq_none (by omega),List.getElem?_eq_none (by omega)]
   ·rintro rfl i _;rfl
  rw[hz]
  by_cases h:xs=ys
  ·simp[h];rfl
  ·simp[h];rfl
 ·have hxi:(xs.map (Value.int k)).toArray[i*1]?=some (.int k (xs[i]'(by omega))):=by simp[hx,hin]
  have hyi:(ys.map (Value.int k)).toArray[i*1]?=some (.int k (ys[i]'(by omega))):=by simp[hy,hin]
  rw[cz (JA he hxi),cz (JA he hyi),cz (ud he d _ _)]
  rw[List.getElem?_eq_getElem (show i<xs.length by omega),List.getElem?_eq_getElem (show i<ys.length by omega)]
  rw[show(some (xs[i]'(by omega)) == some (ys[i]'(by omega)))=(xs[i]'(by omega) == ys[i]'(by omega)) from rfl]
  cases(xs[i]'(by omega) == ys[i]'(by omega))<;>rfl
 ·rw[List.mem_range'_1] at hi;omega
theorem rY {t e:TypeId} {n:Nat} {k:IntKind} (hT:P.underlying t=some (.array n e)) (he:P.underlying e=some (.int k)) (hs:aJ P e=some 1) (hg:P.eqGuardType P.depth t=false) (ox oy:Operand) (xs ys:List Int) (hx:xs.length=n) (hy:ys.length=n) :
  binop P .eql t ox oy (.agg (xs.map (.int k)).toArray) (.agg (ys.map (.int k)).toArray)=some (.bool (decide (xs=ys))):=by
 have hp : ∀l:List Int,plain (.agg (l.map (Value.int k)).toArray)=true:=by intro l;simp[plain,bJ]
 refine dE P t ox oy (hp _) (hp _) rfl ?_
 have h1:az P (eqGuard .eql t ox oy (.agg (xs.map (.int k)).toArray) (.agg (ys.map (.int k)).toArray))=some ():=by
  show az P (if (!P.eqGuardType P.depth t)=true then _ else _)=_
  rw[hg];rfl
 rw[cz h1]
 show az P (Op.equal t _ _ >>= fun r=>pure (Value.bool r))=_
 have h2:az P (Op.equal t (.agg (xs.map (.int k)).toArray) (.agg (ys.map (.int k)).toArray))=some (decide (xs=ys)):=C4 hT he hs 9998 xs ys hx hy
 rw[cz h2];rfl
end
end Go.Id

namespace Go.Id
open Go
def iv (h:IH) (sz:Nat) (v:Value) (n:Nat) (cs:List Value):Prop :=
 0<sz∧cs.length=n*sz∧((v=.slice none 0 0∧n=0) ∨ ∃b o k,v=.slice (some ⟨b,o,none⟩) n k∧(n=0 ∨ ∃row,h.row b=some row∧(row.drop o).take (n*sz)=cs∧o+n*sz≤row.length))
theorem bI.now {h:IH} {sz:Nat} {v:Value} {n:Nat} {cs:List Value} (s:bI h sz v n cs):iv h sz v n cs:=by
 obtain⟨hz,hl,s|⟨b,o,k,rfl,s⟩⟩:=s
 ·exact⟨hz,hl,.inl s⟩
 ·refine⟨hz,hl,.inr ⟨b,o,k,rfl,?_⟩⟩
  rcases s with⟨h1,_⟩|⟨_,_,row,_,h1,h2,h3⟩
  ·exact .inl h1
  ·exact .inr ⟨row,h1,h2,h3⟩
theorem iv.form {h:IH} {sz:Nat} {v:Value} {n:Nat} {cs:List Value} (s:iv h sz v n cs) : ∃a k,v=.slice a n k:=by
 obtain⟨hz,hl,⟨rfl,rfl⟩|⟨b,o,k,rfl,s⟩⟩:=s
 ·exact⟨_,_,rfl⟩
 ·exact⟨_,_,rfl⟩
theorem iv.len {h:IH} {sz:Nat} {v:Value} {n:Nat} {cs:List Value} (s:iv h sz v n cs) {P:Program} {t:TypeId} (hT:cM P (some t)=true) (h':IH):qo P h' t v=some (.int .i64 n):=by
 obtain⟨a,k,rfl⟩:=s.form
 exact sZ hT _ _ _ _
theorem iv.idx {h:IH} {sz:Nat} {v:Value} {n:Nat} {cs:List Value} (s:iv h sz v n cs) {P:Program} {t:TypeId} (hT:gK P t=some sz) {k:IntKind} {j:Nat} (hj:j<n):indexAddr P t v (.int k j)=some (aO v (j*sz)):=by
 obtain⟨hz,hl,⟨rfl,rfl⟩|⟨b,o,k,rfl,s⟩⟩:=s
 ·omega
 ·rw[iD,hT];simp[aO,re hj]
theorem iv.ld {h:IH} {sz:Nat} {v:Value} {n:Nat} {cs:List Value} (s:iv h sz v n cs) {c:Nat} (hc:c<cs.length) {P:Program} {t:TypeId} (hT:bE P t=some false):load P h t (aO v c)=cs[c]?:=by
 obtain⟨hz,hl,⟨rfl,rfl⟩|⟨b,o,k,rfl,s'⟩⟩:=s
 ·simp at hl;simp[hl] at hc
 ·obtain rfl|⟨row,h1,h2,h3⟩:=s'
  ·simp at hl;simp[hl] at hc
  ·rw[aO,dB hT,TX h1,←h2,List.getElem?_take]
   rw[if_pos (by omega),List.getElem?_drop]
theorem Bk {P:Program} {t e:TypeId} {n sz:Nat} (hu:P.underlying t=some (.array n e)) (hs:aJ P e=some sz) (hn:0<n) (h:IH) (b o:Nat):cy P h t (ptr b o) none none none=some (.slice (some ⟨b,o,none⟩) n (2*n+1)):=by
 have h1:(2*n+1) / 2=n:=by omega
 have h2:(2*n+1 == 0)=false:=by simp
 have h3:(0 == n)=false:=by simp;omega
 have h4:((2*n+1) % 2 == 1)=true:=by simp
 simp only[cy,hu,hs,asAddr,ptr,du,fB,PS,FO,h1,h2,h3,h4,cond_true,cond_false,Bool.true_or]
 simp
theorem Te {h:IH} {b o n sz k:Nat} {row cs:List Value} (hr:h.row b=some row) (hz:0<sz) (hl:cs.length=n*sz) (h1:(row.drop o).take (n*sz)=cs) (h2:o+n*sz≤row.length):iv h sz (.slice (some ⟨b,o,none⟩) n k) n cs :=
 ⟨hz,hl,.inr ⟨b,o,k,rfl,.inr ⟨row,hr,h1,h2⟩⟩⟩
theorem Fz {P:Program} {t e:TypeId} (hu:P.underlying t=some (.slice e)) (ox oy:Operand) (b o:Nat) (n k:Nat):binop P .eql t ox oy (.slice (some ⟨b,o,none⟩) n k) (.slice none 0 0)=some (.bool false):=by
 have h1:plain (.slice (some ⟨b,o,none⟩) n k)=false:=rfl
 simp only[binop,h1,Bool.false_and,cond_false,uj,hu,sV,Option.map_some]
theorem qI {P:Program} {t:TypeId} {sz bytes:Nat} (hT:kL P t=some (sz,bytes)) (h:IH) {x:Value} {m:Nat} {new:List Value} (sx:iv h sz x m new) (hm:0<m) (hc:new.all aH=true) (hsz:m*(bytes+1)≤1099511627776) (b o:Nat) :
  append P h t (.slice (some ⟨b,o,none⟩) 0 1) x=some (.slice (some ⟨2*h.n,0,none⟩) m (2*m),h.new (.cells new sz none)):=by
 unfold kL at hT
 split at hT
 case h_2=>cases hT
 rename_i e hu
 split at hT
 case h_2=>cases hT
 rename_i zs h1 h2 h3
 simp only[cond_eq_ite] at hT
 split at hT
 case isTrue=>cases hT
 rename_i Dx
 cases hT
 have mh:(sz == 0 || (!(Nat.ble bytes 65536) || !(zs.length == sz)))=false:=by simpa using Dx
 obtain⟨hz,hl,⟨rfl,rfl⟩|⟨b2,o2,k2,rfl,rfl|⟨row,a1,a2,a3⟩⟩⟩:=sx
 ·omega
 ·omega
 have hms : ¬m*sz=0:=by
  have:0<m*sz:=Nat.mul_pos hm hz
  omega
 have vI:(m == 0)=false:=by simp;omega
 have jJ:bN h sz m (.slice (some ⟨b2,o2,none⟩) m k2)=some new:=by
  simp only[bN,cond_eq_ite,Nat.ble_eq,Nat.le_refl,if_true,beq_iff_eq,if_neg hms]
  rw[tY a1,if_pos a3,a2]
 have ti:Nat.ble (m*(bytes+1)) aI=true:=by rw[Nat.ble_eq];exact hsz
 have mB:Nat.ble m (1 / 2)=false:=by
  rw[Bool.eq_false_iff];intro hh;rw[Nat.ble_eq] at hh;omega
 have mA:(1 % 2 == 1)=true:=rfl
 have SI:bN h sz 0 (.slice (some ⟨b,o,none⟩) 0 1)=some []:=by
  simp[bN];rfl
 simp only[Id.append,hu,h1,h2,h3,lenOf,vI,mh,jJ,hc,ti,mB,mA,SI,cond_true,cond_false,Bool.not_true,List.nil_append,Nat.zero_add]
theorem copy_eq {P:Program} {t e:TypeId} {sz:Nat} (hu:P.underlying t=some (.slice e)) (hS:aJ P e=some sz) {h:IH} {k o dn c:Nat} {cs:List Value} {e2:Nat} (hg:h.ext.get k=some (.cells cs e2 none)) {s:Value} {sn:Nat} {ss:List Value} (hs:iv h sz s sn ss) (hc:ss.all aH=true)
  (uw:0<min sn dn) (hl:o+min sn dn*sz≤cs.length) (ts:Array TypeId) (ht:ts[0]?=some t) :
  builtin P h .copy ts [.slice (some ⟨2*k,o,none⟩) dn c,s]=some (.int .i64 ((min sn dn:Nat):Int),h.put k (.cells (IH.aG cs o (ss.take (min sn dn*sz))) e2 none)):=by
 obtain⟨hz,hln,⟨rfl,rfl⟩|⟨b2,o2,k2,rfl,rfl|⟨row,a1,a2,a3⟩⟩⟩:=hs
 ·simp at uw
 ·simp at uw
 have hm:Nat.min sn dn=min sn dn:=rfl
 generalize hmm:min sn dn=m at *
 have hmn:m≤sn:=by omega
 have hms : ¬m*sz=0:=by
  have:0<m*sz:=Nat.mul_pos uw hz
  omega
 have ZG:m*sz≤sn*sz:=Nat.mul_le_mul_right _ hmn
 have hrd:h.rd b2 o2 (m*sz)=some (ss.take (m*sz)):=by
  have hle:o2+m*sz≤row.length:=by omega
  rw[tY a1,←a2,List.take_take,Nat.min_eq_left ZG]
  exact if_pos hle
 have jJ:bN h sz m (.slice (some ⟨b2,o2,none⟩) sn k2)=some (ss.take (m*sz)):=by
  have hb:Nat.ble m sn=true:=by rw[Nat.ble_eq];exact hmn
  simp only[bN,hb,cond_eq_ite,beq_iff_eq,if_neg hms,hrd,if_true]
 have hlen:(ss.take (m*sz)).length=m*sz:=by rw[List.length_take];omega
 have hne:(ss.take (m*sz)).isEmpty=false:=by
  cases hx:ss.take (m*sz) with
  | nil=>rw[hx] at hlen;simp at hlen;omega
  | cons a b=>rfl
 have hc2:(ss.take (m*sz)).all aH=true:=by
  rw[List.all_eq_true] at hc ⊢
  intro x hx;exact hc x (List.mem_of_mem_take hx)
 have h1:(2*k % 2 == 1)=false:=by simp
 have h2:2*k / 2=k:=by omega
 have h3:Nat.ble (o+(ss.take (m*sz)).length) cs.length=true:=by rw[Nat.ble_eq,hlen];exact hl
 simp only[builtin,ht,tt,hu,lenOf,hS,hm,jJ,hne,hc2,IH.wr,h1,h2,hg,h3,cond_true,cond_false,Bool.not_true,Option.map_some]
 rfl
theorem yk {h:IH} {sz m:Nat} {cs:List Value} (hz:0<sz) (hl:cs.length=m*sz) (hm:0<m):Acc (h.new (.cells cs sz none)) h.n sz (.slice (some ⟨2*h.n,0,none⟩) m (2*m)) m cs :=
 ⟨hz,hl,.inr ⟨h.n,none,rfl,hm,Nat.le_refl _,by simp,ab _ _ rfl,trivial⟩⟩
theorem Acc.from {h:IH} {n0 n1 sz:Nat} {v:Value} {n:Nat} {cs:List Value} (a:Acc h n1 sz v n cs) (hn:n0≤n1):Acc h n0 sz v n cs:=by
 obtain⟨hz,hl,a|⟨k,fam,rfl,hn2,h1,h2,h3,h4⟩⟩:=a
 ·exact⟨hz,hl,.inl a⟩
 ·refine⟨hz,hl,.inr ⟨k,fam,rfl,hn2,by omega,h2,h3,?_⟩⟩
  cases fam with
  | none=>trivial
  | some f =>
   obtain⟨a1,a2,rest,a3,a4⟩:=h4
   exact⟨by omega,a2,rest,a3,fun j hj=>by have:=a4 j hj;omega⟩
end Go.Id

namespace Go.Id
open Go
abbrev uW:=List (Value×Value)
noncomputable def asc:List (Value×Value)→Value→Option Value
 | [],_=>none
 | e :: l,k=>@ite _ (e.1=k) (Classical.propDecidable _) (some e.2) (asc l k)
noncomputable def place:List (Value×Value)→Value→Option Nat
 | [],_=>none
 | e :: l,k=>@ite _ (e.1=k) (Classical.propDecidable _) (some 0) ((place l k).map (· + 1))
noncomputable def upd (l:uW) (k v:Value):uW:=match place l k with
 | none=>l ++ [(k,v)]
 | some i=>l.set i (k,v)
theorem yZ : ∀{l:uW} {k:Value},place l k=none→asc l k=none
 | [],_,_=>rfl
 | e :: l,k,h=>by
  unfold place at h
  unfold asc
  split at h
  ·cases h
  ·rename_i hne
   rw[if_neg hne]
   exact yZ (by simpa using h)
theorem sK : ∀{l:uW} {k:Value} {i:Nat},place l k=some i → ∃v,l[i]?=some (k,v)∧asc l k=some v
 | [],_,_,h=>by cases h
 | e :: l,k,i,h=>by
  unfold place at h
  unfold asc
  split at h
  ·rename_i he
   cases h
   exact⟨e.2,by rw[←he];rfl,if_pos he⟩
  ·rename_i hne
   rw[if_neg hne]
   simp only[Option.map_eq_some_iff] at h
   obtain⟨j,hj,rfl⟩:=h
   obtain⟨v,h1,h2⟩:=sK hj
   exact⟨v,by simpa using h1,h2⟩
section
variable {P:Program}
def To (P:Program) (kt:TypeId) (ok:Value→Prop):Prop :=
 (∀k,ok k→plain k=true∧Instr.sameBits 10000 k k=true ∧ ∀b,az P (Instr.checkKey b 10000 kt k)=some ()) ∧
  ∀(k:Value) (l:uW),ok k→(∀e∈l,ok e.1)→(az P (Instr.findKey kt k (cZ l))).map (fun r=>r.map (·.1))=some (place l k)
theorem Gc {kt:TypeId} {ok:Value→Prop} (hK:To P kt ok) {k:Value} {l:uW} (hk:ok k) (hl : ∀e∈l,ok e.1):uD P kt k l=some (place l k):=by
 have h1:=hK.2 k l hk hl
 unfold uD
 rw[(hK.1 k hk).1,cond_true,(hK.1 k hk).2.2 l.isEmpty]
 cases hp:az P (Instr.findKey kt k (cZ l)) with
 | none=>rw[hp] at h1;cases h1
 | some r=>rw[hp] at h1;simpa using h1
def Wi (P:Program) (mt kt:TypeId) (z:Value):Prop:=∃et,P.underlying mt=some (.map kt et)∧px P et=some z∧plain z=true
theorem HT {mt kt:TypeId} {z:Value} {ok:Value→Prop} (hM:Wi P mt kt z) (hK:To P kt ok) {h:IH} {m:Nat} {l:uW} (hg:h.ext.get m=some (.map l)) {k:Value} (hk:ok k) (hl : ∀e∈l,ok e.1) :
  lookup P h mt (.map (some (2*m))) k false=some ((asc l k).getD z):=by
 obtain⟨et,hu,hz,hp⟩:=hM
 have hm:entriesOf h (.map (some (2*m)))=some l:=by
  have h1:(2*m % 2 == 1)=false:=by simp
  have h2:2*m / 2=m:=by omega
  simp[entriesOf,mapOf,h2,hg]
 simp only[lookup,hu,hm,Gc hK hk hl]
 cases hp2:place l k with
 | none=>simp only[yZ hp2,hz,hp,cond_true,cond_false,Option.getD]
 | some i =>
  obtain⟨v,h1,h2⟩:=sK hp2
  simp only[h1,h2,Option.map_some,cond_false,Option.getD]
theorem oR {mt kt:TypeId} {z:Value} {ok:Value→Prop} (hM:Wi P mt kt z) (hK:To P kt ok) {h:IH} {m:Nat} {l:uW} (hg:h.ext.get m=some (.map l)) {k:Value} (hk:ok k) (hl : ∀e∈l,ok e.1) (v:Value) :
  mapUpdate P h mt (.map (some (2*m))) k v=some (h.put m (.map (upd l k v))):=by
 obtain⟨et,hu,hz,hp⟩:=hM
 have h1:(2*m % 2 == 1)=false:=by simp
 have h2:2*m / 2=m:=by omega
 have hm:mapOf h (2*m)=some l:=by simp[mapOf,h2,hg]
 simp only[mapUpdate,hu,hm,Gc hK hk hl,(hK.1 k hk).2.2 false,HF,cond_true,h2]
 cases hp2:place l k with
 | none=>simp only[upd,hp2];rfl
 | some i =>
  obtain⟨w,h1,h2⟩:=sK hp2
  simp only[h1,(hK.1 k hk).2.1,cond_true,upd,hp2];rfl
theorem wU {kt:TypeId} {kd:IntKind} (a:Int) : ∀(l:uW) (i:Nat),(∀e∈l,∃b,e.1=.int kd b)→(Instr.findNow (.int kd) (.int kd a) (cZ l) i).map (fun r=>r.map (·.1))=some ((place l (.int kd a)).map (· + i))
 | [],_,_=>rfl
 | e :: l,i,h=>by
  obtain⟨b,hb⟩:=h e (by simp)
  have e1:cZ (e :: l) = { key:=e.1,val:=.nilIface,born:=0 } :: cZ l:=rfl
  rw[e1]
  unfold Instr.findNow
  simp only[Instr.sameNow,hb,if_true]
  unfold place
  by_cases h1:a=b
  ·have h2:(a == b)=true:=by simpa using h1
   rw[h2]
   simp[h1,hb]
  ·have h2:(a == b)=false:=by simpa using h1
   rw[h2]
   have h3 : ¬e.1=.int kd a:=by rw[hb];intro hh;cases hh;exact h1 rfl
   rw[if_neg h3]
   simp only
   rw[wU (kt:=kt) a l (i+1) fun e he=>h e (by simp[he])]
   cases place l (.int kd a) with
   | none=>rfl
   | some j=>simp;omega
theorem xE {kt:TypeId} {kd:IntKind} (hu:P.underlying kt=some (.int kd)) (b:Bool) (a:Int) (n:Nat):az P (Instr.checkKey b (n+1) kt (.int kd a))=some ():=by
 unfold Instr.checkKey
 rw[cz (dM hu)]
 rfl
theorem FX {kt:TypeId} {kd:IntKind} (hu:P.underlying kt=some (.int kd)):To P kt fun k => ∃a,k=.int kd a:=by
 refine⟨?_,?_⟩
 ·rintro k ⟨a,rfl⟩
  exact⟨rfl,by simp[Instr.sameBits],fun b=>xE hu b a 9999⟩
 ·rintro k l ⟨a,rfl⟩ hl
  have h1:=wU (kt:=kt) (kd:=kd) a l 0 hl
  unfold Instr.findKey
  rw[cz (dM hu)]
  cases hf:Instr.findNow (.int kd) (.int kd a) (cZ l) 0 with
  | none=>rw[hf] at h1;cases h1
  | some r =>
   rw[hf] at h1
   simp only
   rw[Jz]
   simpa using h1
end
def xh (r:gP):gP:={ r with state:=.busy }
theorem fT {h:IH} {k:Nat} {r:gP} (hg:h.ext.get k=some (.loop r)):fg h k=some r:=by simp[fg,hg]
structure Mem (m:Nat) (h h':IH):Prop where
 n:h.n≤h'.n
 base:h'.base=h.base
 get : ∀k,k<h.n→k≠m→h'.ext.get k=h.ext.get k
 bQ : ∀f,f<h.n→h'.bQ.get f=h.bQ.get f
end Go.Id

namespace Go.Id
open Go
end Go.Id

namespace Go.Id
open Go
theorem D5 {P:Program} {f:FuncId} {fn:Func} {args:List Value} {v:Value} {h:IH} {K:Value→IH→Prop} (hf:P.funcs[f]?=some fn) (hb:fn.body=none) (hc:mu fn.name args=some v) (k:K v h):WV P (.func (.func f) #[] #[]) args h K:=by
 refine⟨(v,h),⟨1,fun n hn=>?_⟩,k⟩
 obtain⟨n,rfl⟩ : ∃m,n=m+1:=⟨n - 1,by omega⟩
 simp only[cb,nk,show(E0 P).rE f=none from rfl,show(E0 P).P=P from rfl,hf,hb,List.append_nil,List.nil_append,hc,Option.map_some]
theorem M5 {n:String} (hn:n = "math/bits.Add64") (x y:Nat) {c:Nat} (hc:c≤1):mu n [.int .u64 (x:Int),.int .u64 (y:Int),.int .u64 (c:Int)]=some (.tuple #[.int .u64 ((x+y+c) % 18446744073709551616:Nat),.int .u64 ((x+y+c) / 18446744073709551616:Nat)]):=by
 have h1:Nat.ble c 1=true:=by rw[Nat.ble_eq];exact hc
 subst hn
 show(bif Nat.ble c 1 then _ else none)=_
 rw[h1];rfl
theorem MZ {n:String} (hn:n = "math/bits.Sub64") (x y:Nat) {c:Nat} (hc:c≤1):mu n [.int .u64 (x:Int),.int .u64 (y:Int),.int .u64 (c:Int)]=some (.tuple #[.int .u64 ((x+18446744073709551616 - y - c) % 18446744073709551616:Nat),.int .u64 ((bif Nat.blt x (y+c) then 1 else 0:Nat))]):=by
 have h1:Nat.ble c 1=true:=by rw[Nat.ble_eq];exact hc
 subst hn
 show(bif Nat.ble c 1 then _ else none)=_
 rw[h1];rfl
theorem WV.and {P:Program} {fv:Value} {vs:List Value} {h:IH} {K L:Value→IH→Prop} (a:WV P fv vs h K) (b:WV P fv vs h L):WV P fv vs h fun v h'=>K v h'∧L v h':=by
 obtain⟨x,⟨N,hN⟩,kx⟩:=a
 obtain⟨y,⟨M,hM⟩,ky⟩:=b
 have h1:=hN (max N M) (Nat.le_max_left _ _)
 have h2:=hM (max N M) (Nat.le_max_right _ _)
 rw[h1] at h2
 cases h2
 exact⟨x,⟨N,hN⟩,kx,ky⟩
def dK:Value→Option Nat
 | .slice (some a) _ _=>some a.block
 | _=>none
theorem yT {size:Nat} {b:Bool} {x r:Value} {lo hi mx:Option Value} (h:du size b x lo hi mx=some r):dK r=dK x:=by
 unfold du at h
 split at h
 ·simp only[cond_eq_ite] at h
  split at h
  ·split at h
   ·cases h;rfl
   ·cases h
  ·cases h
 ·split at h
  ·cases h
  ·rename_i b o n c _ _ _ _
   simp only[cond_eq_ite] at h
   repeat' split at h
   all_goals first|(cases h;rfl)|cases h
 ·cases h
theorem wD {P:Program} {t e:TypeId} (hu:P.underlying t=some (.slice e)) {h:IH} {x r:Value} {lo hi mx:Option Value} (hs:cy P h t x lo hi mx=some r):dK r=dK x:=by
 simp only[cy,hu] at hs
 split at hs
 ·exact yT hs
 ·cases hs
theorem bI.putAt {h:IH} {sz:Nat} {v:Value} {n:Nat} {cs:List Value} (s:bI h sz v n cs) {k:Nat} (hk:dK v≠some (2*k)) (o:bR):bI (h.put k o) sz v n cs:=by
 obtain⟨hz,hl,s|⟨b,o2,c,rfl,s⟩⟩:=s
 ·exact⟨hz,hl,.inl s⟩
 ·refine⟨hz,hl,.inr ⟨b,o2,c,rfl,?_⟩⟩
  rcases s with s|⟨h1,h2,row,h3,h4,h5,h6⟩
  ·exact .inl s
  ·have hb:b≠2*k:=fun e=>hk (by rw[e];rfl)
   refine .inr ⟨h1,h2,row,?_,?_,h5,h6⟩
   ·rcases h3 with h3|⟨a1,a2,f,a3⟩
    ·exact .inl h3
    ·exact .inr ⟨a1,a2,f,by rw[ah _ _ (by omega)];exact a3⟩
   ·rw[qa _ _ _ hb];exact h4
theorem FL {P:Program} {fn:FuncId} {nt:Nat} {rd:Option Nat} {id:Nat} {b:Code} {fr:Fr} {h:IH} {K:Fr→IH→Prop} {Q:bh→Fr→IH→Prop} (R:Fr→IH→Prop)
  (w:Do (xm P fn nt rd b fr h) (pg id (rA (fun fr h=>Pst (R fr h) nx) Q)) nx) (k : ∀fr h,R fr h→K fr h):Do (xm P fn nt rd b fr h) (pg id (rA K Q)) nx :=
 cut (a:=.block id (.loop b)) R w k
theorem TG {P:Program} {t:TypeId} {ox oy:Operand} {j:IntKind} (a:Nat) {b:Int} (hb:0≤b∧b≤64):binop P .shl t ox oy (.int .u64 (a:Int)) (.int j b)=some (.int .u64 ((a*2 ^ b.toNat % 18446744073709551616:Nat):Int)):=by
 rw[ov P t ox oy hb.1]
 have e:min b.toNat IntKind.u64.bits=b.toNat:=by simp only[IntKind.bits];omega
 rw[e]
 have e2:IntKind.u64.wrap ((a:Int)*2 ^ b.toNat)=((a*2 ^ b.toNat % 18446744073709551616:Nat):Int):=by
  simp[IntKind.wrap,IntKind.bits,IntKind.signed]
 rw[e2]
end Go.Id

namespace Go.Id
open Go
def QB (k:Nat) (q:Rat):Prop:=q.num.natAbs≤2 ^ k∧q.den≤2 ^ k
theorem QB.mono {a b:Nat} {x:Rat} (h:QB a x) (k:a≤b):QB b x :=
 ⟨Nat.le_trans h.1 (Nat.pow_le_pow_right (by omega) k),Nat.le_trans h.2 (Nat.pow_le_pow_right (by omega) k)⟩
theorem oS {n d:Int} (hd:0<d):n / (Int.gcd n d:Int)=(Rat.divInt n d).num∧d / (Int.gcd n d:Int)=(Rat.divInt n d).den:=by
 constructor
 ·rw[Rat.num_divInt,Int.sign_eq_one_of_pos hd,Int.one_mul,Int.gcd_comm d n]
 ·rw[Rat.den_divInt,if_neg (by omega),Int.gcd_comm d n]
  have:(d.natAbs:Int)=d:=by omega
  rw[Int.natCast_ediv,this]
theorem xW {n d:Int} (hd:d<0) : -(n / (Int.gcd n d:Int))=(Rat.divInt n d).num ∧ -(d / (Int.gcd n d:Int))=(Rat.divInt n d).den:=by
 constructor
 ·rw[Rat.num_divInt,Int.sign_eq_neg_one_of_neg hd,Int.gcd_comm d n,Int.neg_one_mul,Int.neg_ediv_of_dvd (Int.gcd_dvd_left ..)]
 ·rw[Rat.den_divInt,if_neg (by omega),Int.gcd_comm d n]
  have:(d.natAbs:Int) = -d:=by omega
  rw[Int.natCast_ediv,this,Int.neg_ediv_of_dvd (Int.gcd_dvd_right ..)]
theorem zQ {n d:Int} (hd:d≠0):(Int.gcd n d:Int)≠0:=by
 intro h
 have:Int.gcd n d=0:=by omega
 rw[Int.gcd_eq_zero_iff] at this
 exact hd this.2
theorem Pu {n d:Int} (hd:d≠0):d / (Int.gcd n d:Int)<0↔d<0:=by
 rcases Int.lt_or_gt_of_ne hd with h|h
 ·have:=(xW (n:=n) h).2
  have:=(Rat.divInt n d).den_pos
  omega
 ·have:=(oS (n:=n) h).2
  have:=(Rat.divInt n d).den_pos
  omega
theorem Gh (n:Int) (g:Nat):(n / (g:Int)).natAbs≤n.natAbs:=by
 rcases Int.le_total 0 n with h|h
 ·have h1:n / (g:Int)≤n:=Int.ediv_le_self _ h
  have h2:0≤n / (g:Int):=Int.ediv_nonneg h (by omega)
  omega
 ·rcases Nat.eq_zero_or_pos g with rfl|hg
  ·simp
  ·have h2:n / (g:Int)≤0:=by
    have:=Int.ediv_le_ediv (c:=(g:Int)) (by omega) h
    simpa using this
   have h3:n≤n / (g:Int):=by
    rw[Int.le_ediv_iff_mul_le (by omega)]
    have:n*(g:Int)≤n*1:=Int.mul_le_mul_of_nonpos_left h (by omega)
    omega
   omega
theorem QB.divInt {k:Nat} {n d:Int} (hd:d≠0) (h1:n.natAbs≤2 ^ k) (h2:d.natAbs≤2 ^ k):QB k (Rat.divInt n d):=by
 have e1:=Gh n (Int.gcd n d)
 have e2:=Gh d (Int.gcd n d)
 rcases Int.lt_or_gt_of_ne hd with h|h
 ·obtain⟨a,b⟩:=xW (n:=n) h
  exact⟨by omega,by omega⟩
 ·obtain⟨a,b⟩:=oS (n:=n) h
  exact⟨by omega,by omega⟩
theorem ua (x y:Rat):x+y=Rat.divInt (x.num*y.den+y.num*x.den) ((x.den:Int)*y.den):=by
 rw[Rat.add_def',←Rat.divInt_ofNat];simp
theorem Jw (x y:Rat):x*y=Rat.divInt (x.num*y.num) ((x.den:Int)*y.den):=by
 rw[Rat.mul_def',←Rat.divInt_ofNat];simp
theorem Jx (x y:Rat):x / y=Rat.divInt (x.num*y.den) ((x.den:Int)*y.num):=by
 rw[Rat.div_def,Rat.inv_def,←Rat.divInt_mul_divInt,Rat.num_divInt_den]
theorem Ir (x:Rat):(x.den:Int)≠0:=by have:=x.den_pos;omega
theorem Vd {x:Rat} (h:x≠0):x.num≠0:=fun e=>h (Rat.num_eq_zero.1 e)
theorem Kl (x y:Rat):(x.den:Int)*y.den≠0:=Int.mul_ne_zero (Ir x) (Ir y)
theorem dv {a b:Nat} {x y:Int} (hx:x.natAbs≤2 ^ a) (hy:y.natAbs≤2 ^ b):(x*y).natAbs≤2 ^ (a+b):=by
 rw[Int.natAbs_mul,Nat.pow_add];exact Nat.mul_le_mul hx hy
theorem Rj {a:Nat} {x y:Int} (hx:x.natAbs≤2 ^ a) (hy:y.natAbs≤2 ^ a):(x+y).natAbs≤2 ^ (a+1):=by
 have:(x+y).natAbs≤x.natAbs+y.natAbs:=Int.natAbs_add_le _ _
 rw[Nat.pow_succ];omega
theorem RE {a b:Nat} {x:Int} (hx:x.natAbs≤2 ^ a) (h:a≤b):x.natAbs≤2 ^ b:=Nat.le_trans hx (Nat.pow_le_pow_right (by omega) h)
theorem QB.gj {a:Nat} {x:Rat} (h:QB a x):(x.den:Int).natAbs≤2 ^ a:=by rw[Int.natAbs_natCast];exact h.2
theorem QB.Wf {a b:Nat} {x y:Rat} (hx:QB a x) (hy:QB b y):(x.num*y.den+y.num*x.den).natAbs≤2 ^ (a+b+1) :=
 Rj (dv hx.1 hy.gj) (by rw[Nat.add_comm];exact dv hy.1 hx.gj)
theorem QB.add {a b:Nat} {x y:Rat} (hx:QB a x) (hy:QB b y):QB (a+b+1) (x+y):=by
 rw[ua]
 exact QB.divInt (Kl x y) (hx.Wf hy) (RE (dv hx.gj hy.gj) (by omega))
theorem QB.neg {a:Nat} {x:Rat} (hx:QB a x):QB a (-x):=⟨by rw[Rat.neg_num,Int.natAbs_neg];exact hx.1,hx.2⟩
theorem QB.int {k:Nat} {n:Int} (h:n.natAbs≤2 ^ k):QB k (n:Rat):=⟨h,Nat.pow_pos (by omega)⟩
theorem zw {P:Program} {H0 hi:IH} {t:TypeId} {b o:Nat} (hb:b % 2=1∨b / 2<H0.n) (e:Ext H0 hi):load P hi t (ptr b o)=load P H0 t (ptr b o):=by
 have hr:hi.row b=H0.row b:=e.row (by omega)
 have hr' : ∀n,hi.rd b o n=H0.rd b o n:=fun n=>by simp only[IH.rd,hr]
 simp only[load,asAddr,ptr]
 cases bE P t with
 | none=>rfl
 | some c=>cases c<;>cases aJ P t<;>simp only[hr']
theorem aD {P:Program} {fr:Fr} {t:TypeId} {a:Operand} {b o:Nat} {H0 hi hj:IH} {v:Value} (ha:opd fr a=some (ptr b o)) (hb:b % 2=1∨b / 2<H0.n) (ei:Ext H0 hi) (ej:Ext H0 hj) (hv:load P H0 t (ptr b o)=some v):fP P fr (.load t a) hi hj=true :=
 aT ha ((zw hb ei).trans hv) ((zw hb ej).trans hv)
theorem ba {P:Program} {ops:List Oper} {tr:List (Fr×IH)} {e e':Nat×List Nat} {l:List (Nat×List Nat)} (h1:cK P ops tr [e]) (h2:cK P ops tr (e' :: l)):cK P ops tr (e :: e' :: l):=jQ h1 h2
theorem aX {P:Program} {ops:List Oper} {tr:List (Fr×IH)} {i p p':Nat} {l:List Nat} (h1:cK P ops tr [(i,[p])]) (h2:cK P ops tr [(i,p' :: l)]):cK P ops tr [(i,p :: p' :: l)]:=tD h1 h2
theorem iP (h:IH) (a b c:List Value) : ∃H0,H0=((h.new (.cells a 0 none)).new (.cells b 0 none)).new (.cells c 0 none)∧H0.n=h.n+3∧Ext h H0∧H0.ext.get h.n=some (.cells a 0 none)∧H0.ext.get (h.n+1)=some (.cells b 0 none)∧H0.ext.get (h.n+1+1)=some (.cells c 0 none) :=
 ⟨_,rfl,rfl,(((Ext.refl h).new _).new _).new _,(ar _ _ (by simp<;>omega)).trans ((ar _ _ (by simp<;>omega)).trans (ab _ _ rfl)),(ar _ _ (by simp<;>omega)).trans (ab _ _ rfl),ab _ _ rfl⟩
theorem iQ (h:IH) (a b:List Value) : ∃H0,H0=(h.new (.cells a 0 none)).new (.cells b 0 none)∧H0.n=h.n+2∧Ext h H0∧H0.ext.get h.n=some (.cells a 0 none)∧H0.ext.get (h.n+1)=some (.cells b 0 none) :=
 ⟨_,rfl,rfl,((Ext.refl h).new _).new _,(ar _ _ (by simp<;>omega)).trans (ab _ _ rfl),ab _ _ rfl⟩
theorem aj {h:IH} {b:Nat} {cs:List Value} {e:Nat} {f:Option Nat} (hg:h.ext.get b=some (.cells cs e f)):h.row (2*b)=some cs:=by rw[ji];simp only[IH.cells,hg]
theorem Ext.kept {a b:IH} (e:Ext a b) {k:Nat} {o:bR} (hk:k<a.n) (g:a.ext.get k=some o):b.ext.get k=some o:=(e.get k hk).trans g
theorem tkA (a s b t:Value):List.take 2 (List.drop 0 [a,s,b,t]) = [a,s]:=rfl
theorem tkB (a s b t:Value):List.take 2 (List.drop 2 [a,s,b,t]) = [b,t]:=rfl
theorem AA (a s:Value):List.take 2 (List.drop 0 [a,s]) = [a,s]:=rfl
theorem pJ (a s b t:Value):List.take 4 (List.drop 0 [a,s,b,t]) = [a,s,b,t]:=rfl
end Go.Id

namespace Go.Id
open Go
def YB (R:IH→Value→Rat→Prop) (h:IH):List Rat→List Value→Prop
 | [],cs=>cs = []
 | q :: l,cs => ∃a s b t cs',cs=a :: s :: b :: t :: cs'∧R h (.agg #[a,s,b,t]) q∧YB R h l cs'
def gF (l:List Rat):Rat:=l.foldl (· + ·) 0
theorem vj (l:List Rat) (q:Rat):gF (l ++ [q])=gF l+q:=by simp[gF]
theorem nG {α:Type} {l:List α} {i:Nat} {q:α} (h:l[i]?=some q):l.take (i+1)=l.take i ++ [q]:=by
 rw[List.take_add_one,h];rfl
theorem QB.zero:QB 0 (0:Rat):=⟨by simp,by simp⟩
theorem QB.gF {k:Nat} {l:List Rat} (h : ∀q∈l,QB k q) : ∀i,i≤l.length→QB (i*(k+1)) (gF (l.take i))
 | 0,_=>by rw[Nat.zero_mul];exact QB.zero
 | i+1,hi=>by
  obtain⟨q,hq⟩ : ∃q,l[i]?=some q:=⟨_,List.getElem?_eq_getElem (by omega)⟩
  rw[nG hq,vj]
  exact((QB.gF h i (by omega)).add (h q (List.mem_of_getElem? hq))).mono (by rw[Nat.add_mul];omega)
end Go.Id

namespace Go.Id
theorem dx {p : Prop} (h : p := by first | omega | (simp only [ax, ay]; omega) | decide +kernel | ((repeat first | rw [ax] | rw [ay]); all_goals fail) | fail) : p := h
end Go.Id

namespace Go.Id.B
def aE (ds:List Nat):Nat→Nat
 | 0=>0
 | k+1=>aE ds k+ds.getD k 0*18446744073709551616 ^ k
def au (ds:List Nat):Nat:=aE ds ds.length
def bH (ds:List Nat):Prop:=∀d∈ds,d<18446744073709551616
def Norm (ds:List Nat):Prop:=ds = []∨ds.getD (ds.length - 1) 0≠0
theorem bF {ds:List Nat} (h:bH ds) (k:Nat):ds.getD k 0<18446744073709551616:=by
 rw[List.getD_eq_getElem?_getD]
 cases hx:ds[k]? with
 | none=>simp
 | some x=>simpa using h x (List.mem_of_getElem? hx)
theorem cN {ds:List Nat} {k:Nat} (h:ds.length≤k):ds.getD k 0=0:=by
 rw[List.getD_eq_getElem?_getD,List.getElem?_eq_none h];rfl
theorem qe (k:Nat):0<18446744073709551616 ^ k:=Nat.pow_pos (by omega)
theorem gR {ds:List Nat} (h:bH ds) : ∀k,aE ds k<18446744073709551616 ^ k
 | 0=>by simp[aE]
 | k+1=>by
  have ih:=gR h k
  have hd:=bF h k
  have h2:ds.getD k 0*18446744073709551616 ^ k≤18446744073709551615*18446744073709551616 ^ k:=Nat.mul_le_mul_right _ (by omega)
  rw[aE,Nat.pow_succ]
  omega
theorem iA {ds:List Nat} : ∀{k:Nat},ds.length≤k→aE ds k=au ds
 | 0,h=>by
  have:ds = []:=List.length_eq_zero_iff.1 (by omega)
  subst this;rfl
 | k+1,h=>by
  by_cases hk:ds.length≤k
  ·rw[aE,iA hk,cN hk];simp
  ·have:ds.length=k+1:=by omega
   rw[au,this]
theorem fe {ds es:List Nat} : ∀{k:Nat},(∀j,j<k→ds.getD j 0=es.getD j 0)→aE ds k=aE es k
 | 0,_=>rfl
 | k+1,h=>by rw[aE,aE,fe fun j hj=>h j (by omega),h k (by omega)]
theorem iC {ds:List Nat} (h:bH ds):au ds<18446744073709551616 ^ ds.length:=gR h _
theorem bH.append {ds:List Nat} {x:Nat} (h:bH ds) (hx:x<18446744073709551616):bH (ds ++ [x]):=by
 intro d hd
 rcases List.mem_append.1 hd with h1|h1
 ·exact h d h1
 ·simp at h1;omega
theorem bH.take {ds:List Nat} (h:bH ds) (n:Nat):bH (ds.take n):=fun d hd=>h d (List.mem_of_mem_take hd)
theorem od (ds:List Nat) (n j:Nat):(ds.take n).getD j 0=if j<n then ds.getD j 0 else 0:=by
 simp only[List.getD_eq_getElem?_getD,List.getElem?_take]
 split<;>rfl
theorem jB (ds:List Nat) (m:Nat) : ∀k,(∀j,m≤j→j<m+k→ds.getD j 0=0)→aE ds (m+k)=aE ds m
 | 0,_=>rfl
 | k+1,h=>by
  rw[show m+(k+1)=(m+k)+1 from rfl,aE,jB ds m k (fun j a b=>h j a (by omega)),h (m+k) (by omega) (by omega)]
  simp
theorem u6 {ds:List Nat} {m:Nat} (hm:m≤ds.length) (h : ∀j,m≤j→ds.getD j 0=0):au (ds.take m)=au ds:=by
 have h1:(ds.take m).length=m:=by simp[hm]
 rw[au,h1]
 have h2:aE (ds.take m) m=aE ds m:=fe fun j hj=>by rw[od,if_pos hj]
 rw[h2]
 have:=jB ds m (ds.length - m) (fun j a _=>h j a)
 rw[show m+(ds.length - m)=ds.length from by omega] at this
 exact this.symm
theorem Norm.ge {ds:List Nat} (h:Norm ds) (hne:ds ≠ []):18446744073709551616 ^ (ds.length - 1)≤au ds:=by
 rcases h with h|h
 ·exact absurd h hne
 ·have hl:0<ds.length:=List.length_pos_iff.2 hne
  obtain⟨n,hn⟩ : ∃n,ds.length=n+1:=⟨ds.length - 1,by omega⟩
  rw[au,hn,aE]
  rw[hn] at h
  simp only[Nat.add_sub_cancel] at h ⊢
  have:1*18446744073709551616 ^ n≤ds.getD n 0*18446744073709551616 ^ n:=Nat.mul_le_mul_right _ (by omega)
  omega
theorem jI {a b:List Nat} (ha:bH a) (hb:Norm b) (hl:a.length<b.length):au a<au b:=by
 have h1:=iC ha
 have h2:=hb.ge (by intro h;subst h;simp at hl)
 have h3:18446744073709551616 ^ a.length≤18446744073709551616 ^ (b.length - 1):=Nat.pow_le_pow_right (by omega) (by omega)
 omega
theorem pR {a b:List Nat} (ha:bH a) {i:Nat} (hi:a.getD i 0<b.getD i 0) : ∀k,(∀j,i<j→j<i+1+k→a.getD j 0=b.getD j 0)→aE a (i+1+k)<aE b (i+1+k)
 | 0,_=>by
  have h1:=gR ha i
  have h2:(a.getD i 0+1)*18446744073709551616 ^ i≤b.getD i 0*18446744073709551616 ^ i:=Nat.mul_le_mul_right _ (by omega)
  rw[Nat.add_mul] at h2
  rw[Nat.add_zero,aE,aE]
  omega
 | k+1,h=>by
  have:=pR ha hi k (fun j x y=>h j x (by omega))
  rw[show i+1+(k+1)=(i+1+k)+1 from rfl,aE,aE,h (i+1+k) (by omega) (by omega)]
  omega
theorem jH {a b:List Nat} (ha:bH a) (hl:a.length=b.length) {i:Nat} (hn:i<a.length) (hi:a.getD i 0<b.getD i 0) (h : ∀j,i<j→j<a.length→a.getD j 0=b.getD j 0):au a<au b:=by
 have:=pR ha hi (a.length - (i+1)) (fun j x y=>h j x (by omega))
 rw[show i+1+(a.length - (i+1))=a.length from by omega] at this
 rw[au,au,←hl];exact this
theorem lz {a b:List Nat} (hl:a.length=b.length) (h : ∀j,j<a.length→a.getD j 0=b.getD j 0):au a=au b:=by
 rw[au,au,←hl];exact fe h
theorem Norm.jV {ds:List Nat} (h:Norm ds):au ds=0↔ds = []:=by
 constructor
 ·intro h0
  apply Classical.byContradiction;intro hne
  have:=h.ge hne
  have:=qe (ds.length - 1)
  omega
 ·rintro rfl;rfl
theorem Norm.iM {a b:List Nat} (ha:Norm a) (hb:bH b) (h:au a≤au b):a.length≤b.length:=by
 apply Classical.byContradiction;intro hn
 have:=jI hb ha (by omega)
 omega
theorem nC (d:Nat) (ds:List Nat) : ∀k,aE (d :: ds) (k+1)=d+18446744073709551616*aE ds k
 | 0=>by simp[aE]
 | k+1=>by
  rw[aE,nC d ds k,aE]
  simp only[List.getD_cons_succ,Nat.pow_succ]
  grind
theorem jD (d:Nat) (ds:List Nat):au (d :: ds)=d+18446744073709551616*au ds:=nC d ds _
theorem wO : ∀{a b:List Nat},bH a→bH b→Norm a→Norm b→au a=au b→a=b:=by
 intro a b ha hb na nb h
 have l1:=na.iM hb (by omega)
 have l2:=nb.iM ha (by omega)
 have hl:a.length=b.length:=by omega
 clear l1 l2 na nb
 induction a generalizing b with
 | nil=>exact(List.length_eq_zero_iff.1 hl.symm).symm
 | cons x a ih =>
  cases b with
  | nil=>simp at hl
  | cons y b =>
   rw[jD,jD] at h
   have hx:x<18446744073709551616:=ha x (by simp)
   have hy:y<18446744073709551616:=hb y (by simp)
   have e1:x=y:=by omega
   have e2:au a=au b:=by omega
   rw[e1,ih (b:=b) (fun d hd=>ha d (by simp[hd])) (fun d hd=>hb d (by simp[hd])) e2 (by simpa using hl)]
end Go.Id.B

namespace Go.Id.B
theorem cX {ds:List Nat} {k w:Nat} (hk:k<ds.length) (j:Nat):(ds.set k w).getD j 0=if j=k then w else ds.getD j 0:=by
 simp only[List.getD_eq_getElem?_getD,List.getElem?_set]
 by_cases h:k=j
 ·subst h;simp[hk]
 ·rw[if_neg h,if_neg (fun x=>h x.symm)]
theorem pT {ds:List Nat} {k w:Nat} (hk:k<ds.length) : ∀n,aE (ds.set k w) n+(if k<n then ds.getD k 0*18446744073709551616 ^ k else 0)=aE ds n+(if k<n then w*18446744073709551616 ^ k else 0)
 | 0=>by simp[aE]
 | n+1=>by
  have ih:=pT (w:=w) hk n
  rw[aE,aE,cX hk]
  by_cases h1:k<n
  ·rw[if_pos h1,if_pos h1] at ih
   rw[if_pos (show k<n+1 by omega),if_pos (show k<n+1 by omega),if_neg (show ¬n=k by omega)]
   omega
  ·rw[if_neg h1,if_neg h1] at ih
   by_cases h2:n=k
   ·subst h2
    rw[if_pos (Nat.lt_succ_self n),if_pos (Nat.lt_succ_self n),if_pos rfl]
    omega
   ·rw[if_neg (show ¬k<n+1 by omega),if_neg (show ¬k<n+1 by omega),if_neg h2]
    omega
theorem ig {ds:List Nat} {k:Nat} (w:Nat) (hk:k<ds.length):au (ds.set k w)+ds.getD k 0*18446744073709551616 ^ k=au ds+w*18446744073709551616 ^ k:=by
 have h:=pT (w:=w) hk ds.length
 rw[if_pos hk,if_pos hk] at h
 rw[au,au,List.length_set];exact h
theorem nB (m:Nat) : ∀n,aE (List.replicate m 0) n=0
 | 0=>rfl
 | n+1=>by
  rw[aE,nB m n]
  have:(List.replicate m 0).getD n 0=0:=by
   rw[List.getD_eq_getElem?_getD,List.getElem?_replicate];split<;>rfl
  rw[this];simp
theorem jC (m:Nat):au (List.replicate m 0)=0:=nB m _
theorem jK (m j:Nat):(List.replicate m 0).getD j 0=0:=by
 rw[List.getD_eq_getElem?_getD,List.getElem?_replicate];split<;>rfl
theorem bH.set {ds:List Nat} (h:bH ds) (k:Nat) {w:Nat} (hw:w<18446744073709551616):bH (ds.set k w):=by
 intro d hd
 rcases List.mem_or_eq_of_mem_set hd with h1|h1
 ·exact h d h1
 ·omega
theorem bH.bS (m:Nat):bH (List.replicate m 0):=by
 intro d hd
 rw[List.mem_replicate] at hd
 omega
theorem Norm.JX {ds:List Nat} (h:Norm ds) {m:Nat} (hs:au ds<18446744073709551616 ^ m):ds.length≤m:=by
 apply Classical.byContradiction;intro hn
 have hne:ds ≠ []:=by intro h0;subst h0;simp at hn
 have h1:=h.ge hne
 have h2:18446744073709551616 ^ m≤18446744073709551616 ^ (ds.length - 1):=Nat.pow_le_pow_right (by omega) (by omega)
 omega
end Go.Id.B
