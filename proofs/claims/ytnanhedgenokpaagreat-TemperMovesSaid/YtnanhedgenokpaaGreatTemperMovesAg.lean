/-
  The ideal machine: maps, builtins, and every operation that calls no function. The ideal machine: clear and cap on slices.
-/
import Derived.Test.YtnanhedgenokpaaGreatTemperMovesAf
set_option linter.unusedVariables false
set_option linter.unusedSimpArgs false
set_option linter.defProp false
set_option linter.deprecated false
namespace Go.Id
open Go Go.RowKit
theorem Rel.zJ {B:Nat} {w0:World} {m:Mp} {h:IH} {w:World} (R:Rel B w0 m h w) {k r s:Nat} {es:List (Value×Value)} (hk:mapOf h k=some es) (hm:m k=some (r,s)) :
  h.ext.get (k / 2)=some (.map es)∧2*(k / 2)=k ∧ ∃c,w.heap[r]?=some (.map c es.length)∧pg m es c:=by
 unfold mapOf at hk
 simp only[cond_eq_ite,beq_iff_eq] at hk
 by_cases hb:k % 2=1
 ·rw[if_pos hb] at hk;cases hk
 ·rw[if_neg hb] at hk
  have hkk:2*(k / 2)=k:=by omega
  cases hg:h.ext.get (k / 2) with
  | none=>simp[hg] at hk
  | some o =>
   rw[hg] at hk
   cases o with
   | map es' =>
    simp only at hk;cases hk
    obtain⟨_,c,h1,h2⟩:=R.obj (k / 2) _ r s hg (by rw[hkk];exact hm)
    exact⟨rfl,hkk,c,h1,h2⟩
   | _=>simp at hk
theorem run_getObj_map (P:Program) {w:World} {r:Nat} {c:Array MapEntry} {clock:Nat} (h:w.heap[r]?=some (.map c clock)):(getObj r).run P w=.ok (.map c clock) w:=by
 simp only[getObj,Sem.run,h]
theorem run_setObj_map (P:Program) {w:World} {r:Nat} {c:Array MapEntry} {clock:Nat} (h:w.heap[r]?=some (.map c clock)) (o:Obj):(Go.setObj r o).run P w=.ok () (World.put w r o):=by
 simp only[Go.setObj,Sem.run,h];rfl
def lG (kt et:TypeId) (k:Value) (ok:Bool) (c:Array MapEntry):Sem Value:=do
 Instr.checkKey c.isEmpty 10000 kt k
 let (v,ok') ←match ←Instr.findKey kt k c.toList with
  | some (_,v)=>pure (v,true)
  | none=>pure (←zeroValue et,false)
 pure (if ok then .tuple #[v,.bool ok'] else v)
theorem rM {m:Mp} (P:Program) (w:World) {kt et:TypeId} {k k' v:Value} {ok:Bool} {es:List (Value×Value)} {c:Array MapEntry} (hcm:pg m es c) (hk:aB m k k')
  (hl:(match sG P kt k es with
   | none=>none
   | some none=>match nF P et with
    | some z=>bif plain z then some (bif ok then Value.tuple #[z,.bool false] else z) else none
    | none=>none
   | some (some i)=>(es[i]?).map fun e=>bif ok then .tuple #[e.2,.bool true] else e.2)=some v) :
  ∃v',(lG kt et k' ok c).run P w=.ok v' w∧aB m v v':=by
 cases hf:sG P kt k es with
 | none=>simp[hf] at hl
 | some ri =>
  obtain⟨hp,hck,r',sC,hr',hat⟩:=zp hf hcm w
  have ek:=hk.eF hp
  subst ek
  simp only[hf] at hl
  cases ri with
  | none =>
   have hn:r'=none:=by cases r'<;>simp_all
   subst hn
   simp only at hl
   cases hz:nF P et with
   | none=>simp[hz] at hl
   | some z =>
    simp only[hz,cond_eq_ite] at hl
    by_cases hzp:plain z=true
    ·rw[if_pos hzp] at hl
     cases ok with
     | false =>
      simp only[Bool.false_eq_true,if_false] at hl;cases hl
      exact⟨_,by simp[lG,hck,sC,dK w hz],.bT hzp⟩
     | true =>
      simp only[if_true] at hl;cases hl
      exact⟨_,by simp[lG,hck,sC,dK w hz],aB.gE (.cons (.bT hzp) (.cons (.bP rfl) (.nil m)))⟩
    ·rw[if_neg hzp] at hl;cases hl
  | some i =>
   simp only at hl
   cases hei:es[i]? with
   | none=>simp[hei] at hl
   | some e =>
    simp only[hei,Option.map_some,cond_eq_ite] at hl
    obtain⟨x,hx⟩ : ∃x,r'=some (i,x):=by
     cases r' with
     | none=>simp at hr'
     | some p=>obtain⟨a,b⟩:=p;simp at hr';subst hr';exact⟨b,rfl⟩
    subst hx
    obtain⟨e',he',hev⟩:=hat i x rfl
    have hE:=hcm.2 i e e' hei he'
    have hv:aB m e.2 x:=by rw[←hev];exact hE.1.2.2
    cases ok with
    | false =>
     simp only[Bool.false_eq_true,if_false] at hl;cases hl
     exact⟨x,by simp[lG,hck,sC],hv⟩
    | true =>
     simp only[if_true] at hl;cases hl
     exact⟨.tuple #[x,.bool true],by simp[lG,hck,sC],aB.gE (.cons hv (.cons (.bP rfl) (.nil m)))⟩
theorem Rel.lookup {B:Nat} {w0:World} {m:Mp} {h:IH} {w:World} (R:Rel B w0 m h w) (P:Program) {mt:TypeId} {mv mv' k k' v:Value} {ok:Bool} (hl:lookup P h mt mv k ok=some v) (hmv:aB m mv mv') (hk:aB m k k') :
  ∃v',(Instr.lookup mt mv' k' ok).run P w=.ok v' w∧aB m v v':=by
 unfold Id.lookup at hl
 cases hu:P.underlying mt with
 | none=>simp[hu] at hl
 | some d =>
  rw[hu] at hl
  cases d with
  | map kt et =>
   simp only at hl
   cases hes:entriesOf h mv with
   | none=>rw[hes] at hl;cases hl
   | some es =>
    rw[hes] at hl
    simp only at hl
    unfold entriesOf at hes
    split at hes
    ·cases hes
     have:=hmv.dw rfl
     subst this
     obtain⟨v',h1,h2⟩:=rM P w (c:=#[]) ⟨rfl,by simp⟩ hk hl
     refine⟨v',?_,h2⟩
     rw[←h1]
     simp only[Instr.lookup,lG,Sem.run_bind,Go.run_underlying hu,Result.andThen_ok,Sem.run_pure]
     congr 1
    ·rename_i r
     cases hmv with
     | bP h=>simp[Id.bP] at h
     | map hm =>
      obtain⟨_,_,c,mE,hcm⟩:=R.zJ hes hm
      obtain⟨v',h1,h2⟩:=rM P w hcm hk hl
      refine⟨v',?_,h2⟩
      rw[←h1]
      simp only[Instr.lookup,lG,Sem.run_bind,Go.run_underlying hu,Result.andThen_ok,Sem.run_pure,run_getObj_map P mE]
      congr 1
    ·cases hes
  | _=>simp at hl
theorem Rel.mapUpdate {B:Nat} {w0:World} {m:Mp} {h h':IH} {w:World} (R:Rel B w0 m h w) (P:Program) {mt:TypeId} {mv mv' k k' v v':Value} (hl:mapUpdate P h mt mv k v=some h') (hmv:aB m mv mv') (hk:aB m k k') (hv:aB m v v') :
  ∃w',(Instr.mapUpdate mt mv' k' v').run P w=.ok () w'∧Rel B w0 m h' w'∧Step m h w m h' w':=by
 unfold Id.mapUpdate at hl
 split at hl
 ·rename_i kt et r hu
  cases hmv with
  | bP h=>simp[Id.bP] at h
  | @map _ r' s hm =>
   cases hes:mapOf h r with
   | none=>simp[hes] at hl
   | some es =>
    simp only[hes,cond_eq_ite] at hl
    obtain⟨hg,hrr,c,mE,hcm⟩:=R.zJ hes hm
    have hm':m (2*(r / 2))=some (r',s):=by rw[hrr];exact hm
    have hs0:s=0:=(R.obj (r / 2) _ r' s hg hm').1
    by_cases hck:EU (ar P (Instr.checkKey false 10000 kt k))=true
    ·rw[if_pos hck] at hl
     have SC : ∀w:World,(Instr.checkKey false 10000 kt k).run P w=.ok () w:=by
      cases hx:ar P (Instr.checkKey false 10000 kt k) with
      | none=>rw[hx] at hck;cases hck
      | some u=>exact iI P _ _ hx
     cases hf:sG P kt k es with
     | none=>simp[hf] at hl
     | some ri =>
      obtain⟨hp,_,r0,sC,hr0,hat⟩:=zp hf hcm w
      have ek:=hk.eF hp
      subst ek
      simp only[hf] at hl
      cases ri with
      | none =>
       simp only at hl;cases hl
       have hn:r0=none:=by cases r0<;>simp_all
       subst hn
       obtain⟨R1,S1⟩:=R.setObj hg rfl rfl hm' (o1:=.map (es ++ [(k',v)])) (o':=.map (c.push { key:=k',val:=v',born:=es.length }) (es.length+1)) rfl
        (fun w' z hw'=>⟨hs0,c.push { key:=k',val:=v',born:=es.length },by rw[hw',List.length_append];rfl,by simp[hcm.1],fun i e e' he he'=>by
         rw[Array.getElem?_push] at he'
         by_cases hi:i<es.length
         ·rw[List.getElem?_append_left hi] at he
          rw[if_neg (by have:=hcm.1;omega)] at he'
          exact hcm.2 i e e' he he'
         ·rw[List.getElem?_append_right (by omega)] at he
          have hi0:i - es.length=0:=by
           rcases Nat.eq_zero_or_pos (i - es.length) with h|h
           ·exact h
           ·rw[List.getElem?_eq_none (by simp;omega)] at he;cases he
          rw[hi0] at he;simp at he;subst he
          rw[if_pos (by have:=hcm.1;omega)] at he';cases he'
          exact⟨⟨rfl,hp,hv⟩,by show es.length=i;omega⟩⟩)
       refine⟨_,?_,R1,S1⟩
       simp[Instr.mapUpdate,Go.run_underlying hu,run_getObj_map P mE,SC,sC,run_setObj_map P mE]
      | some i =>
       simp only at hl
       cases hei:es[i]? with
       | none=>simp[hei] at hl
       | some e =>
        simp only[hei] at hl
        by_cases dS:Instr.sameBits 10000 e.1 k'=true
        ·rw[if_pos dS] at hl;cases hl
         obtain⟨x,hx⟩ : ∃x,r0=some (i,x):=by
          cases r0 with
          | none=>simp at hr0
          | some p=>obtain⟨a,b⟩:=p;simp at hr0;subst hr0;exact⟨b,rfl⟩
         subst hx
         obtain⟨e',he',_⟩:=hat i x rfl
         have hE:=hcm.2 i e e' hei he'
         have hil:i<es.length:=by
          rcases Nat.lt_or_ge i es.length with h|h
          ·exact h
          ·rw[List.getElem?_eq_none h] at hei;cases hei
         obtain⟨R1,S1⟩:=R.setObj hg rfl rfl hm' (o1:=.map (es.set i (k',v))) (o':=.map (c.modify i fun e => { e with key:=k',val:=v' }) es.length) rfl
          (fun w' z hw'=>⟨hs0,c.modify i fun e => { e with key:=k',val:=v' },by rw[hw',List.length_set],by simp[hcm.1],fun j a a' ha ha'=>by
           rw[Array.getElem?_modify] at ha'
           by_cases hj:i=j
           ·subst hj
            rw[List.getElem?_set_self (by simpa using hil)] at ha;cases ha
            simp only[if_true,he',Option.map_some,Option.some.injEq] at ha'
            subst ha'
            exact⟨⟨rfl,hp,hv⟩,hE.2⟩
           ·rw[List.getElem?_set_ne hj] at ha
            simp only[hj,if_false] at ha'
            exact hcm.2 j a a' ha ha'⟩)
         refine⟨_,?_,R1,S1⟩
         have hkt:(Instr.keyThatStays (((c[i]?).map (·.key)).getD k') k').run P w=.ok k' w:=by
          simp only[he',Option.map_some,Option.getD_some,Instr.keyThatStays,hE.1.1,dS,if_true,Sem.run_pure]
         simp[Instr.mapUpdate,Go.run_underlying hu,run_getObj_map P mE,SC,sC,hkt,run_setObj_map P mE]
        ·rw[if_neg dS] at hl;cases hl
    ·rw[if_neg hck] at hl;cases hl
 ·cases hl
theorem zo {P:Program} {m:Mp} {t:TypeId} {x y x' y':Value} {b:Bool} (h:sh P t x y=some b) (hx:aB m x x') (hy:aB m y y') (w:World):(Op.equal t x' y').run P w=.ok b w:=by
 unfold sh at h
 cases hu:P.underlying t with
 | none=>simp[hu] at h
 | some d =>
  simp only[hu] at h
  show(Op.equalIn (9999+1) t x' y').run P w=_
  generalize 9999=depth
  unfold qM at h
  split at h<;>cases h<;>cases hx<;>cases hy<;>first
   | (simp_all [Id.bP];done)
   | simp[Op.equalIn,Go.run_underlying hu]
end Go.Id

namespace Go.Id
open Go Go.RowKit
theorem aB.unit (m:Mp):aB m (.tuple #[]) (.tuple #[]):=.tuple rfl fun i v v' h=>by simp at h
theorem CK {z:List Value} {v:Value} : ∀{n:Nat},v∈bA n z→v∈z
 | 0,h=>by cases h
 | n+1,h=>by
  rw[bA,List.mem_append] at h
  rcases h with h|h
  ·exact h
  ·exact CK h
theorem vI (z:Array Value) (n:Nat) (hz:z.size≠0):(Builtin.zeroCells z n).toList=bA n z.toList:=by
 rw[←mZ z n hz]
 simp[Builtin.zeroCells]
theorem Rel.clear {B:Nat} {w0:World} {m:Mp} {h h':IH} {w:World} (R:Rel B w0 m h w) (P:Program) {ts:Array TypeId} {ty t:TypeId} {x x' v:Value}
  (h0:ts[0]?=some t) (hc:sY P h t x=some (v,h')) (hx:aB m x x') :
  ∃w',(Builtin.clear_ ts ty #[x']).run P w=.ok v w'∧aB m v v∧Rel B w0 m h' w'∧Step m h w m h' w':=by
 unfold sY at hc
 have e0 : ∀y:Value,(#[y]:Array Value)[0]?=some y:=fun _=>rfl
 cases hdt:P.underlying t with
 | none=>simp[hdt] at hc
 | some td =>
  rw[hdt] at hc
  cases td with
  | slice e =>
   split at hc
   ·cases hc
    obtain⟨rfl,rfl,rfl⟩:=hx.lX
    refine⟨w,?_,.unit m,R,Step.refl _ _ _⟩
    simp only[Builtin.clear_,h0,e0,Sem.run_bind,Go.run_underlying hdt,Result.andThen_ok,Sem.run_pure]
   ·rename_i h1 h2 b o dl dk he
    cases he
    have hdv : ∃r q cap a,x'=.slice (some a) dl cap∧(0<dk→m b=some (r,q)∧a=⟨r,q+o,none⟩)∧(dk=0→dl=0):=by
     rcases hx.dZ with⟨r,q,cap,hm,h1,_,_,_,_,rfl⟩|⟨hl,hk,a,cap,rfl⟩
     ·exact⟨r,q,cap,_,rfl,fun _=>⟨hm,rfl⟩,fun e=>by omega⟩
     ·subst hl;exact⟨0,0,cap,a,rfl,fun e=>by omega,fun _=>rfl⟩
    obtain⟨r,q,cap,a,rfl,qR,hzero⟩:=hdv
    simp only[cond_eq_ite,beq_iff_eq] at hc
    by_cases hn:dl=0
    ·rw[if_pos hn] at hc;cases hc
     subst hn
     refine⟨w,?_,.unit m,R,Step.refl _ _ _⟩
     simp only[Builtin.clear_,h0,e0,Sem.run_bind,Go.run_underlying hdt,Result.andThen_ok,Sem.run_pure]
    ·rw[if_neg hn] at hc
     cases hz:aE P e with
     | none=>simp[hz] at hc
     | some z =>
      simp only[hz] at hc
      by_cases dC:(z.isEmpty || !(z.all aG))=true
      ·rw[if_pos dC] at hc;cases hc
      rw[if_neg dC] at hc
      simp only[Bool.or_eq_true,not_or,Bool.not_eq_true,Bool.not_eq_false'] at dC
      obtain⟨h1w,hw1,hv1⟩:=Option.map_eq_some_iff.1 hc
      cases hv1
      obtain⟨zv,hz0,hzp,rfl⟩:=cP hz
      have hk:0<dk:=by
       rcases Nat.eq_zero_or_pos dk with e|e
       ·exact absurd (hzero e) hn
       ·exact e
      obtain⟨hm,rfl⟩:=qR hk
      have hL:bC m (bA dl zv.cells.toList) (bA dl zv.cells.toList):=bC.bA (aB.bT (m:=m) hzp).cells dl
      obtain⟨w',hr1,R1,S1⟩:=R.wr hw1 hm hL (fun v hv=>List.all_eq_true.1 dC.2 v (CK hv)) P
      have hsz:zv.cells.size≠0:=by
       intro e
       have:zv.cells.toList = []:=List.eq_nil_of_length_eq_zero (by rw[Array.length_toList];exact e)
       rw[this] at dC;simp at dC
      rw[←vI _ _ hsz] at hr1
      refine⟨w',?_,.unit m,R1,S1⟩
      obtain⟨n,rfl⟩ : ∃n,dl=n+1:=⟨dl - 1,by omega⟩
      simp only[Builtin.clear_,h0,e0,Sem.run_bind,Go.run_underlying hdt,Result.andThen_ok,dK w hz0,hr1,Sem.run_pure]
   ·cases hc
  | _=>simp at hc
theorem Rel.cap {m:Mp} {w:World} (P:Program) {ts:Array TypeId} {ty t:TypeId} {x x' v:Value} (h0:ts[0]?=some t) (hc:QO P t x=some v) (hx:aB m x x') :
  (Builtin.cap_ ts ty #[x']).run P w=.ok v w∧plain v=true:=by
 unfold QO at hc
 have e0 : ∀y:Value,(#[y]:Array Value)[0]?=some y:=fun _=>rfl
 cases hdt:P.underlying t with
 | none=>simp[hdt] at hc
 | some td =>
  rw[hdt] at hc
  cases td with
  | slice e =>
   split at hc
   ·cases hc
    obtain⟨rfl,rfl,rfl⟩:=hx.lX
    refine⟨?_,rfl⟩
    simp only[Builtin.cap_,h0,e0,Sem.run_bind,Go.run_underlying hdt,Result.andThen_ok,Sem.run_pure]
    rfl
   ·rename_i h1 h2 b o dl dk he
    cases he
    simp only[cond_eq_ite,beq_iff_eq] at hc
    by_cases hn:dk % 2=1
    ·rw[if_pos hn] at hc;cases hc
     rcases hx.dZ with⟨r,q,cap,hm,h3,h4,h5,h6,h7,rfl⟩|⟨hl,hk,a,cap,rfl⟩
     ·refine⟨?_,rfl⟩
      simp only[Builtin.cap_,h0,e0,Sem.run_bind,Go.run_underlying hdt,Result.andThen_ok,Sem.run_pure,h6 hn]
      rfl
     ·omega
    ·rw[if_neg hn] at hc;cases hc
   ·cases hc
  | _=>simp at hc
end Go.Id

namespace Go.Id
open Go Go.RowKit
theorem uU (z:Array Value) (n:Nat) (hz:z.size≠0):Builtin.zeroCells z n=(bA n z.toList).toArray:=by
 rw[←mZ z n hz]
 rfl
theorem tz (P:Program) (w:World) (ts:Array TypeId) (ty:TypeId) (st xt elem:TypeId) (ik k:IntKind) (size bytes:Nat) (z:Value) (n:Nat)
  (h0:ts[0]?=some st) (h1:ts[1]?=some xt) (hst:P.underlying st=some (.slice elem)) (hxt:P.underlying xt=some (.int ik)) (hsz:aP P elem=some size) (hby:jD P elem=some bytes) (hz:nF P elem=some z)
  (hn:0<n) (hs0:0<size) (hzs:z.cells.size=size) (hb:bytes≤65536) (ji:n*(bytes+1)≤aX) :
  ∃d ir rest,(Builtin.append_ ts ty #[.slice none 0 0,.int k n]).run P w=.ok (.slice (some ⟨w.heap.size,0,none⟩) n ir) ((({ w with drawn:=d }:World)).alloc (.cells (bA n z.cells.toList ++ rest).toArray elem))∧n≤ir∧rest.length=(ir - n)*z.cells.size:=by
 unfold jD at hby
 obtain⟨i,hi,hib⟩:=Option.map_eq_some_iff.1 hby
 have sD : ¬(0+n≤0):=by omega
 have hN:=nextslicecap_le (0+n) 0 (by omega)
 have h4:n*(bytes+1)=n*bytes+n:=by rw[Nat.mul_add,Nat.mul_one]
 have Ld : ¬(Builtin.nextslicecap (0+n) 0*bytes > 2 ^ 48):=by
  have h2:Builtin.nextslicecap (0+n) 0*bytes≤(2*(0+n)+1024)*bytes:=Nat.mul_le_mul_right _ hN
  have h3:(2*(0+n)+1024)*bytes=2*(n*bytes)+1024*bytes:=by rw[Nat.zero_add,Nat.add_mul,Nat.mul_assoc]
  unfold aX at ji
  omega
 have Qv : ¬((0+n:Nat):Int) > IntKind.i64.max:=by
  unfold aX at ji
  have e:IntKind.i64.max=9223372036854775807:=by decide
  rw[e];omega
 have R7:IntKind.i64.wrap (n:Int)=(n:Int):=qD n (by unfold aX at ji;omega)
 let q:=Question.appendCap n 0 elem
 have Qy:n≤q.cut (w.tape w.drawn q):=Nat.le_add_right _ _
 refine⟨w.drawn+1,q.cut (w.tape w.drawn q),(Builtin.zeroCells z.cells (q.cut (w.tape w.drawn q) - n)).toList,?_,Qy,by simp[Builtin.zeroCells]⟩
 have e0:(#[Value.slice none 0 0,Value.int k n]:Array Value)[0]?=some (.slice none 0 0):=rfl
 have e1:(#[Value.slice none 0 0,Value.int k n]:Array Value)[1]?=some (.int k n):=rfl
 have hl0 : ¬((n:Int)<0):=by omega
 have hl1 : ¬((n:Int)*(bytes:Int) > 2 ^ 48):=by
  have:(n:Int)*(bytes:Int)=((n*bytes:Nat):Int):=by simp
  rw[this]
  unfold aX at ji
  omega
 have hns : ¬(n*size=0):=by
  have:=Nat.mul_pos hn hs0
  omega
 have hold : ∀d,(Builtin.firstCells size 0 (.slice none 0 0)).run P { w with drawn:=d }=.ok #[] { w with drawn:=d }:=fun d=>rfl
 simp only[Builtin.append_,h0,h1,e0,e1,Sem.run_bind,Go.run_underlying hst,Result.andThen_ok,bJ w hsz,Go.run_underlying hxt,Sem.run_pure,asInt,asIntOf,R7,if_true,if_neg hl0,run_typeInfo w hi,hib,if_neg hl1,Int.toNat_natCast,sD,if_false,true_or]
 rw[if_neg (fun h=>Qv h.1)]
 simp only[Sem.run_bind,run_typeInfo w hi,hib,Result.andThen_ok]
 rw[if_neg Ld]
 simp only[Sem.run_bind,run_typeInfo _ hi,Result.andThen_ok,run_choose,Question.forced,Bool.false_eq_true,if_false,run_askRoom,hold,Bool.not_true,if_neg hns,dK _ hz,Sem.run_pure,Go.newRow,run_newObj,Nat.zero_add,uU z.cells n (by omega)]
 have QI : ∀Z:Array Value,(#[]:Array Value) ++ (bA n z.cells.toList).toArray ++ Z=(bA n z.cells.toList ++ Z.toList).toArray:=fun Z=>by rw[←Array.toList_inj];simp
 rw[QI]
 rfl
theorem Rel.nB {B:Nat} {w0:World} {m:Mp} {h h':IH} {w:World} (R:Rel B w0 m h w) (P:Program) {ts:Array TypeId} {ty st xt:TypeId} {ik:IntKind} {s s' x x' v:Value}
  (h0:ts[0]?=some st) (h1:ts[1]?=some xt) (hxt:P.underlying xt=some (.int ik)) (ha:nB P h st s x=some (v,h')) (hs:aB m s s') (hx:aB m x x') (cg:fy m h.n h'.n) :
  ∃v' m' w',(Builtin.append_ ts ty #[s',x']).run P w=.ok v' w'∧aB m' v v'∧Rel B w0 m' h' w'∧Step m h w m' h' w':=by
 unfold Id.nB at ha
 cases hst:P.underlying st with
 | none=>simp[hst] at ha
 | some d =>
  rw[hst] at ha
  cases d with
  | slice elem =>
   cases hsz:aP P elem with
   | none=>simp[hsz] at ha
   | some size =>
   cases hby:jD P elem with
   | none=>simp[hsz,hby] at ha
   | some bytes =>
   cases hz:aE P elem with
   | none=>simp[hsz,hby,hz] at ha
   | some zs =>
   cases hn:jX x aX with
   | none=>simp[hsz,hby,hz,hn] at ha
   | some n =>
   obtain⟨z,hz0,hzp,rfl⟩:=cP hz
   obtain⟨k,rfl,hn1⟩:=iv hn hx
   simp only[hsz,hby,hz,hn,cond_eq_ite] at ha
   split at ha
   ·rename_i a c
    split at ha
    ·rename_i hc
     cases ha
     simp only[Bool.and_eq_true,beq_iff_eq,Nat.ble_eq,Nat.blt_eq] at hc
     obtain⟨⟨⟨⟨rfl,rfl⟩,hn0,hs0⟩,Fv,hzl⟩,dC,ji⟩:=hc
     obtain⟨_,_,rfl⟩:=hs.lX
     have hzs:z.cells.size=size:=by simpa using hzl
     obtain⟨d,ir,rest,bf,sD,oP⟩:=tz P w ts ty st xt elem ik k size bytes z n h0 h1 hst hxt hsz hby hz0 hn0 hs0 hzs Fv ji
     have hm0:m (2*h.n)=none:=cg h.n (Nat.le_refl _) (Nat.lt_succ_self _)
     have hL:bC m (bA n z.cells.toList) (bA n z.cells.toList):=bC.bA (aB.bT (m:=m) hzp).cells n
     have hlen:(bA n z.cells.toList).length=n*size:=by rw[lV,hzl]
     have GV:Rel B w0 m h { w with drawn:=d }:=R.congr rfl (jE R.below d)
     obtain⟨R1,S1⟩:=GV.new (.cells (bA n z.cells.toList) size none) (.cells (bA n z.cells.toList ++ rest).toArray elem) (size,(bA n z.cells.toList ++ rest).length) hm0
      ⟨(bA n z.cells.toList ++ rest).toArray,elem,by rw[heap_alloc,if_pos rfl],⟨by simp,fun i v hi=>by
       obtain⟨v',a,b⟩:=hL.get hi
       refine⟨v',?_,b⟩
       have hi':i<(bA n z.cells.toList).length:=by
        rcases Nat.lt_or_ge i (bA n z.cells.toList).length with h|h
        ·exact h
        ·rw[List.getElem?_eq_none h] at a;cases a
       simp only[List.getElem?_toArray,Nat.zero_add]
       rw[List.getElem?_append_left hi'];exact a⟩,rfl,by simp⟩ rfl
     refine⟨_,_,_,bf,?_,R1,S1.congr rfl⟩
     exact aB.slice (m:=m.upd (2*h.n) (w.heap.size,0) (size,(bA n z.cells.toList ++ rest).length)) (b:=2*h.n) (o:=0) (r:=w.heap.size) (s:=0) (len:=n) (k:=2*n) (cap:=ir) (Mp.aW _ _ _ _) (by omega) (by omega) (by omega) (by omega) (by intro _;rw[Mp.kP];simp only[List.length_append,oP,hlen,hzs];rw[←Nat.add_mul];simp only[Nat.zero_add];exact Nat.mul_le_mul_right _ (by omega))
    ·cases ha
   ·cases ha
  | _=>simp at ha
end Go.Id

namespace Go.Id
open Go Go.RowKit
theorem oF {m:Mp} {fr:Fr} {ρ:Operand→Value} (hρ : ∀x v,opd fr x=some v→aB m v (ρ x)) : ∀(l:List Operand) (vs:List Value),jV fr l=some vs→bC m vs (l.map ρ)
 | [],vs,h=>by simp only[jV] at h;cases h;exact .nil m
 | x :: l,vs,h=>by
  rw[jV] at h
  cases hx:opd fr x with
  | none=>simp[hx] at h
  | some v =>
   cases hl:jV fr l with
   | none=>simp[hx,hl] at h
   | some vs' =>
    simp only[hx,hl] at h;cases h
    exact .cons (hρ x v hx) (oF hρ l vs' hl)
theorem qL {m:Mp} {fr:Fr} {ρ:Operand→Value} (hρ : ∀x v,opd fr x=some v→aB m v (ρ x)) {o:Option Operand} {v:Option Value} (h:fm fr o=some v):gv m v (o.map ρ):=by
 cases o with
 | none=>simp only[fm] at h;cases h;trivial
 | some x =>
  simp only[fm] at h
  obtain⟨u,hu,rfl⟩:=Option.map_eq_some_iff.1 h
  exact hρ x u hu
theorem HZ {P:Program} {m:Mp} {op:BinOp} {t:TypeId} {ox oy:Operand} {x y x' y' v:Value} (h:binop P op t ox oy x y=some v) (hx:aB m x x') (hy:aB m y y') (w:World) :
  (do eqGuard op t ox oy x' y';Go.binOp op t x' y':Sem Value).run P w=.ok v w∧plain v=true:=by
 unfold binop at h
 simp only[cond_eq_ite] at h
 by_cases hp:(plain x && plain y)=true
 ·rw[if_pos hp] at h
  simp only[Bool.and_eq_true] at hp
  rw[hx.eF hp.1,hy.eF hp.2]
  obtain⟨a,b⟩:=fZ h
  exact⟨b w,a⟩
 ·rw[if_neg hp] at h
  have guard : ∀(op:BinOp) {b:Bool},sh P t x y=some b→(eqGuard op t ox oy x' y').run P w=.ok () w:=by
   intro op b hb
   have hd : ∃d,qM d x y=some b:=by
    unfold sh at hb
    split at hb
    ·exact⟨_,hb⟩
    ·cases hb
   obtain⟨d,hd⟩:=hd
   unfold qM at hd
   split at hd<;>cases hd<;>cases hx<;>cases hy<;>first
    | (simp_all [Id.bP];done)
    | (unfold eqGuard;split<;>rfl)
  have O1 : ∀{b:Bool},sh P t x y=some b→(∀o,Go.binOp .eql t x' y'=(do pure (.bool (←Op.equal t x' y')))∨o)∧(∀o,Go.binOp .neq t x' y'=(do pure (.bool (!(←Op.equal t x' y'))))∨o):=by
   intro b hb
   have hd : ∃d,qM d x y=some b:=by
    unfold sh at hb
    split at hb
    ·exact⟨_,hb⟩
    ·cases hb
   obtain⟨d,hd⟩:=hd
   unfold qM at hd
   split at hd<;>cases hd<;>cases hx<;>cases hy<;>first
    | (simp_all [Id.bP];done)
    | exact⟨fun _=>.inl rfl,fun _=>.inl rfl⟩
  cases op with
  | eql =>
   simp only at h
   obtain⟨b,hb,rfl⟩:=Option.map_eq_some_iff.1 h
   refine⟨?_,rfl⟩
   have e:=((O1 hb).1 False).resolve_right id
   simp[guard _ hb,e,zo hb hx hy w]
  | neq =>
   simp only at h
   obtain⟨b,hb,rfl⟩:=Option.map_eq_some_iff.1 h
   refine⟨?_,rfl⟩
   have e:=((O1 hb).2 False).resolve_right id
   simp[guard _ hb,e,zo hb hx hy w]
  | _=>cases h
theorem Rel.nT {B:Nat} {w0:World} {m:Mp} {h:IH} {w:World} (R:Rel B w0 m h w) (P:Program) {t:TypeId} {ts:Array TypeId} {ty:TypeId} {x x' v:Value} (hl:nT P h t x=some v) (ht:ts[0]?=some t) (hx:aB m x x') :
  (Builtin.len_ ts ty #[x']).run P w=.ok v w∧plain v=true:=by
 unfold Id.nT at hl
 have e0:(#[x']:Array Value)[0]?=some x':=rfl
 split at hl
 ·rename_i hu;cases hl
  have:=hx.dw rfl;subst this
  exact⟨by simp[Builtin.len_,ht,Go.run_underlying hu,goInt],rfl⟩
 ·rename_i n e hu;cases hl
  exact⟨by simp[Builtin.len_,ht,Go.run_underlying hu,goInt],rfl⟩
 ·rename_i a hu
  split at hl
  ·rename_i n e hu2;cases hl
   exact⟨by simp[Builtin.len_,ht,Go.run_underlying hu,Go.run_underlying hu2,goInt],rfl⟩
  ·cases hl
 ·rename_i e a n c hu;cases hl
  obtain⟨a',c',rfl⟩:=tK hx (show Id.lenOf (.slice a n c)=some n from rfl)
  exact⟨by simp[Builtin.len_,ht,Go.run_underlying hu,goInt],rfl⟩
 ·rename_i k e hu;cases hl
  have:=hx.dw rfl;subst this
  exact⟨by simp[Builtin.len_,ht,Go.run_underlying hu,goInt],rfl⟩
 ·rename_i k e r hu
  obtain⟨es,hes,rfl⟩:=Option.map_eq_some_iff.1 hl
  cases hx with
  | bP h=>simp[Id.bP] at h
  | map hm =>
   obtain⟨_,_,c,mE,hcm⟩:=R.zJ hes hm
   exact⟨by simp[Builtin.len_,ht,Go.run_underlying hu,run_getObj_map P mE,goInt,hcm.1],rfl⟩
 ·cases hl
theorem MA {m:Mp} {x:Value} {vs':Array Value} (hv:bC m [x] vs'.toList) : ∃x',vs' = #[x']∧aB m x x':=by
 obtain⟨l⟩:=vs'
 match l,hv with
 | [x'],hv=>exact⟨x',rfl,hv.2 0 x x' rfl rfl⟩
 | [],hv=>have:=hv.1;simp at this
 | _ :: _ :: _,hv=>have:=hv.1;simp at this
theorem PC {m:Mp} {x y:Value} {vs':Array Value} (hv:bC m [x,y] vs'.toList) : ∃x' y',vs' = #[x',y']∧aB m x x'∧aB m y y':=by
 obtain⟨l⟩:=vs'
 match l,hv with
 | [x',y'],hv=>exact⟨x',y',rfl,hv.2 0 x x' rfl rfl,hv.2 1 y y' rfl rfl⟩
 | [],hv=>have:=hv.1;simp at this
 | [_],hv=>have:=hv.1;simp at this
 | _ :: _ :: _ :: _,hv=>have:=hv.1;simp at this
theorem bC.eF {m:Mp} : ∀{l l':List Value},bC m l l'→l.all plain=true→l'=l
 | [],[],_,_=>rfl
 | [],_ :: _,h,_=>by have:=h.1;simp at this
 | _ :: _,[],h,_=>by have:=h.1;simp at this
 | a :: l,b :: l',h,hp=>by
  simp only[List.all_cons,Bool.and_eq_true] at hp
  rw[(h.2 0 a b rfl rfl).eF hp.1,bC.eF (l:=l) (l':=l') ⟨by have:=h.1;simpa using this,fun i v v' x y=>h.2 (i+1) v v' (by simpa using x) (by simpa using y)⟩ hp.2]
theorem Rel.builtin {B:Nat} {w0:World} {m:Mp} {h h':IH} {w:World} (R:Rel B w0 m h w) (P:Program) {b:Builtin} {ts:Array TypeId} {ty:TypeId} {consts:Array Bool} {vs:List Value} {vs':Array Value} {v:Value}
  (hb:Id.builtin P h b ts vs=some (v,h')) (hv:bC m vs vs'.toList) (cg:fy m h.n h'.n) :
  DZ B w0 m h w ((Go.builtin b ts ty consts vs').run P w) v h':=by
 unfold Id.builtin at hb
 split at hb
 ·-- len
  rename_i x
  obtain⟨x',rfl,hx⟩:=MA hv
  cases hts:ts[0]? with
  | none=>simp[hts] at hb
  | some t =>
   simp only[hts] at hb
   obtain⟨u,hu,he⟩:=Option.map_eq_some_iff.1 hb
   cases he
   obtain⟨h1,h2⟩:=R.nT P (ty:=ty) hu hts hx
   exact .quiet R (by simp[Go.builtin,h1]) (.bT h2)
 ·-- append
  rename_i s x
  obtain⟨s',x',rfl,hs,hx⟩:=PC hv
  simp only[cond_eq_ite] at hb
  by_cases hsl:cX P ts[1]?=true
  ·rw[if_pos hsl] at hb
   cases hts:ts[0]? with
   | none=>simp[hts] at hb
   | some st =>
    simp only[hts] at hb
    have hxt : ∃xt xe,ts[1]?=some xt∧P.underlying xt=some (.slice xe):=by
     unfold cX at hsl
     split at hsl
     ·rename_i xt h1
      split at hsl
      ·rename_i xe h2;exact⟨xt,xe,h1,h2⟩
      ·cases hsl
     ·cases hsl
    obtain⟨xt,xe,h1,h2⟩:=hxt
    obtain⟨v',m',w',hr,a,b,c⟩:=R.append P (ty:=ty) hts h1 h2 hb hs hx cg
    exact⟨_,v',m',w',by simp[Go.builtin,hr],.inl rfl,a,b,c⟩
  ·rw[if_neg hsl] at hb
   by_cases hil:Fi P ts[1]?=true
   ·rw[if_pos hil] at hb
    cases hts:ts[0]? with
    | none=>simp[hts] at hb
    | some st =>
     simp only[hts] at hb
     have hxt : ∃xt ik,ts[1]?=some xt∧P.underlying xt=some (.int ik):=by
      unfold Fi at hil
      split at hil
      ·rename_i xt h1
       split at hil
       ·rename_i ik h2;exact⟨xt,ik,h1,h2⟩
       ·cases hil
      ·cases hil
     obtain⟨xt,ik,h1,h2⟩:=hxt
     obtain⟨v',m',w',hr,a,b,c⟩:=R.nB P (ty:=ty) hts h1 h2 hb hs hx cg
     exact⟨_,v',m',w',by simp[Go.builtin,hr],.inl rfl,a,b,c⟩
   ·rw[if_neg hil] at hb;cases hb
 ·-- copy
  rename_i d s
  obtain⟨d',s',rfl,hd,hs⟩:=PC hv
  cases hts:ts[0]? with
  | none=>simp[hts] at hb
  | some dt =>
   simp only[hts] at hb
   obtain⟨w',hr,a,b,c⟩:=R.copy P (ty:=ty) hts hb hd hs
   exact⟨_,_,m,w',by simp[Go.builtin,hr],.inl rfl,a,b,c⟩
 ·-- clear
  rename_i x
  obtain⟨x',rfl,hx⟩:=MA hv
  cases hts:ts[0]? with
  | none=>simp[hts] at hb
  | some t =>
   simp only[hts] at hb
   obtain⟨w',hr,a,b,c⟩:=R.clear P (ty:=ty) hts hb hx
   exact⟨_,_,m,w',by simp[Go.builtin,hr],.inl rfl,a,b,c⟩
 ·-- cap
  rename_i x
  obtain⟨x',rfl,hx⟩:=MA hv
  cases hts:ts[0]? with
  | none=>simp[hts] at hb
  | some t =>
   simp only[hts] at hb
   obtain⟨u,hu,he⟩:=Option.map_eq_some_iff.1 hb
   cases he
   obtain⟨h1,h2⟩:=Rel.cap (w:=w) P (ty:=ty) hts hu hx
   exact .quiet R (by simp[Go.builtin,h1]) (.bT h2)
 ·simp only[cond_eq_ite] at hb
  by_cases hp:vs.all plain=true
  ·rw[if_pos hp] at hb
   obtain⟨u,hu,he⟩:=Option.map_eq_some_iff.1 hb
   cases he
   obtain⟨h1,h2⟩:=fZ hu
   have e:vs'=vs.toArray:=by rw[←hv.eF hp]
   subst e
   exact .quiet R (by simp only[Go.builtin,Sem.run_bind];rw[show(Builtin.max_ ts ty vs.toArray)=(Builtin.max_ ts 0 vs.toArray) from rfl,h2 w];rfl) (.bT h1)
  ·rw[if_neg hp] at hb;cases hb
 ·simp only[cond_eq_ite] at hb
  by_cases hp:vs.all plain=true
  ·rw[if_pos hp] at hb
   obtain⟨u,hu,he⟩:=Option.map_eq_some_iff.1 hb
   cases he
   obtain⟨h1,h2⟩:=fZ hu
   have e:vs'=vs.toArray:=by rw[←hv.eF hp]
   subst e
   exact .quiet R (by simp only[Go.builtin,Sem.run_bind];rw[show(Builtin.min_ ts ty vs.toArray)=(Builtin.min_ ts 0 vs.toArray) from rfl,h2 w];rfl) (.bT h1)
  ·rw[if_neg hp] at hb;cases hb
 ·cases hb
end Go.Id
