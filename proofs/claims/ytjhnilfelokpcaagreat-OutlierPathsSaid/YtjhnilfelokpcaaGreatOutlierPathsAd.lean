/-
  The ideal machine: append and copy. The ideal machine: the other operations, first part: parts, slices, makes.
-/
import Derived.Test.YtjhnilfelokpcaaGreatOutlierPathsAc
import Derived.Laws.Tables
set_option linter.unusedVariables false
set_option linter.unusedSimpArgs false
set_option linter.defProp false
set_option linter.deprecated false
namespace Go.Id
open Go Go.RowKit
theorem Rel.congr {B:Nat} {w0:World} {m:Mp} {h:IH} {w w':World} (R:Rel B w0 m h w) (hh:w'.heap=w.heap) (hb:Below B w0 w'):Rel B w0 m h w' :=
 ⟨hb,by rw[hh];exact R.size,fun b cs hx=>let ⟨r0,s0,m0,a,c,el,fz,d,e⟩:=R.base b cs hx;⟨r0,s0,m0,a,c,el,fz,by rw[hh];exact d,e⟩,R.odd,fun k r s hk=>by rw[hh];exact R.even k r s hk,R.dom,
  fun k o r s a b=>(R.obj k o r s a b).mono (Mp.le_refl m) (by rw[hh]) rfl,R.own,R.de,R.fam,R.long,R.whole⟩
theorem Step.congr {m m':Mp} {h h':IH} {w w1 w':World} (S:Step m h w1 m' h' w') (hh:w1.heap=w.heap):Step m h w m' h' w' :=
 ⟨S.le,S.new,S.n,S.base,fun r hr hk=>by rw[S.frame r (by rw[hh];exact hr) hk,hh],S.idle,by rw[←hh];exact S.size,fun k r s a b c=>by rw[←hh];exact S.img k r s a b c,S.mP⟩
theorem jO {B:Nat} {w0 w:World} (h:Below B w0 w) (d:Nat):Below B w0 { w with drawn:=d }:=⟨h.os,h.tape,h.output,h.size,h.block⟩
theorem aC.dA {m:Mp} {b o len k:Nat} {v':Value} (h:aC m (.slice (some ⟨b,o,none⟩) len k) v') :
  (∃r s cap,m b=some (r,s)∧0<k∧len≤k / 2∧k / 2≤cap∧(k % 2=1→cap=k / 2)∧(k % 2=0→s+o+cap*(m.ez b).1≤(m.ez b).2)∧v'=.slice (some ⟨r,s+o,none⟩) len cap)∨(len=0∧k=0 ∧ ∃a cap,v'=.slice (some a) 0 cap):=by
 cases h with
 | bJ h=>simp[Id.bJ] at h
 | slice hm a b c d e=>exact .inl ⟨_,_,_,hm,a,b,c,d,e,rfl⟩
 | lost=>exact .inr ⟨rfl,rfl,_,_,rfl⟩
theorem aC.kU {m:Mp} {n c:Nat} {v':Value} (h:aC m (.slice none n c) v'):n=0∧c=0∧v'=.slice none 0 0:=by
 cases h with
 | bJ h=>simp[Id.bJ] at h;obtain⟨rfl,rfl⟩:=h;exact⟨rfl,rfl,rfl⟩
theorem vE {m:Mp} {x x':Value} {n:Nat} (h:aC m x x') (hn:Id.lenOf x=some n) : ∃a c,x'=.slice a n c:=by
 cases h with
 | bJ h =>
  unfold Id.lenOf at hn
  split at hn
  ·cases hn;exact⟨_,_,rfl⟩
  ·cases hn
 | tok=>simp only[Id.lenOf] at hn;cases hn;exact⟨_,_,rfl⟩
 | slice=>simp only[Id.lenOf] at hn;cases hn;exact⟨_,_,rfl⟩
 | lost=>simp only[Id.lenOf] at hn;cases hn;exact⟨_,_,rfl⟩
 | _=>simp[Id.lenOf] at hn
theorem Gx {w w2:World} (hh:w2.heap=w.heap) (a:Addr):w2.cell? a=w.cell? a:=by unfold World.cell?;rw[hh]
theorem Rel.first {B:Nat} {w0:World} {m:Mp} {h:IH} {w:World} (R:Rel B w0 m h w) (P:Program) {size n:Nat} {x x':Value} {cs:List Value} (hx:aC m x x') (hf:bN h size n x=some cs) :
  ∃cs',(∀w2:World,w2.heap=w.heap→(Builtin.firstCells size n x').run P w2=.ok cs'.toArray w2)∧bz m cs cs'∧(x=.slice none 0 0∨cs.length=n*size):=by
 unfold bN at hf
 split at hf
 ·cases hf
  obtain⟨rfl,rfl,rfl⟩:=hx.kU
  exact⟨[],fun _ _=>rfl,.nil m,.inl rfl⟩
 ·rename_i b o len k
  simp only[cond_eq_ite,Nat.ble_eq,beq_iff_eq] at hf
  by_cases hn:n≤len
  ·rw[if_pos hn] at hf
   by_cases h0:n*size=0
   ·rw[if_pos h0] at hf;cases hf
    refine⟨[],fun w2 _=>?_,.nil m,.inr (by simp[h0])⟩
    rcases hx.dA with⟨r,s,cap,_,_,_,_,_,_,rfl⟩|⟨_,_,a,cap,rfl⟩
    ·simp only[Builtin.firstCells,h0];rfl
    ·simp only[Builtin.firstCells,h0];rfl
   ·rw[if_neg h0] at hf
    rcases hx.dA with⟨r,s,cap,hm,_,_,_,_,_,rfl⟩|⟨hl,_,_⟩
    ·obtain⟨cs',hL,hlen,hc⟩:=R.rd hf hm
     refine⟨cs',fun w2 hh=>?_,hL,.inr hlen⟩
     show(loadCells ⟨r,s+o,none⟩ (n*size)).run P w2=_
     rw[show n*size=cs'.length from by rw[←hlen];exact hL.1]
     exact run_loadCells_list w2 _ cs' (fun j v hv=>by rw[Gx hh];exact hc j v hv)
    ·exfalso;apply h0;rw[show n=0 by omega];simp
  ·simp[hn] at hf
 ·cases hf
theorem BV (zm:Nat) : ∀(rounds c:Nat),Builtin.growBy zm rounds c≤max c (zm+(zm+768) / 4)
 | 0,c=>by simp only[Builtin.growBy];omega
 | rounds+1,c=>by
  rw[Builtin.growBy]
  by_cases h:c ≥ zm
  ·rw[if_pos h];omega
  ·rw[if_neg h]
   have:=BV zm rounds (c+(c+768) / 4)
   omega
theorem nextslicecap_le (Sg old:Nat) (h:old<Sg):Builtin.nextslicecap Sg old≤2*Sg+1024:=by
 unfold Builtin.nextslicecap
 split
 ·omega
 ·split
  ·omega
  ·have:=BV Sg 4 old;omega
theorem lV (P:Program) (w:World) (ts:Array TypeId) (ty:TypeId) (st xt elem xe:TypeId) (a x':Value) (size bytes:Nat) (z:Value) (base:Option Addr) (len cap n:Nat) (old new:List Value)
  (h0:ts[0]?=some st) (h1:ts[1]?=some xt) (hst:P.underlying st=some (.slice elem)) (hxt:P.underlying xt=some (.slice xe)) (hsz:aJ P elem=some size) (hby:gM P elem=some bytes) (hz:px P elem=some z)
  (ha:a=.slice base len cap) (hn : ∃xa xc,x'=.slice xa n xc) (T6:cap<len+n) (hb:bytes≤65536) (jv:(len+n)*(bytes+1)≤aI)
  (Xj : ∀d,(Builtin.firstCells size len a).run P { w with drawn:=d }=.ok old.toArray { w with drawn:=d }) (xH : ∀d,(Builtin.firstCells size n x').run P { w with drawn:=d }=.ok new.toArray { w with drawn:=d }) :
  ∃d iK rest,(Builtin.append_ ts ty #[a,x']).run P w=.ok (.slice (some ⟨w.heap.size,0,none⟩) (len+n) iK) ((({ w with drawn:=d }:World)).alloc (.cells ((old ++ new) ++ rest).toArray elem))∧len+n≤iK∧rest.length=(iK - (len+n))*z.cells.size:=by
 obtain⟨xa,xc,rfl⟩:=hn
 subst ha
 unfold gM at hby
 obtain⟨i,hi,hib⟩:=Option.map_eq_some_iff.1 hby
 have mB : ¬(len+n≤cap):=by omega
 have hN:=nextslicecap_le (len+n) cap (by omega)
 have Vv : ¬(Builtin.nextslicecap (len+n) cap*bytes > 2 ^ 48):=by
  have h2:Builtin.nextslicecap (len+n) cap*bytes≤(2*(len+n)+1024)*bytes:=Nat.mul_le_mul_right _ hN
  have h3:(2*(len+n)+1024)*bytes=2*((len+n)*bytes)+1024*bytes:=by rw[Nat.add_mul,Nat.mul_assoc]
  have h4:(len+n)*(bytes+1)=(len+n)*bytes+(len+n):=by rw[Nat.mul_add,Nat.mul_one]
  unfold aI at jv
  omega
 have Vy : ¬((len+n:Nat):Int) > IntKind.i64.max:=by
  have:len+n≤(len+n)*(bytes+1):=Nat.le_mul_of_pos_right _ (by omega)
  unfold aI at jv
  have e:IntKind.i64.max=9223372036854775807:=by decide
  rw[e];omega
 let q:=Question.appendCap (len+n) cap elem
 have VB:len+n≤q.cut (w.tape w.drawn q):=Nat.le_add_right _ _
 refine⟨w.drawn+1,q.cut (w.tape w.drawn q),(Builtin.zeroCells z.cells (q.cut (w.tape w.drawn q) - (len+n))).toList,?_,VB,by simp[Builtin.zeroCells]⟩
 have e0:(#[Value.slice base len cap,Value.slice xa n xc]:Array Value)[0]?=some (.slice base len cap):=rfl
 have e1:(#[Value.slice base len cap,Value.slice xa n xc]:Array Value)[1]?=some (.slice xa n xc):=rfl
 simp only[Builtin.append_,h0,h1,e0,e1,Sem.run_bind,Go.run_underlying hst,Result.andThen_ok,cd w hsz,Go.run_underlying hxt,Sem.run_pure,Builtin.lenOf,Bool.false_eq_true,if_false,mB,Bool.not_false,if_true,false_or,Sem.run_ite,run_typeInfo w hi,hib]
 rw[if_neg (by intro h;exact Vy h.1)]
 rw[if_neg Vv]
 simp only[Result.andThen_ok,run_choose,Question.forced,Bool.false_eq_true,if_false,run_askRoom,run_typeInfo _ hi,Xj,xH,dP _ hz,Go.newRow,Sem.run_bind,run_newObj,Sem.run_pure]
 have VM : ∀Z:Array Value,old.toArray ++ new.toArray ++ Z=((old ++ new) ++ Z.toList).toArray:=fun Z=>by rw[←Array.toList_inj];simp
 rw[VM]
 rfl
theorem jS (P:Program) (w w':World) (ts:Array TypeId) (ty:TypeId) (st xt elem xe:TypeId) (x':Value) (size n len cap:Nat) (base:Option Addr) (new:List Value)
  (h0:ts[0]?=some st) (h1:ts[1]?=some xt) (hst:P.underlying st=some (.slice elem)) (hxt:P.underlying xt=some (.slice xe)) (hsz:aJ P elem=some size)
  (hn : ∃xa xc,x'=.slice xa n xc) (T6:len+n≤cap) (xH:(Builtin.firstCells size n x').run P w=.ok new.toArray w)
  (Zx : ∀a,base=some a→(storeCells (a.add (len*size)) new).run P w=.ok () w') (Xl:base=none→w'=w) :
  (Builtin.append_ ts ty #[.slice base len cap,x']).run P w=.ok (.slice base (len+n) cap) w':=by
 obtain⟨xa,xc,rfl⟩:=hn
 have e0:(#[Value.slice base len cap,Value.slice xa n xc]:Array Value)[0]?=some (.slice base len cap):=rfl
 have e1:(#[Value.slice base len cap,Value.slice xa n xc]:Array Value)[1]?=some (.slice xa n xc):=rfl
 simp only[Builtin.append_,h0,h1,e0,e1,Sem.run_bind,Go.run_underlying hst,Result.andThen_ok,cd w hsz,Go.run_underlying hxt,Sem.run_pure,Builtin.lenOf,Bool.false_eq_true,if_false,T6,Bool.not_false,if_true,xH]
 cases base with
 | none=>rw[Xl rfl];rfl
 | some a=>simp[Zx a rfl]
theorem pV (k:Nat) : ∀(l:List Nat),k∈l→l=l.takeWhile (· != k) ++ k :: (l.dropWhile (· != k)).drop 1
 | [],h=>by cases h
 | a :: l,h=>by
  by_cases e:a=k
  ·subst e;simp
  ·have h':k∈l:=by
    rcases List.mem_cons.1 h with h|h
    ·exact absurd h.symm e
    ·exact h
   have:=pV k l h'
   simp only[List.takeWhile_cons,List.dropWhile_cons,bne_iff_ne,ne_eq,e,not_false_eq_true,if_true,List.cons_append]
   rw[←this]
theorem Rel.append {B:Nat} {w0:World} {m:Mp} {h h':IH} {w:World} (R:Rel B w0 m h w) (P:Program) {ts:Array TypeId} {ty st xt xe:TypeId} {s s' x x' v:Value}
  (h0:ts[0]?=some st) (h1:ts[1]?=some xt) (hxt:P.underlying xt=some (.slice xe)) (ha:append P h st s x=some (v,h')) (hs:aC m s s') (hx:aC m x x') (cB:dX m h.n h'.n) :
  ∃v' m' w',(Builtin.append_ ts ty #[s',x']).run P w=.ok v' w'∧aC m' v v'∧Rel B w0 m' h' w'∧Step m h w m' h' w':=by
 unfold Id.append at ha
 cases hst:P.underlying st with
 | none=>simp[hst] at ha
 | some d =>
  rw[hst] at ha
  cases d with
  | slice elem =>
   cases hsz:aJ P elem with
   | none=>simp[hsz] at ha
   | some size =>
   cases hby:gM P elem with
   | none=>simp[hsz,hby] at ha
   | some bytes =>
   cases hz:aB P elem with
   | none=>simp[hsz,hby,hz] at ha
   | some zs =>
   cases hn:Id.lenOf x with
   | none=>simp[hsz,hby,hz,hn] at ha
   | some n =>
   obtain⟨z,hz0,_,hzs⟩:=cR hz
   obtain⟨xa,xc,hx'⟩:=vE hx hn
   simp only[hsz,hby,hz,hn,cond_eq_ite,beq_iff_eq] at ha
   by_cases hn0:n=0
   ·-- nothing is Yi
    subst hn0
    rw[if_pos rfl] at ha
    have hf0:(Builtin.firstCells size 0 x').run P w=.ok ([]:List Value).toArray w:=by
     subst hx'
     cases xa with
     | none=>rfl
     | some a=>show(loadCells a (0*size)).run P w=_;rw[Nat.zero_mul];rfl
    split at ha
    ·rename_i a c
     by_cases hac:(a == 0 && c == 0)=true
     ·rw[if_pos hac] at ha;cases ha
      obtain⟨rfl,rfl,rfl⟩:=hs.kU
      refine⟨_,m,w,jS P w w ts ty st xt elem xe x' size 0 0 0 none [] h0 h1 hst hxt hsz ⟨_,_,hx'⟩ (by omega) hf0 (by simp) (fun _=>rfl),hs,R,Step.refl _ _ _⟩
     ·rw[if_neg hac] at ha;cases ha
    ·rename_i b o len k
     cases ha
     have hlc : ∃a St cap,s'=.slice (some a) St cap∧St≤cap:=by
      rcases hs.dA with⟨r,q,cap,_,_,h2,h3,_,_,rfl⟩|⟨rfl,rfl,a,cap,rfl⟩
      ·exact⟨_,_,_,rfl,Nat.le_trans h2 h3⟩
      ·exact⟨_,_,_,rfl,Nat.zero_le _⟩
     obtain⟨a,St,cap,rfl,hle⟩:=hlc
     exact⟨_,m,w,jS P w w ts ty st xt elem xe x' size 0 St cap (some a) [] h0 h1 hst hxt hsz ⟨_,_,hx'⟩ (by omega) hf0 (by intro a' _;rfl) (by simp),hs,R,Step.refl _ _ _⟩
    ·cases ha
   ·rw[if_neg hn0] at ha
    by_cases hsb:(size == 0 || (!(Nat.ble bytes 65536) || !(zs.length == size)))=true
    ·rw[if_pos hsb] at ha;cases ha
    ·rw[if_neg hsb] at ha
     simp only[Bool.or_eq_true,beq_iff_eq,Bool.not_eq_true',not_or,Bool.not_eq_false,beq_eq_false_iff_ne,ne_eq,Decidable.not_not] at hsb
     obtain⟨TZ,Ie,W1⟩:=hsb
     have Ie:bytes≤65536:=Nat.le_of_ble_eq_true Ie
     have hzc:z.cells.size=size:=by rw[←W1,hzs];simp
     cases hfi:bN h size n x with
     | none=>simp[hfi] at ha
     | some new =>
     simp only[hfi] at ha
     by_cases fK:(!(new.all aH))=true
     ·rw[if_pos fK] at ha;cases ha
     rw[if_neg fK] at ha
     have hok : ∀c∈new,aH c=true:=by simpa using fK
     have W2:x≠.slice none 0 0:=by
      intro e;subst e;simp only[Id.lenOf] at hn;cases hn;exact hn0 rfl
     obtain⟨fX,ux,mQ,rf⟩:=R.first P hx hfi
     have rf:new.length=n*size:=rf.resolve_left W2
     have Kb : ∀d,Rel B w0 m h { w with drawn:=d }:=fun d=>R.congr rfl (jO R.below d)
     split at ha
     ·-- onto nil
      rename_i a c
      by_cases hc:(a == 0 && c == 0 && Nat.ble (n*(bytes+1)) aI)=true
      ·rw[if_pos hc] at ha;cases ha
       simp only[Bool.and_eq_true,beq_iff_eq,Nat.ble_eq] at hc
       obtain⟨rfl,rfl,rfl⟩:=hs.kU
       obtain⟨d,iK,rest,bB,mB,mg⟩:=lV P w ts ty st xt elem xe (.slice none 0 0) x' size bytes z none 0 0 n [] fX h0 h1 hst hxt hsz hby hz0 rfl ⟨_,_,hx'⟩ (by omega) Ie
        (by rw[Nat.zero_add];exact hc.2) (fun d=>rfl) (fun d=>ux _ rfl)
       rw[Nat.zero_add] at bB mB mg
       simp only[List.nil_append] at bB
       have hm0:m (2*h.n)=none:=cB h.n (Nat.le_refl _) (Nat.lt_succ_self _)
       obtain⟨R1,S1⟩:=(Kb d).new (.cells new size none) (.cells (fX ++ rest).toArray elem) (size,(fX ++ rest).length) hm0
        ⟨(fX ++ rest).toArray,elem,by rw[heap_alloc,if_pos rfl],⟨by simp[mQ.1],fun i v hi=>by
         obtain⟨v',a,b⟩:=mQ.get hi
         refine⟨v',?_,b⟩
         have hi':i<fX.length:=by
          rcases Nat.lt_or_ge i fX.length with h|h
          ·exact h
          ·rw[List.getElem?_eq_none h] at a;cases a
         simp only[List.getElem?_toArray,Nat.zero_add]
         rw[List.getElem?_append_left hi'];exact a⟩,rfl,by simp⟩ rfl
       refine⟨_,_,_,bB,?_,R1,S1.congr rfl⟩
       have hp:0<n:=Nat.pos_of_ne_zero hn0
       have:=aC.slice (m:=m.upd (2*h.n) (w.heap.size,0) (size,(fX ++ rest).length)) (b:=2*h.n) (o:=0) (r:=w.heap.size) (s:=0) (len:=n) (k:=2*n) (cap:=iK) (Mp.bm _ _ _ _) (by omega) (by omega) (by omega) (by omega) (by intro _;rw[Mp.kW];simp only[List.length_append,mg,hzc,←mQ.1,rf];rw[←Nat.add_mul];simp only[Nat.zero_add,Nat.add_zero];exact Nat.mul_le_mul_right _ (by omega))
       exact this
      ·rw[if_neg hc] at ha;cases ha
     ·rename_i b o len k
      by_cases jv:(!(Nat.ble ((len+n)*(bytes+1)) aI))=true
      ·rw[if_pos jv] at ha;cases ha
      ·rw[if_neg jv] at ha
       have PN:(len+n)*(bytes+1)≤aI:=by
        simp only[Bool.not_eq_true',Bool.not_eq_false] at jv
        exact Nat.le_of_ble_eq_true jv
       by_cases hin:Nat.ble (len+n) (k / 2)=true
       ·-- there is room for sure
        rw[if_pos hin] at ha
        have Xs:=Nat.le_of_ble_eq_true hin
        obtain⟨h1w,hw1,hv1⟩:=Option.map_eq_some_iff.1 ha
        cases hv1
        rcases hs.dA with⟨r,q,cap,hmb,hk0,hl,hkc,hx1,hz1,rfl⟩|⟨_,hk,_⟩
        ·obtain⟨w',hr1,R1,S1⟩:=R.wr hw1 hmb mQ hok P
         refine⟨_,m,w',jS P w w' ts ty st xt elem xe x' size n len cap _ fX h0 h1 hst hxt hsz ⟨_,_,hx'⟩ (by omega) (ux w rfl) (fun a e=>?_) (by simp),?_,R1,S1⟩
         ·cases e;rw[kE,Nat.add_assoc];exact hr1
         ·exact .slice hmb hk0 Xs hkc hx1 hz1
        ·omega
       ·rw[if_neg hin] at ha
        have Xs : ¬len+n≤k / 2:=fun e=>hin (by simpa using e)
        by_cases mA:k % 2=1
        ·-- there is none for sure
         rw[if_pos mA] at ha
         cases hfo:bN h size len (.slice (some ⟨b,o,none⟩) len k) with
         | none=>simp[hfo] at ha
         | some old =>
          simp only[hfo] at ha;cases ha
          obtain⟨qm,Dt,zK,Du⟩:=R.first P hs hfo
          have Du:old.length=len*size:=Du.resolve_left (by simp)
          have mR : ∃base cap,s'=.slice base len cap∧cap<len+n:=by
           rcases hs.dA with⟨r,q,cap,_,_,_,_,hx1,_,rfl⟩|⟨_,hk,_⟩
           ·exact⟨_,cap,rfl,by have:=hx1 mA;omega⟩
           ·omega
          obtain⟨base,cap,rfl,hcl⟩:=mR
          obtain⟨d,iK,rest,bB,mB,mg⟩:=lV P w ts ty st xt elem xe _ x' size bytes z base len cap n qm fX h0 h1 hst hxt hsz hby hz0 rfl ⟨_,_,hx'⟩ hcl Ie PN
           (fun d=>Dt _ rfl) (fun d=>ux _ rfl)
          have hm0:m (2*h.n)=none:=cB h.n (Nat.le_refl _) (Nat.lt_succ_self _)
          have hon:=zK.append mQ
          obtain⟨R1,S1⟩:=(Kb d).new (.cells (old ++ new) size none) (.cells (qm ++ fX ++ rest).toArray elem) (size,(qm ++ fX ++ rest).length) hm0
           ⟨(qm ++ fX ++ rest).toArray,elem,by rw[heap_alloc,if_pos rfl],⟨by simp[zK.1,mQ.1],fun i v hi=>by
            obtain⟨v',a,b⟩:=hon.get hi
            refine⟨v',?_,b⟩
            have hi':i<(qm ++ fX).length:=by
             rcases Nat.lt_or_ge i (qm ++ fX).length with h|h
             ·exact h
             ·rw[List.getElem?_eq_none h] at a;cases a
            simp only[List.getElem?_toArray,Nat.zero_add]
            rw[List.getElem?_append_left hi'];exact a⟩,rfl,by simp⟩ rfl
          refine⟨_,_,_,bB,?_,R1,S1.congr rfl⟩
          have:=aC.slice (m:=m.upd (2*h.n) (w.heap.size,0) (size,(qm ++ fX ++ rest).length)) (b:=2*h.n) (o:=0) (r:=w.heap.size) (s:=0) (len:=len+n) (k:=2*(len+n)) (cap:=iK) (Mp.bm _ _ _ _) (by omega) (by omega) (by omega) (by omega)
           (by intro _;rw[Mp.kW];simp only[List.length_append,mg,hzc,←zK.1,Du,←mQ.1,rf];rw[←Nat.add_mul,←Nat.add_mul];simp only[Nat.zero_add,Nat.add_zero];exact Nat.mul_le_mul_right _ (by omega))
          exact this
        ·rw[if_neg mA] at ha
         by_cases rF:(len == k / 2 && Nat.blt 0 len && b % 2 == 0)=true
         ·rw[if_pos rF] at ha
          simp only[Bool.and_eq_true,beq_iff_eq,Nat.blt_eq] at rF
          obtain⟨⟨hlk,hl0⟩,hb2⟩:=rF
          cases hg:h.ext.get (b / 2) with
          | none=>simp[hg] at ha
          | some ob =>
           rw[hg] at ha
           cases ob with
           | map es=>simp at ha
           | loop l=>simp at ha
           | iter _ _ _ _=>simp at ha
           | num _=>simp at ha
           | dead=>simp at ha
           | cells cs t fam =>
            simp only at ha
            by_cases hce:(o+len*size == cs.length && t == size)=true
            ·rw[if_pos hce] at ha
             simp only[Bool.and_eq_true,beq_iff_eq] at hce
             obtain⟨hce,rfl⟩:=hce
             have hb':2*(b / 2)=b:=by omega
             have hm0:m (2*h.n)=none:=cB h.n (Nat.le_refl _) (by
              cases fam with
              | none=>simp only[Option.some.injEq,Prod.mk.injEq] at ha;rw[←ha.2];exact Nat.lt_succ_self _
              | some f=>cases hf:h.bQ.get f with
               | none=>simp[hf] at ha
               | some stk=>simp only[hf,Option.some.injEq,Prod.mk.injEq] at ha;rw[←ha.2];exact Nat.lt_succ_self _)
             have Xu : ∃f cg below,v=.slice (some ⟨2*h.n,0,none⟩) (len+n) (2*(len+n))∧h'=grown h (b / 2) f cs t cg below (cs.drop o ++ new) t ∧
               Uu h (b / 2) f cg below fam:=by
              cases fam with
              | none=>simp only[Option.some.injEq,Prod.mk.injEq] at ha;exact⟨h.n,[],[],ha.1.symm,ha.2.symm,rfl,rfl,rfl⟩
              | some f=>cases hf:h.bQ.get f with
               | none=>simp[hf] at ha
               | some stk =>
                simp only[hf,Option.some.injEq,Prod.mk.injEq] at ha
                obtain⟨st2,Xd,HY⟩:=R.fam (b / 2) cs t f hg
                rw[hf] at Xd;cases Xd
                exact⟨f,_,_,ha.1.symm,ha.2.symm,rfl,stk,hf,pV _ _ HY⟩
             obtain⟨f,cg,below,rfl,rfl,xI⟩:=Xu
             rcases hs.dA with⟨r,q,cap,hmb,hk0,hl,hkc,hx1,hz1,rfl⟩|⟨_,hk,_⟩
             ·have SF:m (2*(b / 2))=some (r,q):=by rw[hb'];exact hmb
              obtain⟨c,el,hc,fJ,he1,he2⟩:=R.obj (b / 2) _ r q hg SF
              rw[hb'] at he1 he2
              have BU:=hz1 (by omega)
              rw[he1] at BU
              have hr1:=fJ.1
              have hdl:(cs.drop o).length=len*t:=by simp;omega
              by_cases SH:len+n≤cap
              ·-- in place
               have hmul:(len+n)*t≤cap*t:=Nat.mul_le_mul_right _ SH
               rw[Nat.add_mul] at hmul
               have Vr : ∀x∈fX,aH x=true:=by
                intro x hx
                obtain⟨i,hi,e⟩:=List.getElem_of_mem hx
                have hi':i<new.length:=mQ.1▸hi
                exact Cm (mQ.2 i new[i] x (List.getElem?_eq_getElem hi') (by rw[List.getElem?_eq_getElem hi,e])) (hok _ (List.getElem_mem hi'))
               have J9:fX.length=n*t:=by rw[←mQ.1,rf]
               have Xb:=lU P r (q+o+len*t) el fX 0 w c hc (by omega) Vr
               have hne:fX ≠ []:=by
                intro e
                have:n*t=0:=by rw[←J9,e];rfl
                rcases Nat.mul_eq_zero.1 this with e|e
                ·exact hn0 e
                ·exact TZ e
               rw[if_neg hne,Nat.add_zero] at Xb
               have hrw:=fJ.1
               have hrs:=R.even (b / 2) r q SF
               have jl:(World.put w r (.cells (gW c (q+o+len*t) fX) el)).heap[r]?=some (.cells (gW c (q+o+len*t) fX) el):=by rw[kC,if_pos ⟨rfl,hrs.2⟩]
               have hpn : ∀p,p≠r→(World.put w r (.cells (gW c (q+o+len*t) fX) el)).heap[p]?=w.heap[p]?:=fun p hp=>by rw[kC,if_neg (fun e=>hp e.1)]
               obtain⟨R1,S1⟩:=R.grow hg SF hm0 f cg below xI (cs.drop o ++ new) t r (q+o) (t,(m.ez b).2) (World.put w r (.cells (gW c (q+o+len*t) fX) el))
                (rq R.below hrs.1 _) (by rw[jh];exact Nat.le_refl _) ⟨hrs.1,by rw[jh];exact hrs.2⟩
                ⟨_,el,jl,⟨by rw[List.length_append,hdl,iH];omega,fun i x hi=>by
                 rw[oc fX c _ _ (by omega)]
                 by_cases h2:i<(cs.drop o).length
                 ·rw[List.getElem?_append_left h2,List.getElem?_drop] at hi
                  rw[if_neg (by omega)]
                  have:=fJ.2 _ _ hi
                  rw[←Nat.add_assoc] at this
                  exact this
                 ·rw[List.getElem?_append_right (by omega)] at hi
                  obtain⟨x',a1,a2⟩:=mQ.get hi
                  have hlt:i - (cs.drop o).length<fX.length:=by
                   rcases Nat.lt_or_ge (i - (cs.drop o).length) fX.length with e|e
                   ·exact e
                   ·rw[List.getElem?_eq_none e] at a1;cases a1
                  rw[if_pos (by omega)]
                  refine⟨x',?_,a2⟩
                  rw[show q+o+i - (q+o+len*t)=i - (cs.drop o).length from by omega];exact a1⟩,rfl,by rw[iH];exact he2⟩
                (.inr ⟨rfl,by rw[List.length_append,hdl];omega,fun p hp hpr=>hpn p hpr,fun c2 el2 hc2=>by
                 rw[hc] at hc2;cases hc2
                 exact⟨_,jl,by rw[iH];exact Nat.le_refl _,fun i hi=>by rw[oc fX c _ _ (by omega),if_neg (by omega)]⟩⟩)
               refine⟨_,_,_,jS P w _ ts ty st xt elem xe x' t n len cap _ fX h0 h1 hst hxt hsz ⟨_,_,hx'⟩ SH (ux w rfl) (fun a e=>?_) (by simp),?_,R1,S1⟩
               ·cases e;rw[kE];exact Xb
               ·have:=aC.slice (m:=m.upd (2*h.n) (r,q+o) (t,(m.ez b).2)) (b:=2*h.n) (o:=0) (r:=r) (s:=q+o) (len:=len+n) (k:=2*(len+n)) (cap:=cap) (Mp.bm _ _ _ _) (by omega) (by omega) (by omega) (by omega)
                 (by intro _;rw[Mp.kW];simp only[Nat.add_zero];exact BU)
                rw[Nat.add_zero] at this
                exact this
              ·-- in new memory
               have hfo:bN h t len (.slice (some ⟨b,o,none⟩) len k)=some (cs.drop o):=by
                unfold bN
                have hb0 : ¬b % 2=1:=by omega
                have h00 : ¬len*t=0:=by
                 intro e
                 rcases Nat.mul_eq_zero.1 e with e|e
                 ·omega
                 ·exact TZ e
                simp only[cond_eq_ite,Nat.ble_eq,Nat.le_refl,if_true,beq_iff_eq,h00,if_false,IH.rd,IH.row,hb0,hg]
                rw[if_pos (by omega),List.take_of_length_le (by omega)]
               obtain⟨qm,Dt,zK,_⟩:=R.first P hs hfo
               obtain⟨d,iK,rest,bB,mB,mg⟩:=lV P w ts ty st xt elem xe _ x' t bytes z _ len cap n qm fX h0 h1 hst hxt hsz hby hz0 rfl ⟨_,_,hx'⟩ (by omega) Ie PN
                (fun d=>Dt _ rfl) (fun d=>ux _ rfl)
               have hon:=zK.append mQ
               have W9:(({ w with drawn:=d }:World).alloc (.cells (qm ++ fX ++ rest).toArray elem)).heap.size=w.heap.size+1:=size_alloc _ _
               have hat:(({ w with drawn:=d }:World).alloc (.cells (qm ++ fX ++ rest).toArray elem)).heap[w.heap.size]?=some (.cells (qm ++ fX ++ rest).toArray elem):=by rw[heap_alloc];exact if_pos rfl
               obtain⟨R1,S1⟩:=R.grow hg SF hm0 f cg below xI (cs.drop o ++ new) t w.heap.size 0 (t,(qm ++ fX ++ rest).length) (({ w with drawn:=d }:World).alloc (.cells (qm ++ fX ++ rest).toArray elem))
                (mV (jO R.below d) R.size _) (by rw[W9];omega) ⟨R.size,by rw[W9];omega⟩
                ⟨_,elem,hat,⟨by simp only[List.length_append,Nat.zero_add,←zK.1,←mQ.1,List.size_toArray];omega,fun i x hi=>by
                 obtain⟨x',a1,a2⟩:=hon.get hi
                 refine⟨x',?_,a2⟩
                 have hi':i<(qm ++ fX).length:=by
                  rcases Nat.lt_or_ge i (qm ++ fX).length with h|h
                  ·exact h
                  ·rw[List.getElem?_eq_none h] at a1;cases a1
                 simp only[List.getElem?_toArray,Nat.zero_add]
                 rw[List.getElem?_append_left hi'];exact a1⟩,rfl,by simp⟩
                (.inl ⟨Nat.le_refl _,fun p hp=>by rw[heap_alloc];exact if_neg (Nat.ne_of_lt hp)⟩)
               refine⟨_,_,_,bB,?_,R1,S1⟩
               have:=aC.slice (m:=m.upd (2*h.n) (w.heap.size,0) (t,(qm ++ fX ++ rest).length)) (b:=2*h.n) (o:=0) (r:=w.heap.size) (s:=0) (len:=len+n) (k:=2*(len+n)) (cap:=iK) (Mp.bm _ _ _ _) (by omega) (by omega) (by omega) (by omega)
                (by intro _;rw[Mp.kW];simp only[List.length_append,mg,hzc,←zK.1,hdl,←mQ.1,rf];rw[←Nat.add_mul,←Nat.add_mul];simp only[Nat.zero_add,Nat.add_zero];exact Nat.mul_le_mul_right _ (by omega))
               exact this
             ·omega
            ·rw[if_neg hce] at ha;cases ha
         ·rw[if_neg rF] at ha;cases ha
     ·cases ha
  | _=>simp at ha
theorem Rel.copy {B:Nat} {w0:World} {m:Mp} {h h':IH} {w:World} (R:Rel B w0 m h w) (P:Program) {ts:Array TypeId} {ty dt:TypeId} {d d' x x' v:Value}
  (h0:ts[0]?=some dt) (hc:tt P h dt d x=some (v,h')) (hd:aC m d d') (hx:aC m x x') :
  ∃w',(Builtin.copy_ ts ty #[d',x']).run P w=.ok v w'∧aC m v v∧Rel B w0 m h' w'∧Step m h w m h' w':=by
 unfold tt at hc
 cases hdt:P.underlying dt with
 | none=>simp[hdt] at hc
 | some td =>
  rw[hdt] at hc
  cases td with
  | slice e =>
   cases hdn:Id.lenOf d with
   | none=>simp[hdn] at hc
   | some dn =>
   cases hsn:Id.lenOf x with
   | none=>simp[hdn,hsn] at hc
   | some sn =>
   cases hsz:aJ P e with
   | none=>simp[hdn,hsn,hsz] at hc
   | some size =>
   simp only[hdn,hsn,hsz] at hc
   cases hfi:bN h size (Nat.min sn dn) x with
   | none=>simp[hfi] at hc
   | some cs =>
   simp only[hfi,cond_eq_ite] at hc
   obtain⟨xa,xc,rfl⟩:=vE hx hsn
   obtain⟨cs',bB,hL,_⟩:=R.first P hx hfi
   have hlen:(Builtin.lenOf (.slice xa sn xc)).run P w=.ok sn w:=rfl
   have e0 : ∀y:Value,(#[y,Value.slice xa sn xc]:Array Value)[0]?=some y:=fun _=>rfl
   have e1 : ∀y:Value,(#[y,Value.slice xa sn xc]:Array Value)[1]?=some (.slice xa sn xc):=fun _=>rfl
   split at hc
   ·rename_i a b
    cases hc
    obtain⟨rfl,rfl,rfl⟩:=hd.kU
    simp only[Id.lenOf] at hdn;cases hdn
    refine⟨w,?_,.bJ rfl,R,Step.refl _ _ _⟩
    have SE:Nat.min sn 0=0:=Nat.min_zero sn
    simp only[SE] at bB ⊢
    simp only[Builtin.copy_,h0,e0,e1,Sem.run_bind,Go.run_underlying hdt,Result.andThen_ok,hlen,cd w hsz,SE,bB w rfl,Sem.run_pure]
    rfl
   ·rename_i b o dl dk
    simp only[Id.lenOf] at hdn;cases hdn
    have hdv : ∃r q cap a,d'=.slice (some a) dn cap∧(0<dk→m b=some (r,q)∧a=⟨r,q+o,none⟩)∧(dk=0→dn=0):=by
     rcases hd.dA with⟨r,q,cap,hm,h1,_,_,_,_,rfl⟩|⟨hl,hk,a,cap,rfl⟩
     ·exact⟨r,q,cap,_,rfl,fun _=>⟨hm,rfl⟩,fun e=>by omega⟩
     ·subst hl;exact⟨0,0,cap,a,rfl,fun e=>by omega,fun _=>rfl⟩
    obtain⟨r,q,cap,a,rfl,uw,hzero⟩:=hdv
    by_cases SJ:cs.isEmpty=true
    ·rw[if_pos SJ] at hc;cases hc
     have hcs:cs = []:=by simpa using SJ
     subst hcs
     have ZT:cs' = []:=by have:=hL.1;simpa using this.symm
     subst ZT
     refine⟨w,?_,.bJ rfl,R,Step.refl _ _ _⟩
     simp only[Builtin.copy_,h0,e0,e1,Sem.run_bind,Go.run_underlying hdt,Result.andThen_ok,hlen,cd w hsz,bB w rfl,Sem.run_pure]
     rfl
    ·rw[if_neg SJ] at hc
     by_cases fK:(!(cs.all aH))=true
     ·rw[if_pos fK] at hc;cases hc
     rw[if_neg fK] at hc
     obtain⟨h1w,hw1,hv1⟩:=Option.map_eq_some_iff.1 hc
     cases hv1
     have hk:0<dk:=by
      rcases Nat.eq_zero_or_pos dk with e|e
      ·have:=hzero e;subst this
       exfalso;apply SJ
       have SE:Nat.min sn 0=0:=Nat.min_zero sn
       rw[SE] at hfi
       unfold bN at hfi
       split at hfi
       ·cases hfi;rfl
       ·simp only[cond_eq_ite,Nat.ble_eq,Nat.zero_le,if_true,Nat.zero_mul,beq_self_eq_true] at hfi;cases hfi;rfl
       ·cases hfi
      ·exact e
     obtain⟨hm,rfl⟩:=uw hk
     obtain⟨w',hr1,R1,S1⟩:=R.wr hw1 hm hL (by simpa using fK) P
     refine⟨w',?_,.bJ rfl,R1,S1⟩
     simp only[Builtin.copy_,h0,e0,e1,Sem.run_bind,Go.run_underlying hdt,Result.andThen_ok,hlen,cd w hsz,bB w rfl,hr1,Sem.run_pure]
     rfl
   ·cases hc
  | _=>simp at hc
end Go.Id

namespace Go.Id
open Go Go.RowKit
theorem CI (c:Array Value) (q:Nat) (vs:List Value) (h:q+vs.length≤c.size):(gW c q vs).toList=IH.aG c.toList q vs:=by
 apply List.ext_getElem?
 intro i
 rw[Array.getElem?_toList (xs:=gW c q vs),oc _ _ _ _ h,zP _ _ _ (by simpa using h)]
 split<;>simp
theorem zR (off:Nat) : ∀(l:List Value) (k:Nat) (c:Array Value),(l.zipIdx k).foldl (fun cs p=>cs.setIfInBounds (off+p.2) p.1) c=gW c (off+k) l
 | [],k,c=>rfl
 | v :: l,k,c=>by
  rw[List.zipIdx_cons,List.foldl_cons,zR off l (k+1),gW,Nat.add_assoc]
def KR (m:Mp) (a b:Nat×Value):Prop:=b.1=a.1∧aC m a.2 b.2
theorem bz.aG {m:Mp} {a a' b b':List Value} (h:bz m a a') (k:bz m b b') (o:Nat) (hb:o+b.length≤a.length):bz m (IH.aG a o b) (IH.aG a' o b'):=by
 have h1:=h.1;have h2:=k.1
 unfold IH.aG
 rw[←h2]
 exact(h.take o).append (k.append (h.drop _))
theorem zT {m:Mp} (place:Nat→Option (Nat×Nat)) : ∀(ps ps':List (Nat×Value)) (cs:List Value) (c':Array Value) (r:List Value),bz m cs c'.toList →
  ps.length=ps'.length→(∀(i:Nat) (a b:Nat×Value),ps[i]?=some a→ps'[i]?=some b→KR m a b)→cj place cs ps=some r → ∃r',Instr.fill place c' ps'=some r'∧bz m r r'.toList
 | [],[],cs,c',r,h,_,_,hf=>by simp only[cj] at hf;cases hf;exact⟨c',rfl,h⟩
 | [],_ :: _,_,_,_,_,hl,_,_=>by simp at hl
 | _ :: _,[],_,_,_,_,hl,_,_=>by simp at hl
 | (i,v) :: ps,(i',v') :: ps',cs,c',r,h,hl,hp,hf=>by
  obtain⟨h1,h2⟩:=hp 0 _ _ rfl rfl
  simp only at h1 h2;subst h1
  rw[cj] at hf
  cases hpl:place i' with
  | none=>simp[hpl] at hf
  | some on =>
   obtain⟨o,n⟩:=on
   simp only[hpl,cond_eq_ite] at hf
   by_cases hc:(v.cells.size == n && Nat.ble (o+n) cs.length)=true
   ·rw[if_pos hc] at hf
    simp only[Bool.and_eq_true,beq_iff_eq,Nat.ble_eq] at hc
    have hcs:c'.size=cs.length:=by have:=h.1;simp at this;omega
    have hv':=Ad h2
    have hlen:o+v'.cells.toList.length≤c'.size:=by rw[Array.length_toList,hv',hc.1,hcs];exact hc.2
    have Xv:v'.cells.zipIdx.foldl (fun cs x=>match x with|(c,j)=>cs.setIfInBounds (o+j) c) c'=gW c' o v'.cells.toList:=by
     rw[←Array.foldl_toList,Array.toList_zipIdx]
     exact zR o v'.cells.toList 0 c'
    rw[Instr.fill,hpl]
    simp only
    rw[Xv,if_neg (by simp only[ne_eq,Bool.or_eq_true,decide_eq_true_eq,not_or,Decidable.not_not,gt_iff_lt,Nat.not_lt];exact⟨by rw[hv',hc.1],by rw[hv',hc.1,hcs];exact hc.2⟩)]
    refine zT place ps ps' _ _ r ?_ (by simpa using hl) (fun j a b ha hb=>hp (j+1) a b (by simpa using ha) (by simpa using hb)) hf
    rw[CI _ _ _ hlen]
    exact h.aG h2.cells o (by rw[Array.length_toList,hc.1];exact hc.2)
   ·rw[if_neg hc] at hf;cases hf
theorem qi {m:Mp} {fr:Fr} {ρ:Operand→Value} (hρ : ∀x v,opd fr x=some v→aC m v (ρ x)) : ∀(l:List (Nat×Operand)) (ps:List (Nat×Value)),partsOf fr l=some ps →
  ps.length=l.length ∧ ∀(i:Nat) (a b:Nat×Value),ps[i]?=some a→(l.map fun p=>(p.1,ρ p.2))[i]?=some b→KR m a b
 | [],ps,h=>by simp only[partsOf] at h;cases h;exact⟨rfl,by simp⟩
 | (i,x) :: l,ps,h=>by
  rw[partsOf] at h
  cases hx:opd fr x with
  | none=>simp[hx] at h
  | some v =>
   cases hl:partsOf fr l with
   | none=>simp[hx,hl] at h
   | some vs =>
    simp only[hx,hl] at h;cases h
    obtain⟨h1,h2⟩:=qi hρ l vs hl
    refine⟨by simp[h1],fun j a b ha hb=>?_⟩
    cases j with
    | zero=>simp at ha hb;subst ha;subst hb;exact⟨rfl,hρ x v hx⟩
    | succ j=>simp at ha hb;exact h2 j a b ha (by simpa using hb)
theorem Lo {m:Mp} {P:Program} {t:TypeId} {fr:Fr} {ρ:Operand→Value} (hρ : ∀x v,opd fr x=some v→aC m v (ρ x)) {parts:Array (Nat×Operand)} {z cs:List Value} {ps:List (Nat×Value)}
  (hz:aB P t=some z) (hps:partsOf fr parts.toList=some ps) (ha:bU P t=true) (hf:cj (placeOf P t) z ps=some cs) (w:World) :
  ∃cs',(Instr.build t (parts.map fun(i,x)=>(i,ρ x))).run P w=.ok (.agg cs') w∧aC m (.agg cs.toArray) (.agg cs'):=by
 obtain⟨zv,hz1,hz2,rfl⟩:=cR hz
 unfold px at hz1
 obtain⟨it,hit,hz3⟩:=Option.bind_eq_some_iff.1 hz1
 obtain⟨hl,hp⟩:=qi hρ _ _ hps
 have hL0:bz m zv.cells.toList zv.cells.toList:=(aC.bT hz2).cells
 have AN:(parts.map fun(x:Nat×Operand)=>match x with|(i,x)=>(i,ρ x)).toList=parts.toList.map fun p=>(p.1,ρ p.2):=by rw[Array.toList_map]
 have key : ∀place:Nat→Option (Nat×Nat),(∀i p,placeOf P t i=some p→place i=some p) → ∃r',Instr.fill place zv.cells (parts.toList.map fun p=>(p.1,ρ p.2))=some r'∧bz m cs r'.toList:=by
  intro place Vp
  have up : ∀(ps:List (Nat×Value)) (a r:List Value),cj (placeOf P t) a ps=some r→cj place a ps=some r:=by
   intro ps
   induction ps with
   | nil=>intro a r h;exact h
   | cons p ps ih =>
    obtain⟨i,v⟩:=p
    intro a r h
    rw[cj] at h ⊢
    cases hpi:placeOf P t i with
    | none=>simp[hpi] at h
    | some on =>
     rw[Vp i on hpi]
     rw[hpi] at h
     obtain⟨o,n⟩:=on
     simp only[cond_eq_ite] at h ⊢
     by_cases hc:(v.cells.size == n && Nat.ble (o+n) a.length)=true
     ·rw[if_pos hc] at h ⊢;exact ih _ _ h
     ·rw[if_neg hc] at h;cases h
  exact zT place ps _ _ _ _ hL0 (by simp[hl]) hp (up ps _ _ hf)
 have hb : ∃r',P.built t (parts.map fun(x:Nat×Operand)=>match x with|(i,x)=>(i,ρ x)).toList=some r'∧bz m cs r'.toList:=by
  rw[AN]
  unfold Program.built bU at *
  cases hu:P.underlying t with
  | none=>simp[hu] at ha
  | some d =>
   rw[hu] at ha
   cases d with
   | array n e =>
    simp only[Option.isSome_iff_exists] at ha
    obtain⟨ie,hie⟩:=ha
    obtain⟨r',h1,h2⟩:=key (fun i=>some (i*ie.size,ie.size)) (by
     intro i p hpi
     simp only[placeOf,hu,aJ,hie,Option.map_some] at hpi
     exact hpi)
    refine⟨r',?_,h2⟩
    simp only[hit,hz3,hie]
    exact h1
   | struct fs =>
    simp only[Array.all_eq_true_iff_forall_mem,Option.isSome_iff_exists] at ha
    have hpl : ∀(l:List Field),(∀f∈l,∃i,P.info? f.type=some i) → ∃pl,l.mapM (fun f=>(P.info? f.type).map fun i=>(f.offset,i.size))=some pl ∧ ∀(j:Nat) (f:Field),l[j]?=some f → ∃i,P.info? f.type=some i∧pl[j]?=some (f.offset,i.size):=by
     intro l
     induction l with
     | nil=>intro _;exact⟨[],rfl,by simp⟩
     | cons f l ih =>
      intro h
      obtain⟨i,hi⟩:=h f (by simp)
      obtain⟨pl,h1,h2⟩:=ih (fun g hg=>h g (by simp[hg]))
      refine⟨(f.offset,i.size) :: pl,by simp[List.mapM_cons,hi,h1],fun j g hj=>?_⟩
      cases j with
      | zero=>simp at hj;subst hj;exact⟨i,hi,rfl⟩
      | succ j=>simp at hj;obtain⟨i',a,b⟩:=h2 j g hj;exact⟨i',a,by simpa using b⟩
    obtain⟨pl,ZB,ZA⟩:=hpl fs.toList (fun f hf=>ha f (by simpa using hf))
    obtain⟨r',h1,h2⟩:=key (pl.toArray[·]?) (by
     intro i p hpi
     simp only[placeOf,hu] at hpi
     cases hfi:fs[i]? with
     | none=>simp[hfi] at hpi
     | some f =>
      simp only[hfi,aJ] at hpi
      obtain⟨i',a,b⟩:=ZA i f (by simpa using hfi)
      rw[a] at hpi
      simp only[Option.map_some] at hpi
      rw[←hpi]
      simpa using b)
    refine⟨r',?_,h2⟩
    simp only[hit,hz3,ZB]
    exact h1
   | _=>simp at ha
 obtain⟨r',h1,h2⟩:=hb
 exact⟨r',run_build w t _ r' h1,aC.kY (by simpa using h2)⟩
end Go.Id
