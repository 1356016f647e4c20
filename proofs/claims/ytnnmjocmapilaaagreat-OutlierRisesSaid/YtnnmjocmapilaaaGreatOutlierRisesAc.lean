/-
  The ideal machine: append and copy.
-/
import Derived.Test.YtnnmjocmapilaaaGreatOutlierRisesAb
import Derived.Laws.Tables
import Derived.Laws.BitsLemmas
set_option linter.unusedVariables false
set_option linter.unusedSimpArgs false
set_option linter.defProp false
set_option linter.deprecated false
namespace Go.Id
open Go Go.RowKit
variable {h:IH}{m:Mp}{w' w0 w:World}{B:Nat}
def Rel.congr (R:Rel B w0 m h w) (hh:w'.heap=w.heap) (hb:Below B w0 w'):Rel B w0 m h w' :=
 ⟨hb,by rw[hh];exact R.size,fun b cs hx=>let ⟨r0,s0,m0,a,c,el,fz,d,e⟩:=R.base b cs hx;⟨r0,s0,m0,a,c,el,fz,by rw[hh];exact d,e⟩,R.odd,fun k r s hk=>by rw[hh];exact R.even k r s hk,R.dom,
  fun k o r s a b=>(R.obj k o r s a b).mono (Mp.le_refl m) (by rw[hh]) rfl,R.own,R.du,R.fam,R.long,R.whole⟩
variable {h':IH}
def Step.congr {m':Mp} {w1:World} (S:Step m h w1 m' h' w') (hh:w1.heap=w.heap):Step m h w m' h' w' :=
 ⟨S.le,S.new,S.n,S.base,fun r hr hk=>by rw[S.frame r (by rw[hh];exact hr) hk,hh],S.idle,by rw[←hh];exact S.size,fun k r s a b c=>by rw[←hh];exact S.img k r s a b c,S.nJ⟩
def kj (h:Below B w0 w) (d:Nat):Below B w0 { w with drawn:=d }:=⟨h.os,h.tape,h.output,h.size,h.block⟩
variable {v':Value}
def aG.dI {b o len k:Nat} (h:aG m (.slice (some ⟨b,o,none⟩) len k) v') :
  (∃r s cap,m b=some (r,s)∧0<k∧len≤k / 2∧k / 2≤cap∧(k % 2=1→cap=k / 2)∧(k % 2=0→s+o+cap*(m.ez b).1≤(m.ez b).2)∧v'=.slice (some ⟨r,s+o,none⟩) len cap)∨(len=0∧k=0 ∧ ∃a cap,v'=.slice (some a) 0 cap):=by
 cases h with
 | bA h=>simp[Id.bA] at h
 | slice hm a b c d e=>exact .inl ⟨_,_,_,hm,a,b,c,d,e,rfl⟩
 | lost=>exact .inr ⟨rfl,rfl,_,_,rfl⟩
variable {n:Nat}
def aG.lV {c:Nat} (h:aG m (.slice none n c) v'):n=0∧c=0∧v'=.slice none 0 0:=by
 cases h with
 | bA h=>simp[Id.bA] at h;obtain⟨rfl,rfl⟩:=h;exact⟨rfl,rfl,rfl⟩
variable {x' x:Value}
def xd (h:aG m x x') (hn:Id.lenOf x=some n) : ∃a c,x'=.slice a n c:=by
 cases h with
 | bA h =>
  unfold Id.lenOf at hn
  split at hn
  ·cases hn;exact⟨_,_,rfl⟩
  ·cases hn
 | tok=>simp only[Id.lenOf] at hn;cases hn;exact⟨_,_,rfl⟩
 | slice=>simp only[Id.lenOf] at hn;cases hn;exact⟨_,_,rfl⟩
 | lost=>simp only[Id.lenOf] at hn;cases hn;exact⟨_,_,rfl⟩
 | _=>simp[Id.lenOf] at hn
theorem IB {w w2:World} (hh:w2.heap=w.heap) (a:Addr):w2.cell? a=w.cell? a:=by unfold World.cell?;rw[hh]
def Rel.first (R:Rel B w0 m h w) (P:Program) {size:Nat} {cs:List Value} (hx:aG m x x') (hf:bF h size n x=some cs) :
  ∃cs',(∀w2:World,w2.heap=w.heap→(Builtin.firstCells size n x').run P w2=.ok cs'.toArray w2)∧bw m cs cs'∧(x=.slice none 0 0∨cs.length=n*size):=by
 unfold bF at hf
 split at hf
 ·cases hf
  obtain⟨rfl,rfl,rfl⟩:=hx.lV
  exact⟨[],fun _ _=>rfl,.nil m,.inl rfl⟩
 ·rename_i b o len k
  simp only[cond_eq_ite,Nat.ble_eq,beq_iff_eq] at hf
  by_cases hn:n≤len
  ·rw[if_pos hn] at hf
   by_cases h0:n*size=0
   ·rw[if_pos h0] at hf;cases hf
    refine⟨[],fun w2 _=>?_,.nil m,.inr (by simp[h0])⟩
    rcases hx.dI with⟨r,s,cap,_,_,_,_,_,_,rfl⟩|⟨_,_,a,cap,rfl⟩
    ·simp only[Builtin.firstCells,h0];rfl
    ·simp only[Builtin.firstCells,h0];rfl
   ·rw[if_neg h0] at hf
    rcases hx.dI with⟨r,s,cap,hm,_,_,_,_,_,rfl⟩|⟨hl,_,_⟩
    ·obtain⟨cs',hL,hlen,hc⟩:=R.rd hf hm
     refine⟨cs',fun w2 hh=>?_,hL,.inr hlen⟩
     show(loadCells ⟨r,s+o,none⟩ (n*size)).run P w2=_
     rw[show n*size=cs'.length from by rw[←hlen];exact hL.1]
     exact run_loadCells_list w2 _ cs' (fun j v hv=>by rw[IB hh];exact hc j v hv)
    ·exfalso;apply h0;rw[show n=0 by omega];simp
  ·simp[hn] at hf
 ·cases hf
def Db (AD:Nat) : ∀(rounds c:Nat),Builtin.growBy AD rounds c≤max c (AD+(AD+768) / 4)
 | 0,c=>by simp only[Builtin.growBy];omega
 | rounds+1,c=>by
  rw[Builtin.growBy]
  by_cases h:c ≥ AD
  ·rw[if_pos h];omega
  ·rw[if_neg h]
   have:=Db AD rounds (c+(c+768) / 4)
   omega
def nextslicecap_le (U0 old:Nat) (h:old<U0):Builtin.nextslicecap U0 old≤2*U0+1024:=by
 unfold Builtin.nextslicecap
 split
 ·omega
 ·split
  ·omega
  ·have:=Db U0 4 old;omega
def mA (P:Program) (w:World) (ts:Array TypeId) (ty:TypeId) (st xt elem xe:TypeId) (a x':Value) (size bytes:Nat) (z:Value) (base:Option Addr) (len cap n:Nat) (old new:List Value)
  (h0:ts[0]?=some st) (h1:ts[1]?=some xt) (hst:P.underlying st=some (.slice elem)) (hxt:P.underlying xt=some (.slice xe)) (hsz:aO P elem=some size) (hby:ij P elem=some bytes) (hz:qz P elem=some z)
  (ha:a=.slice base len cap) (hn : ∃xa xc,x'=.slice xa n xc) (WT:cap<len+n) (hb:bytes≤65536) (jM:(len+n)*(bytes+1)≤aN)
  (ZbB : ∀d,(Builtin.firstCells size len a).run P { w with drawn:=d }=.ok old.toArray { w with drawn:=d }) (yM : ∀d,(Builtin.firstCells size n x').run P { w with drawn:=d }=.ok new.toArray { w with drawn:=d }) :
  ∃d jb rest,(Builtin.append_ ts ty #[a,x']).run P w=.ok (.slice (some ⟨w.heap.size,0,none⟩) (len+n) jb) ((({ w with drawn:=d }:World)).alloc (.cells ((old ++ new) ++ rest).toArray elem))∧len+n≤jb∧rest.length=(jb - (len+n))*z.cells.size:=by
 obtain⟨xa,xc,rfl⟩:=hn
 subst ha
 unfold ij at hby
 obtain⟨i,hi,hib⟩:=Option.map_eq_some_iff.1 hby
 have mQ : ¬(len+n≤cap):=by omega
 have hN:=nextslicecap_le (len+n) cap (by omega)
 have YO : ¬(Builtin.nextslicecap (len+n) cap*bytes > 2 ^ 48):=by
  have h2:Builtin.nextslicecap (len+n) cap*bytes≤(2*(len+n)+1024)*bytes:=Nat.mul_le_mul_right _ hN
  have h3:(2*(len+n)+1024)*bytes=2*((len+n)*bytes)+1024*bytes:=by rw[Nat.add_mul,Nat.mul_assoc]
  have h4:(len+n)*(bytes+1)=(len+n)*bytes+(len+n):=by rw[Nat.mul_add,Nat.mul_one]
  unfold aN at jM
  omega
 have YS : ¬((len+n:Nat):Int) > IntKind.i64.max:=by
  have:len+n≤(len+n)*(bytes+1):=Nat.le_mul_of_pos_right _ (by omega)
  unfold aN at jM
  have e:IntKind.i64.max=9223372036854775807:=by decide
  rw[e];omega
 let q:=Question.appendCap (len+n) cap elem
 have YV:len+n≤q.cut (w.tape w.drawn q):=Nat.le_add_right _ _
 refine⟨w.drawn+1,q.cut (w.tape w.drawn q),(Builtin.zeroCells z.cells (q.cut (w.tape w.drawn q) - (len+n))).toList,?_,YV,by simp[Builtin.zeroCells]⟩
 have e0:(#[Value.slice base len cap,Value.slice xa n xc]:Array Value)[0]?=some (.slice base len cap):=rfl
 have e1:(#[Value.slice base len cap,Value.slice xa n xc]:Array Value)[1]?=some (.slice xa n xc):=rfl
 simp only[Builtin.append_,h0,h1,e0,e1,Sem.run_bind,Go.run_underlying hst,Result.andThen_ok,cd w hsz,Go.run_underlying hxt,Sem.run_pure,Builtin.lenOf,Bool.false_eq_true,if_false,mQ,Bool.not_false,if_true,false_or,Sem.run_ite,run_typeInfo w hi,hib]
 rw[if_neg (by intro h;exact YS h.1)]
 rw[if_neg YO]
 simp only[Result.andThen_ok,run_choose,Question.forced,Bool.false_eq_true,if_false,run_askRoom,run_typeInfo _ hi,ZbB,yM,dY _ hz,Go.newRow,Sem.run_bind,run_newObj,Sem.run_pure]
 have Zg : ∀Z:Array Value,old.toArray ++ new.toArray ++ Z=((old ++ new) ++ Z.toList).toArray:=fun Z=>by rw[←Array.toList_inj];simp
 rw[Zg]
 rfl
def kF (P:Program) (w w':World) (ts:Array TypeId) (ty:TypeId) (st xt elem xe:TypeId) (x':Value) (size n len cap:Nat) (base:Option Addr) (new:List Value)
  (h0:ts[0]?=some st) (h1:ts[1]?=some xt) (hst:P.underlying st=some (.slice elem)) (hxt:P.underlying xt=some (.slice xe)) (hsz:aO P elem=some size)
  (hn : ∃xa xc,x'=.slice xa n xc) (WT:len+n≤cap) (yM:(Builtin.firstCells size n x').run P w=.ok new.toArray w)
  (hst' : ∀a,base=some a→(storeCells (a.add (len*size)) new).run P w=.ok () w') (ZbE:base=none→w'=w) :
  (Builtin.append_ ts ty #[.slice base len cap,x']).run P w=.ok (.slice base (len+n) cap) w':=by
 obtain⟨xa,xc,rfl⟩:=hn
 have e0:(#[Value.slice base len cap,Value.slice xa n xc]:Array Value)[0]?=some (.slice base len cap):=rfl
 have e1:(#[Value.slice base len cap,Value.slice xa n xc]:Array Value)[1]?=some (.slice xa n xc):=rfl
 simp only[Builtin.append_,h0,h1,e0,e1,Sem.run_bind,Go.run_underlying hst,Result.andThen_ok,cd w hsz,Go.run_underlying hxt,Sem.run_pure,Builtin.lenOf,Bool.false_eq_true,if_false,WT,Bool.not_false,if_true,yM]
 cases base with
 | none=>rw[ZbE rfl];rfl
 | some a=>simp[hst' a rfl]
def qN (k:Nat) : ∀(l:List Nat),k∈l→l=l.takeWhile (· != k) ++ k :: (l.dropWhile (· != k)).drop 1
 | [],h=>by cases h
 | a :: l,h=>by
  by_cases e:a=k
  ·subst e;simp
  ·have h':k∈l:=by
    rcases List.mem_cons.1 h with h|h
    ·exact absurd h.symm e
    ·exact h
   have:=qN k l h'
   simp only[List.takeWhile_cons,List.dropWhile_cons,bne_iff_ne,ne_eq,e,not_false_eq_true,if_true,List.cons_append]
   rw[←this]
variable {v:Value}{ty:TypeId}{ts:Array TypeId}
theorem Rel.append (R:Rel B w0 m h w) (P:Program) {st xt xe:TypeId} {s s':Value}
  (h0:ts[0]?=some st) (h1:ts[1]?=some xt) (hxt:P.underlying xt=some (.slice xe)) (ha:append P h st s x=some (v,h')) (hs:aG m s s') (hx:aG m x x') (cH:eH m h.n h'.n) :
  ∃v' m' w',(Builtin.append_ ts ty #[s',x']).run P w=.ok v' w'∧aG m' v v'∧Rel B w0 m' h' w'∧Step m h w m' h' w':=by
 unfold Id.append at ha
 cases hst:P.underlying st with
 | none=>simp[hst] at ha
 | some d =>
  rw[hst] at ha
  cases d with
  | slice elem =>
   cases hsz:aO P elem with
   | none=>simp[hsz] at ha
   | some size =>
   cases hby:ij P elem with
   | none=>simp[hsz,hby] at ha
   | some bytes =>
   cases hz:aE P elem with
   | none=>simp[hsz,hby,hz] at ha
   | some zs =>
   cases hn:Id.lenOf x with
   | none=>simp[hsz,hby,hz,hn] at ha
   | some n =>
   obtain⟨z,hz0,_,hzs⟩:=dc hz
   obtain⟨xa,xc,hx'⟩:=xd hx hn
   simp only[hsz,hby,hz,hn,cond_eq_ite,beq_iff_eq] at ha
   by_cases hn0:n=0
   ·-- nothing is ZcI
    subst hn0
    rw[if_pos rfl] at ha
    have hf0:(Builtin.firstCells size 0 x').run P w=.ok ([]:List Value).toArray w:=by
     subst hx'
     cases xa with
     | none=>rfl
     | some a=>show(loadCells a (0*size)).run P w=_;rw[Nat.zero_mul];rfl
    split at ha
    ·rename_i a c
     by_cases hac:(a == 0 && c == 0)=true
     ·rw[if_pos hac] at ha;cases ha
      obtain⟨rfl,rfl,rfl⟩:=hs.lV
      refine⟨_,m,w,kF P w w ts ty st xt elem xe x' size 0 0 0 none [] h0 h1 hst hxt hsz ⟨_,_,hx'⟩ (by omega) hf0 (by simp) (fun _=>rfl),hs,R,Step.refl _ _ _⟩
     ·rw[if_neg hac] at ha;cases ha
    ·rename_i b o len k
     cases ha
     have hlc : ∃a Vd cap,s'=.slice (some a) Vd cap∧Vd≤cap:=by
      rcases hs.dI with⟨r,q,cap,_,_,h2,h3,_,_,rfl⟩|⟨rfl,rfl,a,cap,rfl⟩
      ·exact⟨_,_,_,rfl,Nat.le_trans h2 h3⟩
      ·exact⟨_,_,_,rfl,Nat.zero_le _⟩
     obtain⟨a,Vd,cap,rfl,hle⟩:=hlc
     exact⟨_,m,w,kF P w w ts ty st xt elem xe x' size 0 Vd cap (some a) [] h0 h1 hst hxt hsz ⟨_,_,hx'⟩ (by omega) hf0 (by intro a' _;rfl) (by simp),hs,R,Step.refl _ _ _⟩
    ·cases ha
   ·rw[if_neg hn0] at ha
    by_cases hsb:(size == 0 || (!(Nat.ble bytes 65536) || !(zs.length == size)))=true
    ·rw[if_pos hsb] at ha;cases ha
    ·rw[if_neg hsb] at ha
     simp only[Bool.or_eq_true,beq_iff_eq,Bool.not_eq_true',not_or,Bool.not_eq_false,beq_eq_false_iff_ne,ne_eq,Decidable.not_not] at hsb
     obtain⟨WQ,Km,Zbk⟩:=hsb
     have Km:bytes≤65536:=Nat.le_of_ble_eq_true Km
     have hzc:z.cells.size=size:=by rw[←Zbk,hzs];simp
     cases hfi:bF h size n x with
     | none=>simp[hfi] at ha
     | some new =>
     simp only[hfi] at ha
     by_cases eF:(!(new.all aB))=true
     ·rw[if_pos eF] at ha;cases ha
     rw[if_neg eF] at ha
     have hok : ∀c∈new,aB c=true:=by simpa using eF
     have Zbl:x≠.slice none 0 0:=by
      intro e;subst e;simp only[Id.lenOf] at hn;cases hn;exact hn0 rfl
     obtain⟨gF,vP,nK,sP⟩:=R.first P hx hfi
     have sP:new.length=n*size:=sP.resolve_left Zbl
     have MY : ∀d,Rel B w0 m h { w with drawn:=d }:=fun d=>R.congr rfl (kj R.below d)
     split at ha
     ·-- onto nil
      rename_i a c
      by_cases hc:(a == 0 && c == 0 && Nat.ble (n*(bytes+1)) aN)=true
      ·rw[if_pos hc] at ha;cases ha
       simp only[Bool.and_eq_true,beq_iff_eq,Nat.ble_eq] at hc
       obtain⟨rfl,rfl,rfl⟩:=hs.lV
       obtain⟨d,jb,rest,bD,mQ,rH⟩:=mA P w ts ty st xt elem xe (.slice none 0 0) x' size bytes z none 0 0 n [] gF h0 h1 hst hxt hsz hby hz0 rfl ⟨_,_,hx'⟩ (by omega) Km
        (by rw[Nat.zero_add];exact hc.2) (fun d=>rfl) (fun d=>vP _ rfl)
       rw[Nat.zero_add] at bD mQ rH
       simp only[List.nil_append] at bD
       have hm0:m (2*h.n)=none:=cH h.n (Nat.le_refl _) (Nat.lt_succ_self _)
       obtain⟨R1,S1⟩:=(MY d).new (.cells new size none) (.cells (gF ++ rest).toArray elem) (size,(gF ++ rest).length) hm0
        ⟨(gF ++ rest).toArray,elem,by rw[heap_alloc,if_pos rfl],⟨by simp[nK.1],fun i v hi=>by
         obtain⟨v',a,b⟩:=nK.get hi
         refine⟨v',?_,b⟩
         have hi':i<gF.length:=by
          rcases Nat.lt_or_ge i gF.length with h|h
          ·exact h
          ·rw[List.getElem?_eq_none h] at a;cases a
         simp only[List.getElem?_toArray,Nat.zero_add]
         rw[List.getElem?_append_left hi'];exact a⟩,rfl,by simp⟩ rfl
       refine⟨_,_,_,bD,?_,R1,S1.congr rfl⟩
       have hp:0<n:=Nat.pos_of_ne_zero hn0
       have:=aG.slice (m:=m.upd (2*h.n) (w.heap.size,0) (size,(gF ++ rest).length)) (b:=2*h.n) (o:=0) (r:=w.heap.size) (s:=0) (len:=n) (k:=2*n) (cap:=jb) (Mp.bj _ _ _ _) (by omega) (by omega) (by omega) (by omega) (by intro _;rw[Mp.lZ];simp only[List.length_append,rH,hzc,←nK.1,sP];rw[←Nat.add_mul];simp only[Nat.zero_add,Nat.add_zero];exact Nat.mul_le_mul_right _ (by omega))
       exact this
      ·rw[if_neg hc] at ha;cases ha
     ·rename_i b o len k
      by_cases jM:(!(Nat.ble ((len+n)*(bytes+1)) aN))=true
      ·rw[if_pos jM] at ha;cases ha
      ·rw[if_neg jM] at ha
       have Sa:(len+n)*(bytes+1)≤aN:=by
        simp only[Bool.not_eq_true',Bool.not_eq_false] at jM
        exact Nat.le_of_ble_eq_true jM
       by_cases hin:Nat.ble (len+n) (k / 2)=true
       ·-- there is room for sure
        rw[if_pos hin] at ha
        have hin':=Nat.le_of_ble_eq_true hin
        obtain⟨h1w,hw1,hv1⟩:=Option.map_eq_some_iff.1 ha
        cases hv1
        rcases hs.dI with⟨r,q,cap,hmb,hk0,hl,hkc,hx1,hz1,rfl⟩|⟨_,hk,_⟩
        ·obtain⟨w',hr1,R1,S1⟩:=R.wr hw1 hmb nK hok P
         refine⟨_,m,w',kF P w w' ts ty st xt elem xe x' size n len cap _ gF h0 h1 hst hxt hsz ⟨_,_,hx'⟩ (by omega) (vP w rfl) (fun a e=>?_) (by simp),?_,R1,S1⟩
         ·cases e;rw[kY,Nat.add_assoc];exact hr1
         ·exact .slice hmb hk0 hin' hkc hx1 hz1
        ·omega
       ·rw[if_neg hin] at ha
        have hin' : ¬len+n≤k / 2:=fun e=>hin (by simpa using e)
        by_cases mP:k % 2=1
        ·-- there is none for sure
         rw[if_pos mP] at ha
         cases hfo:bF h size len (.slice (some ⟨b,o,none⟩) len k) with
         | none=>simp[hfo] at ha
         | some old =>
          simp only[hfo] at ha;cases ha
          obtain⟨ru,Fh,AT,Fi⟩:=R.first P hs hfo
          have Fi:old.length=len*size:=Fi.resolve_left (by simp)
          have nL : ∃base cap,s'=.slice base len cap∧cap<len+n:=by
           rcases hs.dI with⟨r,q,cap,_,_,_,_,hx1,_,rfl⟩|⟨_,hk,_⟩
           ·exact⟨_,cap,rfl,by have:=hx1 mP;omega⟩
           ·omega
          obtain⟨base,cap,rfl,hcl⟩:=nL
          obtain⟨d,jb,rest,bD,mQ,rH⟩:=mA P w ts ty st xt elem xe _ x' size bytes z base len cap n ru gF h0 h1 hst hxt hsz hby hz0 rfl ⟨_,_,hx'⟩ hcl Km Sa
           (fun d=>Fh _ rfl) (fun d=>vP _ rfl)
          have hm0:m (2*h.n)=none:=cH h.n (Nat.le_refl _) (Nat.lt_succ_self _)
          have hon:=AT.append nK
          obtain⟨R1,S1⟩:=(MY d).new (.cells (old ++ new) size none) (.cells (ru ++ gF ++ rest).toArray elem) (size,(ru ++ gF ++ rest).length) hm0
           ⟨(ru ++ gF ++ rest).toArray,elem,by rw[heap_alloc,if_pos rfl],⟨by simp[AT.1,nK.1],fun i v hi=>by
            obtain⟨v',a,b⟩:=hon.get hi
            refine⟨v',?_,b⟩
            have hi':i<(ru ++ gF).length:=by
             rcases Nat.lt_or_ge i (ru ++ gF).length with h|h
             ·exact h
             ·rw[List.getElem?_eq_none h] at a;cases a
            simp only[List.getElem?_toArray,Nat.zero_add]
            rw[List.getElem?_append_left hi'];exact a⟩,rfl,by simp⟩ rfl
          refine⟨_,_,_,bD,?_,R1,S1.congr rfl⟩
          have:=aG.slice (m:=m.upd (2*h.n) (w.heap.size,0) (size,(ru ++ gF ++ rest).length)) (b:=2*h.n) (o:=0) (r:=w.heap.size) (s:=0) (len:=len+n) (k:=2*(len+n)) (cap:=jb) (Mp.bj _ _ _ _) (by omega) (by omega) (by omega) (by omega)
           (by intro _;rw[Mp.lZ];simp only[List.length_append,rH,hzc,←AT.1,Fi,←nK.1,sP];rw[←Nat.add_mul,←Nat.add_mul];simp only[Nat.zero_add,Nat.add_zero];exact Nat.mul_le_mul_right _ (by omega))
          exact this
        ·rw[if_neg mP] at ha
         by_cases rJ:(len == k / 2 && Nat.blt 0 len && b % 2 == 0)=true
         ·rw[if_pos rJ] at ha
          simp only[Bool.and_eq_true,beq_iff_eq,Nat.blt_eq] at rJ
          obtain⟨⟨hlk,hl0⟩,hb2⟩:=rJ
          cases hg:h.ext.get (b / 2) with
          | none=>simp[hg] at ha
          | some ob =>
           rw[hg] at ha
           cases ob with
           | map es=>simp at ha
           | loop l=>simp at ha
           | iter _ _ _ _=>simp at ha
           | num _=>simp at ha
           | dead=>simp at ha
           | cells cs t fam =>
            simp only at ha
            by_cases hce:(o+len*size == cs.length && t == size)=true
            ·rw[if_pos hce] at ha
             simp only[Bool.and_eq_true,beq_iff_eq] at hce
             obtain⟨hce,rfl⟩:=hce
             have hb':2*(b / 2)=b:=by omega
             have hm0:m (2*h.n)=none:=cH h.n (Nat.le_refl _) (by
              cases fam with
              | none=>simp only[Option.some.injEq,Prod.mk.injEq] at ha;rw[←ha.2];exact Nat.lt_succ_self _
              | some f=>cases hf:h.bP.get f with
               | none=>simp[hf] at ha
               | some stk=>simp only[hf,Option.some.injEq,Prod.mk.injEq] at ha;rw[←ha.2];exact Nat.lt_succ_self _)
             have ZbN : ∃f ch below,v=.slice (some ⟨2*h.n,0,none⟩) (len+n) (2*(len+n))∧h'=grown h (b / 2) f cs t ch below (cs.drop o ++ new) t ∧
               Xs h (b / 2) f ch below fam:=by
              cases fam with
              | none=>simp only[Option.some.injEq,Prod.mk.injEq] at ha;exact⟨h.n,[],[],ha.1.symm,ha.2.symm,rfl,rfl,rfl⟩
              | some f=>cases hf:h.bP.get f with
               | none=>simp[hf] at ha
               | some stk =>
                simp only[hf,Option.some.injEq,Prod.mk.injEq] at ha
                obtain⟨st2,hst2,Kg⟩:=R.fam (b / 2) cs t f hg
                rw[hf] at hst2;cases hst2
                exact⟨f,_,_,ha.1.symm,ha.2.symm,rfl,stk,hf,qN _ _ Kg⟩
             obtain⟨f,ch,below,rfl,rfl,Fj⟩:=ZbN
             rcases hs.dI with⟨r,q,cap,hmb,hk0,hl,hkc,hx1,hz1,rfl⟩|⟨_,hk,_⟩
             ·have Vs:m (2*(b / 2))=some (r,q):=by rw[hb'];exact hmb
              obtain⟨c,el,hc,fA,he1,he2⟩:=R.obj (b / 2) _ r q hg Vs
              rw[hb'] at he1 he2
              have Da:=hz1 (by omega)
              rw[he1] at Da
              have hr1:=fA.1
              have hdl:(cs.drop o).length=len*t:=by simp;omega
              by_cases Vu:len+n≤cap
              ·-- in place
               have hmul:(len+n)*t≤cap*t:=Nat.mul_le_mul_right _ Vu
               rw[Nat.add_mul] at hmul
               have YJ : ∀x∈gF,aB x=true:=by
                intro x hx
                obtain⟨i,hi,e⟩:=List.getElem_of_mem hx
                have hi':i<new.length:=nK.1▸hi
                exact DJ (nK.2 i new[i] x (List.getElem?_eq_getElem hi') (by rw[List.getElem?_eq_getElem hi,e])) (hok _ (List.getElem_mem hi'))
               have MW:gF.length=n*t:=by rw[←nK.1,sP]
               have hsto:=mz P r (q+o+len*t) el gF 0 w c hc (by omega) YJ
               have hne:gF ≠ []:=by
                intro e
                have:n*t=0:=by rw[←MW,e];rfl
                rcases Nat.mul_eq_zero.1 this with e|e
                ·exact hn0 e
                ·exact WQ e
               rw[if_neg hne,Nat.add_zero] at hsto
               have hrw:=fA.1
               have hrs:=R.even (b / 2) r q Vs
               have jE:(World.put w r (.cells (iD c (q+o+len*t) gF) el)).heap[r]?=some (.cells (iD c (q+o+len*t) gF) el):=by rw[kW,if_pos ⟨rfl,hrs.2⟩]
               have hpn : ∀p,p≠r→(World.put w r (.cells (iD c (q+o+len*t) gF) el)).heap[p]?=w.heap[p]?:=fun p hp=>by rw[kW,if_neg (fun e=>hp e.1)]
               obtain⟨R1,S1⟩:=R.grow hg Vs hm0 f ch below Fj (cs.drop o ++ new) t r (q+o) (t,(m.ez b).2) (World.put w r (.cells (iD c (q+o+len*t) gF) el))
                (sW R.below hrs.1 _) (by rw[jB];exact Nat.le_refl _) ⟨hrs.1,by rw[jB];exact hrs.2⟩
                ⟨_,el,jE,⟨by rw[List.length_append,hdl,iZ];omega,fun i x hi=>by
                 rw[oS gF c _ _ (by omega)]
                 by_cases h2:i<(cs.drop o).length
                 ·rw[List.getElem?_append_left h2,List.getElem?_drop] at hi
                  rw[if_neg (by omega)]
                  have:=fA.2 _ _ hi
                  rw[←Nat.add_assoc] at this
                  exact this
                 ·rw[List.getElem?_append_right (by omega)] at hi
                  obtain⟨x',a1,a2⟩:=nK.get hi
                  have hlt:i - (cs.drop o).length<gF.length:=by
                   rcases Nat.lt_or_ge (i - (cs.drop o).length) gF.length with e|e
                   ·exact e
                   ·rw[List.getElem?_eq_none e] at a1;cases a1
                  rw[if_pos (by omega)]
                  refine⟨x',?_,a2⟩
                  rw[show q+o+i - (q+o+len*t)=i - (cs.drop o).length from by omega];exact a1⟩,rfl,by rw[iZ];exact he2⟩
                (.inr ⟨rfl,by rw[List.length_append,hdl];omega,fun p hp hpr=>hpn p hpr,fun c2 el2 hc2=>by
                 rw[hc] at hc2;cases hc2
                 exact⟨_,jE,by rw[iZ];exact Nat.le_refl _,fun i hi=>by rw[oS gF c _ _ (by omega),if_neg (by omega)]⟩⟩)
               refine⟨_,_,_,kF P w _ ts ty st xt elem xe x' t n len cap _ gF h0 h1 hst hxt hsz ⟨_,_,hx'⟩ Vu (vP w rfl) (fun a e=>?_) (by simp),?_,R1,S1⟩
               ·cases e;rw[kY];exact hsto
               ·have:=aG.slice (m:=m.upd (2*h.n) (r,q+o) (t,(m.ez b).2)) (b:=2*h.n) (o:=0) (r:=r) (s:=q+o) (len:=len+n) (k:=2*(len+n)) (cap:=cap) (Mp.bj _ _ _ _) (by omega) (by omega) (by omega) (by omega)
                 (by intro _;rw[Mp.lZ];simp only[Nat.add_zero];exact Da)
                rw[Nat.add_zero] at this
                exact this
              ·-- in new memory
               have hfo:bF h t len (.slice (some ⟨b,o,none⟩) len k)=some (cs.drop o):=by
                unfold bF
                have hb0 : ¬b % 2=1:=by omega
                have h00 : ¬len*t=0:=by
                 intro e
                 rcases Nat.mul_eq_zero.1 e with e|e
                 ·omega
                 ·exact WQ e
                simp only[cond_eq_ite,Nat.ble_eq,Nat.le_refl,if_true,beq_iff_eq,h00,if_false,IH.rd,IH.row,hb0,hg]
                rw[if_pos (by omega),List.take_of_length_le (by omega)]
               obtain⟨ru,Fh,AT,_⟩:=R.first P hs hfo
               obtain⟨d,jb,rest,bD,mQ,rH⟩:=mA P w ts ty st xt elem xe _ x' t bytes z _ len cap n ru gF h0 h1 hst hxt hsz hby hz0 rfl ⟨_,_,hx'⟩ (by omega) Km Sa
                (fun d=>Fh _ rfl) (fun d=>vP _ rfl)
               have hon:=AT.append nK
               have hsz1:(({ w with drawn:=d }:World).alloc (.cells (ru ++ gF ++ rest).toArray elem)).heap.size=w.heap.size+1:=size_alloc _ _
               have hat:(({ w with drawn:=d }:World).alloc (.cells (ru ++ gF ++ rest).toArray elem)).heap[w.heap.size]?=some (.cells (ru ++ gF ++ rest).toArray elem):=by rw[heap_alloc];exact if_pos rfl
               obtain⟨R1,S1⟩:=R.grow hg Vs hm0 f ch below Fj (cs.drop o ++ new) t w.heap.size 0 (t,(ru ++ gF ++ rest).length) (({ w with drawn:=d }:World).alloc (.cells (ru ++ gF ++ rest).toArray elem))
                (nQ (kj R.below d) R.size _) (by rw[hsz1];omega) ⟨R.size,by rw[hsz1];omega⟩
                ⟨_,elem,hat,⟨by simp only[List.length_append,Nat.zero_add,←AT.1,←nK.1,List.size_toArray];omega,fun i x hi=>by
                 obtain⟨x',a1,a2⟩:=hon.get hi
                 refine⟨x',?_,a2⟩
                 have hi':i<(ru ++ gF).length:=by
                  rcases Nat.lt_or_ge i (ru ++ gF).length with h|h
                  ·exact h
                  ·rw[List.getElem?_eq_none h] at a1;cases a1
                 simp only[List.getElem?_toArray,Nat.zero_add]
                 rw[List.getElem?_append_left hi'];exact a1⟩,rfl,by simp⟩
                (.inl ⟨Nat.le_refl _,fun p hp=>by rw[heap_alloc];exact if_neg (Nat.ne_of_lt hp)⟩)
               refine⟨_,_,_,bD,?_,R1,S1⟩
               have:=aG.slice (m:=m.upd (2*h.n) (w.heap.size,0) (t,(ru ++ gF ++ rest).length)) (b:=2*h.n) (o:=0) (r:=w.heap.size) (s:=0) (len:=len+n) (k:=2*(len+n)) (cap:=jb) (Mp.bj _ _ _ _) (by omega) (by omega) (by omega) (by omega)
                (by intro _;rw[Mp.lZ];simp only[List.length_append,rH,hzc,←AT.1,hdl,←nK.1,sP];rw[←Nat.add_mul,←Nat.add_mul];simp only[Nat.zero_add,Nat.add_zero];exact Nat.mul_le_mul_right _ (by omega))
               exact this
             ·omega
            ·rw[if_neg hce] at ha;cases ha
         ·rw[if_neg rJ] at ha;cases ha
     ·cases ha
  | _=>simp at ha
def Rel.copy (R:Rel B w0 m h w) (P:Program) {dt:TypeId} {d d':Value}
  (h0:ts[0]?=some dt) (hc:uD P h dt d x=some (v,h')) (hd:aG m d d') (hx:aG m x x') :
  ∃w',(Builtin.copy_ ts ty #[d',x']).run P w=.ok v w'∧aG m v v∧Rel B w0 m h' w'∧Step m h w m h' w':=by
 unfold uD at hc
 cases hdt:P.underlying dt with
 | none=>simp[hdt] at hc
 | some td =>
  rw[hdt] at hc
  cases td with
  | slice e =>
   cases hdn:Id.lenOf d with
   | none=>simp[hdn] at hc
   | some dn =>
   cases hsn:Id.lenOf x with
   | none=>simp[hdn,hsn] at hc
   | some sn =>
   cases hsz:aO P e with
   | none=>simp[hdn,hsn,hsz] at hc
   | some size =>
   simp only[hdn,hsn,hsz] at hc
   cases hfi:bF h size (Nat.min sn dn) x with
   | none=>simp[hfi] at hc
   | some cs =>
   simp only[hfi,cond_eq_ite] at hc
   obtain⟨xa,xc,rfl⟩:=xd hx hsn
   obtain⟨cs',bD,hL,_⟩:=R.first P hx hfi
   have hlen:(Builtin.lenOf (.slice xa sn xc)).run P w=.ok sn w:=rfl
   have e0 : ∀y:Value,(#[y,Value.slice xa sn xc]:Array Value)[0]?=some y:=fun _=>rfl
   have e1 : ∀y:Value,(#[y,Value.slice xa sn xc]:Array Value)[1]?=some (.slice xa sn xc):=fun _=>rfl
   split at hc
   ·rename_i a b
    cases hc
    obtain⟨rfl,rfl,rfl⟩:=hd.lV
    simp only[Id.lenOf] at hdn;cases hdn
    refine⟨w,?_,.bA rfl,R,Step.refl _ _ _⟩
    have Vr:Nat.min sn 0=0:=Nat.min_zero sn
    simp only[Vr] at bD ⊢
    simp only[Builtin.copy_,h0,e0,e1,Sem.run_bind,Go.run_underlying hdt,Result.andThen_ok,hlen,cd w hsz,Vr,bD w rfl,Sem.run_pure]
    rfl
   ·rename_i b o dl dk
    simp only[Id.lenOf] at hdn;cases hdn
    have hdv : ∃r q cap a,d'=.slice (some a) dn cap∧(0<dk→m b=some (r,q)∧a=⟨r,q+o,none⟩)∧(dk=0→dn=0):=by
     rcases hd.dI with⟨r,q,cap,hm,h1,_,_,_,_,rfl⟩|⟨hl,hk,a,cap,rfl⟩
     ·exact⟨r,q,cap,_,rfl,fun _=>⟨hm,rfl⟩,fun e=>by omega⟩
     ·subst hl;exact⟨0,0,cap,a,rfl,fun e=>by omega,fun _=>rfl⟩
    obtain⟨r,q,cap,a,rfl,vO,hzero⟩:=hdv
    by_cases Vw:cs.isEmpty=true
    ·rw[if_pos Vw] at hc;cases hc
     have hcs:cs = []:=by simpa using Vw
     subst hcs
     have hcs':cs' = []:=by have:=hL.1;simpa using this.symm
     subst hcs'
     refine⟨w,?_,.bA rfl,R,Step.refl _ _ _⟩
     simp only[Builtin.copy_,h0,e0,e1,Sem.run_bind,Go.run_underlying hdt,Result.andThen_ok,hlen,cd w hsz,bD w rfl,Sem.run_pure]
     rfl
    ·rw[if_neg Vw] at hc
     by_cases eF:(!(cs.all aB))=true
     ·rw[if_pos eF] at hc;cases hc
     rw[if_neg eF] at hc
     obtain⟨h1w,hw1,hv1⟩:=Option.map_eq_some_iff.1 hc
     cases hv1
     have hk:0<dk:=by
      rcases Nat.eq_zero_or_pos dk with e|e
      ·have:=hzero e;subst this
       exfalso;apply Vw
       have Vr:Nat.min sn 0=0:=Nat.min_zero sn
       rw[Vr] at hfi
       unfold bF at hfi
       split at hfi
       ·cases hfi;rfl
       ·simp only[cond_eq_ite,Nat.ble_eq,Nat.zero_le,if_true,Nat.zero_mul,beq_self_eq_true] at hfi;cases hfi;rfl
       ·cases hfi
      ·exact e
     obtain⟨hm,rfl⟩:=vO hk
     obtain⟨w',hr1,R1,S1⟩:=R.wr hw1 hm hL (by simpa using eF) P
     refine⟨w',?_,.bA rfl,R1,S1⟩
     simp only[Builtin.copy_,h0,e0,e1,Sem.run_bind,Go.run_underlying hdt,Result.andThen_ok,hlen,cd w hsz,bD w rfl,hr1,Sem.run_pure]
     rfl
   ·cases hc
  | _=>simp at hc
theorem D8 (c:Array Value) (q:Nat) (vs:List Value) (h:q+vs.length≤c.size):(iD c q vs).toList=IH.aJ c.toList q vs:=by
 apply List.ext_getElem?
 intro i
 rw[Array.getElem?_toList (xs:=iD c q vs),oS _ _ _ _ h,AY _ _ _ (by simpa using h)]
 split<;>simp
theorem A0 (off:Nat) : ∀(l:List Value) (k:Nat) (c:Array Value),(l.zipIdx k).foldl (fun cs p=>cs.setIfInBounds (off+p.2) p.1) c=iD c (off+k) l
 | [],k,c=>rfl
 | v :: l,k,c=>by
  rw[List.zipIdx_cons,List.foldl_cons,A0 off l (k+1),iD,Nat.add_assoc]
def NI (m:Mp) (a b:Nat×Value):Prop:=b.1=a.1∧aG m a.2 b.2
variable {m:Mp}
def bw.aJ {a a' b b':List Value} (h:bw m a a') (k:bw m b b') (o:Nat) (hb:o+b.length≤a.length):bw m (IH.aJ a o b) (IH.aJ a' o b'):=by
 have h1:=h.1;have h2:=k.1
 unfold IH.aJ
 rw[←h2]
 exact(h.take o).append (k.append (h.drop _))
def Bb (place:Nat→Option (Nat×Nat)) : ∀(ps ps':List (Nat×Value)) (cs:List Value) (c':Array Value) (r:List Value),bw m cs c'.toList →
  ps.length=ps'.length→(∀(i:Nat) (a b:Nat×Value),ps[i]?=some a→ps'[i]?=some b→NI m a b)→ck place cs ps=some r → ∃r',Instr.fill place c' ps'=some r'∧bw m r r'.toList
 | [],[],cs,c',r,h,_,_,hf=>by simp only[ck] at hf;cases hf;exact⟨c',rfl,h⟩
 | [],_ :: _,_,_,_,_,hl,_,_=>by simp at hl
 | _ :: _,[],_,_,_,_,hl,_,_=>by simp at hl
 | (i,v) :: ps,(i',v') :: ps',cs,c',r,h,hl,hp,hf=>by
  obtain⟨h1,h2⟩:=hp 0 _ _ rfl rfl
  simp only at h1 h2;subst h1
  rw[ck] at hf
  cases hpl:place i' with
  | none=>simp[hpl] at hf
  | some on =>
   obtain⟨o,n⟩:=on
   simp only[hpl,cond_eq_ite] at hf
   by_cases hc:(v.cells.size == n && Nat.ble (o+n) cs.length)=true
   ·rw[if_pos hc] at hf
    simp only[Bool.and_eq_true,beq_iff_eq,Nat.ble_eq] at hc
    have hcs:c'.size=cs.length:=by have:=h.1;simp at this;omega
    have hv':=Bx h2
    have hlen:o+v'.cells.toList.length≤c'.size:=by rw[Array.length_toList,hv',hc.1,hcs];exact hc.2
    have ZbO:v'.cells.zipIdx.foldl (fun cs x=>match x with|(c,j)=>cs.setIfInBounds (o+j) c) c'=iD c' o v'.cells.toList:=by
     rw[←Array.foldl_toList,Array.toList_zipIdx]
     exact A0 o v'.cells.toList 0 c'
    rw[Instr.fill,hpl]
    simp only
    rw[ZbO,if_neg (by simp only[ne_eq,Bool.or_eq_true,decide_eq_true_eq,not_or,Decidable.not_not,gt_iff_lt,Nat.not_lt];exact⟨by rw[hv',hc.1],by rw[hv',hc.1,hcs];exact hc.2⟩)]
    refine Bb place ps ps' _ _ r ?_ (by simpa using hl) (fun j a b ha hb=>hp (j+1) a b (by simpa using ha) (by simpa using hb)) hf
    rw[D8 _ _ _ hlen]
    exact h.aJ h2.cells o (by rw[Array.length_toList,hc.1];exact hc.2)
   ·rw[if_neg hc] at hf;cases hf
variable {ρ:Operand→Value}{fr:Fr}
def rf (hρ : ∀x v,opd fr x=some v→aG m v (ρ x)) : ∀(l:List (Nat×Operand)) (ps:List (Nat×Value)),partsOf fr l=some ps →
  ps.length=l.length ∧ ∀(i:Nat) (a b:Nat×Value),ps[i]?=some a→(l.map fun p=>(p.1,ρ p.2))[i]?=some b→NI m a b
 | [],ps,h=>by simp only[partsOf] at h;cases h;exact⟨rfl,by simp⟩
 | (i,x) :: l,ps,h=>by
  rw[partsOf] at h
  cases hx:opd fr x with
  | none=>simp[hx] at h
  | some v =>
   cases hl:partsOf fr l with
   | none=>simp[hx,hl] at h
   | some vs =>
    simp only[hx,hl] at h;cases h
    obtain⟨h1,h2⟩:=rf hρ l vs hl
    refine⟨by simp[h1],fun j a b ha hb=>?_⟩
    cases j with
    | zero=>simp at ha hb;subst ha;subst hb;exact⟨rfl,hρ x v hx⟩
    | succ j=>simp at ha hb;exact h2 j a b ha (by simpa using hb)
def Oa {P:Program} {t:TypeId} (hρ : ∀x v,opd fr x=some v→aG m v (ρ x)) {parts:Array (Nat×Operand)} {z cs:List Value} {ps:List (Nat×Value)}
  (hz:aE P t=some z) (hps:partsOf fr parts.toList=some ps) (ha:cE P t=true) (hf:ck (placeOf P t) z ps=some cs) (w:World) :
  ∃cs',(Instr.build t (parts.map fun(i,x)=>(i,ρ x))).run P w=.ok (.agg cs') w∧aG m (.agg cs.toArray) (.agg cs'):=by
 obtain⟨zv,hz1,hz2,rfl⟩:=dc hz
 unfold qz at hz1
 obtain⟨it,hit,hz3⟩:=Option.bind_eq_some_iff.1 hz1
 obtain⟨hl,hp⟩:=rf hρ _ _ hps
 have hL0:bw m zv.cells.toList zv.cells.toList:=(aG.bV hz2).cells
 have B5:(parts.map fun(x:Nat×Operand)=>match x with|(i,x)=>(i,ρ x)).toList=parts.toList.map fun p=>(p.1,ρ p.2):=by rw[Array.toList_map]
 have key : ∀place:Nat→Option (Nat×Nat),(∀i p,placeOf P t i=some p→place i=some p) → ∃r',Instr.fill place zv.cells (parts.toList.map fun p=>(p.1,ρ p.2))=some r'∧bw m cs r'.toList:=by
  intro place YH
  have up : ∀(ps:List (Nat×Value)) (a r:List Value),ck (placeOf P t) a ps=some r→ck place a ps=some r:=by
   intro ps
   induction ps with
   | nil=>intro a r h;exact h
   | cons p ps ih =>
    obtain⟨i,v⟩:=p
    intro a r h
    rw[ck] at h ⊢
    cases hpi:placeOf P t i with
    | none=>simp[hpi] at h
    | some on =>
     rw[YH i on hpi]
     rw[hpi] at h
     obtain⟨o,n⟩:=on
     simp only[cond_eq_ite] at h ⊢
     by_cases hc:(v.cells.size == n && Nat.ble (o+n) a.length)=true
     ·rw[if_pos hc] at h ⊢;exact ih _ _ h
     ·rw[if_neg hc] at h;cases h
  exact Bb place ps _ _ _ _ hL0 (by simp[hl]) hp (up ps _ _ hf)
 have hb : ∃r',P.built t (parts.map fun(x:Nat×Operand)=>match x with|(i,x)=>(i,ρ x)).toList=some r'∧bw m cs r'.toList:=by
  rw[B5]
  unfold Program.built cE at *
  cases hu:P.underlying t with
  | none=>simp[hu] at ha
  | some d =>
   rw[hu] at ha
   cases d with
   | array n e =>
    simp only[Option.isSome_iff_exists] at ha
    obtain⟨ie,hie⟩:=ha
    obtain⟨r',h1,h2⟩:=key (fun i=>some (i*ie.size,ie.size)) (by
     intro i p hpi
     simp only[placeOf,hu,aO,hie,Option.map_some] at hpi
     exact hpi)
    refine⟨r',?_,h2⟩
    simp only[hit,hz3,hie]
    exact h1
   | struct fs =>
    simp only[Array.all_eq_true_iff_forall_mem,Option.isSome_iff_exists] at ha
    have hpl : ∀(l:List Field),(∀f∈l,∃i,P.info? f.type=some i) → ∃pl,l.mapM (fun f=>(P.info? f.type).map fun i=>(f.offset,i.size))=some pl ∧ ∀(j:Nat) (f:Field),l[j]?=some f → ∃i,P.info? f.type=some i∧pl[j]?=some (f.offset,i.size):=by
     intro l
     induction l with
     | nil=>intro _;exact⟨[],rfl,by simp⟩
     | cons f l ih =>
      intro h
      obtain⟨i,hi⟩:=h f (by simp)
      obtain⟨pl,h1,h2⟩:=ih (fun g hg=>h g (by simp[hg]))
      refine⟨(f.offset,i.size) :: pl,by simp[List.mapM_cons,hi,h1],fun j g hj=>?_⟩
      cases j with
      | zero=>simp at hj;subst hj;exact⟨i,hi,rfl⟩
      | succ j=>simp at hj;obtain⟨i',a,b⟩:=h2 j g hj;exact⟨i',a,by simpa using b⟩
    obtain⟨pl,hpl1,hpl2⟩:=hpl fs.toList (fun f hf=>ha f (by simpa using hf))
    obtain⟨r',h1,h2⟩:=key (pl.toArray[·]?) (by
     intro i p hpi
     simp only[placeOf,hu] at hpi
     cases hfi:fs[i]? with
     | none=>simp[hfi] at hpi
     | some f =>
      simp only[hfi,aO] at hpi
      obtain⟨i',a,b⟩:=hpl2 i f (by simpa using hfi)
      rw[a] at hpi
      simp only[Option.map_some] at hpi
      rw[←hpi]
      simpa using b)
    refine⟨r',?_,h2⟩
    simp only[hit,hz3,hpl1]
    exact h1
   | _=>simp at ha
 obtain⟨r',h1,h2⟩:=hb
 exact⟨r',run_build w t _ r' h1,aG.iV (by simpa using h2)⟩
variable {v:Value}{m:Mp}
def jc {v':Value} {most n:Nat} (h:iQ v most=some n) (hv:aG m v v') : ∃k,v'=.int k (n:Int)∧n≤most:=by
 unfold iQ at h
 split at h
 ·rename_i k i
  have hv':=hv.cu rfl
  subst hv'
  cases i with
  | ofNat j =>
   simp only[cond_eq_ite,Nat.ble_eq] at h
   by_cases hj:j≤most
   ·rw[if_pos hj] at h;cases h;exact⟨k,rfl,hj⟩
   ·rw[if_neg hj] at h;cases h
  | negSucc j=>simp at h
 ·cases h
def sE (P:Program) (w:World) (k:IntKind) (n y:Nat) (code:BoundsCode) (h:n≤y):(Instr.sliceBound (.int k (n:Int)) y code).run P w=.ok n w:=by
 simp only[Instr.sliceBound,asIntOf,Sem.run_bind,Sem.run_pure,Result.andThen_ok]
 rw[if_pos (by omega)]
 simp
def im (m:Mp):Option Value→Option Value→Prop
 | none,none=>True
 | some v,some v'=>aG m v v'
 | _,_=>False
variable {x:Option Value}
def im.vE (h:im m none x):x=none:=by cases x<;>simp_all [im]
def im.my (h:im m (some v) x) : ∃v',x=some v'∧aG m v v':=by
 cases x with
 | none=>simp[im] at h
 | some v'=>exact⟨v',rfl,h⟩
variable {hi:Option Value}{cap:Nat}{hi' mx mx':Option Value}{len:Nat}{lo lo':Option Value}
def pY (P:Program) (w:World) (isSlice:Bool) {c:Nat} (hlo:im m lo lo') (hhi:im m hi hi') (hmx:im m mx mx')
  {l h:Nat} {om:Option Nat} (hb:fL len c lo hi mx=some (l,h,om)) (hc:c≤cap) (hlen:len≤c) :
  (Instr.sliceBounds isSlice len cap lo' hi' mx').run P w=.ok (l,h,om.getD cap) w∧l≤h∧h≤om.getD c∧om.getD c≤c:=by
 have low : ∀{h l:Nat},HT lo h=some l→l≤h ∧ ∀code,(match lo' with|some v=>Instr.sliceBound v h code|none=>pure 0:Sem Nat).run P w=.ok l w:=by
  intro h l hl
  unfold HT at hl
  cases lo with
  | none=>rw[hlo.vE];simp only at hl;cases hl;exact⟨Nat.zero_le _,fun _=>rfl⟩
  | some v =>
   obtain⟨v',rfl,hv⟩:=hlo.my
   obtain⟨k,rfl,hle⟩:=jc hl hv
   exact⟨hle,fun code=>sE P w k l h code hle⟩
 unfold fL at hb
 cases mx with
 | none =>
  rw[hmx.vE]
  simp only at hb
  cases hh:Sg hi len c with
  | none=>simp[hh] at hb
  | some h1 =>
   simp only[hh] at hb
   cases hl:HT lo h1 with
   | none=>simp[hl] at hb
   | some l1 =>
    simp only[hl] at hb;cases hb
    obtain⟨h2,bD⟩:=low hl
    unfold Sg at hh
    cases hi with
    | none =>
     rw[hhi.vE]
     simp only at hh;cases hh
     refine⟨?_,h2,hlen,Nat.le_refl _⟩
     have:=bD .sliceB
     cases lo'<;>simp_all [Instr.sliceBounds]
    | some v =>
     obtain⟨v',rfl,hv⟩:=hhi.my
     obtain⟨k,rfl,hle⟩:=jc hh hv
     refine⟨?_,h2,hle,Nat.le_refl _⟩
     have hb:=fun code=>sE P w k h cap code (by omega)
     have:=bD .sliceB
     cases lo'<;>simp_all [Instr.sliceBounds]
 | some mv =>
  obtain⟨mv',rfl,hmv⟩:=hmx.my
  simp only at hb
  cases hm:iQ mv c with
  | none=>simp[hm] at hb
  | some mm =>
   simp only[hm] at hb
   obtain⟨k,rfl,hmc⟩:=jc hm hmv
   have hb1:=fun code=>sE P w k mm cap code (by omega)
   cases hi with
   | none=>simp at hb
   | some hv =>
    obtain⟨hv',rfl,hhv⟩:=hhi.my
    simp only at hb
    cases hh:iQ hv mm with
    | none=>simp[hh] at hb
    | some h1 =>
     simp only[hh] at hb
     obtain⟨k2,rfl,hhm⟩:=jc hh hhv
     have hb2:=fun code=>sE P w k2 h1 mm code hhm
     cases hl:HT lo h1 with
     | none=>simp[hl] at hb
     | some l1 =>
      simp only[hl] at hb;cases hb
      obtain⟨h2,bD⟩:=low hl
      refine⟨?_,h2,hhm,hmc⟩
      have:=bD .slice3C
      cases lo'<;>simp_all [Instr.sliceBounds]
theorem DN (r p n:Nat):Addr.add ⟨r,p,none⟩ n=⟨r,p+n,none⟩:=kY r p n
variable {r size o b k s:Nat}
def pH {room:Bool} (hr:dC size room (.slice (some ⟨b,o,none⟩) len k) lo hi mx=some v)
  (hm:m b=some (r,s)) (hk0:0<k) (hl:len≤k / 2) (hkc:k / 2≤cap) (hx:k % 2=1→cap=k / 2) (hz:k % 2=0→s+o+cap*(m.ez b).1≤(m.ez b).2) (Da:room=true→(m.ez b).1=size)
  (hlo:im m lo lo') (hhi:im m hi hi') (hmx:im m mx mx') (P:Program) (isSlice:Bool) (w:World) :
  ∃l h mm,(Instr.sliceBounds isSlice len cap lo' hi' mx').run P w=.ok (l,h,mm) w∧aG m v (.slice (some (if mm=l then ⟨r,s+o,none⟩ else Addr.add ⟨r,s+o,none⟩ (l*size))) (h - l) (mm - l)):=by
 unfold dC at hr
 cases hb:fL len (k / 2) lo hi mx with
 | none=>simp[hb] at hr
 | some lhm =>
  obtain⟨l,h,om⟩:=lhm
  simp only[hb,cond_eq_ite,beq_iff_eq] at hr
  obtain⟨bD,h1,h2,h3⟩:=pY P w isSlice hlo hhi hmx hb hkc hl
  rw[if_neg (by omega)] at hr
  refine⟨l,h,_,bD,?_⟩
  cases om with
  | none =>
   simp only[Option.getD_none] at hr h2 h3 ⊢
   by_cases hlk:l=k / 2
   ·rw[if_pos hlk] at hr
    have hh0:h - l=0:=by omega
    rw[hh0]
    by_cases mP:k % 2=1
    ·rw[if_pos mP] at hr;cases hr
     have:=hx mP
     rw[if_pos (by omega)]
     rw[show cap - l=0 from by omega]
     exact .slice hm (by omega) (by omega) (by omega) (by intro _;rfl) (by intro e;omega)
    ·rw[if_neg mP] at hr;cases hr
     exact .lost
   ·rw[if_neg hlk] at hr
    by_cases hod:(k % 2 == 1 || room)=true
    ·rw[if_pos hod] at hr;cases hr
     rw[if_neg (by omega),DN]
     have e1:s+o+l*size=s+(o+l*size):=by omega
     rw[e1]
     refine .slice hm (by omega) (by omega) (by omega) (fun e=>by have:=hx (by omega);omega) (fun e=>?_)
     have hev:k % 2=0:=by omega
     have hrm:room=true:=by
      simp only[Bool.or_eq_true,beq_iff_eq] at hod
      rcases hod with h|h
      ·omega
      ·exact h
     have hsz:=Da hrm
     have h1:=hz hev
     rw[hsz] at h1 ⊢
     have:(cap - l)*size+l*size=cap*size:=by rw[←Nat.add_mul];congr 1;omega
     omega
    ·rw[if_neg hod] at hr;cases hr
  | some mm =>
   simp only[Option.getD_some] at hr h2 h3 ⊢
   by_cases hlm:l=mm
   ·rw[if_pos hlm] at hr;cases hr
    rw[if_pos hlm.symm,show h - l=0 from by omega,show mm - l=0 from by omega]
    exact .slice hm (by omega) (by omega) (by omega) (by intro _;rfl) (by intro e;omega)
   ·rw[if_neg hlm] at hr;cases hr
    rw[if_neg (fun e=>hlm e.symm),DN]
    have e1:s+o+l*size=s+(o+l*size):=by omega
    rw[e1]
    exact .slice hm (by omega) (by omega) (by omega) (by intro _;omega) (by intro e;omega)
variable {h:IH}{w0:World}{B:Nat}{w:World}
def Jv (R:Rel B w0 m h w) (hr:roomy h size (.slice (some ⟨b,o,none⟩) len k)=true) (hm:m b=some (r,s)):(m.ez b).1=size:=by
 unfold roomy at hr
 simp only[Bool.and_eq_true,beq_iff_eq] at hr
 obtain⟨hb,hr⟩:=hr
 cases hg:h.ext.get (b / 2) with
 | none=>simp[hg] at hr
 | some x =>
  rw[hg] at hr
  cases x with
  | cells cs e f =>
   simp only[beq_iff_eq] at hr
   have hb':2*(b / 2)=b:=by omega
   obtain⟨c,el,_,_,h1,_⟩:=R.obj (b / 2) _ r s hg (by rw[hb'];exact hm)
   rw[hb'] at h1
   rw[h1,hr]
  | _=>simp at hr
variable {t:TypeId}
def Rel.cT (R:Rel B w0 m h w) (P:Program) {x x':Value} (hs:cT P h t x lo hi mx=some v)
  (hx:aG m x x') (hlo:im m lo lo') (hhi:im m hi hi') (hmx:im m mx mx') :
  ∃v',(Instr.sliceAt t x' lo' hi' mx').run P w=.ok v' w∧aG m v v':=by
 unfold Id.cT at hs
 cases hu:P.underlying t with
 | none=>simp[hu] at hs
 | some d =>
  rw[hu] at hs
  cases d with
  | slice e =>
   simp only at hs
   cases hsz:aO P e with
   | none=>simp[hsz] at hs
   | some size =>
    simp only[hsz] at hs
    cases x with
    | slice a len k =>
     cases a with
     | none =>
      obtain⟨rfl,rfl,rfl⟩:=hx.lV
      unfold dC at hs
      simp only[beq_self_eq_true,Bool.and_self,cond_true] at hs
      cases hb:fL 0 0 lo hi mx with
      | none=>simp[hb] at hs
      | some lhm =>
       obtain⟨l,hh,om⟩:=lhm
       simp only[hb] at hs;cases hs
       obtain⟨bD,h1,h2,h3⟩:=pY P w true hlo hhi hmx hb (Nat.le_refl 0) (Nat.le_refl 0)
       have hl0:l=0:=by omega
       have hh0:hh=0:=by omega
       subst hl0;subst hh0
       refine⟨.slice none 0 0,?_,.bA rfl⟩
       have hm0:om.getD 0=0:=by omega
       rw[hm0] at bD
       simp[Instr.sliceAt,Go.run_underlying hu,Instr.slice,bD,cd w hsz]
     | some a =>
      obtain⟨b,o,sp⟩:=a
      cases sp with
      | some q=>simp[dC] at hs
      | none =>
      rcases hx.dI with⟨r,s,cap,hm,h1,h2,h3,h4,h5,rfl⟩|⟨rfl,rfl,a,cap,rfl⟩
      ·obtain⟨l,hh,mm,bD,hv⟩:=pH hs hm h1 h2 h3 h4 h5 (fun e=>Jv R e hm) hlo hhi hmx P true w
       refine⟨_,?_,hv⟩
       simp[Instr.sliceAt,Go.run_underlying hu,Instr.slice,bD,cd w hsz]
       split<;>simp
      ·-- a lost slice: it stays one
       unfold dC at hs
       cases hb:fL 0 (0 / 2) lo hi mx with
       | none=>simp[hb] at hs
       | some lhm =>
        obtain⟨l,hh,om⟩:=lhm
        simp only[hb,beq_self_eq_true,cond_true] at hs;cases hs
        obtain⟨bD,h1,h2,h3⟩:=pY P w (cap:=cap) true hlo hhi hmx hb (by omega) (by omega)
        have hl0:l=0:=by omega
        have hh0:hh=0:=by omega
        subst hl0;subst hh0
        refine⟨.slice (some (if om.getD cap=0 then a else a.add (0*size))) 0 (om.getD cap - 0),?_,.lost⟩
        simp[Instr.sliceAt,Go.run_underlying hu,Instr.slice,bD,cd w hsz]
        split<;>simp
    | _=>simp[dC] at hs
  | array n e =>
   simp only at hs
   cases hsz:aO P e with
   | none=>simp[hsz] at hs
   | some size =>
    cases hA:asAddr x with
    | none=>simp[hsz,hA] at hs
    | some bo =>
     obtain⟨b,o⟩:=bo
     have hp:x=.pointer (some ⟨b,o,none⟩):=by unfold asAddr at hA;split at hA<;>simp_all
     subst hp
     obtain⟨r,s,hm,rfl⟩:=hx.kH
     simp only[hsz,hA] at hs
     obtain⟨l,hh,mm,bD,hv⟩:=pH hs hm (by omega) (by omega) (cap:=n) (by omega) (by omega) (by omega) (by simp) hlo hhi hmx P false w
     refine⟨_,?_,hv⟩
     simp[Instr.sliceAt,Go.run_underlying hu,Instr.sureAddr,bD,cd w hsz]
  | pointer arr =>
   simp only at hs
   cases hua:P.underlying arr with
   | none=>simp[hua] at hs
   | some da =>
    rw[hua] at hs
    cases da with
    | array n e =>
     simp only at hs
     cases hsz:aO P e with
     | none=>simp[hsz] at hs
     | some size =>
      cases hA:Id.asAddr x with
      | none=>simp[hsz,hA] at hs
      | some bo =>
       obtain⟨b,o⟩:=bo
       have hp:x=.pointer (some ⟨b,o,none⟩):=by unfold Id.asAddr at hA;split at hA<;>simp_all
       subst hp
       obtain⟨r,s,hm,rfl⟩:=hx.kH
       simp only[hsz,hA] at hs
       obtain⟨l,hh,mm,bD,hv⟩:=pH hs hm (by omega) (by omega) (cap:=n) (by omega) (by omega) (by omega) (by simp) hlo hhi hmx P false w
       refine⟨_,?_,hv⟩
       simp[Instr.sliceAt,Go.run_underlying hu,Instr.slice,Go.asAddr,Go.run_underlying hua,bD,cd w hsz]
    | _=>simp at hs
  | string =>
   simp only[cond_eq_ite] at hs
   by_cases hp:(plain x && (lo.all plain && hi.all plain && mx.all plain))=true
   ·rw[if_pos hp] at hs
    simp only[Bool.and_eq_true] at hp
    have e0:=hx.di hp.1
    have ep : ∀{a b:Option Value},im m a b→a.all plain=true→b=a:=by
     intro a b hab ha
     cases a with
     | none=>exact hab.vE
     | some v=>obtain⟨v',rfl,hv⟩:=hab.my;rw[hv.di (by simpa using ha)]
    rw[e0,ep hlo hp.2.1.1,ep hhi hp.2.1.2,ep hmx hp.2.2]
    obtain⟨hpv,bD⟩:=gY hs
    refine⟨v,?_,.bV hpv⟩
    have this:=bD w
    simp only[Instr.sliceAt,Sem.run_bind,Go.run_underlying hu,Result.andThen_ok]
    exact this
   ·rw[if_neg hp] at hs;cases hs
  | _=>simp at hs
theorem Hf (z:List Value) (hz:z ≠ []) : ∀(n i:Nat),(bB n z)[i]?=if i<n*z.length then z[i % z.length]? else none
 | 0,i=>by simp[bB]
 | n+1,i=>by
  have vO:0<z.length:=List.length_pos_iff.2 hz
  rw[bB]
  by_cases h:i<z.length
  ·rw[List.getElem?_append_left h,if_pos (by rw[Nat.add_mul];omega),Nat.mod_eq_of_lt h]
  ·rw[List.getElem?_append_right (by omega),Hf z hz n (i - z.length)]
   have e:(i - z.length) % z.length=i % z.length:=by rw[Nat.mod_eq_sub_mod (a:=i) (by omega)]
   rw[e]
   by_cases h2:i - z.length<n*z.length
   ·rw[if_pos h2,if_pos (by rw[Nat.add_mul];omega)]
   ·rw[if_neg h2,if_neg (by rw[Nat.add_mul];omega)]
theorem nw (z:List Value) : ∀n,(bB n z).length=n*z.length
 | 0=>by simp[bB]
 | n+1=>by rw[bB,List.length_append,nw z n,Nat.add_mul];omega
theorem pL (z:Array Value) (n:Nat) (hz:z.size≠0):((Array.range (n*z.size)).map (fun i=>z[i % z.size]!)).toList=bB n z.toList:=by
 apply List.ext_getElem?
 intro i
 have hz':z.toList ≠ []:=by intro e;apply hz;have:=congrArg List.length e;simpa using this
 rw[Hf z.toList hz' n i,Array.getElem?_toList,Array.getElem?_map,Array.length_toList]
 by_cases h:i<n*z.size
 ·rw[if_pos h]
  have hm:i % z.size<z.size:=Nat.mod_lt _ (by omega)
  simp[h,hm]
 ·rw[if_neg h]
  simp[h]
def tU (n:Nat) (h:n≤1099511627776):IntKind.i64.wrap (n:Int)=(n:Int):=by
 rw[IntKind.wrap_i64];omega
theorem bw.bB {z:List Value} (h:bw m z z) : ∀n,bw m (Id.bB n z) (Id.bB n z)
 | 0=>.nil m
 | n+1=>h.append (bw.bB h n)
def rY (m:Mp) (w:World) (h h':IH) (run:Result Value) (v:Value):Prop :=
 ∃cs cs' e t v',h'=h.new (.cells cs e none)∧bw m cs cs'∧run=.ok v' (w.alloc (.cells cs'.toArray t)) ∧ ∀m':Mp,m' (2*h.n)=some (w.heap.size,0)→aG m' v v'
variable {h':IH}
def qi (P:Program) {l l' c c':Value} (hs:makeSlice P h t l c=some (v,h')) (hl:aG m l l') (hc:aG m c c') (w:World) :
  rY m w h h' ((Instr.makeSlice t l' c').run P w) v:=by
 unfold Id.makeSlice at hs
 cases hu:P.underlying t with
 | none=>simp[hu] at hs
 | some d =>
  rw[hu] at hs
  cases d with
  | slice e =>
   simp only at hs
   cases hln:iQ l aN with
   | none=>simp[hln] at hs
   | some ln =>
   cases hcn:iQ c aN with
   | none=>simp[hln,hcn] at hs
   | some cn =>
   cases hsz:aO P e with
   | none=>simp[hln,hcn,hsz] at hs
   | some n =>
   cases hby:ij P e with
   | none=>simp[hln,hcn,hsz,hby] at hs
   | some by_ =>
   cases hz:aE P e with
   | none=>simp[hln,hcn,hsz,hby,hz] at hs
   | some z =>
   simp only[hln,hcn,hsz,hby,hz,cond_eq_ite] at hs
   by_cases oR:(Nat.ble ln cn && Nat.ble (cn*(by_+1)) aN && z.length == n)=true
   ·rw[if_pos oR] at hs;cases hs
    simp only[Bool.and_eq_true,Nat.ble_eq,beq_iff_eq] at oR
    obtain⟨⟨hlc,jM⟩,hzn⟩:=oR
    obtain⟨zv,hz0,hzp,rfl⟩:=dc hz
    obtain⟨kl,rfl,hl1⟩:=jc hln hl
    obtain⟨kc,rfl,hc1⟩:=jc hcn hc
    unfold ij at hby
    obtain⟨i,hi,hib⟩:=Option.map_eq_some_iff.1 hby
    have hmul:cn*(by_+1)=cn*by_+cn:=by rw[Nat.mul_add,Nat.mul_one]
    have hbc:by_*cn=cn*by_:=Nat.mul_comm _ _
    unfold aN at jM hl1 hc1
    have Yz:=tU ln hl1
    have YA:=tU cn hc1
    have uz : ∃cells:Array Value,(if cn*n=0 then pure #[] else do pure (←zeroValue e).cells:Sem (Array Value)).run P w=.ok cells w∧((Array.range (cn*n)).map (fun i=>cells[i % cells.size]!)).toList=bB cn zv.cells.toList:=by
     by_cases h0:cn*n=0
     ·rw[if_pos h0]
      refine⟨#[],rfl,?_⟩
      rw[h0]
      have:(bB cn zv.cells.toList).length=0:=by rw[nw,hzn,h0]
      rw[List.length_eq_zero_iff.1 this];simp
     ·rw[if_neg h0]
      refine⟨zv.cells,by simp[dY w hz0],?_⟩
      have hs:zv.cells.size=n:=by simpa using hzn
      rw[←hs]
      exact pL zv.cells cn (by rw[hs];intro e;apply h0;rw[e,Nat.mul_zero])
    obtain⟨cells,oQ,Kj⟩:=uz
    have hLz:bw m (bB cn zv.cells.toList) (bB cn zv.cells.toList):=bw.bB (aG.bV (m:=m) hzp).cells cn
    refine⟨_,_,n,e,.slice (some ⟨w.heap.size,0,none⟩) ln cn,rfl,hLz,?_,fun m' hm=>?_⟩
    ·have e1:(Array.range (cn*n)).map (fun i=>cells[i % cells.size]!)=(bB cn zv.cells.toList).toArray:=by rw[←Kj]
     simp only[Instr.makeSlice,Sem.run_bind,Go.run_underlying hu,Result.andThen_ok,asInt,asIntOf,Sem.run_pure,run_typeInfo w hi,hib,Yz,YA]
     have Zbz:(by_:Int)*(cn:Int)=((by_*cn:Nat):Int):=by simp
     have hno : ¬((decide ((cn:Int)<0) || decide ((by_:Int)*(cn:Int) > 2 ^ 48) || decide ((ln:Int)<0) || decide ((ln:Int) > (cn:Int)))=true):=by
      simp only[Bool.or_eq_true,decide_eq_true_eq,Zbz];omega
     rw[if_neg hno]
     simp only[Int.toNat_natCast,Sem.run_bind,run_askRoom,Result.andThen_ok,cd w hsz]
     by_cases h0:cn*n=0
     ·rw[if_pos h0] at oQ ⊢
      simp only[Sem.run_pure] at oQ;cases oQ
      simp only[Sem.run_bind,Sem.run_pure,Result.andThen_ok,Go.newRow,run_newObj]
      rw[e1];rfl
     ·rw[if_neg h0] at oQ ⊢
      simp only[Sem.run_bind,dY w hz0,Result.andThen_ok,Sem.run_pure] at oQ;cases oQ
      simp only[Sem.run_bind,dY w hz0,Sem.run_pure,Result.andThen_ok,Go.newRow,run_newObj]
      rw[e1];rfl
    ·exact .slice (s:=0) hm (by omega) (by omega) (by omega) (by intro _;omega) (by intro e;omega)
   ·rw[if_neg oR] at hs;cases hs
  | _=>simp at hs
def rY.rel {run:Result Value} (M:rY m w h h' run v) (R:Rel B w0 m h w) (cH:eH m h.n h'.n) :
  ∃v' m' w',run=.ok v' w'∧aG m' v v'∧Rel B w0 m' h' w'∧Step m h w m' h' w':=by
 obtain⟨cs,cs',e,t,v',rfl,hL,bD,hv⟩:=M
 obtain⟨R1,S1⟩:=R.newRow (cH h.n (Nat.le_refl _) (Nat.lt_succ_self _)) hL e t
 exact⟨v',_,_,bD,hv _ (Mp.bj _ _ _ _),R1,S1⟩
end Go.Id
