/-
  The ideal machine: append and copy. The ideal machine: the other operations, first part: parts, slices, makes.
-/
import Derived.Test.YtnanhedgenokpaaGreatTemperMovesAd
import Derived.Laws.Tables
set_option linter.unusedVariables false
set_option linter.unusedSimpArgs false
set_option linter.defProp false
set_option linter.deprecated false
namespace Go.Id
open Go Go.RowKit
theorem Rel.congr {B:Nat} {w0:World} {m:Mp} {h:IH} {w w':World} (R:Rel B w0 m h w) (hh:w'.heap=w.heap) (hb:Below B w0 w'):Rel B w0 m h w' :=
 ⟨hb,by rw[hh];exact R.size,fun b cs hx=>let ⟨r0,s0,m0,a,c,el,fz,d,e⟩:=R.base b cs hx;⟨r0,s0,m0,a,c,el,fz,by rw[hh];exact d,e⟩,R.odd,fun k r s hk=>by rw[hh];exact R.even k r s hk,R.dom,
  fun k o r s a b=>(R.obj k o r s a b).mono (Mp.le_refl m) (by rw[hh]) rfl,R.own,R.dT,R.fam,R.long,R.whole⟩
theorem Step.congr {m m':Mp} {h h':IH} {w w1 w':World} (S:Step m h w1 m' h' w') (hh:w1.heap=w.heap):Step m h w m' h' w' :=
 ⟨S.le,S.new,S.n,S.base,fun r hr hk=>by rw[S.frame r (by rw[hh];exact hr) hk,hh],S.idle,by rw[←hh];exact S.size,fun k r s a b c=>by rw[←hh];exact S.img k r s a b c,S.mD⟩
theorem jE {B:Nat} {w0 w:World} (h:Below B w0 w) (d:Nat):Below B w0 { w with drawn:=d }:=⟨h.os,h.tape,h.output,h.size,h.block⟩
theorem aB.dZ {m:Mp} {b o len k:Nat} {v':Value} (h:aB m (.slice (some ⟨b,o,none⟩) len k) v') :
  (∃r s cap,m b=some (r,s)∧0<k∧len≤k / 2∧k / 2≤cap∧(k % 2=1→cap=k / 2)∧(k % 2=0→s+o+cap*(m.ez b).1≤(m.ez b).2)∧v'=.slice (some ⟨r,s+o,none⟩) len cap)∨(len=0∧k=0 ∧ ∃a cap,v'=.slice (some a) 0 cap):=by
 cases h with
 | bP h=>simp[Id.bP] at h
 | slice hm a b c d e=>exact .inl ⟨_,_,_,hm,a,b,c,d,e,rfl⟩
 | lost=>exact .inr ⟨rfl,rfl,_,_,rfl⟩
theorem aB.lX {m:Mp} {n c:Nat} {v':Value} (h:aB m (.slice none n c) v'):n=0∧c=0∧v'=.slice none 0 0:=by
 cases h with
 | bP h=>simp[Id.bP] at h;obtain⟨rfl,rfl⟩:=h;exact⟨rfl,rfl,rfl⟩
theorem tK {m:Mp} {x x':Value} {n:Nat} (h:aB m x x') (hn:Id.lenOf x=some n) : ∃a c,x'=.slice a n c:=by
 cases h with
 | bP h =>
  unfold Id.lenOf at hn
  split at hn
  ·cases hn;exact⟨_,_,rfl⟩
  ·cases hn
 | tok=>simp only[Id.lenOf] at hn;cases hn;exact⟨_,_,rfl⟩
 | slice=>simp only[Id.lenOf] at hn;cases hn;exact⟨_,_,rfl⟩
 | lost=>simp only[Id.lenOf] at hn;cases hn;exact⟨_,_,rfl⟩
 | _=>simp[Id.lenOf] at hn
theorem DR {w w2:World} (hh:w2.heap=w.heap) (a:Addr):w2.cell? a=w.cell? a:=by unfold World.cell?;rw[hh]
theorem Rel.first {B:Nat} {w0:World} {m:Mp} {h:IH} {w:World} (R:Rel B w0 m h w) (P:Program) {size n:Nat} {x x':Value} {cs:List Value} (hx:aB m x x') (hf:dr h size n x=some cs) :
  ∃cs',(∀w2:World,w2.heap=w.heap→(Builtin.firstCells size n x').run P w2=.ok cs'.toArray w2)∧bC m cs cs'∧(x=.slice none 0 0∨cs.length=n*size):=by
 unfold dr at hf
 split at hf
 ·cases hf
  obtain⟨rfl,rfl,rfl⟩:=hx.lX
  exact⟨[],fun _ _=>rfl,.nil m,.inl rfl⟩
 ·rename_i b o len k
  simp only[cond_eq_ite,Nat.ble_eq,beq_iff_eq] at hf
  by_cases hn:n≤len
  ·rw[if_pos hn] at hf
   by_cases h0:n*size=0
   ·rw[if_pos h0] at hf;cases hf
    refine⟨[],fun w2 _=>?_,.nil m,.inr (by simp[h0])⟩
    rcases hx.dZ with⟨r,s,cap,_,_,_,_,_,_,rfl⟩|⟨_,_,a,cap,rfl⟩
    ·simp only[Builtin.firstCells,h0];rfl
    ·simp only[Builtin.firstCells,h0];rfl
   ·rw[if_neg h0] at hf
    rcases hx.dZ with⟨r,s,cap,hm,_,_,_,_,_,rfl⟩|⟨hl,_,_⟩
    ·obtain⟨cs',hL,hlen,hc⟩:=R.rd hf hm
     refine⟨cs',fun w2 hh=>?_,hL,.inr hlen⟩
     show(loadCells ⟨r,s+o,none⟩ (n*size)).run P w2=_
     rw[show n*size=cs'.length from by rw[←hlen];exact hL.1]
     exact run_loadCells_list w2 _ cs' (fun j v hv=>by rw[DR hh];exact hc j v hv)
    ·exfalso;apply h0;rw[show n=0 by omega];simp
  ·simp[hn] at hf
 ·cases hf
theorem zU (w7:Nat) : ∀(rounds c:Nat),Builtin.growBy w7 rounds c≤max c (w7+(w7+768) / 4)
 | 0,c=>by simp only[Builtin.growBy];omega
 | rounds+1,c=>by
  rw[Builtin.growBy]
  by_cases h:c ≥ w7
  ·rw[if_pos h];omega
  ·rw[if_neg h]
   have:=zU w7 rounds (c+(c+768) / 4)
   omega
theorem nextslicecap_le (NA old:Nat) (h:old<NA):Builtin.nextslicecap NA old≤2*NA+1024:=by
 unfold Builtin.nextslicecap
 split
 ·omega
 ·split
  ·omega
  ·have:=zU NA 4 old;omega
theorem lC (P:Program) (w:World) (ts:Array TypeId) (ty:TypeId) (st xt elem xe:TypeId) (a x':Value) (size bytes:Nat) (z:Value) (base:Option Addr) (len cap n:Nat) (old new:List Value)
  (h0:ts[0]?=some st) (h1:ts[1]?=some xt) (hst:P.underlying st=some (.slice elem)) (hxt:P.underlying xt=some (.slice xe)) (hsz:aP P elem=some size) (hby:jD P elem=some bytes) (hz:nF P elem=some z)
  (ha:a=.slice base len cap) (hn : ∃xa xc,x'=.slice xa n xc) (Pf:cap<len+n) (hb:bytes≤65536) (ji:(len+n)*(bytes+1)≤aX)
  (Sl : ∀d,(Builtin.firstCells size len a).run P { w with drawn:=d }=.ok old.toArray { w with drawn:=d }) (u6 : ∀d,(Builtin.firstCells size n x').run P { w with drawn:=d }=.ok new.toArray { w with drawn:=d }) :
  ∃d ir rest,(Builtin.append_ ts ty #[a,x']).run P w=.ok (.slice (some ⟨w.heap.size,0,none⟩) (len+n) ir) ((({ w with drawn:=d }:World)).alloc (.cells ((old ++ new) ++ rest).toArray elem))∧len+n≤ir∧rest.length=(ir - (len+n))*z.cells.size:=by
 obtain⟨xa,xc,rfl⟩:=hn
 subst ha
 unfold jD at hby
 obtain⟨i,hi,hib⟩:=Option.map_eq_some_iff.1 hby
 have sD : ¬(len+n≤cap):=by omega
 have hN:=nextslicecap_le (len+n) cap (by omega)
 have Ld : ¬(Builtin.nextslicecap (len+n) cap*bytes > 2 ^ 48):=by
  have h2:Builtin.nextslicecap (len+n) cap*bytes≤(2*(len+n)+1024)*bytes:=Nat.mul_le_mul_right _ hN
  have h3:(2*(len+n)+1024)*bytes=2*((len+n)*bytes)+1024*bytes:=by rw[Nat.add_mul,Nat.mul_assoc]
  have h4:(len+n)*(bytes+1)=(len+n)*bytes+(len+n):=by rw[Nat.mul_add,Nat.mul_one]
  unfold aX at ji
  omega
 have Qv : ¬((len+n:Nat):Int) > IntKind.i64.max:=by
  have:len+n≤(len+n)*(bytes+1):=Nat.le_mul_of_pos_right _ (by omega)
  unfold aX at ji
  have e:IntKind.i64.max=9223372036854775807:=by decide
  rw[e];omega
 let q:=Question.appendCap (len+n) cap elem
 have Qy:len+n≤q.cut (w.tape w.drawn q):=Nat.le_add_right _ _
 refine⟨w.drawn+1,q.cut (w.tape w.drawn q),(Builtin.zeroCells z.cells (q.cut (w.tape w.drawn q) - (len+n))).toList,?_,Qy,by simp[Builtin.zeroCells]⟩
 have e0:(#[Value.slice base len cap,Value.slice xa n xc]:Array Value)[0]?=some (.slice base len cap):=rfl
 have e1:(#[Value.slice base len cap,Value.slice xa n xc]:Array Value)[1]?=some (.slice xa n xc):=rfl
 simp only[Builtin.append_,h0,h1,e0,e1,Sem.run_bind,Go.run_underlying hst,Result.andThen_ok,bJ w hsz,Go.run_underlying hxt,Sem.run_pure,Builtin.lenOf,Bool.false_eq_true,if_false,sD,Bool.not_false,if_true,false_or,Sem.run_ite,run_typeInfo w hi,hib]
 rw[if_neg (by intro h;exact Qv h.1)]
 rw[if_neg Ld]
 simp only[Result.andThen_ok,run_choose,Question.forced,Bool.false_eq_true,if_false,run_askRoom,run_typeInfo _ hi,Sl,u6,dK _ hz,Go.newRow,Sem.run_bind,run_newObj,Sem.run_pure]
 have QI : ∀Z:Array Value,old.toArray ++ new.toArray ++ Z=((old ++ new) ++ Z.toList).toArray:=fun Z=>by rw[←Array.toList_inj];simp
 rw[QI]
 rfl
theorem jJ (P:Program) (w w':World) (ts:Array TypeId) (ty:TypeId) (st xt elem xe:TypeId) (x':Value) (size n len cap:Nat) (base:Option Addr) (new:List Value)
  (h0:ts[0]?=some st) (h1:ts[1]?=some xt) (hst:P.underlying st=some (.slice elem)) (hxt:P.underlying xt=some (.slice xe)) (hsz:aP P elem=some size)
  (hn : ∃xa xc,x'=.slice xa n xc) (Pf:len+n≤cap) (u6:(Builtin.firstCells size n x').run P w=.ok new.toArray w)
  (Us : ∀a,base=some a→(storeCells (a.add (len*size)) new).run P w=.ok () w') (So:base=none→w'=w) :
  (Builtin.append_ ts ty #[.slice base len cap,x']).run P w=.ok (.slice base (len+n) cap) w':=by
 obtain⟨xa,xc,rfl⟩:=hn
 have e0:(#[Value.slice base len cap,Value.slice xa n xc]:Array Value)[0]?=some (.slice base len cap):=rfl
 have e1:(#[Value.slice base len cap,Value.slice xa n xc]:Array Value)[1]?=some (.slice xa n xc):=rfl
 simp only[Builtin.append_,h0,h1,e0,e1,Sem.run_bind,Go.run_underlying hst,Result.andThen_ok,bJ w hsz,Go.run_underlying hxt,Sem.run_pure,Builtin.lenOf,Bool.false_eq_true,if_false,Pf,Bool.not_false,if_true,u6]
 cases base with
 | none=>rw[So rfl];rfl
 | some a=>simp[Us a rfl]
theorem oj (k:Nat) : ∀(l:List Nat),k∈l→l=l.takeWhile (· != k) ++ k :: (l.dropWhile (· != k)).drop 1
 | [],h=>by cases h
 | a :: l,h=>by
  by_cases e:a=k
  ·subst e;simp
  ·have h':k∈l:=by
    rcases List.mem_cons.1 h with h|h
    ·exact absurd h.symm e
    ·exact h
   have:=oj k l h'
   simp only[List.takeWhile_cons,List.dropWhile_cons,bne_iff_ne,ne_eq,e,not_false_eq_true,if_true,List.cons_append]
   rw[←this]
theorem Rel.append {B:Nat} {w0:World} {m:Mp} {h h':IH} {w:World} (R:Rel B w0 m h w) (P:Program) {ts:Array TypeId} {ty st xt xe:TypeId} {s s' x x' v:Value}
  (h0:ts[0]?=some st) (h1:ts[1]?=some xt) (hxt:P.underlying xt=some (.slice xe)) (ha:append P h st s x=some (v,h')) (hs:aB m s s') (hx:aB m x x') (cg:fy m h.n h'.n) :
  ∃v' m' w',(Builtin.append_ ts ty #[s',x']).run P w=.ok v' w'∧aB m' v v'∧Rel B w0 m' h' w'∧Step m h w m' h' w':=by
 unfold Id.append at ha
 cases hst:P.underlying st with
 | none=>simp[hst] at ha
 | some d =>
  rw[hst] at ha
  cases d with
  | slice elem =>
   cases hsz:aP P elem with
   | none=>simp[hsz] at ha
   | some size =>
   cases hby:jD P elem with
   | none=>simp[hsz,hby] at ha
   | some bytes =>
   cases hz:aE P elem with
   | none=>simp[hsz,hby,hz] at ha
   | some zs =>
   cases hn:Id.lenOf x with
   | none=>simp[hsz,hby,hz,hn] at ha
   | some n =>
   obtain⟨z,hz0,_,hzs⟩:=cP hz
   obtain⟨xa,xc,hx'⟩:=tK hx hn
   simp only[hsz,hby,hz,hn,cond_eq_ite,beq_iff_eq] at ha
   by_cases hn0:n=0
   ·-- nothing is Tk
    subst hn0
    rw[if_pos rfl] at ha
    have hf0:(Builtin.firstCells size 0 x').run P w=.ok ([]:List Value).toArray w:=by
     subst hx'
     cases xa with
     | none=>rfl
     | some a=>show(loadCells a (0*size)).run P w=_;rw[Nat.zero_mul];rfl
    split at ha
    ·rename_i a c
     by_cases hac:(a == 0 && c == 0)=true
     ·rw[if_pos hac] at ha;cases ha
      obtain⟨rfl,rfl,rfl⟩:=hs.lX
      refine⟨_,m,w,jJ P w w ts ty st xt elem xe x' size 0 0 0 none [] h0 h1 hst hxt hsz ⟨_,_,hx'⟩ (by omega) hf0 (by simp) (fun _=>rfl),hs,R,Step.refl _ _ _⟩
     ·rw[if_neg hac] at ha;cases ha
    ·rename_i b o len k
     cases ha
     have hlc : ∃a NO cap,s'=.slice (some a) NO cap∧NO≤cap:=by
      rcases hs.dZ with⟨r,q,cap,_,_,h2,h3,_,_,rfl⟩|⟨rfl,rfl,a,cap,rfl⟩
      ·exact⟨_,_,_,rfl,Nat.le_trans h2 h3⟩
      ·exact⟨_,_,_,rfl,Nat.zero_le _⟩
     obtain⟨a,NO,cap,rfl,hle⟩:=hlc
     exact⟨_,m,w,jJ P w w ts ty st xt elem xe x' size 0 NO cap (some a) [] h0 h1 hst hxt hsz ⟨_,_,hx'⟩ (by omega) hf0 (by intro a' _;rfl) (by simp),hs,R,Step.refl _ _ _⟩
    ·cases ha
   ·rw[if_neg hn0] at ha
    by_cases hsb:(size == 0 || (!(Nat.ble bytes 65536) || !(zs.length == size)))=true
    ·rw[if_pos hsb] at ha;cases ha
    ·rw[if_neg hsb] at ha
     simp only[Bool.or_eq_true,beq_iff_eq,Bool.not_eq_true',not_or,Bool.not_eq_false,beq_eq_false_iff_ne,ne_eq,Decidable.not_not] at hsb
     obtain⟨Pb,Fv,R0⟩:=hsb
     have Fv:bytes≤65536:=Nat.le_of_ble_eq_true Fv
     have hzc:z.cells.size=size:=by rw[←R0,hzs];simp
     cases hfi:dr h size n x with
     | none=>simp[hfi] at ha
     | some new =>
     simp only[hfi] at ha
     by_cases dC:(!(new.all aG))=true
     ·rw[if_pos dC] at ha;cases ha
     rw[if_neg dC] at ha
     have hok : ∀c∈new,aG c=true:=by simpa using dC
     have R4:x≠.slice none 0 0:=by
      intro e;subst e;simp only[Id.lenOf] at hn;cases hn;exact hn0 rfl
     obtain⟨fP,sB,l5,pK⟩:=R.first P hx hfi
     have pK:new.length=n*size:=pK.resolve_left R4
     have GV : ∀d,Rel B w0 m h { w with drawn:=d }:=fun d=>R.congr rfl (jE R.below d)
     split at ha
     ·-- onto nil
      rename_i a c
      by_cases hc:(a == 0 && c == 0 && Nat.ble (n*(bytes+1)) aX)=true
      ·rw[if_pos hc] at ha;cases ha
       simp only[Bool.and_eq_true,beq_iff_eq,Nat.ble_eq] at hc
       obtain⟨rfl,rfl,rfl⟩:=hs.lX
       obtain⟨d,ir,rest,bf,sD,oP⟩:=lC P w ts ty st xt elem xe (.slice none 0 0) x' size bytes z none 0 0 n [] fP h0 h1 hst hxt hsz hby hz0 rfl ⟨_,_,hx'⟩ (by omega) Fv
        (by rw[Nat.zero_add];exact hc.2) (fun d=>rfl) (fun d=>sB _ rfl)
       rw[Nat.zero_add] at bf sD oP
       simp only[List.nil_append] at bf
       have hm0:m (2*h.n)=none:=cg h.n (Nat.le_refl _) (Nat.lt_succ_self _)
       obtain⟨R1,S1⟩:=(GV d).new (.cells new size none) (.cells (fP ++ rest).toArray elem) (size,(fP ++ rest).length) hm0
        ⟨(fP ++ rest).toArray,elem,by rw[heap_alloc,if_pos rfl],⟨by simp[l5.1],fun i v hi=>by
         obtain⟨v',a,b⟩:=l5.get hi
         refine⟨v',?_,b⟩
         have hi':i<fP.length:=by
          rcases Nat.lt_or_ge i fP.length with h|h
          ·exact h
          ·rw[List.getElem?_eq_none h] at a;cases a
         simp only[List.getElem?_toArray,Nat.zero_add]
         rw[List.getElem?_append_left hi'];exact a⟩,rfl,by simp⟩ rfl
       refine⟨_,_,_,bf,?_,R1,S1.congr rfl⟩
       have hp:0<n:=Nat.pos_of_ne_zero hn0
       have:=aB.slice (m:=m.upd (2*h.n) (w.heap.size,0) (size,(fP ++ rest).length)) (b:=2*h.n) (o:=0) (r:=w.heap.size) (s:=0) (len:=n) (k:=2*n) (cap:=ir) (Mp.aW _ _ _ _) (by omega) (by omega) (by omega) (by omega) (by intro _;rw[Mp.kP];simp only[List.length_append,oP,hzc,←l5.1,pK];rw[←Nat.add_mul];simp only[Nat.zero_add,Nat.add_zero];exact Nat.mul_le_mul_right _ (by omega))
       exact this
      ·rw[if_neg hc] at ha;cases ha
     ·rename_i b o len k
      by_cases ji:(!(Nat.ble ((len+n)*(bytes+1)) aX))=true
      ·rw[if_pos ji] at ha;cases ha
      ·rw[if_neg ji] at ha
       have K6:(len+n)*(bytes+1)≤aX:=by
        simp only[Bool.not_eq_true',Bool.not_eq_false] at ji
        exact Nat.le_of_ble_eq_true ji
       by_cases hin:Nat.ble (len+n) (k / 2)=true
       ·-- there is room for sure
        rw[if_pos hin] at ha
        have St:=Nat.le_of_ble_eq_true hin
        obtain⟨h1w,hw1,hv1⟩:=Option.map_eq_some_iff.1 ha
        cases hv1
        rcases hs.dZ with⟨r,q,cap,hmb,hk0,hl,hkc,hx1,hz1,rfl⟩|⟨_,hk,_⟩
        ·obtain⟨w',hr1,R1,S1⟩:=R.wr hw1 hmb l5 hok P
         refine⟨_,m,w',jJ P w w' ts ty st xt elem xe x' size n len cap _ fP h0 h1 hst hxt hsz ⟨_,_,hx'⟩ (by omega) (sB w rfl) (fun a e=>?_) (by simp),?_,R1,S1⟩
         ·cases e;rw[kj,Nat.add_assoc];exact hr1
         ·exact .slice hmb hk0 St hkc hx1 hz1
        ·omega
       ·rw[if_neg hin] at ha
        have St : ¬len+n≤k / 2:=fun e=>hin (by simpa using e)
        by_cases tR:k % 2=1
        ·-- there is none for sure
         rw[if_pos tR] at ha
         cases hfo:dr h size len (.slice (some ⟨b,o,none⟩) len k) with
         | none=>simp[hfo] at ha
         | some old =>
          simp only[hfo] at ha;cases ha
          obtain⟨oH,Bo,xr,Bp⟩:=R.first P hs hfo
          have Bp:old.length=len*size:=Bp.resolve_left (by simp)
          have qo : ∃base cap,s'=.slice base len cap∧cap<len+n:=by
           rcases hs.dZ with⟨r,q,cap,_,_,_,_,hx1,_,rfl⟩|⟨_,hk,_⟩
           ·exact⟨_,cap,rfl,by have:=hx1 tR;omega⟩
           ·omega
          obtain⟨base,cap,rfl,hcl⟩:=qo
          obtain⟨d,ir,rest,bf,sD,oP⟩:=lC P w ts ty st xt elem xe _ x' size bytes z base len cap n oH fP h0 h1 hst hxt hsz hby hz0 rfl ⟨_,_,hx'⟩ hcl Fv K6
           (fun d=>Bo _ rfl) (fun d=>sB _ rfl)
          have hm0:m (2*h.n)=none:=cg h.n (Nat.le_refl _) (Nat.lt_succ_self _)
          have hon:=xr.append l5
          obtain⟨R1,S1⟩:=(GV d).new (.cells (old ++ new) size none) (.cells (oH ++ fP ++ rest).toArray elem) (size,(oH ++ fP ++ rest).length) hm0
           ⟨(oH ++ fP ++ rest).toArray,elem,by rw[heap_alloc,if_pos rfl],⟨by simp[xr.1,l5.1],fun i v hi=>by
            obtain⟨v',a,b⟩:=hon.get hi
            refine⟨v',?_,b⟩
            have hi':i<(oH ++ fP).length:=by
             rcases Nat.lt_or_ge i (oH ++ fP).length with h|h
             ·exact h
             ·rw[List.getElem?_eq_none h] at a;cases a
            simp only[List.getElem?_toArray,Nat.zero_add]
            rw[List.getElem?_append_left hi'];exact a⟩,rfl,by simp⟩ rfl
          refine⟨_,_,_,bf,?_,R1,S1.congr rfl⟩
          have:=aB.slice (m:=m.upd (2*h.n) (w.heap.size,0) (size,(oH ++ fP ++ rest).length)) (b:=2*h.n) (o:=0) (r:=w.heap.size) (s:=0) (len:=len+n) (k:=2*(len+n)) (cap:=ir) (Mp.aW _ _ _ _) (by omega) (by omega) (by omega) (by omega)
           (by intro _;rw[Mp.kP];simp only[List.length_append,oP,hzc,←xr.1,Bp,←l5.1,pK];rw[←Nat.add_mul,←Nat.add_mul];simp only[Nat.zero_add,Nat.add_zero];exact Nat.mul_le_mul_right _ (by omega))
          exact this
        ·rw[if_neg tR] at ha
         by_cases tS:(len == k / 2 && Nat.blt 0 len && b % 2 == 0)=true
         ·rw[if_pos tS] at ha
          simp only[Bool.and_eq_true,beq_iff_eq,Nat.blt_eq] at tS
          obtain⟨⟨hlk,hl0⟩,hb2⟩:=tS
          cases hg:h.ext.get (b / 2) with
          | none=>simp[hg] at ha
          | some ob =>
           rw[hg] at ha
           cases ob with
           | map es=>simp at ha
           | loop l=>simp at ha
           | iter _ _ _ _=>simp at ha
           | num _=>simp at ha
           | dead=>simp at ha
           | cells cs t fam =>
            simp only at ha
            by_cases hce:(o+len*size == cs.length && t == size)=true
            ·rw[if_pos hce] at ha
             simp only[Bool.and_eq_true,beq_iff_eq] at hce
             obtain⟨hce,rfl⟩:=hce
             have hb':2*(b / 2)=b:=by omega
             have hm0:m (2*h.n)=none:=cg h.n (Nat.le_refl _) (by
              cases fam with
              | none=>simp only[Option.some.injEq,Prod.mk.injEq] at ha;rw[←ha.2];exact Nat.lt_succ_self _
              | some f=>cases hf:h.cM.get f with
               | none=>simp[hf] at ha
               | some stk=>simp only[hf,Option.some.injEq,Prod.mk.injEq] at ha;rw[←ha.2];exact Nat.lt_succ_self _)
             have Sv : ∃f cc below,v=.slice (some ⟨2*h.n,0,none⟩) (len+n) (2*(len+n))∧h'=grown h (b / 2) f cs t cc below (cs.drop o ++ new) t ∧
               PG h (b / 2) f cc below fam:=by
              cases fam with
              | none=>simp only[Option.some.injEq,Prod.mk.injEq] at ha;exact⟨h.n,[],[],ha.1.symm,ha.2.symm,rfl,rfl,rfl⟩
              | some f=>cases hf:h.cM.get f with
               | none=>simp[hf] at ha
               | some stk =>
                simp only[hf,Option.some.injEq,Prod.mk.injEq] at ha
                obtain⟨st2,Sf,Fo⟩:=R.fam (b / 2) cs t f hg
                rw[hf] at Sf;cases Sf
                exact⟨f,_,_,ha.1.symm,ha.2.symm,rfl,stk,hf,oj _ _ Fo⟩
             obtain⟨f,cc,below,rfl,rfl,Bt⟩:=Sv
             rcases hs.dZ with⟨r,q,cap,hmb,hk0,hl,hkc,hx1,hz1,rfl⟩|⟨_,hk,_⟩
             ·have NY:m (2*(b / 2))=some (r,q):=by rw[hb'];exact hmb
              obtain⟨c,el,hc,dE,he1,he2⟩:=R.obj (b / 2) _ r q hg NY
              rw[hb'] at he1 he2
              have zS:=hz1 (by omega)
              rw[he1] at zS
              have hr1:=dE.1
              have hdl:(cs.drop o).length=len*t:=by simp;omega
              by_cases xu:len+n≤cap
              ·-- in place
               have hmul:(len+n)*t≤cap*t:=Nat.mul_le_mul_right _ xu
               rw[Nat.add_mul] at hmul
               have Qn : ∀x∈fP,aG x=true:=by
                intro x hx
                obtain⟨i,hi,e⟩:=List.getElem_of_mem hx
                have hi':i<new.length:=l5.1▸hi
                exact Ap (l5.2 i new[i] x (List.getElem?_eq_getElem hi') (by rw[List.getElem?_eq_getElem hi,e])) (hok _ (List.getElem_mem hi'))
               have Le:fP.length=n*t:=by rw[←l5.1,pK]
               have Sd:=lz P r (q+o+len*t) el fP 0 w c hc (by omega) Qn
               have hne:fP ≠ []:=by
                intro e
                have:n*t=0:=by rw[←Le,e];rfl
                rcases Nat.mul_eq_zero.1 this with e|e
                ·exact hn0 e
                ·exact Pb e
               rw[if_neg hne,Nat.add_zero] at Sd
               have hrw:=dE.1
               have hrs:=R.even (b / 2) r q NY
               have iV:(World.put w r (.cells (gI c (q+o+len*t) fP) el)).heap[r]?=some (.cells (gI c (q+o+len*t) fP) el):=by rw[j6,if_pos ⟨rfl,hrs.2⟩]
               have hpn : ∀p,p≠r→(World.put w r (.cells (gI c (q+o+len*t) fP) el)).heap[p]?=w.heap[p]?:=fun p hp=>by rw[j6,if_neg (fun e=>hp e.1)]
               obtain⟨R1,S1⟩:=R.grow hg NY hm0 f cc below Bt (cs.drop o ++ new) t r (q+o) (t,(m.ez b).2) (World.put w r (.cells (gI c (q+o+len*t) fP) el))
                (pP R.below hrs.1 _) (by rw[iR];exact Nat.le_refl _) ⟨hrs.1,by rw[iR];exact hrs.2⟩
                ⟨_,el,iV,⟨by rw[List.length_append,hdl,ig];omega,fun i x hi=>by
                 rw[mH fP c _ _ (by omega)]
                 by_cases h2:i<(cs.drop o).length
                 ·rw[List.getElem?_append_left h2,List.getElem?_drop] at hi
                  rw[if_neg (by omega)]
                  have:=dE.2 _ _ hi
                  rw[←Nat.add_assoc] at this
                  exact this
                 ·rw[List.getElem?_append_right (by omega)] at hi
                  obtain⟨x',a1,a2⟩:=l5.get hi
                  have hlt:i - (cs.drop o).length<fP.length:=by
                   rcases Nat.lt_or_ge (i - (cs.drop o).length) fP.length with e|e
                   ·exact e
                   ·rw[List.getElem?_eq_none e] at a1;cases a1
                  rw[if_pos (by omega)]
                  refine⟨x',?_,a2⟩
                  rw[show q+o+i - (q+o+len*t)=i - (cs.drop o).length from by omega];exact a1⟩,rfl,by rw[ig];exact he2⟩
                (.inr ⟨rfl,by rw[List.length_append,hdl];omega,fun p hp hpr=>hpn p hpr,fun c2 el2 hc2=>by
                 rw[hc] at hc2;cases hc2
                 exact⟨_,iV,by rw[ig];exact Nat.le_refl _,fun i hi=>by rw[mH fP c _ _ (by omega),if_neg (by omega)]⟩⟩)
               refine⟨_,_,_,jJ P w _ ts ty st xt elem xe x' t n len cap _ fP h0 h1 hst hxt hsz ⟨_,_,hx'⟩ xu (sB w rfl) (fun a e=>?_) (by simp),?_,R1,S1⟩
               ·cases e;rw[kj];exact Sd
               ·have:=aB.slice (m:=m.upd (2*h.n) (r,q+o) (t,(m.ez b).2)) (b:=2*h.n) (o:=0) (r:=r) (s:=q+o) (len:=len+n) (k:=2*(len+n)) (cap:=cap) (Mp.aW _ _ _ _) (by omega) (by omega) (by omega) (by omega)
                 (by intro _;rw[Mp.kP];simp only[Nat.add_zero];exact zS)
                rw[Nat.add_zero] at this
                exact this
              ·-- in new memory
               have hfo:dr h t len (.slice (some ⟨b,o,none⟩) len k)=some (cs.drop o):=by
                unfold dr
                have hb0 : ¬b % 2=1:=by omega
                have h00 : ¬len*t=0:=by
                 intro e
                 rcases Nat.mul_eq_zero.1 e with e|e
                 ·omega
                 ·exact Pb e
                simp only[cond_eq_ite,Nat.ble_eq,Nat.le_refl,if_true,beq_iff_eq,h00,if_false,IH.rd,IH.row,hb0,hg]
                rw[if_pos (by omega),List.take_of_length_le (by omega)]
               obtain⟨oH,Bo,xr,_⟩:=R.first P hs hfo
               obtain⟨d,ir,rest,bf,sD,oP⟩:=lC P w ts ty st xt elem xe _ x' t bytes z _ len cap n oH fP h0 h1 hst hxt hsz hby hz0 rfl ⟨_,_,hx'⟩ (by omega) Fv K6
                (fun d=>Bo _ rfl) (fun d=>sB _ rfl)
               have hon:=xr.append l5
               have Sc:(({ w with drawn:=d }:World).alloc (.cells (oH ++ fP ++ rest).toArray elem)).heap.size=w.heap.size+1:=size_alloc _ _
               have hat:(({ w with drawn:=d }:World).alloc (.cells (oH ++ fP ++ rest).toArray elem)).heap[w.heap.size]?=some (.cells (oH ++ fP ++ rest).toArray elem):=by rw[heap_alloc];exact if_pos rfl
               obtain⟨R1,S1⟩:=R.grow hg NY hm0 f cc below Bt (cs.drop o ++ new) t w.heap.size 0 (t,(oH ++ fP ++ rest).length) (({ w with drawn:=d }:World).alloc (.cells (oH ++ fP ++ rest).toArray elem))
                (l6 (jE R.below d) R.size _) (by rw[Sc];omega) ⟨R.size,by rw[Sc];omega⟩
                ⟨_,elem,hat,⟨by simp only[List.length_append,Nat.zero_add,←xr.1,←l5.1,List.size_toArray];omega,fun i x hi=>by
                 obtain⟨x',a1,a2⟩:=hon.get hi
                 refine⟨x',?_,a2⟩
                 have hi':i<(oH ++ fP).length:=by
                  rcases Nat.lt_or_ge i (oH ++ fP).length with h|h
                  ·exact h
                  ·rw[List.getElem?_eq_none h] at a1;cases a1
                 simp only[List.getElem?_toArray,Nat.zero_add]
                 rw[List.getElem?_append_left hi'];exact a1⟩,rfl,by simp⟩
                (.inl ⟨Nat.le_refl _,fun p hp=>by rw[heap_alloc];exact if_neg (Nat.ne_of_lt hp)⟩)
               refine⟨_,_,_,bf,?_,R1,S1⟩
               have:=aB.slice (m:=m.upd (2*h.n) (w.heap.size,0) (t,(oH ++ fP ++ rest).length)) (b:=2*h.n) (o:=0) (r:=w.heap.size) (s:=0) (len:=len+n) (k:=2*(len+n)) (cap:=ir) (Mp.aW _ _ _ _) (by omega) (by omega) (by omega) (by omega)
                (by intro _;rw[Mp.kP];simp only[List.length_append,oP,hzc,←xr.1,hdl,←l5.1,pK];rw[←Nat.add_mul,←Nat.add_mul];simp only[Nat.zero_add,Nat.add_zero];exact Nat.mul_le_mul_right _ (by omega))
               exact this
             ·omega
            ·rw[if_neg hce] at ha;cases ha
         ·rw[if_neg tS] at ha;cases ha
     ·cases ha
  | _=>simp at ha
theorem Rel.copy {B:Nat} {w0:World} {m:Mp} {h h':IH} {w:World} (R:Rel B w0 m h w) (P:Program) {ts:Array TypeId} {ty dt:TypeId} {d d' x x' v:Value}
  (h0:ts[0]?=some dt) (hc:qX P h dt d x=some (v,h')) (hd:aB m d d') (hx:aB m x x') :
  ∃w',(Builtin.copy_ ts ty #[d',x']).run P w=.ok v w'∧aB m v v∧Rel B w0 m h' w'∧Step m h w m h' w':=by
 unfold qX at hc
 cases hdt:P.underlying dt with
 | none=>simp[hdt] at hc
 | some td =>
  rw[hdt] at hc
  cases td with
  | slice e =>
   cases hdn:Id.lenOf d with
   | none=>simp[hdn] at hc
   | some dn =>
   cases hsn:Id.lenOf x with
   | none=>simp[hdn,hsn] at hc
   | some sn =>
   cases hsz:aP P e with
   | none=>simp[hdn,hsn,hsz] at hc
   | some size =>
   simp only[hdn,hsn,hsz] at hc
   cases hfi:dr h size (Nat.min sn dn) x with
   | none=>simp[hfi] at hc
   | some cs =>
   simp only[hfi,cond_eq_ite] at hc
   obtain⟨xa,xc,rfl⟩:=tK hx hsn
   obtain⟨cs',bf,hL,_⟩:=R.first P hx hfi
   have hlen:(Builtin.lenOf (.slice xa sn xc)).run P w=.ok sn w:=rfl
   have e0 : ∀y:Value,(#[y,Value.slice xa sn xc]:Array Value)[0]?=some y:=fun _=>rfl
   have e1 : ∀y:Value,(#[y,Value.slice xa sn xc]:Array Value)[1]?=some (.slice xa sn xc):=fun _=>rfl
   split at hc
   ·rename_i a b
    cases hc
    obtain⟨rfl,rfl,rfl⟩:=hd.lX
    simp only[Id.lenOf] at hdn;cases hdn
    refine⟨w,?_,.bP rfl,R,Step.refl _ _ _⟩
    have Bs:Nat.min sn 0=0:=Nat.min_zero sn
    simp only[Bs] at bf ⊢
    simp only[Builtin.copy_,h0,e0,e1,Sem.run_bind,Go.run_underlying hdt,Result.andThen_ok,hlen,bJ w hsz,Bs,bf w rfl,Sem.run_pure]
    rfl
   ·rename_i b o dl dk
    simp only[Id.lenOf] at hdn;cases hdn
    have hdv : ∃r q cap a,d'=.slice (some a) dn cap∧(0<dk→m b=some (r,q)∧a=⟨r,q+o,none⟩)∧(dk=0→dn=0):=by
     rcases hd.dZ with⟨r,q,cap,hm,h1,_,_,_,_,rfl⟩|⟨hl,hk,a,cap,rfl⟩
     ·exact⟨r,q,cap,_,rfl,fun _=>⟨hm,rfl⟩,fun e=>by omega⟩
     ·subst hl;exact⟨0,0,cap,a,rfl,fun e=>by omega,fun _=>rfl⟩
    obtain⟨r,q,cap,a,rfl,qR,hzero⟩:=hdv
    by_cases N3:cs.isEmpty=true
    ·rw[if_pos N3] at hc;cases hc
     have hcs:cs = []:=by simpa using N3
     subst hcs
     have UI:cs' = []:=by have:=hL.1;simpa using this.symm
     subst UI
     refine⟨w,?_,.bP rfl,R,Step.refl _ _ _⟩
     simp only[Builtin.copy_,h0,e0,e1,Sem.run_bind,Go.run_underlying hdt,Result.andThen_ok,hlen,bJ w hsz,bf w rfl,Sem.run_pure]
     rfl
    ·rw[if_neg N3] at hc
     by_cases dC:(!(cs.all aG))=true
     ·rw[if_pos dC] at hc;cases hc
     rw[if_neg dC] at hc
     obtain⟨h1w,hw1,hv1⟩:=Option.map_eq_some_iff.1 hc
     cases hv1
     have hk:0<dk:=by
      rcases Nat.eq_zero_or_pos dk with e|e
      ·have:=hzero e;subst this
       exfalso;apply N3
       have Bs:Nat.min sn 0=0:=Nat.min_zero sn
       rw[Bs] at hfi
       unfold dr at hfi
       split at hfi
       ·cases hfi;rfl
       ·simp only[cond_eq_ite,Nat.ble_eq,Nat.zero_le,if_true,Nat.zero_mul,beq_self_eq_true] at hfi;cases hfi;rfl
       ·cases hfi
      ·exact e
     obtain⟨hm,rfl⟩:=qR hk
     obtain⟨w',hr1,R1,S1⟩:=R.wr hw1 hm hL (by simpa using dC) P
     refine⟨w',?_,.bP rfl,R1,S1⟩
     simp only[Builtin.copy_,h0,e0,e1,Sem.run_bind,Go.run_underlying hdt,Result.andThen_ok,hlen,bJ w hsz,bf w rfl,hr1,Sem.run_pure]
     rfl
   ·cases hc
  | _=>simp at hc
end Go.Id

namespace Go.Id
open Go Go.RowKit
theorem AT (c:Array Value) (q:Nat) (vs:List Value) (h:q+vs.length≤c.size):(gI c q vs).toList=IH.aD c.toList q vs:=by
 apply List.ext_getElem?
 intro i
 rw[Array.getElem?_toList (xs:=gI c q vs),mH _ _ _ _ h,xF _ _ _ (by simpa using h)]
 split<;>simp
theorem xH (off:Nat) : ∀(l:List Value) (k:Nat) (c:Array Value),(l.zipIdx k).foldl (fun cs p=>cs.setIfInBounds (off+p.2) p.1) c=gI c (off+k) l
 | [],k,c=>rfl
 | v :: l,k,c=>by
  rw[List.zipIdx_cons,List.foldl_cons,xH off l (k+1),gI,Nat.add_assoc]
def HC (m:Mp) (a b:Nat×Value):Prop:=b.1=a.1∧aB m a.2 b.2
theorem bC.aD {m:Mp} {a a' b b':List Value} (h:bC m a a') (k:bC m b b') (o:Nat) (hb:o+b.length≤a.length):bC m (IH.aD a o b) (IH.aD a' o b'):=by
 have h1:=h.1;have h2:=k.1
 unfold IH.aD
 rw[←h2]
 exact(h.take o).append (k.append (h.drop _))
theorem xK {m:Mp} (place:Nat→Option (Nat×Nat)) : ∀(ps ps':List (Nat×Value)) (cs:List Value) (c':Array Value) (r:List Value),bC m cs c'.toList →
  ps.length=ps'.length→(∀(i:Nat) (a b:Nat×Value),ps[i]?=some a→ps'[i]?=some b→HC m a b)→cz place cs ps=some r → ∃r',Instr.fill place c' ps'=some r'∧bC m r r'.toList
 | [],[],cs,c',r,h,_,_,hf=>by simp only[cz] at hf;cases hf;exact⟨c',rfl,h⟩
 | [],_ :: _,_,_,_,_,hl,_,_=>by simp at hl
 | _ :: _,[],_,_,_,_,hl,_,_=>by simp at hl
 | (i,v) :: ps,(i',v') :: ps',cs,c',r,h,hl,hp,hf=>by
  obtain⟨h1,h2⟩:=hp 0 _ _ rfl rfl
  simp only at h1 h2;subst h1
  rw[cz] at hf
  cases hpl:place i' with
  | none=>simp[hpl] at hf
  | some on =>
   obtain⟨o,n⟩:=on
   simp only[hpl,cond_eq_ite] at hf
   by_cases hc:(v.cells.size == n && Nat.ble (o+n) cs.length)=true
   ·rw[if_pos hc] at hf
    simp only[Bool.and_eq_true,beq_iff_eq,Nat.ble_eq] at hc
    have hcs:c'.size=cs.length:=by have:=h.1;simp at this;omega
    have hv':=yc h2
    have hlen:o+v'.cells.toList.length≤c'.size:=by rw[Array.length_toList,hv',hc.1,hcs];exact hc.2
    have Sw:v'.cells.zipIdx.foldl (fun cs x=>match x with|(c,j)=>cs.setIfInBounds (o+j) c) c'=gI c' o v'.cells.toList:=by
     rw[←Array.foldl_toList,Array.toList_zipIdx]
     exact xH o v'.cells.toList 0 c'
    rw[Instr.fill,hpl]
    simp only
    rw[Sw,if_neg (by simp only[ne_eq,Bool.or_eq_true,decide_eq_true_eq,not_or,Decidable.not_not,gt_iff_lt,Nat.not_lt];exact⟨by rw[hv',hc.1],by rw[hv',hc.1,hcs];exact hc.2⟩)]
    refine xK place ps ps' _ _ r ?_ (by simpa using hl) (fun j a b ha hb=>hp (j+1) a b (by simpa using ha) (by simpa using hb)) hf
    rw[AT _ _ _ hlen]
    exact h.aD h2.cells o (by rw[Array.length_toList,hc.1];exact hc.2)
   ·rw[if_neg hc] at hf;cases hf
theorem oD {m:Mp} {fr:Fr} {ρ:Operand→Value} (hρ : ∀x v,opd fr x=some v→aB m v (ρ x)) : ∀(l:List (Nat×Operand)) (ps:List (Nat×Value)),partsOf fr l=some ps →
  ps.length=l.length ∧ ∀(i:Nat) (a b:Nat×Value),ps[i]?=some a→(l.map fun p=>(p.1,ρ p.2))[i]?=some b→HC m a b
 | [],ps,h=>by simp only[partsOf] at h;cases h;exact⟨rfl,by simp⟩
 | (i,x) :: l,ps,h=>by
  rw[partsOf] at h
  cases hx:opd fr x with
  | none=>simp[hx] at h
  | some v =>
   cases hl:partsOf fr l with
   | none=>simp[hx,hl] at h
   | some vs =>
    simp only[hx,hl] at h;cases h
    obtain⟨h1,h2⟩:=oD hρ l vs hl
    refine⟨by simp[h1],fun j a b ha hb=>?_⟩
    cases j with
    | zero=>simp at ha hb;subst ha;subst hb;exact⟨rfl,hρ x v hx⟩
    | succ j=>simp at ha hb;exact h2 j a b ha (by simpa using hb)
theorem HY {m:Mp} {P:Program} {t:TypeId} {fr:Fr} {ρ:Operand→Value} (hρ : ∀x v,opd fr x=some v→aB m v (ρ x)) {parts:Array (Nat×Operand)} {z cs:List Value} {ps:List (Nat×Value)}
  (hz:aE P t=some z) (hps:partsOf fr parts.toList=some ps) (ha:cu P t=true) (hf:cz (placeOf P t) z ps=some cs) (w:World) :
  ∃cs',(Instr.build t (parts.map fun(i,x)=>(i,ρ x))).run P w=.ok (.agg cs') w∧aB m (.agg cs.toArray) (.agg cs'):=by
 obtain⟨zv,hz1,hz2,rfl⟩:=cP hz
 unfold nF at hz1
 obtain⟨it,hit,hz3⟩:=Option.bind_eq_some_iff.1 hz1
 obtain⟨hl,hp⟩:=oD hρ _ _ hps
 have hL0:bC m zv.cells.toList zv.cells.toList:=(aB.bT hz2).cells
 have yP:(parts.map fun(x:Nat×Operand)=>match x with|(i,x)=>(i,ρ x)).toList=parts.toList.map fun p=>(p.1,ρ p.2):=by rw[Array.toList_map]
 have key : ∀place:Nat→Option (Nat×Nat),(∀i p,placeOf P t i=some p→place i=some p) → ∃r',Instr.fill place zv.cells (parts.toList.map fun p=>(p.1,ρ p.2))=some r'∧bC m cs r'.toList:=by
  intro place Ql
  have up : ∀(ps:List (Nat×Value)) (a r:List Value),cz (placeOf P t) a ps=some r→cz place a ps=some r:=by
   intro ps
   induction ps with
   | nil=>intro a r h;exact h
   | cons p ps ih =>
    obtain⟨i,v⟩:=p
    intro a r h
    rw[cz] at h ⊢
    cases hpi:placeOf P t i with
    | none=>simp[hpi] at h
    | some on =>
     rw[Ql i on hpi]
     rw[hpi] at h
     obtain⟨o,n⟩:=on
     simp only[cond_eq_ite] at h ⊢
     by_cases hc:(v.cells.size == n && Nat.ble (o+n) a.length)=true
     ·rw[if_pos hc] at h ⊢;exact ih _ _ h
     ·rw[if_neg hc] at h;cases h
  exact xK place ps _ _ _ _ hL0 (by simp[hl]) hp (up ps _ _ hf)
 have hb : ∃r',P.built t (parts.map fun(x:Nat×Operand)=>match x with|(i,x)=>(i,ρ x)).toList=some r'∧bC m cs r'.toList:=by
  rw[yP]
  unfold Program.built cu at *
  cases hu:P.underlying t with
  | none=>simp[hu] at ha
  | some d =>
   rw[hu] at ha
   cases d with
   | array n e =>
    simp only[Option.isSome_iff_exists] at ha
    obtain⟨ie,hie⟩:=ha
    obtain⟨r',h1,h2⟩:=key (fun i=>some (i*ie.size,ie.size)) (by
     intro i p hpi
     simp only[placeOf,hu,aP,hie,Option.map_some] at hpi
     exact hpi)
    refine⟨r',?_,h2⟩
    simp only[hit,hz3,hie]
    exact h1
   | struct fs =>
    simp only[Array.all_eq_true_iff_forall_mem,Option.isSome_iff_exists] at ha
    have hpl : ∀(l:List Field),(∀f∈l,∃i,P.info? f.type=some i) → ∃pl,l.mapM (fun f=>(P.info? f.type).map fun i=>(f.offset,i.size))=some pl ∧ ∀(j:Nat) (f:Field),l[j]?=some f → ∃i,P.info? f.type=some i∧pl[j]?=some (f.offset,i.size):=by
     intro l
     induction l with
     | nil=>intro _;exact⟨[],rfl,by simp⟩
     | cons f l ih =>
      intro h
      obtain⟨i,hi⟩:=h f (by simp)
      obtain⟨pl,h1,h2⟩:=ih (fun g hg=>h g (by simp[hg]))
      refine⟨(f.offset,i.size) :: pl,by simp[List.mapM_cons,hi,h1],fun j g hj=>?_⟩
      cases j with
      | zero=>simp at hj;subst hj;exact⟨i,hi,rfl⟩
      | succ j=>simp at hj;obtain⟨i',a,b⟩:=h2 j g hj;exact⟨i',a,by simpa using b⟩
    obtain⟨pl,Uv,Uu⟩:=hpl fs.toList (fun f hf=>ha f (by simpa using hf))
    obtain⟨r',h1,h2⟩:=key (pl.toArray[·]?) (by
     intro i p hpi
     simp only[placeOf,hu] at hpi
     cases hfi:fs[i]? with
     | none=>simp[hfi] at hpi
     | some f =>
      simp only[hfi,aP] at hpi
      obtain⟨i',a,b⟩:=Uu i f (by simpa using hfi)
      rw[a] at hpi
      simp only[Option.map_some] at hpi
      rw[←hpi]
      simpa using b)
    refine⟨r',?_,h2⟩
    simp only[hit,hz3,Uv]
    exact h1
   | _=>simp at ha
 obtain⟨r',h1,h2⟩:=hb
 exact⟨r',run_build w t _ r' h1,aB.pR (by simpa using h2)⟩
end Go.Id
