/-
  The ideal machine: append and copy.
-/
import Derived.Test.YtnnmjocmapilaaaGreatOutlierValidAc
import Derived.Laws.Tables
set_option linter.unusedVariables false
set_option linter.unusedSimpArgs false
set_option linter.defProp false
set_option linter.deprecated false
namespace Go.Id
open Go Go.RowKit
theorem Rel.congr {B:Nat} {w0:World} {m:Mp} {h:IH} {w w':World} (R:Rel B w0 m h w) (hh:w'.heap=w.heap) (hb:Below B w0 w'):Rel B w0 m h w' :=
 ⟨hb,by rw[hh];exact R.size,fun b cs hx=>let ⟨r0,s0,m0,a,c,el,fz,d,e⟩:=R.base b cs hx;⟨r0,s0,m0,a,c,el,fz,by rw[hh];exact d,e⟩,R.odd,fun k r s hk=>by rw[hh];exact R.even k r s hk,R.dom,
  fun k o r s a b=>(R.obj k o r s a b).mono (Mp.le_refl m) (by rw[hh]) rfl,R.own,R.cY,R.fam,R.long,R.whole⟩
theorem Step.congr {m m':Mp} {h h':IH} {w w1 w':World} (S:Step m h w1 m' h' w') (hh:w1.heap=w.heap):Step m h w m' h' w' :=
 ⟨S.le,S.new,S.n,S.base,fun r hr hk=>by rw[S.frame r (by rw[hh];exact hr) hk,hh],S.idle,by rw[←hh];exact S.size,fun k r s a b c=>by rw[←hh];exact S.img k r s a b c,S.mT⟩
theorem jQ {B:Nat} {w0 w:World} (h:Below B w0 w) (d:Nat):Below B w0 { w with drawn:=d }:=⟨h.os,h.tape,h.output,h.size,h.block⟩
theorem aD.dB {m:Mp} {b o len k:Nat} {v':Value} (h:aD m (.slice (some ⟨b,o,none⟩) len k) v') :
  (∃r s cap,m b=some (r,s)∧0<k∧len≤k / 2∧k / 2≤cap∧(k % 2=1→cap=k / 2)∧(k % 2=0→s+o+cap*(m.ez b).1≤(m.ez b).2)∧v'=.slice (some ⟨r,s+o,none⟩) len cap)∨(len=0∧k=0 ∧ ∃a cap,v'=.slice (some a) 0 cap):=by
 cases h with
 | bD h=>simp[Id.bD] at h
 | slice hm a b c d e=>exact .inl ⟨_,_,_,hm,a,b,c,d,e,rfl⟩
 | lost=>exact .inr ⟨rfl,rfl,_,_,rfl⟩
theorem aD.lk {m:Mp} {n c:Nat} {v':Value} (h:aD m (.slice none n c) v'):n=0∧c=0∧v'=.slice none 0 0:=by
 cases h with
 | bD h=>simp[Id.bD] at h;obtain⟨rfl,rfl⟩:=h;exact⟨rfl,rfl,rfl⟩
theorem wx {m:Mp} {x x':Value} {n:Nat} (h:aD m x x') (hn:Id.lenOf x=some n) : ∃a c,x'=.slice a n c:=by
 cases h with
 | bD h =>
  unfold Id.lenOf at hn
  split at hn
  ·cases hn;exact⟨_,_,rfl⟩
  ·cases hn
 | tok=>simp only[Id.lenOf] at hn;cases hn;exact⟨_,_,rfl⟩
 | slice=>simp only[Id.lenOf] at hn;cases hn;exact⟨_,_,rfl⟩
 | lost=>simp only[Id.lenOf] at hn;cases hn;exact⟨_,_,rfl⟩
 | _=>simp[Id.lenOf] at hn
theorem Hh {w w2:World} (hh:w2.heap=w.heap) (a:Addr):w2.cell? a=w.cell? a:=by unfold World.cell?;rw[hh]
theorem Rel.first {B:Nat} {w0:World} {m:Mp} {h:IH} {w:World} (R:Rel B w0 m h w) (P:Program) {size n:Nat} {x x':Value} {cs:List Value} (hx:aD m x x') (hf:bL h size n x=some cs) :
  ∃cs',(∀w2:World,w2.heap=w.heap→(Builtin.firstCells size n x').run P w2=.ok cs'.toArray w2)∧bm m cs cs'∧(x=.slice none 0 0∨cs.length=n*size):=by
 unfold bL at hf
 split at hf
 ·cases hf
  obtain⟨rfl,rfl,rfl⟩:=hx.lk
  exact⟨[],fun _ _=>rfl,.nil m,.inl rfl⟩
 ·rename_i b o len k
  simp only[cond_eq_ite,Nat.ble_eq,beq_iff_eq] at hf
  by_cases hn:n≤len
  ·rw[if_pos hn] at hf
   by_cases h0:n*size=0
   ·rw[if_pos h0] at hf;cases hf
    refine⟨[],fun w2 _=>?_,.nil m,.inr (by simp[h0])⟩
    rcases hx.dB with⟨r,s,cap,_,_,_,_,_,_,rfl⟩|⟨_,_,a,cap,rfl⟩
    ·simp only[Builtin.firstCells,h0];rfl
    ·simp only[Builtin.firstCells,h0];rfl
   ·rw[if_neg h0] at hf
    rcases hx.dB with⟨r,s,cap,hm,_,_,_,_,_,rfl⟩|⟨hl,_,_⟩
    ·obtain⟨cs',hL,hlen,hc⟩:=R.rd hf hm
     refine⟨cs',fun w2 hh=>?_,hL,.inr hlen⟩
     show(loadCells ⟨r,s+o,none⟩ (n*size)).run P w2=_
     rw[show n*size=cs'.length from by rw[←hlen];exact hL.1]
     exact run_loadCells_list w2 _ cs' (fun j v hv=>by rw[Hh hh];exact hc j v hv)
    ·exfalso;apply h0;rw[show n=0 by omega];simp
  ·simp[hn] at hf
 ·cases hf
theorem Cg (zP:Nat) : ∀(rounds c:Nat),Builtin.growBy zP rounds c≤max c (zP+(zP+768) / 4)
 | 0,c=>by simp only[Builtin.growBy];omega
 | rounds+1,c=>by
  rw[Builtin.growBy]
  by_cases h:c ≥ zP
  ·rw[if_pos h];omega
  ·rw[if_neg h]
   have:=Cg zP rounds (c+(c+768) / 4)
   omega
theorem nextslicecap_le (Ty old:Nat) (h:old<Ty):Builtin.nextslicecap Ty old≤2*Ty+1024:=by
 unfold Builtin.nextslicecap
 split
 ·omega
 ·split
  ·omega
  ·have:=Cg Ty 4 old;omega
theorem lY (P:Program) (w:World) (ts:Array TypeId) (ty:TypeId) (st xt elem xe:TypeId) (a x':Value) (size bytes:Nat) (z:Value) (base:Option Addr) (len cap n:Nat) (old new:List Value)
  (h0:ts[0]?=some st) (h1:ts[1]?=some xt) (hst:P.underlying st=some (.slice elem)) (hxt:P.underlying xt=some (.slice xe)) (hsz:aK P elem=some size) (hby:gP P elem=some bytes) (hz:pT P elem=some z)
  (ha:a=.slice base len cap) (hn : ∃xa xc,x'=.slice xa n xc) (Vp:cap<len+n) (hb:bytes≤65536) (jz:(len+n)*(bytes+1)≤aN)
  (Zt : ∀d,(Builtin.firstCells size len a).run P { w with drawn:=d }=.ok old.toArray { w with drawn:=d }) (xZ : ∀d,(Builtin.firstCells size n x').run P { w with drawn:=d }=.ok new.toArray { w with drawn:=d }) :
  ∃d iL rest,(Builtin.append_ ts ty #[a,x']).run P w=.ok (.slice (some ⟨w.heap.size,0,none⟩) (len+n) iL) ((({ w with drawn:=d }:World)).alloc (.cells ((old ++ new) ++ rest).toArray elem))∧len+n≤iL∧rest.length=(iL - (len+n))*z.cells.size:=by
 obtain⟨xa,xc,rfl⟩:=hn
 subst ha
 unfold gP at hby
 obtain⟨i,hi,hib⟩:=Option.map_eq_some_iff.1 hby
 have od : ¬(len+n≤cap):=by omega
 have hN:=nextslicecap_le (len+n) cap (by omega)
 have W1 : ¬(Builtin.nextslicecap (len+n) cap*bytes > 2 ^ 48):=by
  have h2:Builtin.nextslicecap (len+n) cap*bytes≤(2*(len+n)+1024)*bytes:=Nat.mul_le_mul_right _ hN
  have h3:(2*(len+n)+1024)*bytes=2*((len+n)*bytes)+1024*bytes:=by rw[Nat.add_mul,Nat.mul_assoc]
  have h4:(len+n)*(bytes+1)=(len+n)*bytes+(len+n):=by rw[Nat.mul_add,Nat.mul_one]
  unfold aN at jz
  omega
 have W6 : ¬((len+n:Nat):Int) > IntKind.i64.max:=by
  have:len+n≤(len+n)*(bytes+1):=Nat.le_mul_of_pos_right _ (by omega)
  unfold aN at jz
  have e:IntKind.i64.max=9223372036854775807:=by decide
  rw[e];omega
 let q:=Question.appendCap (len+n) cap elem
 have Xa:len+n≤q.cut (w.tape w.drawn q):=Nat.le_add_right _ _
 refine⟨w.drawn+1,q.cut (w.tape w.drawn q),(Builtin.zeroCells z.cells (q.cut (w.tape w.drawn q) - (len+n))).toList,?_,Xa,by simp[Builtin.zeroCells]⟩
 have e0:(#[Value.slice base len cap,Value.slice xa n xc]:Array Value)[0]?=some (.slice base len cap):=rfl
 have e1:(#[Value.slice base len cap,Value.slice xa n xc]:Array Value)[1]?=some (.slice xa n xc):=rfl
 simp only[Builtin.append_,h0,h1,e0,e1,Sem.run_bind,Go.run_underlying hst,Result.andThen_ok,bV w hsz,Go.run_underlying hxt,Sem.run_pure,Builtin.lenOf,Bool.false_eq_true,if_false,od,Bool.not_false,if_true,false_or,Sem.run_ite,run_typeInfo w hi,hib]
 rw[if_neg (by intro h;exact W6 h.1)]
 rw[if_neg W1]
 simp only[Result.andThen_ok,run_choose,Question.forced,Bool.false_eq_true,if_false,run_askRoom,run_typeInfo _ hi,Zt,xZ,dP _ hz,Go.newRow,Sem.run_bind,run_newObj,Sem.run_pure]
 have Xm : ∀Z:Array Value,old.toArray ++ new.toArray ++ Z=((old ++ new) ++ Z.toList).toArray:=fun Z=>by rw[←Array.toList_inj];simp
 rw[Xm]
 rfl
theorem jW (P:Program) (w w':World) (ts:Array TypeId) (ty:TypeId) (st xt elem xe:TypeId) (x':Value) (size n len cap:Nat) (base:Option Addr) (new:List Value)
  (h0:ts[0]?=some st) (h1:ts[1]?=some xt) (hst:P.underlying st=some (.slice elem)) (hxt:P.underlying xt=some (.slice xe)) (hsz:aK P elem=some size)
  (hn : ∃xa xc,x'=.slice xa n xc) (Vp:len+n≤cap) (xZ:(Builtin.firstCells size n x').run P w=.ok new.toArray w)
  (hst' : ∀a,base=some a→(storeCells (a.add (len*size)) new).run P w=.ok () w') (Zw:base=none→w'=w) :
  (Builtin.append_ ts ty #[.slice base len cap,x']).run P w=.ok (.slice base (len+n) cap) w':=by
 obtain⟨xa,xc,rfl⟩:=hn
 have e0:(#[Value.slice base len cap,Value.slice xa n xc]:Array Value)[0]?=some (.slice base len cap):=rfl
 have e1:(#[Value.slice base len cap,Value.slice xa n xc]:Array Value)[1]?=some (.slice xa n xc):=rfl
 simp only[Builtin.append_,h0,h1,e0,e1,Sem.run_bind,Go.run_underlying hst,Result.andThen_ok,bV w hsz,Go.run_underlying hxt,Sem.run_pure,Builtin.lenOf,Bool.false_eq_true,if_false,Vp,Bool.not_false,if_true,xZ]
 cases base with
 | none=>rw[Zw rfl];rfl
 | some a=>simp[hst' a rfl]
theorem qj (k:Nat) : ∀(l:List Nat),k∈l→l=l.takeWhile (· != k) ++ k :: (l.dropWhile (· != k)).drop 1
 | [],h=>by cases h
 | a :: l,h=>by
  by_cases e:a=k
  ·subst e;simp
  ·have h':k∈l:=by
    rcases List.mem_cons.1 h with h|h
    ·exact absurd h.symm e
    ·exact h
   have:=qj k l h'
   simp only[List.takeWhile_cons,List.dropWhile_cons,bne_iff_ne,ne_eq,e,not_false_eq_true,if_true,List.cons_append]
   rw[←this]
theorem Rel.append {B:Nat} {w0:World} {m:Mp} {h h':IH} {w:World} (R:Rel B w0 m h w) (P:Program) {ts:Array TypeId} {ty st xt xe:TypeId} {s s' x x' v:Value}
  (h0:ts[0]?=some st) (h1:ts[1]?=some xt) (hxt:P.underlying xt=some (.slice xe)) (ha:append P h st s x=some (v,h')) (hs:aD m s s') (hx:aD m x x') (ct:eo m h.n h'.n) :
  ∃v' m' w',(Builtin.append_ ts ty #[s',x']).run P w=.ok v' w'∧aD m' v v'∧Rel B w0 m' h' w'∧Step m h w m' h' w':=by
 unfold Id.append at ha
 cases hst:P.underlying st with
 | none=>simp[hst] at ha
 | some d =>
  rw[hst] at ha
  cases d with
  | slice elem =>
   cases hsz:aK P elem with
   | none=>simp[hsz] at ha
   | some size =>
   cases hby:gP P elem with
   | none=>simp[hsz,hby] at ha
   | some bytes =>
   cases hz:aC P elem with
   | none=>simp[hsz,hby,hz] at ha
   | some zs =>
   cases hn:Id.lenOf x with
   | none=>simp[hsz,hby,hz,hn] at ha
   | some n =>
   obtain⟨z,hz0,_,hzs⟩:=cP hz
   obtain⟨xa,xc,hx'⟩:=wx hx hn
   simp only[hsz,hby,hz,hn,cond_eq_ite,beq_iff_eq] at ha
   by_cases hn0:n=0
   ·-- nothing is Zay
    subst hn0
    rw[if_pos rfl] at ha
    have hf0:(Builtin.firstCells size 0 x').run P w=.ok ([]:List Value).toArray w:=by
     subst hx'
     cases xa with
     | none=>rfl
     | some a=>show(loadCells a (0*size)).run P w=_;rw[Nat.zero_mul];rfl
    split at ha
    ·rename_i a c
     by_cases hac:(a == 0 && c == 0)=true
     ·rw[if_pos hac] at ha;cases ha
      obtain⟨rfl,rfl,rfl⟩:=hs.lk
      refine⟨_,m,w,jW P w w ts ty st xt elem xe x' size 0 0 0 none [] h0 h1 hst hxt hsz ⟨_,_,hx'⟩ (by omega) hf0 (by simp) (fun _=>rfl),hs,R,Step.refl _ _ _⟩
     ·rw[if_neg hac] at ha;cases ha
    ·rename_i b o len k
     cases ha
     have hlc : ∃a TL cap,s'=.slice (some a) TL cap∧TL≤cap:=by
      rcases hs.dB with⟨r,q,cap,_,_,h2,h3,_,_,rfl⟩|⟨rfl,rfl,a,cap,rfl⟩
      ·exact⟨_,_,_,rfl,Nat.le_trans h2 h3⟩
      ·exact⟨_,_,_,rfl,Nat.zero_le _⟩
     obtain⟨a,TL,cap,rfl,hle⟩:=hlc
     exact⟨_,m,w,jW P w w ts ty st xt elem xe x' size 0 TL cap (some a) [] h0 h1 hst hxt hsz ⟨_,_,hx'⟩ (by omega) hf0 (by intro a' _;rfl) (by simp),hs,R,Step.refl _ _ _⟩
    ·cases ha
   ·rw[if_neg hn0] at ha
    by_cases hsb:(size == 0 || (!(Nat.ble bytes 65536) || !(zs.length == size)))=true
    ·rw[if_pos hsb] at ha;cases ha
    ·rw[if_neg hsb] at ha
     simp only[Bool.or_eq_true,beq_iff_eq,Bool.not_eq_true',not_or,Bool.not_eq_false,beq_eq_false_iff_ne,ne_eq,Decidable.not_not] at hsb
     obtain⟨Vm,Jd,Zd⟩:=hsb
     have Jd:bytes≤65536:=Nat.le_of_ble_eq_true Jd
     have hzc:z.cells.size=size:=by rw[←Zd,hzs];simp
     cases hfi:bL h size n x with
     | none=>simp[hfi] at ha
     | some new =>
     simp only[hfi] at ha
     by_cases ef:(!(new.all aA))=true
     ·rw[if_pos ef] at ha;cases ha
     rw[if_neg ef] at ha
     have hok : ∀c∈new,aA c=true:=by simpa using ef
     have Ze:x≠.slice none 0 0:=by
      intro e;subst e;simp only[Id.lenOf] at hn;cases hn;exact hn0 rfl
     obtain⟨gj,uZ,mU,rO⟩:=R.first P hx hfi
     have rO:new.length=n*size:=rO.resolve_left Ze
     have Ls : ∀d,Rel B w0 m h { w with drawn:=d }:=fun d=>R.congr rfl (jQ R.below d)
     split at ha
     ·-- onto nil
      rename_i a c
      by_cases hc:(a == 0 && c == 0 && Nat.ble (n*(bytes+1)) aN)=true
      ·rw[if_pos hc] at ha;cases ha
       simp only[Bool.and_eq_true,beq_iff_eq,Nat.ble_eq] at hc
       obtain⟨rfl,rfl,rfl⟩:=hs.lk
       obtain⟨d,iL,rest,bw,od,qQ⟩:=lY P w ts ty st xt elem xe (.slice none 0 0) x' size bytes z none 0 0 n [] gj h0 h1 hst hxt hsz hby hz0 rfl ⟨_,_,hx'⟩ (by omega) Jd
        (by rw[Nat.zero_add];exact hc.2) (fun d=>rfl) (fun d=>uZ _ rfl)
       rw[Nat.zero_add] at bw od qQ
       simp only[List.nil_append] at bw
       have hm0:m (2*h.n)=none:=ct h.n (Nat.le_refl _) (Nat.lt_succ_self _)
       obtain⟨R1,S1⟩:=(Ls d).new (.cells new size none) (.cells (gj ++ rest).toArray elem) (size,(gj ++ rest).length) hm0
        ⟨(gj ++ rest).toArray,elem,by rw[heap_alloc,if_pos rfl],⟨by simp[mU.1],fun i v hi=>by
         obtain⟨v',a,b⟩:=mU.get hi
         refine⟨v',?_,b⟩
         have hi':i<gj.length:=by
          rcases Nat.lt_or_ge i gj.length with h|h
          ·exact h
          ·rw[List.getElem?_eq_none h] at a;cases a
         simp only[List.getElem?_toArray,Nat.zero_add]
         rw[List.getElem?_append_left hi'];exact a⟩,rfl,by simp⟩ rfl
       refine⟨_,_,_,bw,?_,R1,S1.congr rfl⟩
       have hp:0<n:=Nat.pos_of_ne_zero hn0
       have:=aD.slice (m:=m.upd (2*h.n) (w.heap.size,0) (size,(gj ++ rest).length)) (b:=2*h.n) (o:=0) (r:=w.heap.size) (s:=0) (len:=n) (k:=2*n) (cap:=iL) (Mp.bh _ _ _ _) (by omega) (by omega) (by omega) (by omega) (by intro _;rw[Mp.lz];simp only[List.length_append,qQ,hzc,←mU.1,rO];rw[←Nat.add_mul];simp only[Nat.zero_add,Nat.add_zero];exact Nat.mul_le_mul_right _ (by omega))
       exact this
      ·rw[if_neg hc] at ha;cases ha
     ·rename_i b o len k
      by_cases jz:(!(Nat.ble ((len+n)*(bytes+1)) aN))=true
      ·rw[if_pos jz] at ha;cases ha
      ·rw[if_neg jz] at ha
       have QO:(len+n)*(bytes+1)≤aN:=by
        simp only[Bool.not_eq_true',Bool.not_eq_false] at jz
        exact Nat.le_of_ble_eq_true jz
       by_cases hin:Nat.ble (len+n) (k / 2)=true
       ·-- there is room for sure
        rw[if_pos hin] at ha
        have ZC:=Nat.le_of_ble_eq_true hin
        obtain⟨h1w,hw1,hv1⟩:=Option.map_eq_some_iff.1 ha
        cases hv1
        rcases hs.dB with⟨r,q,cap,hmb,hk0,hl,hkc,hx1,hz1,rfl⟩|⟨_,hk,_⟩
        ·obtain⟨w',hr1,R1,S1⟩:=R.wr hw1 hmb mU hok P
         refine⟨_,m,w',jW P w w' ts ty st xt elem xe x' size n len cap _ gj h0 h1 hst hxt hsz ⟨_,_,hx'⟩ (by omega) (uZ w rfl) (fun a e=>?_) (by simp),?_,R1,S1⟩
         ·cases e;rw[kH,Nat.add_assoc];exact hr1
         ·exact .slice hmb hk0 ZC hkc hx1 hz1
        ·omega
       ·rw[if_neg hin] at ha
        have ZC : ¬len+n≤k / 2:=fun e=>hin (by simpa using e)
        by_cases nW:k % 2=1
        ·-- there is none for sure
         rw[if_pos nW] at ha
         cases hfo:bL h size len (.slice (some ⟨b,o,none⟩) len k) with
         | none=>simp[hfo] at ha
         | some old =>
          simp only[hfo] at ha;cases ha
          obtain⟨qH,DR,z9,DS⟩:=R.first P hs hfo
          have DS:old.length=len*size:=DS.resolve_left (by simp)
          have mV : ∃base cap,s'=.slice base len cap∧cap<len+n:=by
           rcases hs.dB with⟨r,q,cap,_,_,_,_,hx1,_,rfl⟩|⟨_,hk,_⟩
           ·exact⟨_,cap,rfl,by have:=hx1 nW;omega⟩
           ·omega
          obtain⟨base,cap,rfl,hcl⟩:=mV
          obtain⟨d,iL,rest,bw,od,qQ⟩:=lY P w ts ty st xt elem xe _ x' size bytes z base len cap n qH gj h0 h1 hst hxt hsz hby hz0 rfl ⟨_,_,hx'⟩ hcl Jd QO
           (fun d=>DR _ rfl) (fun d=>uZ _ rfl)
          have hm0:m (2*h.n)=none:=ct h.n (Nat.le_refl _) (Nat.lt_succ_self _)
          have hon:=z9.append mU
          obtain⟨R1,S1⟩:=(Ls d).new (.cells (old ++ new) size none) (.cells (qH ++ gj ++ rest).toArray elem) (size,(qH ++ gj ++ rest).length) hm0
           ⟨(qH ++ gj ++ rest).toArray,elem,by rw[heap_alloc,if_pos rfl],⟨by simp[z9.1,mU.1],fun i v hi=>by
            obtain⟨v',a,b⟩:=hon.get hi
            refine⟨v',?_,b⟩
            have hi':i<(qH ++ gj).length:=by
             rcases Nat.lt_or_ge i (qH ++ gj).length with h|h
             ·exact h
             ·rw[List.getElem?_eq_none h] at a;cases a
            simp only[List.getElem?_toArray,Nat.zero_add]
            rw[List.getElem?_append_left hi'];exact a⟩,rfl,by simp⟩ rfl
          refine⟨_,_,_,bw,?_,R1,S1.congr rfl⟩
          have:=aD.slice (m:=m.upd (2*h.n) (w.heap.size,0) (size,(qH ++ gj ++ rest).length)) (b:=2*h.n) (o:=0) (r:=w.heap.size) (s:=0) (len:=len+n) (k:=2*(len+n)) (cap:=iL) (Mp.bh _ _ _ _) (by omega) (by omega) (by omega) (by omega)
           (by intro _;rw[Mp.lz];simp only[List.length_append,qQ,hzc,←z9.1,DS,←mU.1,rO];rw[←Nat.add_mul,←Nat.add_mul];simp only[Nat.zero_add,Nat.add_zero];exact Nat.mul_le_mul_right _ (by omega))
          exact this
        ·rw[if_neg nW] at ha
         by_cases vc:(len == k / 2 && Nat.blt 0 len && b % 2 == 0)=true
         ·rw[if_pos vc] at ha
          simp only[Bool.and_eq_true,beq_iff_eq,Nat.blt_eq] at vc
          obtain⟨⟨hlk,hl0⟩,hb2⟩:=vc
          cases hg:h.ext.get (b / 2) with
          | none=>simp[hg] at ha
          | some ob =>
           rw[hg] at ha
           cases ob with
           | map es=>simp at ha
           | loop l=>simp at ha
           | iter _ _ _ _=>simp at ha
           | num _=>simp at ha
           | dead=>simp at ha
           | cells cs t fam =>
            simp only at ha
            by_cases hce:(o+len*size == cs.length && t == size)=true
            ·rw[if_pos hce] at ha
             simp only[Bool.and_eq_true,beq_iff_eq] at hce
             obtain⟨hce,rfl⟩:=hce
             have hb':2*(b / 2)=b:=by omega
             have hm0:m (2*h.n)=none:=ct h.n (Nat.le_refl _) (by
              cases fam with
              | none=>simp only[Option.some.injEq,Prod.mk.injEq] at ha;rw[←ha.2];exact Nat.lt_succ_self _
              | some f=>cases hf:h.bT.get f with
               | none=>simp[hf] at ha
               | some stk=>simp only[hf,Option.some.injEq,Prod.mk.injEq] at ha;rw[←ha.2];exact Nat.lt_succ_self _)
             have ZF : ∃f bX below,v=.slice (some ⟨2*h.n,0,none⟩) (len+n) (2*(len+n))∧h'=grown h (b / 2) f cs t bX below (cs.drop o ++ new) t ∧
               VM h (b / 2) f bX below fam:=by
              cases fam with
              | none=>simp only[Option.some.injEq,Prod.mk.injEq] at ha;exact⟨h.n,[],[],ha.1.symm,ha.2.symm,rfl,rfl,rfl⟩
              | some f=>cases hf:h.bT.get f with
               | none=>simp[hf] at ha
               | some stk =>
                simp only[hf,Option.some.injEq,Prod.mk.injEq] at ha
                obtain⟨st2,Zn,I7⟩:=R.fam (b / 2) cs t f hg
                rw[hf] at Zn;cases Zn
                exact⟨f,_,_,ha.1.symm,ha.2.symm,rfl,stk,hf,qj _ _ I7⟩
             obtain⟨f,bX,below,rfl,rfl,DT⟩:=ZF
             rcases hs.dB with⟨r,q,cap,hmb,hk0,hl,hkc,hx1,hz1,rfl⟩|⟨_,hk,_⟩
             ·have TZ:m (2*(b / 2))=some (r,q):=by rw[hb'];exact hmb
              obtain⟨c,el,hc,fl,he1,he2⟩:=R.obj (b / 2) _ r q hg TZ
              rw[hb'] at he1 he2
              have Cf:=hz1 (by omega)
              rw[he1] at Cf
              have hr1:=fl.1
              have hdl:(cs.drop o).length=len*t:=by simp;omega
              by_cases T1:len+n≤cap
              ·-- in place
               have hmul:(len+n)*t≤cap*t:=Nat.mul_le_mul_right _ T1
               rw[Nat.add_mul] at hmul
               have WT : ∀x∈gj,aA x=true:=by
                intro x hx
                obtain⟨i,hi,e⟩:=List.getElem_of_mem hx
                have hi':i<new.length:=mU.1▸hi
                exact CK (mU.2 i new[i] x (List.getElem?_eq_getElem hi') (by rw[List.getElem?_eq_getElem hi,e])) (hok _ (List.getElem_mem hi'))
               have Lo:gj.length=n*t:=by rw[←mU.1,rO]
               have Zl:=lX P r (q+o+len*t) el gj 0 w c hc (by omega) WT
               have hne:gj ≠ []:=by
                intro e
                have:n*t=0:=by rw[←Lo,e];rfl
                rcases Nat.mul_eq_zero.1 this with e|e
                ·exact hn0 e
                ·exact Vm e
               rw[if_neg hne,Nat.add_zero] at Zl
               have hrw:=fl.1
               have hrs:=R.even (b / 2) r q TZ
               have jn:(World.put w r (.cells (gZ c (q+o+len*t) gj) el)).heap[r]?=some (.cells (gZ c (q+o+len*t) gj) el):=by rw[kF,if_pos ⟨rfl,hrs.2⟩]
               have hpn : ∀p,p≠r→(World.put w r (.cells (gZ c (q+o+len*t) gj) el)).heap[p]?=w.heap[p]?:=fun p hp=>by rw[kF,if_neg (fun e=>hp e.1)]
               obtain⟨R1,S1⟩:=R.grow hg TZ hm0 f bX below DT (cs.drop o ++ new) t r (q+o) (t,(m.ez b).2) (World.put w r (.cells (gZ c (q+o+len*t) gj) el))
                (rS R.below hrs.1 _) (by rw[ji];exact Nat.le_refl _) ⟨hrs.1,by rw[ji];exact hrs.2⟩
                ⟨_,el,jn,⟨by rw[List.length_append,hdl,iJ];omega,fun i x hi=>by
                 rw[oh gj c _ _ (by omega)]
                 by_cases h2:i<(cs.drop o).length
                 ·rw[List.getElem?_append_left h2,List.getElem?_drop] at hi
                  rw[if_neg (by omega)]
                  have:=fl.2 _ _ hi
                  rw[←Nat.add_assoc] at this
                  exact this
                 ·rw[List.getElem?_append_right (by omega)] at hi
                  obtain⟨x',a1,a2⟩:=mU.get hi
                  have hlt:i - (cs.drop o).length<gj.length:=by
                   rcases Nat.lt_or_ge (i - (cs.drop o).length) gj.length with e|e
                   ·exact e
                   ·rw[List.getElem?_eq_none e] at a1;cases a1
                  rw[if_pos (by omega)]
                  refine⟨x',?_,a2⟩
                  rw[show q+o+i - (q+o+len*t)=i - (cs.drop o).length from by omega];exact a1⟩,rfl,by rw[iJ];exact he2⟩
                (.inr ⟨rfl,by rw[List.length_append,hdl];omega,fun p hp hpr=>hpn p hpr,fun c2 el2 hc2=>by
                 rw[hc] at hc2;cases hc2
                 exact⟨_,jn,by rw[iJ];exact Nat.le_refl _,fun i hi=>by rw[oh gj c _ _ (by omega),if_neg (by omega)]⟩⟩)
               refine⟨_,_,_,jW P w _ ts ty st xt elem xe x' t n len cap _ gj h0 h1 hst hxt hsz ⟨_,_,hx'⟩ T1 (uZ w rfl) (fun a e=>?_) (by simp),?_,R1,S1⟩
               ·cases e;rw[kH];exact Zl
               ·have:=aD.slice (m:=m.upd (2*h.n) (r,q+o) (t,(m.ez b).2)) (b:=2*h.n) (o:=0) (r:=r) (s:=q+o) (len:=len+n) (k:=2*(len+n)) (cap:=cap) (Mp.bh _ _ _ _) (by omega) (by omega) (by omega) (by omega)
                 (by intro _;rw[Mp.lz];simp only[Nat.add_zero];exact Cf)
                rw[Nat.add_zero] at this
                exact this
              ·-- in new memory
               have hfo:bL h t len (.slice (some ⟨b,o,none⟩) len k)=some (cs.drop o):=by
                unfold bL
                have hb0 : ¬b % 2=1:=by omega
                have h00 : ¬len*t=0:=by
                 intro e
                 rcases Nat.mul_eq_zero.1 e with e|e
                 ·omega
                 ·exact Vm e
                simp only[cond_eq_ite,Nat.ble_eq,Nat.le_refl,if_true,beq_iff_eq,h00,if_false,IH.rd,IH.row,hb0,hg]
                rw[if_pos (by omega),List.take_of_length_le (by omega)]
               obtain⟨qH,DR,z9,_⟩:=R.first P hs hfo
               obtain⟨d,iL,rest,bw,od,qQ⟩:=lY P w ts ty st xt elem xe _ x' t bytes z _ len cap n qH gj h0 h1 hst hxt hsz hby hz0 rfl ⟨_,_,hx'⟩ (by omega) Jd QO
                (fun d=>DR _ rfl) (fun d=>uZ _ rfl)
               have hon:=z9.append mU
               have Zk:(({ w with drawn:=d }:World).alloc (.cells (qH ++ gj ++ rest).toArray elem)).heap.size=w.heap.size+1:=size_alloc _ _
               have hat:(({ w with drawn:=d }:World).alloc (.cells (qH ++ gj ++ rest).toArray elem)).heap[w.heap.size]?=some (.cells (qH ++ gj ++ rest).toArray elem):=by rw[heap_alloc];exact if_pos rfl
               obtain⟨R1,S1⟩:=R.grow hg TZ hm0 f bX below DT (cs.drop o ++ new) t w.heap.size 0 (t,(qH ++ gj ++ rest).length) (({ w with drawn:=d }:World).alloc (.cells (qH ++ gj ++ rest).toArray elem))
                (m8 (jQ R.below d) R.size _) (by rw[Zk];omega) ⟨R.size,by rw[Zk];omega⟩
                ⟨_,elem,hat,⟨by simp only[List.length_append,Nat.zero_add,←z9.1,←mU.1,List.size_toArray];omega,fun i x hi=>by
                 obtain⟨x',a1,a2⟩:=hon.get hi
                 refine⟨x',?_,a2⟩
                 have hi':i<(qH ++ gj).length:=by
                  rcases Nat.lt_or_ge i (qH ++ gj).length with h|h
                  ·exact h
                  ·rw[List.getElem?_eq_none h] at a1;cases a1
                 simp only[List.getElem?_toArray,Nat.zero_add]
                 rw[List.getElem?_append_left hi'];exact a1⟩,rfl,by simp⟩
                (.inl ⟨Nat.le_refl _,fun p hp=>by rw[heap_alloc];exact if_neg (Nat.ne_of_lt hp)⟩)
               refine⟨_,_,_,bw,?_,R1,S1⟩
               have:=aD.slice (m:=m.upd (2*h.n) (w.heap.size,0) (t,(qH ++ gj ++ rest).length)) (b:=2*h.n) (o:=0) (r:=w.heap.size) (s:=0) (len:=len+n) (k:=2*(len+n)) (cap:=iL) (Mp.bh _ _ _ _) (by omega) (by omega) (by omega) (by omega)
                (by intro _;rw[Mp.lz];simp only[List.length_append,qQ,hzc,←z9.1,hdl,←mU.1,rO];rw[←Nat.add_mul,←Nat.add_mul];simp only[Nat.zero_add,Nat.add_zero];exact Nat.mul_le_mul_right _ (by omega))
               exact this
             ·omega
            ·rw[if_neg hce] at ha;cases ha
         ·rw[if_neg vc] at ha;cases ha
     ·cases ha
  | _=>simp at ha
theorem Rel.copy {B:Nat} {w0:World} {m:Mp} {h h':IH} {w:World} (R:Rel B w0 m h w) (P:Program) {ts:Array TypeId} {ty dt:TypeId} {d d' x x' v:Value}
  (h0:ts[0]?=some dt) (hc:tR P h dt d x=some (v,h')) (hd:aD m d d') (hx:aD m x x') :
  ∃w',(Builtin.copy_ ts ty #[d',x']).run P w=.ok v w'∧aD m v v∧Rel B w0 m h' w'∧Step m h w m h' w':=by
 unfold tR at hc
 cases hdt:P.underlying dt with
 | none=>simp[hdt] at hc
 | some td =>
  rw[hdt] at hc
  cases td with
  | slice e =>
   cases hdn:Id.lenOf d with
   | none=>simp[hdn] at hc
   | some dn =>
   cases hsn:Id.lenOf x with
   | none=>simp[hdn,hsn] at hc
   | some sn =>
   cases hsz:aK P e with
   | none=>simp[hdn,hsn,hsz] at hc
   | some size =>
   simp only[hdn,hsn,hsz] at hc
   cases hfi:bL h size (Nat.min sn dn) x with
   | none=>simp[hfi] at hc
   | some cs =>
   simp only[hfi,cond_eq_ite] at hc
   obtain⟨xa,xc,rfl⟩:=wx hx hsn
   obtain⟨cs',bw,hL,_⟩:=R.first P hx hfi
   have hlen:(Builtin.lenOf (.slice xa sn xc)).run P w=.ok sn w:=rfl
   have e0 : ∀y:Value,(#[y,Value.slice xa sn xc]:Array Value)[0]?=some y:=fun _=>rfl
   have e1 : ∀y:Value,(#[y,Value.slice xa sn xc]:Array Value)[1]?=some (.slice xa sn xc):=fun _=>rfl
   split at hc
   ·rename_i a b
    cases hc
    obtain⟨rfl,rfl,rfl⟩:=hd.lk
    simp only[Id.lenOf] at hdn;cases hdn
    refine⟨w,?_,.bD rfl,R,Step.refl _ _ _⟩
    have TY:Nat.min sn 0=0:=Nat.min_zero sn
    simp only[TY] at bw ⊢
    simp only[Builtin.copy_,h0,e0,e1,Sem.run_bind,Go.run_underlying hdt,Result.andThen_ok,hlen,bV w hsz,TY,bw w rfl,Sem.run_pure]
    rfl
   ·rename_i b o dl dk
    simp only[Id.lenOf] at hdn;cases hdn
    have hdv : ∃r q cap a,d'=.slice (some a) dn cap∧(0<dk→m b=some (r,q)∧a=⟨r,q+o,none⟩)∧(dk=0→dn=0):=by
     rcases hd.dB with⟨r,q,cap,hm,h1,_,_,_,_,rfl⟩|⟨hl,hk,a,cap,rfl⟩
     ·exact⟨r,q,cap,_,rfl,fun _=>⟨hm,rfl⟩,fun e=>by omega⟩
     ·subst hl;exact⟨0,0,cap,a,rfl,fun e=>by omega,fun _=>rfl⟩
    obtain⟨r,q,cap,a,rfl,uY,hzero⟩:=hdv
    by_cases Ub:cs.isEmpty=true
    ·rw[if_pos Ub] at hc;cases hc
     have hcs:cs = []:=by simpa using Ub
     subst hcs
     have hcs':cs' = []:=by have:=hL.1;simpa using this.symm
     subst hcs'
     refine⟨w,?_,.bD rfl,R,Step.refl _ _ _⟩
     simp only[Builtin.copy_,h0,e0,e1,Sem.run_bind,Go.run_underlying hdt,Result.andThen_ok,hlen,bV w hsz,bw w rfl,Sem.run_pure]
     rfl
    ·rw[if_neg Ub] at hc
     by_cases ef:(!(cs.all aA))=true
     ·rw[if_pos ef] at hc;cases hc
     rw[if_neg ef] at hc
     obtain⟨h1w,hw1,hv1⟩:=Option.map_eq_some_iff.1 hc
     cases hv1
     have hk:0<dk:=by
      rcases Nat.eq_zero_or_pos dk with e|e
      ·have:=hzero e;subst this
       exfalso;apply Ub
       have TY:Nat.min sn 0=0:=Nat.min_zero sn
       rw[TY] at hfi
       unfold bL at hfi
       split at hfi
       ·cases hfi;rfl
       ·simp only[cond_eq_ite,Nat.ble_eq,Nat.zero_le,if_true,Nat.zero_mul,beq_self_eq_true] at hfi;cases hfi;rfl
       ·cases hfi
      ·exact e
     obtain⟨hm,rfl⟩:=uY hk
     obtain⟨w',hr1,R1,S1⟩:=R.wr hw1 hm hL (by simpa using ef) P
     refine⟨w',?_,.bD rfl,R1,S1⟩
     simp only[Builtin.copy_,h0,e0,e1,Sem.run_bind,Go.run_underlying hdt,Result.andThen_ok,hlen,bV w hsz,bw w rfl,hr1,Sem.run_pure]
     rfl
   ·cases hc
  | _=>simp at hc
theorem Da (c:Array Value) (q:Nat) (vs:List Value) (h:q+vs.length≤c.size):(gZ c q vs).toList=IH.aG c.toList q vs:=by
 apply List.ext_getElem?
 intro i
 rw[Array.getElem?_toList (xs:=gZ c q vs),oh _ _ _ _ h,Ae _ _ _ (by simpa using h)]
 split<;>simp
theorem Ag (off:Nat) : ∀(l:List Value) (k:Nat) (c:Array Value),(l.zipIdx k).foldl (fun cs p=>cs.setIfInBounds (off+p.2) p.1) c=gZ c (off+k) l
 | [],k,c=>rfl
 | v :: l,k,c=>by
  rw[List.zipIdx_cons,List.foldl_cons,Ag off l (k+1),gZ,Nat.add_assoc]
def Mk (m:Mp) (a b:Nat×Value):Prop:=b.1=a.1∧aD m a.2 b.2
theorem bm.aG {m:Mp} {a a' b b':List Value} (h:bm m a a') (k:bm m b b') (o:Nat) (hb:o+b.length≤a.length):bm m (IH.aG a o b) (IH.aG a' o b'):=by
 have h1:=h.1;have h2:=k.1
 unfold IH.aG
 rw[←h2]
 exact(h.take o).append (k.append (h.drop _))
theorem Aj {m:Mp} (place:Nat→Option (Nat×Nat)) : ∀(ps ps':List (Nat×Value)) (cs:List Value) (c':Array Value) (r:List Value),bm m cs c'.toList →
  ps.length=ps'.length→(∀(i:Nat) (a b:Nat×Value),ps[i]?=some a→ps'[i]?=some b→Mk m a b)→cd place cs ps=some r → ∃r',Instr.fill place c' ps'=some r'∧bm m r r'.toList
 | [],[],cs,c',r,h,_,_,hf=>by simp only[cd] at hf;cases hf;exact⟨c',rfl,h⟩
 | [],_ :: _,_,_,_,_,hl,_,_=>by simp at hl
 | _ :: _,[],_,_,_,_,hl,_,_=>by simp at hl
 | (i,v) :: ps,(i',v') :: ps',cs,c',r,h,hl,hp,hf=>by
  obtain⟨h1,h2⟩:=hp 0 _ _ rfl rfl
  simp only at h1 h2;subst h1
  rw[cd] at hf
  cases hpl:place i' with
  | none=>simp[hpl] at hf
  | some on =>
   obtain⟨o,n⟩:=on
   simp only[hpl,cond_eq_ite] at hf
   by_cases hc:(v.cells.size == n && Nat.ble (o+n) cs.length)=true
   ·rw[if_pos hc] at hf
    simp only[Bool.and_eq_true,beq_iff_eq,Nat.ble_eq] at hc
    have hcs:c'.size=cs.length:=by have:=h.1;simp at this;omega
    have hv':=AD h2
    have hlen:o+v'.cells.toList.length≤c'.size:=by rw[Array.length_toList,hv',hc.1,hcs];exact hc.2
    have ZG:v'.cells.zipIdx.foldl (fun cs x=>match x with|(c,j)=>cs.setIfInBounds (o+j) c) c'=gZ c' o v'.cells.toList:=by
     rw[←Array.foldl_toList,Array.toList_zipIdx]
     exact Ag o v'.cells.toList 0 c'
    rw[Instr.fill,hpl]
    simp only
    rw[ZG,if_neg (by simp only[ne_eq,Bool.or_eq_true,decide_eq_true_eq,not_or,Decidable.not_not,gt_iff_lt,Nat.not_lt];exact⟨by rw[hv',hc.1],by rw[hv',hc.1,hcs];exact hc.2⟩)]
    refine Aj place ps ps' _ _ r ?_ (by simpa using hl) (fun j a b ha hb=>hp (j+1) a b (by simpa using ha) (by simpa using hb)) hf
    rw[Da _ _ _ hlen]
    exact h.aG h2.cells o (by rw[Array.length_toList,hc.1];exact hc.2)
   ·rw[if_neg hc] at hf;cases hf
theorem qE {m:Mp} {fr:Fr} {ρ:Operand→Value} (hρ : ∀x v,opd fr x=some v→aD m v (ρ x)) : ∀(l:List (Nat×Operand)) (ps:List (Nat×Value)),partsOf fr l=some ps →
  ps.length=l.length ∧ ∀(i:Nat) (a b:Nat×Value),ps[i]?=some a→(l.map fun p=>(p.1,ρ p.2))[i]?=some b→Mk m a b
 | [],ps,h=>by simp only[partsOf] at h;cases h;exact⟨rfl,by simp⟩
 | (i,x) :: l,ps,h=>by
  rw[partsOf] at h
  cases hx:opd fr x with
  | none=>simp[hx] at h
  | some v =>
   cases hl:partsOf fr l with
   | none=>simp[hx,hl] at h
   | some vs =>
    simp only[hx,hl] at h;cases h
    obtain⟨h1,h2⟩:=qE hρ l vs hl
    refine⟨by simp[h1],fun j a b ha hb=>?_⟩
    cases j with
    | zero=>simp at ha hb;subst ha;subst hb;exact⟨rfl,hρ x v hx⟩
    | succ j=>simp at ha hb;exact h2 j a b ha (by simpa using hb)
theorem MJ {m:Mp} {P:Program} {t:TypeId} {fr:Fr} {ρ:Operand→Value} (hρ : ∀x v,opd fr x=some v→aD m v (ρ x)) {parts:Array (Nat×Operand)} {z cs:List Value} {ps:List (Nat×Value)}
  (hz:aC P t=some z) (hps:partsOf fr parts.toList=some ps) (ha:cu P t=true) (hf:cd (placeOf P t) z ps=some cs) (w:World) :
  ∃cs',(Instr.build t (parts.map fun(i,x)=>(i,ρ x))).run P w=.ok (.agg cs') w∧aD m (.agg cs.toArray) (.agg cs'):=by
 obtain⟨zv,hz1,hz2,rfl⟩:=cP hz
 unfold pT at hz1
 obtain⟨it,hit,hz3⟩:=Option.bind_eq_some_iff.1 hz1
 obtain⟨hl,hp⟩:=qE hρ _ _ hps
 have hL0:bm m zv.cells.toList zv.cells.toList:=(aD.bP hz2).cells
 have Bc:(parts.map fun(x:Nat×Operand)=>match x with|(i,x)=>(i,ρ x)).toList=parts.toList.map fun p=>(p.1,ρ p.2):=by rw[Array.toList_map]
 have key : ∀place:Nat→Option (Nat×Nat),(∀i p,placeOf P t i=some p→place i=some p) → ∃r',Instr.fill place zv.cells (parts.toList.map fun p=>(p.1,ρ p.2))=some r'∧bm m cs r'.toList:=by
  intro place WR
  have up : ∀(ps:List (Nat×Value)) (a r:List Value),cd (placeOf P t) a ps=some r→cd place a ps=some r:=by
   intro ps
   induction ps with
   | nil=>intro a r h;exact h
   | cons p ps ih =>
    obtain⟨i,v⟩:=p
    intro a r h
    rw[cd] at h ⊢
    cases hpi:placeOf P t i with
    | none=>simp[hpi] at h
    | some on =>
     rw[WR i on hpi]
     rw[hpi] at h
     obtain⟨o,n⟩:=on
     simp only[cond_eq_ite] at h ⊢
     by_cases hc:(v.cells.size == n && Nat.ble (o+n) a.length)=true
     ·rw[if_pos hc] at h ⊢;exact ih _ _ h
     ·rw[if_neg hc] at h;cases h
  exact Aj place ps _ _ _ _ hL0 (by simp[hl]) hp (up ps _ _ hf)
 have hb : ∃r',P.built t (parts.map fun(x:Nat×Operand)=>match x with|(i,x)=>(i,ρ x)).toList=some r'∧bm m cs r'.toList:=by
  rw[Bc]
  unfold Program.built cu at *
  cases hu:P.underlying t with
  | none=>simp[hu] at ha
  | some d =>
   rw[hu] at ha
   cases d with
   | array n e =>
    simp only[Option.isSome_iff_exists] at ha
    obtain⟨ie,hie⟩:=ha
    obtain⟨r',h1,h2⟩:=key (fun i=>some (i*ie.size,ie.size)) (by
     intro i p hpi
     simp only[placeOf,hu,aK,hie,Option.map_some] at hpi
     exact hpi)
    refine⟨r',?_,h2⟩
    simp only[hit,hz3,hie]
    exact h1
   | struct fs =>
    simp only[Array.all_eq_true_iff_forall_mem,Option.isSome_iff_exists] at ha
    have hpl : ∀(l:List Field),(∀f∈l,∃i,P.info? f.type=some i) → ∃pl,l.mapM (fun f=>(P.info? f.type).map fun i=>(f.offset,i.size))=some pl ∧ ∀(j:Nat) (f:Field),l[j]?=some f → ∃i,P.info? f.type=some i∧pl[j]?=some (f.offset,i.size):=by
     intro l
     induction l with
     | nil=>intro _;exact⟨[],rfl,by simp⟩
     | cons f l ih =>
      intro h
      obtain⟨i,hi⟩:=h f (by simp)
      obtain⟨pl,h1,h2⟩:=ih (fun g hg=>h g (by simp[hg]))
      refine⟨(f.offset,i.size) :: pl,by simp[List.mapM_cons,hi,h1],fun j g hj=>?_⟩
      cases j with
      | zero=>simp at hj;subst hj;exact⟨i,hi,rfl⟩
      | succ j=>simp at hj;obtain⟨i',a,b⟩:=h2 j g hj;exact⟨i',a,by simpa using b⟩
    obtain⟨pl,hpl1,hpl2⟩:=hpl fs.toList (fun f hf=>ha f (by simpa using hf))
    obtain⟨r',h1,h2⟩:=key (pl.toArray[·]?) (by
     intro i p hpi
     simp only[placeOf,hu] at hpi
     cases hfi:fs[i]? with
     | none=>simp[hfi] at hpi
     | some f =>
      simp only[hfi,aK] at hpi
      obtain⟨i',a,b⟩:=hpl2 i f (by simpa using hfi)
      rw[a] at hpi
      simp only[Option.map_some] at hpi
      rw[←hpi]
      simpa using b)
    refine⟨r',?_,h2⟩
    simp only[hit,hz3,hpl1]
    exact h1
   | _=>simp at ha
 obtain⟨r',h1,h2⟩:=hb
 exact⟨r',run_build w t _ r' h1,aD.kf (by simpa using h2)⟩
end Go.Id
