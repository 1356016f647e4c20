/-
  The ideal machine: append and copy.
-/
import Derived.Test.YtnanhedgenokpaaGreatTemperDetailedAd
set_option linter.unusedVariables false
set_option linter.unusedSimpArgs false
set_option linter.defProp false
set_option linter.deprecated false
namespace Go.Id
open Go Go.RowKit
theorem Rel.congr {B:Nat} {w0:World} {m:Mp} {h:IH} {w w':World} (R:Rel B w0 m h w) (hh:w'.heap=w.heap) (hb:Below B w0 w'):Rel B w0 m h w' :=
 ⟨hb,by rw[hh];exact R.size,fun b cs hx=>let ⟨r0,s0,m0,a,c,el,fz,d,e⟩:=R.base b cs hx;⟨r0,s0,m0,a,c,el,fz,by rw[hh];exact d,e⟩,R.odd,fun k r s hk=>by rw[hh];exact R.even k r s hk,R.dom,
  fun k o r s a b=>(R.obj k o r s a b).mono (Mp.le_refl m) (by rw[hh]) rfl,R.own,R.famdom,R.fam,R.long,R.whole⟩
theorem Step.congr {m m':Mp} {h h':IH} {w w1 w':World} (S:Step m h w1 m' h' w') (hh:w1.heap=w.heap):Step m h w m' h' w' :=
 ⟨S.le,S.new,S.n,S.base,fun r hr hk=>by rw[S.frame r (by rw[hh];exact hr) hk,hh],S.idle,by rw[←hh];exact S.size,fun k r s a b c=>by rw[←hh];exact S.img k r s a b c,S.idleF⟩
theorem below_drew {B:Nat} {w0 w:World} (h:Below B w0 w) (d:Nat):Below B w0 { w with drawn:=d }:=⟨h.os,h.tape,h.output,h.size,h.block⟩
theorem VRel.slice_inv {m:Mp} {b o len k:Nat} {v':Value} (h:VRel m (.slice (some ⟨b,o,none⟩) len k) v') :
  (∃r s cap,m b=some (r,s)∧0<k∧len≤k / 2∧k / 2≤cap∧(k % 2=1→cap=k / 2)∧(k % 2=0→s+o+cap*(m.ez b).1≤(m.ez b).2)∧v'=.slice (some ⟨r,s+o,none⟩) len cap)∨(len=0∧k=0 ∧ ∃a cap,v'=.slice (some a) 0 cap):=by
 cases h with
 | scal h=>simp[Id.scal] at h
 | slice hm a b c d e=>exact .inl ⟨_,_,_,hm,a,b,c,d,e,rfl⟩
 | lost=>exact .inr ⟨rfl,rfl,_,_,rfl⟩
theorem VRel.nil_inv {m:Mp} {n c:Nat} {v':Value} (h:VRel m (.slice none n c) v'):n=0∧c=0∧v'=.slice none 0 0:=by
 cases h with
 | scal h=>simp[Id.scal] at h;obtain⟨rfl,rfl⟩:=h;exact⟨rfl,rfl,rfl⟩
theorem lenOf_rel {m:Mp} {x x':Value} {n:Nat} (h:VRel m x x') (hn:Id.lenOf x=some n) : ∃a c,x'=.slice a n c:=by
 cases h with
 | scal h =>
  unfold Id.lenOf at hn
  split at hn
  ·cases hn;exact⟨_,_,rfl⟩
  ·cases hn
 | tok=>simp only[Id.lenOf] at hn;cases hn;exact⟨_,_,rfl⟩
 | slice=>simp only[Id.lenOf] at hn;cases hn;exact⟨_,_,rfl⟩
 | lost=>simp only[Id.lenOf] at hn;cases hn;exact⟨_,_,rfl⟩
 | _=>simp[Id.lenOf] at hn
theorem cell?_congr {w w2:World} (hh:w2.heap=w.heap) (a:Addr):w2.cell? a=w.cell? a:=by unfold World.cell?;rw[hh]
theorem Rel.first {B:Nat} {w0:World} {m:Mp} {h:IH} {w:World} (R:Rel B w0 m h w) (P:Program) {size n:Nat} {x x':Value} {cs:List Value} (hx:VRel m x x') (hf:firstOf h size n x=some cs) :
  ∃cs',(∀w2:World,w2.heap=w.heap→(Builtin.firstCells size n x').run P w2=.ok cs'.toArray w2)∧LRel m cs cs'∧(x=.slice none 0 0∨cs.length=n*size):=by
 unfold firstOf at hf
 split at hf
 ·cases hf
  obtain⟨rfl,rfl,rfl⟩:=hx.nil_inv
  exact⟨[],fun _ _=>rfl,.nil m,.inl rfl⟩
 ·rename_i b o len k
  simp only[cond_eq_ite,Nat.ble_eq,beq_iff_eq] at hf
  by_cases hn:n≤len
  ·rw[if_pos hn] at hf
   by_cases h0:n*size=0
   ·rw[if_pos h0] at hf;cases hf
    refine⟨[],fun w2 _=>?_,.nil m,.inr (by simp[h0])⟩
    rcases hx.slice_inv with⟨r,s,cap,_,_,_,_,_,_,rfl⟩|⟨_,_,a,cap,rfl⟩
    ·simp only[Builtin.firstCells,h0];rfl
    ·simp only[Builtin.firstCells,h0];rfl
   ·rw[if_neg h0] at hf
    rcases hx.slice_inv with⟨r,s,cap,hm,_,_,_,_,_,rfl⟩|⟨hl,_,_⟩
    ·obtain⟨cs',hL,hlen,hc⟩:=R.rd hf hm
     refine⟨cs',fun w2 hh=>?_,hL,.inr hlen⟩
     show(loadCells ⟨r,s+o,none⟩ (n*size)).run P w2=_
     rw[show n*size=cs'.length from by rw[←hlen];exact hL.1]
     exact run_loadCells_list w2 _ cs' (fun j v hv=>by rw[cell?_congr hh];exact hc j v hv)
    ·exfalso;apply h0;rw[show n=0 by omega];simp
  ·simp[hn] at hf
 ·cases hf
theorem growBy_le (newLen:Nat) : ∀(rounds c:Nat),Builtin.growBy newLen rounds c≤max c (newLen+(newLen+768) / 4)
 | 0,c=>by simp only[Builtin.growBy];omega
 | rounds+1,c=>by
  rw[Builtin.growBy]
  by_cases h:c ≥ newLen
  ·rw[if_pos h];omega
  ·rw[if_neg h]
   have:=growBy_le newLen rounds (c+(c+768) / 4)
   omega
theorem nextslicecap_le (need old:Nat) (h:old<need):Builtin.nextslicecap need old≤2*need+1024:=by
 unfold Builtin.nextslicecap
 split
 ·omega
 ·split
  ·omega
  ·have:=growBy_le need 4 old;omega
theorem run_append_new (P:Program) (w:World) (ts:Array TypeId) (ty:TypeId) (st xt elem xe:TypeId) (a x':Value) (size bytes:Nat) (z:Value) (base:Option Addr) (len cap n:Nat) (old new:List Value)
  (h0:ts[0]?=some st) (h1:ts[1]?=some xt) (hst:P.underlying st=some (.slice elem)) (hxt:P.underlying xt=some (.slice xe)) (hsz:sizeT P elem=some size) (hby:bytesT P elem=some bytes) (hz:zeroT P elem=some z)
  (ha:a=.slice base len cap) (hn : ∃xa xc,x'=.slice xa n xc) (hneed:cap<len+n) (hb:bytes≤65536) (hmost:(len+n)*(bytes+1)≤sizeMost)
  (hold' : ∀d,(Builtin.firstCells size len a).run P { w with drawn:=d }=.ok old.toArray { w with drawn:=d }) (hnew : ∀d,(Builtin.firstCells size n x').run P { w with drawn:=d }=.ok new.toArray { w with drawn:=d }) :
  ∃d newCap rest,(Builtin.append_ ts ty #[a,x']).run P w=.ok (.slice (some ⟨w.heap.size,0,none⟩) (len+n) newCap) ((({ w with drawn:=d }:World)).alloc (.cells ((old ++ new) ++ rest).toArray elem))∧len+n≤newCap∧rest.length=(newCap - (len+n))*z.cells.size:=by
 obtain⟨xa,xc,rfl⟩:=hn
 subst ha
 unfold bytesT at hby
 obtain⟨i,hi,hib⟩:=Option.map_eq_some_iff.1 hby
 have hcap : ¬(len+n≤cap):=by omega
 have hN:=nextslicecap_le (len+n) cap (by omega)
 have hlim : ¬(Builtin.nextslicecap (len+n) cap*bytes > 2 ^ 48):=by
  have h2:Builtin.nextslicecap (len+n) cap*bytes≤(2*(len+n)+1024)*bytes:=Nat.mul_le_mul_right _ hN
  have h3:(2*(len+n)+1024)*bytes=2*((len+n)*bytes)+1024*bytes:=by rw[Nat.add_mul,Nat.mul_assoc]
  have h4:(len+n)*(bytes+1)=(len+n)*bytes+(len+n):=by rw[Nat.mul_add,Nat.mul_one]
  unfold sizeMost at hmost
  omega
 have hi64 : ¬((len+n:Nat):Int) > IntKind.i64.max:=by
  have:len+n≤(len+n)*(bytes+1):=Nat.le_mul_of_pos_right _ (by omega)
  unfold sizeMost at hmost
  have e:IntKind.i64.max=9223372036854775807:=by decide
  rw[e];omega
 let q:=Question.appendCap (len+n) cap elem
 have hcut:len+n≤q.cut (w.tape w.drawn q):=Nat.le_add_right _ _
 refine⟨w.drawn+1,q.cut (w.tape w.drawn q),(Builtin.zeroCells z.cells (q.cut (w.tape w.drawn q) - (len+n))).toList,?_,hcut,by simp[Builtin.zeroCells]⟩
 have e0:(#[Value.slice base len cap,Value.slice xa n xc]:Array Value)[0]?=some (.slice base len cap):=rfl
 have e1:(#[Value.slice base len cap,Value.slice xa n xc]:Array Value)[1]?=some (.slice xa n xc):=rfl
 simp only[Builtin.append_,h0,h1,e0,e1,Sem.run_bind,Go.run_underlying hst,Result.andThen_ok,run_sizeT w hsz,Go.run_underlying hxt,Sem.run_pure,Builtin.lenOf,Bool.false_eq_true,if_false,hcap,Bool.not_false,if_true,false_or,Sem.run_ite,run_typeInfo w hi,hib]
 rw[if_neg (by intro h;exact hi64 h.1)]
 rw[if_neg hlim]
 simp only[Result.andThen_ok,run_choose,Question.forced,Bool.false_eq_true,if_false,run_askRoom,run_typeInfo _ hi,hold',hnew,run_zeroT _ hz,Go.newRow,Sem.run_bind,run_newObj,Sem.run_pure]
 have earr : ∀Z:Array Value,old.toArray ++ new.toArray ++ Z=((old ++ new) ++ Z.toList).toArray:=fun Z=>by rw[←Array.toList_inj];simp
 rw[earr]
 rfl
theorem run_append_in (P:Program) (w w':World) (ts:Array TypeId) (ty:TypeId) (st xt elem xe:TypeId) (x':Value) (size n len cap:Nat) (base:Option Addr) (new:List Value)
  (h0:ts[0]?=some st) (h1:ts[1]?=some xt) (hst:P.underlying st=some (.slice elem)) (hxt:P.underlying xt=some (.slice xe)) (hsz:sizeT P elem=some size)
  (hn : ∃xa xc,x'=.slice xa n xc) (hneed:len+n≤cap) (hnew:(Builtin.firstCells size n x').run P w=.ok new.toArray w)
  (hst' : ∀a,base=some a→(storeCells (a.add (len*size)) new).run P w=.ok () w') (hnone:base=none→w'=w) :
  (Builtin.append_ ts ty #[.slice base len cap,x']).run P w=.ok (.slice base (len+n) cap) w':=by
 obtain⟨xa,xc,rfl⟩:=hn
 have e0:(#[Value.slice base len cap,Value.slice xa n xc]:Array Value)[0]?=some (.slice base len cap):=rfl
 have e1:(#[Value.slice base len cap,Value.slice xa n xc]:Array Value)[1]?=some (.slice xa n xc):=rfl
 simp only[Builtin.append_,h0,h1,e0,e1,Sem.run_bind,Go.run_underlying hst,Result.andThen_ok,run_sizeT w hsz,Go.run_underlying hxt,Sem.run_pure,Builtin.lenOf,Bool.false_eq_true,if_false,hneed,Bool.not_false,if_true,hnew]
 cases base with
 | none=>rw[hnone rfl];rfl
 | some a=>simp[hst' a rfl]
theorem takeWhile_drop (k:Nat) : ∀(l:List Nat),k∈l→l=l.takeWhile (· != k) ++ k :: (l.dropWhile (· != k)).drop 1
 | [],h=>by cases h
 | a :: l,h=>by
  by_cases e:a=k
  ·subst e;simp
  ·have h':k∈l:=by
    rcases List.mem_cons.1 h with h|h
    ·exact absurd h.symm e
    ·exact h
   have:=takeWhile_drop k l h'
   simp only[List.takeWhile_cons,List.dropWhile_cons,bne_iff_ne,ne_eq,e,not_false_eq_true,if_true,List.cons_append]
   rw[←this]
theorem Rel.append {B:Nat} {w0:World} {m:Mp} {h h':IH} {w:World} (R:Rel B w0 m h w) (P:Program) {ts:Array TypeId} {ty st xt xe:TypeId} {s s' x x' v:Value}
  (h0:ts[0]?=some st) (h1:ts[1]?=some xt) (hxt:P.underlying xt=some (.slice xe)) (ha:append P h st s x=some (v,h')) (hs:VRel m s s') (hx:VRel m x x') (hfresh:Fresh m h.n h'.n) :
  ∃v' m' w',(Builtin.append_ ts ty #[s',x']).run P w=.ok v' w'∧VRel m' v v'∧Rel B w0 m' h' w'∧Step m h w m' h' w':=by
 unfold Id.append at ha
 cases hst:P.underlying st with
 | none=>simp[hst] at ha
 | some d =>
  rw[hst] at ha
  cases d with
  | slice elem =>
   cases hsz:sizeT P elem with
   | none=>simp[hsz] at ha
   | some size =>
   cases hby:bytesT P elem with
   | none=>simp[hsz,hby] at ha
   | some bytes =>
   cases hz:zeroCellsT P elem with
   | none=>simp[hsz,hby,hz] at ha
   | some zs =>
   cases hn:Id.lenOf x with
   | none=>simp[hsz,hby,hz,hn] at ha
   | some n =>
   obtain⟨z,hz0,_,hzs⟩:=zeroCellsT_spec hz
   obtain⟨xa,xc,hx'⟩:=lenOf_rel hx hn
   simp only[hsz,hby,hz,hn,cond_eq_ite,beq_iff_eq] at ha
   by_cases hn0:n=0
   ·-- nothing is appended
    subst hn0
    rw[if_pos rfl] at ha
    have hf0:(Builtin.firstCells size 0 x').run P w=.ok ([]:List Value).toArray w:=by
     subst hx'
     cases xa with
     | none=>rfl
     | some a=>show(loadCells a (0*size)).run P w=_;rw[Nat.zero_mul];rfl
    split at ha
    ·rename_i a c
     by_cases hac:(a == 0 && c == 0)=true
     ·rw[if_pos hac] at ha;cases ha
      obtain⟨rfl,rfl,rfl⟩:=hs.nil_inv
      refine⟨_,m,w,run_append_in P w w ts ty st xt elem xe x' size 0 0 0 none [] h0 h1 hst hxt hsz ⟨_,_,hx'⟩ (by omega) hf0 (by simp) (fun _=>rfl),hs,R,Step.refl _ _ _⟩
     ·rw[if_neg hac] at ha;cases ha
    ·rename_i b o len k
     cases ha
     have hlc : ∃a len' cap,s'=.slice (some a) len' cap∧len'≤cap:=by
      rcases hs.slice_inv with⟨r,q,cap,_,_,h2,h3,_,_,rfl⟩|⟨rfl,rfl,a,cap,rfl⟩
      ·exact⟨_,_,_,rfl,Nat.le_trans h2 h3⟩
      ·exact⟨_,_,_,rfl,Nat.zero_le _⟩
     obtain⟨a,len',cap,rfl,hle⟩:=hlc
     exact⟨_,m,w,run_append_in P w w ts ty st xt elem xe x' size 0 len' cap (some a) [] h0 h1 hst hxt hsz ⟨_,_,hx'⟩ (by omega) hf0 (by intro a' _;rfl) (by simp),hs,R,Step.refl _ _ _⟩
    ·cases ha
   ·rw[if_neg hn0] at ha
    by_cases hsb:(size == 0 || (!(Nat.ble bytes 65536) || !(zs.length == size)))=true
    ·rw[if_pos hsb] at ha;cases ha
    ·rw[if_neg hsb] at ha
     simp only[Bool.or_eq_true,beq_iff_eq,Bool.not_eq_true',not_or,Bool.not_eq_false,beq_eq_false_iff_ne,ne_eq,Decidable.not_not] at hsb
     obtain⟨hsize,hb65,hzlen⟩:=hsb
     have hb65:bytes≤65536:=Nat.le_of_ble_eq_true hb65
     have hzc:z.cells.size=size:=by rw[←hzlen,hzs];simp
     cases hfi:firstOf h size n x with
     | none=>simp[hfi] at ha
     | some new =>
     simp only[hfi] at ha
     by_cases hall:(!(new.all cellOK))=true
     ·rw[if_pos hall] at ha;cases ha
     rw[if_neg hall] at ha
     have hok : ∀c∈new,cellOK c=true:=by simpa using hall
     have hxlen:x≠.slice none 0 0:=by
      intro e;subst e;simp only[Id.lenOf] at hn;cases hn;exact hn0 rfl
     obtain⟨new',hnewrun,hnewL,hnewlen⟩:=R.first P hx hfi
     have hnewlen:new.length=n*size:=hnewlen.resolve_left hxlen
     have hdrew : ∀d,Rel B w0 m h { w with drawn:=d }:=fun d=>R.congr rfl (below_drew R.below d)
     split at ha
     ·-- onto nil
      rename_i a c
      by_cases hc:(a == 0 && c == 0 && Nat.ble (n*(bytes+1)) sizeMost)=true
      ·rw[if_pos hc] at ha;cases ha
       simp only[Bool.and_eq_true,beq_iff_eq,Nat.ble_eq] at hc
       obtain⟨rfl,rfl,rfl⟩:=hs.nil_inv
       obtain⟨d,newCap,rest,hrun,hcap,hrest⟩:=run_append_new P w ts ty st xt elem xe (.slice none 0 0) x' size bytes z none 0 0 n [] new' h0 h1 hst hxt hsz hby hz0 rfl ⟨_,_,hx'⟩ (by omega) hb65
        (by rw[Nat.zero_add];exact hc.2) (fun d=>rfl) (fun d=>hnewrun _ rfl)
       rw[Nat.zero_add] at hrun hcap hrest
       simp only[List.nil_append] at hrun
       have hm0:m (2*h.n)=none:=hfresh h.n (Nat.le_refl _) (Nat.lt_succ_self _)
       obtain⟨R1,S1⟩:=(hdrew d).new (.cells new size none) (.cells (new' ++ rest).toArray elem) (size,(new' ++ rest).length) hm0
        ⟨(new' ++ rest).toArray,elem,by rw[heap_alloc,if_pos rfl],⟨by simp[hnewL.1],fun i v hi=>by
         obtain⟨v',a,b⟩:=hnewL.get hi
         refine⟨v',?_,b⟩
         have hi':i<new'.length:=by
          rcases Nat.lt_or_ge i new'.length with h|h
          ·exact h
          ·rw[List.getElem?_eq_none h] at a;cases a
         simp only[List.getElem?_toArray,Nat.zero_add]
         rw[List.getElem?_append_left hi'];exact a⟩,rfl,by simp⟩ rfl
       refine⟨_,_,_,hrun,?_,R1,S1.congr rfl⟩
       have hp:0<n:=Nat.pos_of_ne_zero hn0
       have:=VRel.slice (m:=m.upd (2*h.n) (w.heap.size,0) (size,(new' ++ rest).length)) (b:=2*h.n) (o:=0) (r:=w.heap.size) (s:=0) (len:=n) (k:=2*n) (cap:=newCap) (Mp.upd_self _ _ _ _) (by omega) (by omega) (by omega) (by omega) (by intro _;rw[Mp.ez_self];simp only[List.length_append,hrest,hzc,←hnewL.1,hnewlen];rw[←Nat.add_mul];simp only[Nat.zero_add,Nat.add_zero];exact Nat.mul_le_mul_right _ (by omega))
       exact this
      ·rw[if_neg hc] at ha;cases ha
     ·rename_i b o len k
      by_cases hmost:(!(Nat.ble ((len+n)*(bytes+1)) sizeMost))=true
      ·rw[if_pos hmost] at ha;cases ha
      ·rw[if_neg hmost] at ha
       have hmost':(len+n)*(bytes+1)≤sizeMost:=by
        simp only[Bool.not_eq_true',Bool.not_eq_false] at hmost
        exact Nat.le_of_ble_eq_true hmost
       by_cases hin:Nat.ble (len+n) (k / 2)=true
       ·-- there is room for sure
        rw[if_pos hin] at ha
        have hin':=Nat.le_of_ble_eq_true hin
        obtain⟨h1w,hw1,hv1⟩:=Option.map_eq_some_iff.1 ha
        cases hv1
        rcases hs.slice_inv with⟨r,q,cap,hmb,hk0,hl,hkc,hx1,hz1,rfl⟩|⟨_,hk,_⟩
        ·obtain⟨w',hr1,R1,S1⟩:=R.wr hw1 hmb hnewL hok P
         refine⟨_,m,w',run_append_in P w w' ts ty st xt elem xe x' size n len cap _ new' h0 h1 hst hxt hsz ⟨_,_,hx'⟩ (by omega) (hnewrun w rfl) (fun a e=>?_) (by simp),?_,R1,S1⟩
         ·cases e;rw[addr_add,Nat.add_assoc];exact hr1
         ·exact .slice hmb hk0 hin' hkc hx1 hz1
        ·omega
       ·rw[if_neg hin] at ha
        have hin' : ¬len+n≤k / 2:=fun e=>hin (by simpa using e)
        by_cases hodd:k % 2=1
        ·-- there is none for sure
         rw[if_pos hodd] at ha
         cases hfo:firstOf h size len (.slice (some ⟨b,o,none⟩) len k) with
         | none=>simp[hfo] at ha
         | some old =>
          simp only[hfo] at ha;cases ha
          obtain⟨old',holdrun,holdL,holdlen⟩:=R.first P hs hfo
          have holdlen:old.length=len*size:=holdlen.resolve_left (by simp)
          have hcase : ∃base cap,s'=.slice base len cap∧cap<len+n:=by
           rcases hs.slice_inv with⟨r,q,cap,_,_,_,_,hx1,_,rfl⟩|⟨_,hk,_⟩
           ·exact⟨_,cap,rfl,by have:=hx1 hodd;omega⟩
           ·omega
          obtain⟨base,cap,rfl,hcl⟩:=hcase
          obtain⟨d,newCap,rest,hrun,hcap,hrest⟩:=run_append_new P w ts ty st xt elem xe _ x' size bytes z base len cap n old' new' h0 h1 hst hxt hsz hby hz0 rfl ⟨_,_,hx'⟩ hcl hb65 hmost'
           (fun d=>holdrun _ rfl) (fun d=>hnewrun _ rfl)
          have hm0:m (2*h.n)=none:=hfresh h.n (Nat.le_refl _) (Nat.lt_succ_self _)
          have hon:=holdL.append hnewL
          obtain⟨R1,S1⟩:=(hdrew d).new (.cells (old ++ new) size none) (.cells (old' ++ new' ++ rest).toArray elem) (size,(old' ++ new' ++ rest).length) hm0
           ⟨(old' ++ new' ++ rest).toArray,elem,by rw[heap_alloc,if_pos rfl],⟨by simp[holdL.1,hnewL.1],fun i v hi=>by
            obtain⟨v',a,b⟩:=hon.get hi
            refine⟨v',?_,b⟩
            have hi':i<(old' ++ new').length:=by
             rcases Nat.lt_or_ge i (old' ++ new').length with h|h
             ·exact h
             ·rw[List.getElem?_eq_none h] at a;cases a
            simp only[List.getElem?_toArray,Nat.zero_add]
            rw[List.getElem?_append_left hi'];exact a⟩,rfl,by simp⟩ rfl
          refine⟨_,_,_,hrun,?_,R1,S1.congr rfl⟩
          have:=VRel.slice (m:=m.upd (2*h.n) (w.heap.size,0) (size,(old' ++ new' ++ rest).length)) (b:=2*h.n) (o:=0) (r:=w.heap.size) (s:=0) (len:=len+n) (k:=2*(len+n)) (cap:=newCap) (Mp.upd_self _ _ _ _) (by omega) (by omega) (by omega) (by omega)
           (by intro _;rw[Mp.ez_self];simp only[List.length_append,hrest,hzc,←holdL.1,holdlen,←hnewL.1,hnewlen];rw[←Nat.add_mul,←Nat.add_mul];simp only[Nat.zero_add,Nat.add_zero];exact Nat.mul_le_mul_right _ (by omega))
          exact this
        ·rw[if_neg hodd] at ha
         by_cases hend:(len == k / 2 && Nat.blt 0 len && b % 2 == 0)=true
         ·rw[if_pos hend] at ha
          simp only[Bool.and_eq_true,beq_iff_eq,Nat.blt_eq] at hend
          obtain⟨⟨hlk,hl0⟩,hb2⟩:=hend
          cases hg:h.ext.get (b / 2) with
          | none=>simp[hg] at ha
          | some ob =>
           rw[hg] at ha
           cases ob with
           | map es=>simp at ha
           | loop l=>simp at ha
           | iter _ _ _ _=>simp at ha
           | num _=>simp at ha
           | dead=>simp at ha
           | cells cs t fam =>
            simp only at ha
            by_cases hce:(o+len*size == cs.length && t == size)=true
            ·rw[if_pos hce] at ha
             simp only[Bool.and_eq_true,beq_iff_eq] at hce
             obtain⟨hce,rfl⟩:=hce
             have hb':2*(b / 2)=b:=by omega
             have hm0:m (2*h.n)=none:=hfresh h.n (Nat.le_refl _) (by
              cases fam with
              | none=>simp only[Option.some.injEq,Prod.mk.injEq] at ha;rw[←ha.2];exact Nat.lt_succ_self _
              | some f=>cases hf:h.fams.get f with
               | none=>simp[hf] at ha
               | some stk=>simp only[hf,Option.some.injEq,Prod.mk.injEq] at ha;rw[←ha.2];exact Nat.lt_succ_self _)
             have hform : ∃f above below,v=.slice (some ⟨2*h.n,0,none⟩) (len+n) (2*(len+n))∧h'=grown h (b / 2) f cs t above below (cs.drop o ++ new) t ∧
               FamIs h (b / 2) f above below fam:=by
              cases fam with
              | none=>simp only[Option.some.injEq,Prod.mk.injEq] at ha;exact⟨h.n,[],[],ha.1.symm,ha.2.symm,rfl,rfl,rfl⟩
              | some f=>cases hf:h.fams.get f with
               | none=>simp[hf] at ha
               | some stk =>
                simp only[hf,Option.some.injEq,Prod.mk.injEq] at ha
                obtain⟨st2,hst2,hmem⟩:=R.fam (b / 2) cs t f hg
                rw[hf] at hst2;cases hst2
                exact⟨f,_,_,ha.1.symm,ha.2.symm,rfl,stk,hf,takeWhile_drop _ _ hmem⟩
             obtain⟨f,above,below,rfl,rfl,hfam⟩:=hform
             rcases hs.slice_inv with⟨r,q,cap,hmb,hk0,hl,hkc,hx1,hz1,rfl⟩|⟨_,hk,_⟩
             ·have hmb':m (2*(b / 2))=some (r,q):=by rw[hb'];exact hmb
              obtain⟨c,el,hc,hrow,he1,he2⟩:=R.obj (b / 2) _ r q hg hmb'
              rw[hb'] at he1 he2
              have hroom:=hz1 (by omega)
              rw[he1] at hroom
              have hr1:=hrow.1
              have hdl:(cs.drop o).length=len*t:=by simp;omega
              by_cases hfit:len+n≤cap
              ·-- in place
               have hmul:(len+n)*t≤cap*t:=Nat.mul_le_mul_right _ hfit
               rw[Nat.add_mul] at hmul
               have hok' : ∀x∈new',cellOK x=true:=by
                intro x hx
                obtain⟨i,hi,e⟩:=List.getElem_of_mem hx
                have hi':i<new.length:=hnewL.1▸hi
                exact cellOK_of (hnewL.2 i new[i] x (List.getElem?_eq_getElem hi') (by rw[List.getElem?_eq_getElem hi,e])) (hok _ (List.getElem_mem hi'))
               have hlen':new'.length=n*t:=by rw[←hnewL.1,hnewlen]
               have hsto:=run_storeCells P r (q+o+len*t) el new' 0 w c hc (by omega) hok'
               have hne:new' ≠ []:=by
                intro e
                have:n*t=0:=by rw[←hlen',e];rfl
                rcases Nat.mul_eq_zero.1 this with e|e
                ·exact hn0 e
                ·exact hsize e
               rw[if_neg hne,Nat.add_zero] at hsto
               have hrw:=hrow.1
               have hrs:=R.even (b / 2) r q hmb'
               have hput:(World.put w r (.cells (setsA c (q+o+len*t) new') el)).heap[r]?=some (.cells (setsA c (q+o+len*t) new') el):=by rw[heap_put,if_pos ⟨rfl,hrs.2⟩]
               have hpn : ∀p,p≠r→(World.put w r (.cells (setsA c (q+o+len*t) new') el)).heap[p]?=w.heap[p]?:=fun p hp=>by rw[heap_put,if_neg (fun e=>hp e.1)]
               obtain⟨R1,S1⟩:=R.grow hg hmb' hm0 f above below hfam (cs.drop o ++ new) t r (q+o) (t,(m.ez b).2) (World.put w r (.cells (setsA c (q+o+len*t) new') el))
                (below_put R.below hrs.1 _) (by rw[size_put];exact Nat.le_refl _) ⟨hrs.1,by rw[size_put];exact hrs.2⟩
                ⟨_,el,hput,⟨by rw[List.length_append,hdl,size_setsA];omega,fun i x hi=>by
                 rw[get_setsA new' c _ _ (by omega)]
                 by_cases h2:i<(cs.drop o).length
                 ·rw[List.getElem?_append_left h2,List.getElem?_drop] at hi
                  rw[if_neg (by omega)]
                  have:=hrow.2 _ _ hi
                  rw[←Nat.add_assoc] at this
                  exact this
                 ·rw[List.getElem?_append_right (by omega)] at hi
                  obtain⟨x',a1,a2⟩:=hnewL.get hi
                  have hlt:i - (cs.drop o).length<new'.length:=by
                   rcases Nat.lt_or_ge (i - (cs.drop o).length) new'.length with e|e
                   ·exact e
                   ·rw[List.getElem?_eq_none e] at a1;cases a1
                  rw[if_pos (by omega)]
                  refine⟨x',?_,a2⟩
                  rw[show q+o+i - (q+o+len*t)=i - (cs.drop o).length from by omega];exact a1⟩,rfl,by rw[size_setsA];exact he2⟩
                (.inr ⟨rfl,by rw[List.length_append,hdl];omega,fun p hp hpr=>hpn p hpr,fun c2 el2 hc2=>by
                 rw[hc] at hc2;cases hc2
                 exact⟨_,hput,by rw[size_setsA];exact Nat.le_refl _,fun i hi=>by rw[get_setsA new' c _ _ (by omega),if_neg (by omega)]⟩⟩)
               refine⟨_,_,_,run_append_in P w _ ts ty st xt elem xe x' t n len cap _ new' h0 h1 hst hxt hsz ⟨_,_,hx'⟩ hfit (hnewrun w rfl) (fun a e=>?_) (by simp),?_,R1,S1⟩
               ·cases e;rw[addr_add];exact hsto
               ·have:=VRel.slice (m:=m.upd (2*h.n) (r,q+o) (t,(m.ez b).2)) (b:=2*h.n) (o:=0) (r:=r) (s:=q+o) (len:=len+n) (k:=2*(len+n)) (cap:=cap) (Mp.upd_self _ _ _ _) (by omega) (by omega) (by omega) (by omega)
                 (by intro _;rw[Mp.ez_self];simp only[Nat.add_zero];exact hroom)
                rw[Nat.add_zero] at this
                exact this
              ·-- in new memory
               have hfo:firstOf h t len (.slice (some ⟨b,o,none⟩) len k)=some (cs.drop o):=by
                unfold firstOf
                have hb0 : ¬b % 2=1:=by omega
                have h00 : ¬len*t=0:=by
                 intro e
                 rcases Nat.mul_eq_zero.1 e with e|e
                 ·omega
                 ·exact hsize e
                simp only[cond_eq_ite,Nat.ble_eq,Nat.le_refl,if_true,beq_iff_eq,h00,if_false,IH.rd,IH.row,hb0,hg]
                rw[if_pos (by omega),List.take_of_length_le (by omega)]
               obtain⟨old',holdrun,holdL,_⟩:=R.first P hs hfo
               obtain⟨d,newCap,rest,hrun,hcap,hrest⟩:=run_append_new P w ts ty st xt elem xe _ x' t bytes z _ len cap n old' new' h0 h1 hst hxt hsz hby hz0 rfl ⟨_,_,hx'⟩ (by omega) hb65 hmost'
                (fun d=>holdrun _ rfl) (fun d=>hnewrun _ rfl)
               have hon:=holdL.append hnewL
               have hsz1:(({ w with drawn:=d }:World).alloc (.cells (old' ++ new' ++ rest).toArray elem)).heap.size=w.heap.size+1:=size_alloc _ _
               have hat:(({ w with drawn:=d }:World).alloc (.cells (old' ++ new' ++ rest).toArray elem)).heap[w.heap.size]?=some (.cells (old' ++ new' ++ rest).toArray elem):=by rw[heap_alloc];exact if_pos rfl
               obtain⟨R1,S1⟩:=R.grow hg hmb' hm0 f above below hfam (cs.drop o ++ new) t w.heap.size 0 (t,(old' ++ new' ++ rest).length) (({ w with drawn:=d }:World).alloc (.cells (old' ++ new' ++ rest).toArray elem))
                (below_alloc (below_drew R.below d) R.size _) (by rw[hsz1];omega) ⟨R.size,by rw[hsz1];omega⟩
                ⟨_,elem,hat,⟨by simp only[List.length_append,Nat.zero_add,←holdL.1,←hnewL.1,List.size_toArray];omega,fun i x hi=>by
                 obtain⟨x',a1,a2⟩:=hon.get hi
                 refine⟨x',?_,a2⟩
                 have hi':i<(old' ++ new').length:=by
                  rcases Nat.lt_or_ge i (old' ++ new').length with h|h
                  ·exact h
                  ·rw[List.getElem?_eq_none h] at a1;cases a1
                 simp only[List.getElem?_toArray,Nat.zero_add]
                 rw[List.getElem?_append_left hi'];exact a1⟩,rfl,by simp⟩
                (.inl ⟨Nat.le_refl _,fun p hp=>by rw[heap_alloc];exact if_neg (Nat.ne_of_lt hp)⟩)
               refine⟨_,_,_,hrun,?_,R1,S1⟩
               have:=VRel.slice (m:=m.upd (2*h.n) (w.heap.size,0) (t,(old' ++ new' ++ rest).length)) (b:=2*h.n) (o:=0) (r:=w.heap.size) (s:=0) (len:=len+n) (k:=2*(len+n)) (cap:=newCap) (Mp.upd_self _ _ _ _) (by omega) (by omega) (by omega) (by omega)
                (by intro _;rw[Mp.ez_self];simp only[List.length_append,hrest,hzc,←holdL.1,hdl,←hnewL.1,hnewlen];rw[←Nat.add_mul,←Nat.add_mul];simp only[Nat.zero_add,Nat.add_zero];exact Nat.mul_le_mul_right _ (by omega))
               exact this
             ·omega
            ·rw[if_neg hce] at ha;cases ha
         ·rw[if_neg hend] at ha;cases ha
     ·cases ha
  | _=>simp at ha
theorem Rel.copy {B:Nat} {w0:World} {m:Mp} {h h':IH} {w:World} (R:Rel B w0 m h w) (P:Program) {ts:Array TypeId} {ty dt:TypeId} {d d' x x' v:Value}
  (h0:ts[0]?=some dt) (hc:copyOp P h dt d x=some (v,h')) (hd:VRel m d d') (hx:VRel m x x') :
  ∃w',(Builtin.copy_ ts ty #[d',x']).run P w=.ok v w'∧VRel m v v∧Rel B w0 m h' w'∧Step m h w m h' w':=by
 unfold copyOp at hc
 cases hdt:P.underlying dt with
 | none=>simp[hdt] at hc
 | some td =>
  rw[hdt] at hc
  cases td with
  | slice e =>
   cases hdn:Id.lenOf d with
   | none=>simp[hdn] at hc
   | some dn =>
   cases hsn:Id.lenOf x with
   | none=>simp[hdn,hsn] at hc
   | some sn =>
   cases hsz:sizeT P e with
   | none=>simp[hdn,hsn,hsz] at hc
   | some size =>
   simp only[hdn,hsn,hsz] at hc
   cases hfi:firstOf h size (Nat.min sn dn) x with
   | none=>simp[hfi] at hc
   | some cs =>
   simp only[hfi,cond_eq_ite] at hc
   obtain⟨xa,xc,rfl⟩:=lenOf_rel hx hsn
   obtain⟨cs',hrun,hL,_⟩:=R.first P hx hfi
   have hlen:(Builtin.lenOf (.slice xa sn xc)).run P w=.ok sn w:=rfl
   have e0 : ∀y:Value,(#[y,Value.slice xa sn xc]:Array Value)[0]?=some y:=fun _=>rfl
   have e1 : ∀y:Value,(#[y,Value.slice xa sn xc]:Array Value)[1]?=some (.slice xa sn xc):=fun _=>rfl
   split at hc
   ·rename_i a b
    cases hc
    obtain⟨rfl,rfl,rfl⟩:=hd.nil_inv
    simp only[Id.lenOf] at hdn;cases hdn
    refine⟨w,?_,.scal rfl,R,Step.refl _ _ _⟩
    have hmin:Nat.min sn 0=0:=Nat.min_zero sn
    simp only[hmin] at hrun ⊢
    simp only[Builtin.copy_,h0,e0,e1,Sem.run_bind,Go.run_underlying hdt,Result.andThen_ok,hlen,run_sizeT w hsz,hmin,hrun w rfl,Sem.run_pure]
    rfl
   ·rename_i b o dl dk
    simp only[Id.lenOf] at hdn;cases hdn
    have hdv : ∃r q cap a,d'=.slice (some a) dn cap∧(0<dk→m b=some (r,q)∧a=⟨r,q+o,none⟩)∧(dk=0→dn=0):=by
     rcases hd.slice_inv with⟨r,q,cap,hm,h1,_,_,_,_,rfl⟩|⟨hl,hk,a,cap,rfl⟩
     ·exact⟨r,q,cap,_,rfl,fun _=>⟨hm,rfl⟩,fun e=>by omega⟩
     ·subst hl;exact⟨0,0,cap,a,rfl,fun e=>by omega,fun _=>rfl⟩
    obtain⟨r,q,cap,a,rfl,hpos,hzero⟩:=hdv
    by_cases hemp:cs.isEmpty=true
    ·rw[if_pos hemp] at hc;cases hc
     have hcs:cs = []:=by simpa using hemp
     subst hcs
     have hcs':cs' = []:=by have:=hL.1;simpa using this.symm
     subst hcs'
     refine⟨w,?_,.scal rfl,R,Step.refl _ _ _⟩
     simp only[Builtin.copy_,h0,e0,e1,Sem.run_bind,Go.run_underlying hdt,Result.andThen_ok,hlen,run_sizeT w hsz,hrun w rfl,Sem.run_pure]
     rfl
    ·rw[if_neg hemp] at hc
     by_cases hall:(!(cs.all cellOK))=true
     ·rw[if_pos hall] at hc;cases hc
     rw[if_neg hall] at hc
     obtain⟨h1w,hw1,hv1⟩:=Option.map_eq_some_iff.1 hc
     cases hv1
     have hk:0<dk:=by
      rcases Nat.eq_zero_or_pos dk with e|e
      ·have:=hzero e;subst this
       exfalso;apply hemp
       have hmin:Nat.min sn 0=0:=Nat.min_zero sn
       rw[hmin] at hfi
       unfold firstOf at hfi
       split at hfi
       ·cases hfi;rfl
       ·simp only[cond_eq_ite,Nat.ble_eq,Nat.zero_le,if_true,Nat.zero_mul,beq_self_eq_true] at hfi;cases hfi;rfl
       ·cases hfi
      ·exact e
     obtain⟨hm,rfl⟩:=hpos hk
     obtain⟨w',hr1,R1,S1⟩:=R.wr hw1 hm hL (by simpa using hall) P
     refine⟨w',?_,.scal rfl,R1,S1⟩
     simp only[Builtin.copy_,h0,e0,e1,Sem.run_bind,Go.run_underlying hdt,Result.andThen_ok,hlen,run_sizeT w hsz,hrun w rfl,hr1,Sem.run_pure]
     rfl
   ·cases hc
  | _=>simp at hc
end Go.Id
