/-
  The ideal machine: append and copy.
-/
import Derived.Test.YtnnmjocmapilaaaGreatOutlierOddsAb
import Derived.Laws.Tables
import Derived.Laws.BitsLemmas
set_option linter.unusedVariables false
set_option linter.unusedSimpArgs false
set_option linter.defProp false
set_option linter.deprecated false
namespace Go.Id
open Go Go.RowKit
variable {m:Mp}{h:IH}{w':World}{B:Nat}{w w0:World}
def Rel.congr (R:Rel B w0 m h w) (hh:w'.heap=w.heap) (hb:Below B w0 w'):Rel B w0 m h w' :=
 ⟨hb,by rw[hh];exact R.size,fun b cs hx=>let ⟨r0,s0,m0,a,c,el,fz,d,e⟩:=R.base b cs hx;⟨r0,s0,m0,a,c,el,fz,by rw[hh];exact d,e⟩,R.odd,fun k r s hk=>by rw[hh];exact R.even k r s hk,R.dom,
  fun k o r s a b=>(R.obj k o r s a b).mono (Mp.le_refl m) (by rw[hh]) rfl,R.own,R.fI,R.fam,R.long,R.whole⟩
variable {h':IH}
def Step.congr {m':Mp} {w1:World} (S:Step m h w1 m' h' w') (hh:w1.heap=w.heap):Step m h w m' h' w' :=
 ⟨S.le,S.new,S.n,S.base,fun r hr hk=>by rw[S.frame r (by rw[hh];exact hr) hk,hh],S.idle,by rw[←hh];exact S.size,fun k r s a b c=>by rw[←hh];exact S.img k r s a b c,S.rB⟩
def nL (h:Below B w0 w) (d:Nat):Below B w0 { w with drawn:=d }:=⟨h.os,h.tape,h.output,h.size,h.block⟩
variable {v':Value}
def aW.gf {b o len k:Nat} (h:aW m (.slice (some ⟨b,o,none⟩) len k) v') :(∃r s cap,m b=some (r,s)∧0<k∧len≤k / 2∧k / 2≤cap∧(k % 2=1→cap=k / 2)∧(k % 2=0→s+o+cap*(m.ez b).1≤(m.ez b).2)∧v'=.slice (some ⟨r,s+o,none⟩) len cap)∨(len=0∧k=0 ∧ ∃a cap,v'=.slice (some a) 0 cap):=by
 cases h with
 | ct h=>simp[Id.ct] at h
 | slice hm a b c d e=>exact .inl ⟨_,_,_,hm,a,b,c,d,e,rfl⟩
 | lost=>exact .inr ⟨rfl,rfl,_,_,rfl⟩
variable {n:Nat}
def aW.pB {c:Nat} (h:aW m (.slice none n c) v'):n=0∧c=0∧v'=.slice none 0 0:=by
 cases h with
 | ct h=>simp[Id.ct] at h;obtain⟨rfl,rfl⟩:=h;exact⟨rfl,rfl,rfl⟩
variable {x' x:Value}
def A0 (h:aW m x x') (hn:Id.lenOf x=some n) : ∃a c,x'=.slice a n c:=by
 cases h with
 | ct h =>
  unfold Id.lenOf at hn
  split at hn;·cases hn;exact⟨_,_,rfl⟩
  ·cases hn
 | tok=>simp only[Id.lenOf] at hn;cases hn;exact⟨_,_,rfl⟩
 | slice=>simp only[Id.lenOf] at hn;cases hn;exact⟨_,_,rfl⟩
 | lost=>simp only[Id.lenOf] at hn;cases hn;exact⟨_,_,rfl⟩
 | _=>simp[Id.lenOf] at hn
theorem Np {w w2:World} (hh:w2.heap=w.heap) (a:Addr):w2.cell? a=w.cell? a:=by unfold World.cell?;rw[hh]
def Rel.first (R:Rel B w0 m h w) (P:Program) {size:Nat} {cs:List Value} (hx:aW m x x') (hf:cN h size n x=some cs) :∃cs',(∀w2:World,w2.heap=w.heap→(Builtin.firstCells size n x').run P w2=.ok cs'.toArray w2)∧cg m cs cs'∧(x=.slice none 0 0∨cs.length=n*size):=by
 unfold cN at hf;split at hf;·cases hf;obtain⟨rfl,rfl,rfl⟩:=hx.pB;exact⟨[],fun _ _=>rfl,.nil m,.inl rfl⟩
 ·rename_i b o len k;simp only[aK,bI,bD] at hf;by_cases hn:n≤len
  ·rw[ah hn] at hf;by_cases h0:n*size=0
   ·rw[ah h0] at hf;cases hf;refine⟨[],fun w2 _=>?_,.nil m,.inr (by simp[h0])⟩;rcases hx.gf with⟨r,s,cap,_,_,_,_,_,_,rfl⟩|⟨_,_,a,cap,rfl⟩
    ·simp only[Builtin.firstCells,h0];rfl
    ·simp only[Builtin.firstCells,h0];rfl
   ·rw[ad h0] at hf;rcases hx.gf with⟨r,s,cap,hm,_,_,_,_,_,rfl⟩|⟨hl,_,_⟩
    ·obtain⟨cs',hL,hlen,hc⟩:=R.rd hf hm;refine⟨cs',fun w2 hh=>?_,hL,.inr hlen⟩;show(loadCells ⟨r,s+o,none⟩ (n*size)).run P w2=_;rw[show n*size=cs'.length from by rw[←hlen];exact hL.1];exact run_loadCells_list w2 _ cs' (fun j v hv=>by rw[Np hh];exact hc j v hv)
    ·exfalso;apply h0;rw[show n=0 by omega];simp
  ·simp[hn] at hf
 ·cases hf
def Ht (Ek:Nat) : ∀(rounds c:Nat),Builtin.growBy Ek rounds c≤max c (Ek+(Ek+768) / 4)
 | 0,c=>by simp only[Builtin.growBy];omega
 | rounds+1,c=>by
  rw[Builtin.growBy];by_cases h:c ≥ Ek;·rw[ah h];omega
  ·rw[ad h]
   have:=Ht Ek rounds (c+(c+768) / 4);omega
def nextslicecap_le (ZZ old:Nat) (h:old<ZZ):Builtin.nextslicecap ZZ old≤2*ZZ+1024:=by
 unfold Builtin.nextslicecap;split;·omega
 ·split
  ·omega
  ·have:=Ht ZZ 4 old;omega
def qe (P:Program) (w:World) (ts:Array TypeId) (ty:TypeId) (st xt elem xe:TypeId) (a x':Value) (size bytes:Nat) (z:Value) (base:Option Addr) (len cap n:Nat) (old new:List Value)(h0:ts[0]?=some st) (h1:ts[1]?=some xt) (hst:P.underlying st=some (.slice elem)) (hxt:P.underlying xt=some (.slice xe)) (hsz:ba P elem=some size) (hby:kI P elem=some bytes) (hz:u6 P elem=some z)(ha:a=.slice base len cap) (hn : ∃xa xc,x'=.slice xa n xc) (ZbS:cap<len+n) (hb:bytes≤65536) (mX:(len+n)*(bytes+1)≤bh)(ZfK : ∀d,(Builtin.firstCells size len a).run P { w with drawn:=d }=.ok old.toArray { w with drawn:=d }) (Cj : ∀d,(Builtin.firstCells size n x').run P { w with drawn:=d }=.ok new.toArray { w with drawn:=d }) :∃d ma rest,(Builtin.append_ ts ty #[a,x']).run P w=.ok (.slice (some ⟨w.heap.size,0,none⟩) (len+n) ma) ((({ w with drawn:=d }:World)).alloc (.cells ((old ++ new) ++ rest).toArray elem))∧len+n≤ma∧rest.length=(ma - (len+n))*z.cells.size:=by
 obtain⟨xa,xc,rfl⟩:=hn;subst ha;unfold kI at hby;obtain⟨i,hi,hib⟩:=bg.1 hby;have qS : ¬(len+n≤cap):=byOmega;have hN:=nextslicecap_le (len+n) cap byOmega;have ZdA : ¬(Builtin.nextslicecap (len+n) cap*bytes > 2 ^ 48):=by
  have h2:Builtin.nextslicecap (len+n) cap*bytes≤(2*(len+n)+1024)*bytes:=cT _ hN;have h3:(2*(len+n)+1024)*bytes=2*((len+n)*bytes)+1024*bytes:=by rw[cW,uV]
  have h4:(len+n)*(bytes+1)=(len+n)*bytes+(len+n):=by rw[tF,dG]
  unfold bh at mX;omega
 have ZdG : ¬((len+n:Nat):Int) > IntKind.i64.max:=by have:len+n≤(len+n)*(bytes+1):=CX _ byOmega;unfold bh at mX;have e:IntKind.i64.max=9223372036854775807:=aP;rw[e];omega
 let q:=Question.appendCap (len+n) cap elem;have ZdJ:len+n≤q.cut (w.tape w.drawn q):=Nat.le_add_right _ _;refine⟨w.drawn+1,q.cut (w.tape w.drawn q),(Builtin.zeroCells z.cells (q.cut (w.tape w.drawn q) - (len+n))).toList,?_,ZdJ,by simp[Builtin.zeroCells]⟩;have e0:(#[Value.slice base len cap,Value.slice xa n xc]:Array Value)[0]?=some (.slice base len cap):=rfl;have e1:(#[Value.slice base len cap,Value.slice xa n xc]:Array Value)[1]?=some (.slice xa n xc):=rfl;simp only[Builtin.append_,h0,h1,e0,e1,bt,cq hst,bQ,dA w hsz,cq hxt,bT,Builtin.lenOf,gv,cH,qS,Bool.not_false,bS,false_or,Sem.run_ite,run_typeInfo w hi,hib];rw[ad (by intro h;exact ZdG h.1)];rw[ad ZdA];simp only[bQ,run_choose,Question.forced,gv,cH,run_askRoom,run_typeInfo _ hi,ZfK,Cj,gT _ hz,Go.newRow,bt,lO,bT];have ZdW : ∀Z:Array Value,old.toArray ++ new.toArray ++ Z=((old ++ new) ++ Z.toList).toArray:=fun Z=>by rw[←uZ];simp
 rw[ZdW];rfl
def nT (P:Program) (w w':World) (ts:Array TypeId) (ty:TypeId) (st xt elem xe:TypeId) (x':Value) (size n len cap:Nat) (base:Option Addr) (new:List Value)(h0:ts[0]?=some st) (h1:ts[1]?=some xt) (hst:P.underlying st=some (.slice elem)) (hxt:P.underlying xt=some (.slice xe)) (hsz:ba P elem=some size)(hn : ∃xa xc,x'=.slice xa n xc) (ZbS:len+n≤cap) (Cj:(Builtin.firstCells size n x').run P w=.ok new.toArray w)(hst' : ∀a,base=some a→(storeCells (a.add (len*size)) new).run P w=.ok () w') (ZfM:base=none→w'=w) :(Builtin.append_ ts ty #[.slice base len cap,x']).run P w=.ok (.slice base (len+n) cap) w':=by
 obtain⟨xa,xc,rfl⟩:=hn;have e0:(#[Value.slice base len cap,Value.slice xa n xc]:Array Value)[0]?=some (.slice base len cap):=rfl;have e1:(#[Value.slice base len cap,Value.slice xa n xc]:Array Value)[1]?=some (.slice xa n xc):=rfl;simp only[Builtin.append_,h0,h1,e0,e1,bt,cq hst,bQ,dA w hsz,cq hxt,bT,Builtin.lenOf,gv,cH,ZbS,Bool.not_false,bS,Cj];cases base with
 | none=>rw[ZfM rfl];rfl
 | some a=>simp[hst' a rfl]
def vn (k:Nat) : ∀(l:List Nat),k∈l→l=l.takeWhile (· != k) ++ k :: (l.dropWhile (· != k)).drop 1
 | [],h=>by cases h
 | a :: l,h=>by
  by_cases e:a=k;·subst e;simp
  ·have h':k∈l:=by
    rcases dD.1 h with h|h;·exact absurd h.symm e
    ·exact h
   have:=vn k l h';simp only[Iz,List.dropWhile_cons,pM,ne_eq,e,Io,bS,List.cons_append];rw[←this]
variable {ty:TypeId}{ts:Array TypeId}{v:Value}
theorem Rel.append (R:Rel B w0 m h w) (P:Program) {st xt xe:TypeId} {s s':Value}(h0:ts[0]?=some st) (h1:ts[1]?=some xt) (hxt:P.underlying xt=some (.slice xe)) (ha:append P h st s x=some (v,h')) (hs:aW m s s') (hx:aW m x x') (ec:iA m h.n h'.n) :∃v' m' w',(Builtin.append_ ts ty #[s',x']).run P w=.ok v' w'∧aW m' v v'∧Rel B w0 m' h' w'∧Step m h w m' h' w':=by
 unfold Id.append at ha;cases hst:P.underlying st with
 | none=>simp[hst] at ha
 | some d =>
  rw[hst] at ha;cases d with
  | slice elem =>
   cases hsz:ba P elem with
   | none=>simp[hsz] at ha
   | some size =>
   cases hby:kI P elem with
   | none=>simp[hsz,hby] at ha
   | some bytes =>
   cases hz:aT P elem with
   | none=>simp[hsz,hby,hz] at ha
   | some zs =>
   cases hn:Id.lenOf x with
   | none=>simp[hsz,hby,hz,hn] at ha
   | some n =>
   obtain⟨z,hz0,_,hzs⟩:=fj hz;obtain⟨xa,xc,hx'⟩:=A0 hx hn;simp only[hsz,hby,hz,hn,aK,bD] at ha;by_cases hn0:n=0
   ·-- nothing is ZgJ
    subst hn0;rw[ah rfl] at ha;have hf0:(Builtin.firstCells size 0 x').run P w=.ok ([]:List Value).toArray w:=by
     subst hx';cases xa with
     | none=>rfl
     | some a=>show(loadCells a (0*size)).run P w=_;rw[iC];rfl
    split at ha
    ·rename_i a c;by_cases hac:(a == 0 && c == 0)=true
     ·rw[ah hac] at ha;cases ha;obtain⟨rfl,rfl,rfl⟩:=hs.pB;refine⟨_,m,w,nT P w w ts ty st xt elem xe x' size 0 0 0 none [] h0 h1 hst hxt hsz ⟨_,_,hx'⟩ byOmega hf0 aa (fun _=>rfl),hs,R,Step.refl _ _ _⟩
     ·rw[ad hac] at ha;cases ha
    ·rename_i b o len k;cases ha
     have hlc : ∃a Zaa cap,s'=.slice (some a) Zaa cap∧Zaa≤cap:=by
      rcases hs.gf with⟨r,q,cap,_,_,h2,h3,_,_,rfl⟩|⟨rfl,rfl,a,cap,rfl⟩;·exact⟨_,_,_,rfl,bA h2 h3⟩
      ·exact⟨_,_,_,rfl,dT _⟩
     obtain⟨a,Zaa,cap,rfl,hle⟩:=hlc;exact⟨_,m,w,nT P w w ts ty st xt elem xe x' size 0 Zaa cap (some a) [] h0 h1 hst hxt hsz ⟨_,_,hx'⟩ byOmega hf0 (by intro a' _;rfl) aa,hs,R,Step.refl _ _ _⟩
    ·cases ha
   ·rw[ad hn0] at ha;by_cases hsb:(size == 0 || (!(Nat.ble bytes 65536) || !(zs.length == size)))=true
    ·rw[ah hsb] at ha;cases ha
    ·rw[ad hsb] at ha;simp only[nh,bD,IG,not_or,Bool.not_eq_false,Av,ne_eq,Decidable.not_not] at hsb;obtain⟨ZbP,Pw,Zfu⟩:=hsb;have Pw:bytes≤65536:=Ix Pw;have hzc:z.cells.size=size:=by rw[←Zfu,hzs];simp
     cases hfi:cN h size n x with
     | none=>simp[hfi] at ha
     | some new =>
     simp only[hfi] at ha;by_cases iv:(!(new.all aM))=true;·rw[ah iv] at ha;cases ha
     rw[ad iv] at ha
     have hok : ∀c∈new,aM c=true:=by simpa using iv
     have Zfv:x≠.slice none 0 0:=by intro e;subst e;simp only[Id.lenOf] at hn;cases hn;exact hn0 rfl
     obtain⟨jW,zT,rC,wX⟩:=R.first P hx hfi;have wX:new.length=n*size:=wX.resolve_left Zfv;have RK : ∀d,Rel B w0 m h { w with drawn:=d }:=fun d=>R.congr rfl (nL R.below d);split at ha
     ·-- onto nil
      rename_i a c
      by_cases hc:(a == 0 && c == 0 && Nat.ble (n*(bytes+1)) bh)=true
      ·rw[ah hc] at ha;cases ha;simp only[eV,bD,bI] at hc;obtain⟨rfl,rfl,rfl⟩:=hs.pB;obtain⟨d,ma,rest,cu,qS,vZ⟩:=qe P w ts ty st xt elem xe (.slice none 0 0) x' size bytes z none 0 0 n [] jW h0 h1 hst hxt hsz hby hz0 rfl ⟨_,_,hx'⟩ byOmega Pw
        (by rw[eu];exact hc.2) (fun d=>rfl) (fun d=>zT _ rfl)
       rw[eu] at cu qS vZ;simp only[mz] at cu;have hm0:m (2*h.n)=none:=ec h.n (ar _) (jR _);obtain⟨R1,S1⟩:=(RK d).new (.cells new size none) (.cells (jW ++ rest).toArray elem) (size,(jW ++ rest).length) hm0
        ⟨(jW ++ rest).toArray,elem,by rw[heap_alloc,ah rfl],⟨by simp[rC.1],fun i v hi=>by
         obtain⟨v',a,b⟩:=rC.get hi
         refine⟨v',?_,b⟩
         have hi':i<jW.length:=by
          rcases cU i jW.length with h|h
          ·exact h
          ·rw[cI h] at a;cases a
         simp only[De,eu];rw[gF hi'];exact a⟩,rfl,aa⟩ rfl
       refine⟨_,_,_,cu,?_,R1,S1.congr rfl⟩;have hp:0<n:=lT hn0;have:=aW.slice (m:=m.upd (2*h.n) (w.heap.size,0) (size,(jW ++ rest).length)) (b:=2*h.n) (o:=0) (r:=w.heap.size) (s:=0) (len:=n) (k:=2*n) (cap:=ma) (Mp.cb _ _ _ _) byOmega byOmega byOmega byOmega (by intro _;rw[Mp.pF];simp only[du,vZ,hzc,←rC.1,wX];rw[←cW];simp only[eu,fR];exact cT _ byOmega);exact this
      ·rw[ad hc] at ha;cases ha
     ·rename_i b o len k
      by_cases mX:(!(Nat.ble ((len+n)*(bytes+1)) bh))=true;·rw[ah mX] at ha;cases ha
      ·rw[ad mX] at ha;have W2:(len+n)*(bytes+1)≤bh:=by simp only[IG,Bool.not_eq_false] at mX;exact Ix mX
       by_cases hin:Nat.ble (len+n) (k / 2)=true
       ·-- there is room for sure
        rw[ah hin] at ha;have hin':=Ix hin;obtain⟨h1w,hw1,hv1⟩:=bg.1 ha;cases hv1;rcases hs.gf with⟨r,q,cap,hmb,hk0,hl,hkc,hx1,hz1,rfl⟩|⟨_,hk,_⟩
        ·obtain⟨w',hr1,R1,S1⟩:=R.wr hw1 hmb rC hok P;refine⟨_,m,w',nT P w w' ts ty st xt elem xe x' size n len cap _ jW h0 h1 hst hxt hsz ⟨_,_,hx'⟩ byOmega (zT w rfl) (fun a e=>?_) aa,?_,R1,S1⟩
         ·cases e;rw[oG,jS];exact hr1
         ·exact .slice hmb hk0 hin' hkc hx1 hz1
        ·omega
       ·rw[ad hin] at ha;have hin' : ¬len+n≤k / 2:=fun e=>hin (by simpa using e);by_cases qR:k % 2=1
        ·-- there is none for sure
         rw[ah qR] at ha;cases hfo:cN h size len (.slice (some ⟨b,o,none⟩) len k) with
         | none=>simp[hfo] at ha
         | some old =>
          simp only[hfo] at ha;cases ha;obtain⟨vM,JZ,EF,J0⟩:=R.first P hs hfo
          have J0:old.length=len*size:=J0.resolve_left aa
          have rD : ∃base cap,s'=.slice base len cap∧cap<len+n:=by
           rcases hs.gf with⟨r,q,cap,_,_,_,_,hx1,_,rfl⟩|⟨_,hk,_⟩
           ·exact⟨_,cap,rfl,by have:=hx1 qR;omega⟩
           ·omega
          obtain⟨base,cap,rfl,hcl⟩:=rD;obtain⟨d,ma,rest,cu,qS,vZ⟩:=qe P w ts ty st xt elem xe _ x' size bytes z base len cap n vM jW h0 h1 hst hxt hsz hby hz0 rfl ⟨_,_,hx'⟩ hcl Pw W2 (fun d=>JZ _ rfl) (fun d=>zT _ rfl);have hm0:m (2*h.n)=none:=ec h.n (ar _) (jR _);have hon:=EF.append rC;obtain⟨R1,S1⟩:=(RK d).new (.cells (old ++ new) size none) (.cells (vM ++ jW ++ rest).toArray elem) (size,(vM ++ jW ++ rest).length) hm0 ⟨(vM ++ jW ++ rest).toArray,elem,by rw[heap_alloc,ah rfl],⟨by simp[EF.1,rC.1],fun i v hi=>by
            obtain⟨v',a,b⟩:=hon.get hi
            refine⟨v',?_,b⟩
            have hi':i<(vM ++ jW).length:=by
             rcases cU i (vM ++ jW).length with h|h
             ·exact h
             ·rw[cI h] at a;cases a
            simp only[De,eu];rw[gF hi'];exact a⟩,rfl,aa⟩ rfl
          refine⟨_,_,_,cu,?_,R1,S1.congr rfl⟩;have:=aW.slice (m:=m.upd (2*h.n) (w.heap.size,0) (size,(vM ++ jW ++ rest).length)) (b:=2*h.n) (o:=0) (r:=w.heap.size) (s:=0) (len:=len+n) (k:=2*(len+n)) (cap:=ma) (Mp.cb _ _ _ _) byOmega byOmega byOmega byOmega (by intro _;rw[Mp.pF];simp only[du,vZ,hzc,←EF.1,J0,←rC.1,wX];rw[←cW,←cW];simp only[eu,fR];exact cT _ byOmega);exact this
        ·rw[ad qR] at ha;by_cases xi:(len == k / 2 && Nat.blt 0 len && b % 2 == 0)=true
         ·rw[ah xi] at ha;simp only[eV,bD,rO] at xi;obtain⟨⟨hlk,hl0⟩,hb2⟩:=xi;cases hg:h.ext.get (b / 2) with
          | none=>simp[hg] at ha
          | some ob =>
           rw[hg] at ha;cases ob with
           | map es=>simp at ha
           | loop l=>simp at ha
           | iter _ _ _ _=>simp at ha
           | num _=>simp at ha
           | dead=>simp at ha
           | cells cs t fam =>
            simp only at ha;by_cases hce:(o+len*size == cs.length && t == size)=true
            ·rw[ah hce] at ha;simp only[eV,bD] at hce;obtain⟨hce,rfl⟩:=hce;have hb':2*(b / 2)=b:=byOmega;have hm0:m (2*h.n)=none:=ec h.n (ar _) (by
              cases fam with
              | none=>simp only[tE,CS] at ha;rw[←ha.2];exact jR _
              | some f=>cases hf:h.cZ.get f with
               | none=>simp[hf] at ha
               | some stk=>simp only[hf,tE,CS] at ha;rw[←ha.2];exact jR _)
             have ZfV : ∃f dB below,v=.slice (some ⟨2*h.n,0,none⟩) (len+n) (2*(len+n))∧h'=grown h (b / 2) f cs t dB below (cs.drop o ++ new) t ∧
               Zcg h (b / 2) f dB below fam:=by
              cases fam with
              | none=>simp only[tE,CS] at ha;exact⟨h.n,[],[],ha.1.symm,ha.2.symm,rfl,rfl,rfl⟩
              | some f=>cases hf:h.cZ.get f with
               | none=>simp[hf] at ha
               | some stk =>
                simp only[hf,tE,CS] at ha;obtain⟨st2,hst2,Pr⟩:=R.fam (b / 2) cs t f hg;rw[hf] at hst2;cases hst2;exact⟨f,_,_,ha.1.symm,ha.2.symm,rfl,stk,hf,vn _ _ Pr⟩
             obtain⟨f,dB,below,rfl,rfl,Ck⟩:=ZfV;rcases hs.gf with⟨r,q,cap,hmb,hk0,hl,hkc,hx1,hz1,rfl⟩|⟨_,hk,_⟩
             ·have Zao:m (2*(b / 2))=some (r,q):=by rw[hb'];exact hmb
              obtain⟨c,el,hc,jc,he1,he2⟩:=R.obj (b / 2) _ r q hg Zao;rw[hb'] at he1 he2;have Hs:=hz1 byOmega;rw[he1] at Hs;have hr1:=jc.1
              have hdl:(cs.drop o).length=len*t:=bq
              by_cases Zaq:len+n≤cap
              ·-- in place
               have hmul:(len+n)*t≤cap*t:=cT _ Zaq;rw[cW] at hmul;have Zdv : ∀x∈jW,aM x=true:=by intro x hx;obtain⟨i,hi,e⟩:=List.getElem_of_mem hx;have hi':i<new.length:=rC.1▸hi;exact Ie (rC.2 i new[i] x (bK hi') (by rw[bK hi,e])) (hok _ (iE hi'))
               have RI:jW.length=n*t:=by rw[←rC.1,wX]
               have hsto:=qc P r (q+o+len*t) el jW 0 w c hc byOmega Zdv
               have hne:jW ≠ []:=by
                intro e;have:n*t=0:=by rw[←RI,e];rfl
                rcases Nat.mul_eq_zero.1 this with e|e
                ·exact hn0 e
                ·exact ZbP e
               rw[ad hne,fR] at hsto;have hrw:=jc.1;have hrs:=R.even (b / 2) r q Zao;have mL:(World.put w r (.cells (kT c (q+o+len*t) jW) el)).heap[r]?=some (.cells (kT c (q+o+len*t) jW) el):=by rw[oE,ah ⟨rfl,hrs.2⟩]
               have hpn : ∀p,p≠r→(World.put w r (.cells (kT c (q+o+len*t) jW) el)).heap[p]?=w.heap[p]?:=fun p hp=>by rw[oE,ad (fun e=>hp e.1)]
               obtain⟨R1,S1⟩:=R.grow hg Zao hm0 f dB below Ck (cs.drop o ++ new) t r (q+o) (t,(m.ez b).2) (World.put w r (.cells (kT c (q+o+len*t) jW) el)) (w8 R.below hrs.1 _) (by rw[mF];exact ar _) ⟨hrs.1,by rw[mF];exact hrs.2⟩ ⟨_,el,mL,⟨by rw[du,hdl,lZ];omega,fun i x hi=>by
                 rw[tf jW c _ _ byOmega];by_cases h2:i<(cs.drop o).length;·rw[gF h2,kj] at hi;rw[ad byOmega];have:=jc.2 _ _ hi;rw[←jS] at this;exact this
                 ·rw[jv byOmega] at hi
                  obtain⟨x',a1,a2⟩:=rC.get hi
                  have hlt:i - (cs.drop o).length<jW.length:=by
                   rcases cU (i - (cs.drop o).length) jW.length with e|e
                   ·exact e
                   ·rw[cI e] at a1;cases a1
                  rw[ah byOmega];refine⟨x',?_,a2⟩;rw[show q+o+i - (q+o+len*t)=i - (cs.drop o).length from by omega];exact a1⟩,rfl,by rw[lZ];exact he2⟩
                (.inr ⟨rfl,by rw[du,hdl];omega,fun p hp hpr=>hpn p hpr,fun c2 el2 hc2=>by
                 rw[hc] at hc2;cases hc2;exact⟨_,mL,by rw[lZ];exact ar _,fun i hi=>by rw[tf jW c _ _ byOmega,ad byOmega]⟩⟩)
               refine⟨_,_,_,nT P w _ ts ty st xt elem xe x' t n len cap _ jW h0 h1 hst hxt hsz ⟨_,_,hx'⟩ Zaq (zT w rfl) (fun a e=>?_) aa,?_,R1,S1⟩
               ·cases e;rw[oG];exact hsto
               ·have:=aW.slice (m:=m.upd (2*h.n) (r,q+o) (t,(m.ez b).2)) (b:=2*h.n) (o:=0) (r:=r) (s:=q+o) (len:=len+n) (k:=2*(len+n)) (cap:=cap) (Mp.cb _ _ _ _) byOmega byOmega byOmega byOmega
                 (by intro _;rw[Mp.pF];simp only[fR];exact Hs)
                rw[fR] at this;exact this
              ·-- in new memory
               have hfo:cN h t len (.slice (some ⟨b,o,none⟩) len k)=some (cs.drop o):=by
                unfold cN
                have hb0 : ¬b % 2=1:=byOmega
                have h00 : ¬len*t=0:=by
                 intro e;rcases Nat.mul_eq_zero.1 e with e|e
                 ·omega
                 ·exact ZbP e
                simp only[aK,bI,ar,bS,bD,h00,cH,IH.rd,IH.row,hb0,hg];rw[ah byOmega,dr byOmega]
               obtain⟨vM,JZ,EF,_⟩:=R.first P hs hfo;obtain⟨d,ma,rest,cu,qS,vZ⟩:=qe P w ts ty st xt elem xe _ x' t bytes z _ len cap n vM jW h0 h1 hst hxt hsz hby hz0 rfl ⟨_,_,hx'⟩ byOmega Pw W2 (fun d=>JZ _ rfl) (fun d=>zT _ rfl);have hon:=EF.append rC;have hsz1:(({ w with drawn:=d }:World).alloc (.cells (vM ++ jW ++ rest).toArray elem)).heap.size=w.heap.size+1:=size_alloc _ _;have hat:(({ w with drawn:=d }:World).alloc (.cells (vM ++ jW ++ rest).toArray elem)).heap[w.heap.size]?=some (.cells (vM ++ jW ++ rest).toArray elem):=by rw[heap_alloc];exact ah rfl
               obtain⟨R1,S1⟩:=R.grow hg Zao hm0 f dB below Ck (cs.drop o ++ new) t w.heap.size 0 (t,(vM ++ jW ++ rest).length) (({ w with drawn:=d }:World).alloc (.cells (vM ++ jW ++ rest).toArray elem)) (rH (nL R.below d) R.size _) (by rw[hsz1];omega) ⟨R.size,by rw[hsz1];omega⟩ ⟨_,elem,hat,⟨by simp only[du,eu,←EF.1,←rC.1,List.size_toArray];omega,fun i x hi=>by
                 obtain⟨x',a1,a2⟩:=hon.get hi
                 refine⟨x',?_,a2⟩
                 have hi':i<(vM ++ jW).length:=by
                  rcases cU i (vM ++ jW).length with h|h
                  ·exact h
                  ·rw[cI h] at a1;cases a1
                 simp only[De,eu];rw[gF hi'];exact a1⟩,rfl,aa⟩
                (.inl ⟨ar _,fun p hp=>by rw[heap_alloc];exact ad (Nat.ne_of_lt hp)⟩)
               refine⟨_,_,_,cu,?_,R1,S1⟩;have:=aW.slice (m:=m.upd (2*h.n) (w.heap.size,0) (t,(vM ++ jW ++ rest).length)) (b:=2*h.n) (o:=0) (r:=w.heap.size) (s:=0) (len:=len+n) (k:=2*(len+n)) (cap:=ma) (Mp.cb _ _ _ _) byOmega byOmega byOmega byOmega
                (by intro _;rw[Mp.pF];simp only[du,vZ,hzc,←EF.1,hdl,←rC.1,wX];rw[←cW,←cW];simp only[eu,fR];exact cT _ byOmega)
               exact this
             ·omega
            ·rw[ad hce] at ha;cases ha
         ·rw[ad xi] at ha;cases ha
     ·cases ha
  | _=>simp at ha
def Rel.copy (R:Rel B w0 m h w) (P:Program) {dt:TypeId} {d d':Value}(h0:ts[0]?=some dt) (hc:yG P h dt d x=some (v,h')) (hd:aW m d d') (hx:aW m x x') :∃w',(Builtin.copy_ ts ty #[d',x']).run P w=.ok v w'∧aW m v v∧Rel B w0 m h' w'∧Step m h w m h' w':=by
 unfold yG at hc;cases hdt:P.underlying dt with
 | none=>simp[hdt] at hc
 | some td =>
  rw[hdt] at hc;cases td with
  | slice e =>
   cases hdn:Id.lenOf d with
   | none=>simp[hdn] at hc
   | some dn =>
   cases hsn:Id.lenOf x with
   | none=>simp[hdn,hsn] at hc
   | some sn =>
   cases hsz:ba P e with
   | none=>simp[hdn,hsn,hsz] at hc
   | some size =>
   simp only[hdn,hsn,hsz] at hc;cases hfi:cN h size (Nat.min sn dn) x with
   | none=>simp[hfi] at hc
   | some cs =>
   simp only[hfi,aK] at hc;obtain⟨xa,xc,rfl⟩:=A0 hx hsn;obtain⟨cs',cu,hL,_⟩:=R.first P hx hfi;have hlen:(Builtin.lenOf (.slice xa sn xc)).run P w=.ok sn w:=rfl;have e0 : ∀y:Value,(#[y,Value.slice xa sn xc]:Array Value)[0]?=some y:=fun _=>rfl;have e1 : ∀y:Value,(#[y,Value.slice xa sn xc]:Array Value)[1]?=some (.slice xa sn xc):=fun _=>rfl;split at hc;·rename_i a b;cases hc;obtain⟨rfl,rfl,rfl⟩:=hd.pB;simp only[Id.lenOf] at hdn;cases hdn;refine⟨w,?_,.ct rfl,R,Step.refl _ _ _⟩;have M4:Nat.min sn 0=0:=Nat.min_zero sn;simp only[M4] at cu ⊢;simp only[Builtin.copy_,h0,e0,e1,bt,cq hdt,bQ,hlen,dA w hsz,M4,cu w rfl,bT];rfl
   ·rename_i b o dl dk;simp only[Id.lenOf] at hdn;cases hdn
    have hdv : ∃r q cap a,d'=.slice (some a) dn cap∧(0<dk→m b=some (r,q)∧a=⟨r,q+o,none⟩)∧(dk=0→dn=0):=by
     rcases hd.gf with⟨r,q,cap,hm,h1,_,_,_,_,rfl⟩|⟨hl,hk,a,cap,rfl⟩;·exact⟨r,q,cap,_,rfl,fun _=>⟨hm,rfl⟩,fun e=>byOmega⟩
     ·subst hl;exact⟨0,0,cap,a,rfl,fun e=>byOmega,fun _=>rfl⟩
    obtain⟨r,q,cap,a,rfl,zS,hzero⟩:=hdv;by_cases Zas:cs.isEmpty=true
    ·rw[ah Zas] at hc;cases hc;have hcs:cs = []:=by simpa using Zas
     subst hcs;have hcs':cs' = []:=by have:=hL.1;simpa using this.symm
     subst hcs';refine⟨w,?_,.ct rfl,R,Step.refl _ _ _⟩;simp only[Builtin.copy_,h0,e0,e1,bt,cq hdt,bQ,hlen,dA w hsz,cu w rfl,bT];rfl
    ·rw[ad Zas] at hc;by_cases iv:(!(cs.all aM))=true
     ·rw[ah iv] at hc;cases hc
     rw[ad iv] at hc;obtain⟨h1w,hw1,hv1⟩:=bg.1 hc;cases hv1;have hk:0<dk:=by
      rcases gW dk with e|e
      ·have:=hzero e;subst this;exfalso;apply Zas;have M4:Nat.min sn 0=0:=Nat.min_zero sn;rw[M4] at hfi;unfold cN at hfi;split at hfi
       ·cases hfi;rfl
       ·simp only[aK,bI,dT,bS,iC,tB] at hfi;cases hfi;rfl
       ·cases hfi
      ·exact e
     obtain⟨hm,rfl⟩:=zS hk;obtain⟨w',hr1,R1,S1⟩:=R.wr hw1 hm hL (by simpa using iv) P;refine⟨w',?_,.ct rfl,R1,S1⟩;simp only[Builtin.copy_,h0,e0,e1,bt,cq hdt,bQ,hlen,dA w hsz,cu w rfl,hr1,bT];rfl
   ·cases hc
  | _=>simp at hc
theorem I5 (c:Array Value) (q:Nat) (vs:List Value) (h:q+vs.length≤c.size):(kT c q vs).toList=IH.aI c.toList q vs:=by apply jT;intro i;rw[oS (xs:=kT c q vs),tf _ _ _ _ h,EL _ _ _ (by simpa using h)];split<;>simp
theorem EO (off:Nat) : ∀(l:List Value) (k:Nat) (c:Array Value),(l.zipIdx k).foldl (fun cs p=>cs.setIfInBounds (off+p.2) p.1) c=kT c (off+k) l
 | [],k,c=>rfl
 | v :: l,k,c=>by rw[List.zipIdx_cons,List.foldl_cons,EO off l (k+1),kT,jS]
def Ss (m:Mp) (a b:Nat×Value):Prop:=b.1=a.1∧aW m a.2 b.2
variable {m:Mp}
def cg.aI {a a' b b':List Value} (h:cg m a a') (k:cg m b b') (o:Nat) (hb:o+b.length≤a.length):cg m (IH.aI a o b) (IH.aI a' o b'):=by have h1:=h.1;have h2:=k.1;unfold IH.aI;rw[←h2];exact(h.take o).append (k.append (h.drop _))
def ES (place:Nat→Option (Nat×Nat)) : ∀(ps ps':List (Nat×Value)) (cs:List Value) (c':Array Value) (r:List Value),cg m cs c'.toList → ps.length=ps'.length→(∀(i:Nat) (a b:Nat×Value),ps[i]?=some a→ps'[i]?=some b→Ss m a b)→dF place cs ps=some r → ∃r',Instr.fill place c' ps'=some r'∧cg m r r'.toList
 | [],[],cs,c',r,h,_,_,hf=>by simp only[dF] at hf;cases hf;exact⟨c',rfl,h⟩
 | [],_ :: _,_,_,_,_,hl,_,_=>by simp at hl
 | _ :: _,[],_,_,_,_,hl,_,_=>by simp at hl
 | (i,v) :: ps,(i',v') :: ps',cs,c',r,h,hl,hp,hf=>by
  obtain⟨h1,h2⟩:=hp 0 _ _ rfl rfl;simp only at h1 h2;subst h1;rw[dF] at hf;cases hpl:place i' with
  | none=>simp[hpl] at hf
  | some on =>
   obtain⟨o,n⟩:=on;simp only[hpl,aK] at hf;by_cases hc:(v.cells.size == n && Nat.ble (o+n) cs.length)=true
   ·rw[ah hc] at hf;simp only[eV,bD,bI] at hc;have hcs:c'.size=cs.length:=by have:=h.1;simp at this;omega
    have hv':=Fq h2;have hlen:o+v'.cells.toList.length≤c'.size:=by rw[ku,hv',hc.1,hcs];exact hc.2
    have ZfW:v'.cells.zipIdx.foldl (fun cs x=>match x with|(c,j)=>cs.setIfInBounds (o+j) c) c'=kT c' o v'.cells.toList:=by rw[←Array.foldl_toList,Array.toList_zipIdx];exact EO o v'.cells.toList 0 c'
    rw[Instr.fill,hpl];simp only;rw[ZfW,ad (by simp only[ne_eq,nh,aJ,not_or,Decidable.not_not,gt_iff_lt,Nat.not_lt];exact⟨by rw[hv',hc.1],by rw[hv',hc.1,hcs];exact hc.2⟩)];refine ES place ps ps' _ _ r ?_ (by simpa using hl) (fun j a b ha hb=>hp (j+1) a b (by simpa using ha) (by simpa using hb)) hf;rw[I5 _ _ _ hlen];exact h.aI h2.cells o (by rw[ku,hc.1];exact hc.2)
   ·rw[ad hc] at hf;cases hf
variable {fr:Fr}{ρ:Operand→Value}
def vI (hρ : ∀x v,opd fr x=some v→aW m v (ρ x)) : ∀(l:List (Nat×Operand)) (ps:List (Nat×Value)),partsOf fr l=some ps → ps.length=l.length ∧ ∀(i:Nat) (a b:Nat×Value),ps[i]?=some a→(l.map fun p=>(p.1,ρ p.2))[i]?=some b→Ss m a b
 | [],ps,h=>by simp only[partsOf] at h;cases h;exact⟨rfl,aa⟩
 | (i,x) :: l,ps,h=>by
  rw[partsOf] at h;cases hx:opd fr x with
  | none=>simp[hx] at h
  | some v =>
   cases hl:partsOf fr l with
   | none=>simp[hx,hl] at h
   | some vs =>
    simp only[hx,hl] at h;cases h;obtain⟨h1,h2⟩:=vI hρ l vs hl;refine⟨by simp[h1],fun j a b ha hb=>?_⟩;cases j with
    | zero=>simp at ha hb;subst ha;subst hb;exact⟨rfl,hρ x v hx⟩
    | succ j=>simp at ha hb;exact h2 j a b ha (by simpa using hb)
def SS {P:Program} {t:TypeId} (hρ : ∀x v,opd fr x=some v→aW m v (ρ x)) {parts:Array (Nat×Operand)} {z cs:List Value} {ps:List (Nat×Value)}(hz:aT P t=some z) (hps:partsOf fr parts.toList=some ps) (ha:dK P t=true) (hf:dF (placeOf P t) z ps=some cs) (w:World) :∃cs',(Instr.build t (parts.map fun(i,x)=>(i,ρ x))).run P w=.ok (.agg cs') w∧aW m (.agg cs.toArray) (.agg cs'):=by
 obtain⟨zv,hz1,hz2,rfl⟩:=fj hz;unfold u6 at hz1;obtain⟨it,hit,hz3⟩:=NL.1 hz1;obtain⟨hl,hp⟩:=vI hρ _ _ hps;have hL0:cg m zv.cells.toList zv.cells.toList:=(aW.cY hz2).cells;have Gf:(parts.map fun(x:Nat×Operand)=>match x with|(i,x)=>(i,ρ x)).toList=parts.toList.map fun p=>(p.1,ρ p.2):=by rw[Array.toList_map]
 have key : ∀place:Nat→Option (Nat×Nat),(∀i p,placeOf P t i=some p→place i=some p) → ∃r',Instr.fill place zv.cells (parts.toList.map fun p=>(p.1,ρ p.2))=some r'∧cg m cs r'.toList:=by
  intro place Zdt;have up : ∀(ps:List (Nat×Value)) (a r:List Value),dF (placeOf P t) a ps=some r→dF place a ps=some r:=by
   intro ps
   induction ps with
   | nil=>intro a r h;exact h
   | cons p ps ih =>
    obtain⟨i,v⟩:=p;intro a r h
    rw[dF] at h ⊢
    cases hpi:placeOf P t i with
    | none=>simp[hpi] at h
    | some on =>
     rw[Zdt i on hpi];rw[hpi] at h;obtain⟨o,n⟩:=on;simp only[aK] at h ⊢;by_cases hc:(v.cells.size == n && Nat.ble (o+n) a.length)=true;·rw[ah hc] at h ⊢;exact ih _ _ h
     ·rw[ad hc] at h;cases h
  exact ES place ps _ _ _ _ hL0 (by simp[hl]) hp (up ps _ _ hf)
 have hb : ∃r',P.built t (parts.map fun(x:Nat×Operand)=>match x with|(i,x)=>(i,ρ x)).toList=some r'∧cg m cs r'.toList:=by
  rw[Gf];unfold Program.built dK at *;cases hu:P.underlying t with
  | none=>simp[hu] at ha
  | some d =>
   rw[hu] at ha;cases d with
   | array n e =>
    simp only[It] at ha;obtain⟨ie,hie⟩:=ha;obtain⟨r',h1,h2⟩:=key (fun i=>some (i*ie.size,ie.size)) (by
     intro i p hpi;simp only[placeOf,hu,ba,hie,jt] at hpi;exact hpi)
    refine⟨r',?_,h2⟩;simp only[hit,hz3,hie];exact h1
   | struct fs =>
    simp only[Array.all_eq_true_iff_forall_mem,It] at ha;have hpl : ∀(l:List Field),(∀f∈l,∃i,P.info? f.type=some i) → ∃pl,l.mapM (fun f=>(P.info? f.type).map fun i=>(f.offset,i.size))=some pl ∧ ∀(j:Nat) (f:Field),l[j]?=some f → ∃i,P.info? f.type=some i∧pl[j]?=some (f.offset,i.size):=by
     intro l
     induction l with
     | nil=>intro _;exact⟨[],rfl,aa⟩
     | cons f l ih =>
      intro h;obtain⟨i,hi⟩:=h f aa;obtain⟨pl,h1,h2⟩:=ih (fun g hg=>h g (by simp[hg]));refine⟨(f.offset,i.size) :: pl,by simp[List.mapM_cons,hi,h1],fun j g hj=>?_⟩;cases j with
      | zero=>simp at hj;subst hj;exact⟨i,hi,rfl⟩
      | succ j=>simp at hj;obtain⟨i',a,b⟩:=h2 j g hj;exact⟨i',a,by simpa using b⟩
    obtain⟨pl,hpl1,hpl2⟩:=hpl fs.toList (fun f hf=>ha f (by simpa using hf));obtain⟨r',h1,h2⟩:=key (pl.toArray[·]?) (by
     intro i p hpi;simp only[placeOf,hu] at hpi;cases hfi:fs[i]? with
     | none=>simp[hfi] at hpi
     | some f =>
      simp only[hfi,ba] at hpi;obtain⟨i',a,b⟩:=hpl2 i f (by simpa using hfi);rw[a] at hpi;simp only[jt] at hpi;rw[←hpi];simpa using b)
    refine⟨r',?_,h2⟩;simp only[hit,hz3,hpl1];exact h1
   | _=>simp at ha
 obtain⟨r',h1,h2⟩:=hb;exact⟨r',run_build w t _ r' h1,aW.oo (by simpa using h2)⟩
variable {m:Mp}{v:Value}
def mb {v':Value} {most n:Nat} (h:lE v most=some n) (hv:aW m v v') : ∃k,v'=.int k (n:Int)∧n≤most:=by
 unfold lE at h;split at h
 ·rename_i k i;have hv':=hv.dN rfl
  subst hv'
  cases i with
  | ofNat j =>
   simp only[aK,bI] at h;by_cases hj:j≤most;·rw[ah hj] at h;cases h;exact⟨k,rfl,hj⟩
   ·rw[ad hj] at h;cases h
  | negSucc j=>simp at h
 ·cases h
def wM (P:Program) (w:World) (k:IntKind) (n y:Nat) (code:BoundsCode) (h:n≤y):(Instr.sliceBound (.int k (n:Int)) y code).run P w=.ok n w:=by simp only[Instr.sliceBound,asIntOf,bt,bT,bQ];rw[ah byOmega];simp
def kM (m:Mp):Option Value→Option Value→Prop
 | none,none=>True
 | some v,some v'=>aW m v v'
 | _,_=>False
variable {x:Option Value}
def kM.zJ (h:kM m none x):x=none:=by cases x<;>simp_all [kM]
def kM.qa (h:kM m (some v) x) : ∃v',x=some v'∧aW m v v':=by
 cases x with
 | none=>simp[kM] at h
 | some v'=>exact⟨v',rfl,h⟩
variable {hi':Option Value}{cap:Nat}{hi lo' mx':Option Value}{len:Nat}{mx lo:Option Value}
def uz (P:Program) (w:World) (isSlice:Bool) {c:Nat} (hlo:kM m lo lo') (hhi:kM m hi hi') (hmx:kM m mx mx'){l h:Nat} {om:Option Nat} (hb:jn len c lo hi mx=some (l,h,om)) (hc:c≤cap) (hlen:len≤c) :(Instr.sliceBounds isSlice len cap lo' hi' mx').run P w=.ok (l,h,om.getD cap) w∧l≤h∧h≤om.getD c∧om.getD c≤c:=by
 have low : ∀{h l:Nat},MM lo h=some l→l≤h ∧ ∀code,(match lo' with|some v=>Instr.sliceBound v h code|none=>pure 0:Sem Nat).run P w=.ok l w:=by
  intro h l hl;unfold MM at hl;cases lo with
  | none=>rw[hlo.zJ];simp only at hl;cases hl;exact⟨dT _,fun _=>rfl⟩
  | some v =>
   obtain⟨v',rfl,hv⟩:=hlo.qa;obtain⟨k,rfl,hle⟩:=mb hl hv;exact⟨hle,fun code=>wM P w k l h code hle⟩
 unfold jn at hb;cases mx with
 | none =>
  rw[hmx.zJ];simp only at hb;cases hh:W6 hi len c with
  | none=>simp[hh] at hb
  | some h1 =>
   simp only[hh] at hb;cases hl:MM lo h1 with
   | none=>simp[hl] at hb
   | some l1 =>
    simp only[hl] at hb;cases hb;obtain⟨h2,cu⟩:=low hl;unfold W6 at hh;cases hi with
    | none =>
     rw[hhi.zJ];simp only at hh;cases hh;refine⟨?_,h2,hlen,ar _⟩;have:=cu .sliceB;cases lo'<;>simp_all [Instr.sliceBounds]
    | some v =>
     obtain⟨v',rfl,hv⟩:=hhi.qa;obtain⟨k,rfl,hle⟩:=mb hh hv;refine⟨?_,h2,hle,ar _⟩;have hb:=fun code=>wM P w k h cap code byOmega;have:=cu .sliceB;cases lo'<;>simp_all [Instr.sliceBounds]
 | some mv =>
  obtain⟨mv',rfl,hmv⟩:=hmx.qa;simp only at hb;cases hm:lE mv c with
  | none=>simp[hm] at hb
  | some mm =>
   simp only[hm] at hb;obtain⟨k,rfl,hmc⟩:=mb hm hmv;have hb1:=fun code=>wM P w k mm cap code byOmega;cases hi with
   | none=>simp at hb
   | some hv =>
    obtain⟨hv',rfl,hhv⟩:=hhi.qa;simp only at hb;cases hh:lE hv mm with
    | none=>simp[hh] at hb
    | some h1 =>
     simp only[hh] at hb;obtain⟨k2,rfl,hhm⟩:=mb hh hhv;have hb2:=fun code=>wM P w k2 h1 mm code hhm;cases hl:MM lo h1 with
     | none=>simp[hl] at hb
     | some l1 =>
      simp only[hl] at hb;cases hb;obtain⟨h2,cu⟩:=low hl;refine⟨?_,h2,hhm,hmc⟩;have:=cu .slice3C;cases lo'<;>simp_all [Instr.sliceBounds]
theorem Il (r p n:Nat):Addr.add ⟨r,p,none⟩ n=⟨r,p+n,none⟩:=oG r p n
variable {s size k o b r:Nat}
def ud {room:Bool} (hr:fT size room (.slice (some ⟨b,o,none⟩) len k) lo hi mx=some v)(hm:m b=some (r,s)) (hk0:0<k) (hl:len≤k / 2) (hkc:k / 2≤cap) (hx:k % 2=1→cap=k / 2) (hz:k % 2=0→s+o+cap*(m.ez b).1≤(m.ez b).2) (Hs:room=true→(m.ez b).1=size)(hlo:kM m lo lo') (hhi:kM m hi hi') (hmx:kM m mx mx') (P:Program) (isSlice:Bool) (w:World) :∃l h mm,(Instr.sliceBounds isSlice len cap lo' hi' mx').run P w=.ok (l,h,mm) w∧aW m v (.slice (some (if mm=l then ⟨r,s+o,none⟩ else Addr.add ⟨r,s+o,none⟩ (l*size))) (h - l) (mm - l)):=by
 unfold fT at hr;cases hb:jn len (k / 2) lo hi mx with
 | none=>simp[hb] at hr
 | some lhm =>
  obtain⟨l,h,om⟩:=lhm;simp only[hb,aK,bD] at hr;obtain⟨cu,h1,h2,h3⟩:=uz P w isSlice hlo hhi hmx hb hkc hl;rw[ad byOmega] at hr;refine⟨l,h,_,cu,?_⟩;cases om with
  | none =>
   simp only[Option.getD_none] at hr h2 h3 ⊢;by_cases hlk:l=k / 2
   ·rw[ah hlk] at hr;have hh0:h - l=0:=byOmega;rw[hh0];by_cases qR:k % 2=1
    ·rw[ah qR] at hr;cases hr;have:=hx qR;rw[ah byOmega];rw[show cap - l=0 from by omega];exact .slice hm byOmega byOmega byOmega (by intro _;rfl) (by intro e;omega)
    ·rw[ad qR] at hr;cases hr;exact .lost
   ·rw[ad hlk] at hr;by_cases hod:(k % 2 == 1 || room)=true
    ·rw[ah hod] at hr;cases hr;rw[ad byOmega,Il];have e1:s+o+l*size=s+(o+l*size):=byOmega;rw[e1];refine .slice hm byOmega byOmega byOmega (fun e=>by have:=hx byOmega;omega) (fun e=>?_);have hev:k % 2=0:=byOmega
     have hrm:room=true:=by
      simp only[nh,bD] at hod;rcases hod with h|h;·omega
      ·exact h
     have hsz:=Hs hrm;have h1:=hz hev
     rw[hsz] at h1 ⊢
     have:(cap - l)*size+l*size=cap*size:=by rw[←cW];congr 1;omega
     omega
    ·rw[ad hod] at hr;cases hr
  | some mm =>
   simp only[mZ] at hr h2 h3 ⊢;by_cases hlm:l=mm;·rw[ah hlm] at hr;cases hr;rw[ah hlm.symm,show h - l=0 from by omega,show mm - l=0 from by omega];exact .slice hm byOmega byOmega byOmega (by intro _;rfl) (by intro e;omega)
   ·rw[ad hlm] at hr;cases hr
    rw[ad (fun e=>hlm e.symm),Il];have e1:s+o+l*size=s+(o+l*size):=byOmega;rw[e1];exact .slice hm byOmega byOmega byOmega (by intro _;omega) (by intro e;omega)
variable {h:IH}{B:Nat}{w w0:World}
def OD (R:Rel B w0 m h w) (hr:roomy h size (.slice (some ⟨b,o,none⟩) len k)=true) (hm:m b=some (r,s)):(m.ez b).1=size:=by
 unfold roomy at hr;simp only[eV,bD] at hr;obtain⟨hb,hr⟩:=hr;cases hg:h.ext.get (b / 2) with
 | none=>simp[hg] at hr
 | some x =>
  rw[hg] at hr;cases x with
  | cells cs e f =>
   simp only[bD] at hr;have hb':2*(b / 2)=b:=byOmega;obtain⟨c,el,_,_,h1,_⟩:=R.obj (b / 2) _ r s hg (by rw[hb'];exact hm);rw[hb'] at h1;rw[h1,hr]
  | _=>simp at hr
variable {t:TypeId}
def Rel.dY (R:Rel B w0 m h w) (P:Program) {x x':Value} (hs:dY P h t x lo hi mx=some v)(hx:aW m x x') (hlo:kM m lo lo') (hhi:kM m hi hi') (hmx:kM m mx mx') :∃v',(Instr.sliceAt t x' lo' hi' mx').run P w=.ok v' w∧aW m v v':=by
 unfold Id.dY at hs;cases hu:P.underlying t with
 | none=>simp[hu] at hs
 | some d =>
  rw[hu] at hs;cases d with
  | slice e =>
   simp only at hs;cases hsz:ba P e with
   | none=>simp[hsz] at hs
   | some size =>
    simp only[hsz] at hs;cases x with
    | slice a len k =>
     cases a with
     | none =>
      obtain⟨rfl,rfl,rfl⟩:=hx.pB;unfold fT at hs;simp only[tB,uY,bP] at hs;cases hb:jn 0 0 lo hi mx with
      | none=>simp[hb] at hs
      | some lhm =>
       obtain⟨l,hh,om⟩:=lhm;simp only[hb] at hs;cases hs;obtain⟨cu,h1,h2,h3⟩:=uz P w true hlo hhi hmx hb (ar 0) (ar 0);have hl0:l=0:=byOmega;have hh0:hh=0:=byOmega;subst hl0;subst hh0;refine⟨.slice none 0 0,?_,.ct rfl⟩;have hm0:om.getD 0=0:=byOmega;rw[hm0] at cu;simp[Instr.sliceAt,cq hu,Instr.slice,cu,dA w hsz]
     | some a =>
      obtain⟨b,o,sp⟩:=a;cases sp with
      | some q=>simp[fT] at hs
      | none =>
      rcases hx.gf with⟨r,s,cap,hm,h1,h2,h3,h4,h5,rfl⟩|⟨rfl,rfl,a,cap,rfl⟩;·obtain⟨l,hh,mm,cu,hv⟩:=ud hs hm h1 h2 h3 h4 h5 (fun e=>OD R e hm) hlo hhi hmx P true w;refine⟨_,?_,hv⟩;simp[Instr.sliceAt,cq hu,Instr.slice,cu,dA w hsz];split<;>simp
      ·-- a lost slice: it stays one
       unfold fT at hs;cases hb:jn 0 (0 / 2) lo hi mx with
       | none=>simp[hb] at hs
       | some lhm =>
        obtain⟨l,hh,om⟩:=lhm;simp only[hb,tB,bP] at hs;cases hs;obtain⟨cu,h1,h2,h3⟩:=uz P w (cap:=cap) true hlo hhi hmx hb byOmega byOmega;have hl0:l=0:=byOmega;have hh0:hh=0:=byOmega;subst hl0;subst hh0;refine⟨.slice (some (if om.getD cap=0 then a else a.add (0*size))) 0 (om.getD cap - 0),?_,.lost⟩;simp[Instr.sliceAt,cq hu,Instr.slice,cu,dA w hsz];split<;>simp
    | _=>simp[fT] at hs
  | array n e =>
   simp only at hs;cases hsz:ba P e with
   | none=>simp[hsz] at hs
   | some size =>
    cases hA:asAddr x with
    | none=>simp[hsz,hA] at hs
    | some bo =>
     obtain⟨b,o⟩:=bo;have hp:x=.pointer (some ⟨b,o,none⟩):=by unfold asAddr at hA;split at hA<;>simp_all
     subst hp;obtain⟨r,s,hm,rfl⟩:=hx.nV;simp only[hsz,hA] at hs;obtain⟨l,hh,mm,cu,hv⟩:=ud hs hm byOmega byOmega (cap:=n) byOmega byOmega byOmega aa hlo hhi hmx P false w;refine⟨_,?_,hv⟩;simp[Instr.sliceAt,cq hu,Instr.sureAddr,cu,dA w hsz]
  | pointer arr =>
   simp only at hs;cases hua:P.underlying arr with
   | none=>simp[hua] at hs
   | some da =>
    rw[hua] at hs;cases da with
    | array n e =>
     simp only at hs;cases hsz:ba P e with
     | none=>simp[hsz] at hs
     | some size =>
      cases hA:Id.asAddr x with
      | none=>simp[hsz,hA] at hs
      | some bo =>
       obtain⟨b,o⟩:=bo;have hp:x=.pointer (some ⟨b,o,none⟩):=by unfold Id.asAddr at hA;split at hA<;>simp_all
       subst hp;obtain⟨r,s,hm,rfl⟩:=hx.nV;simp only[hsz,hA] at hs;obtain⟨l,hh,mm,cu,hv⟩:=ud hs hm byOmega byOmega (cap:=n) byOmega byOmega byOmega aa hlo hhi hmx P false w;refine⟨_,?_,hv⟩;simp[Instr.sliceAt,cq hu,Instr.slice,Go.asAddr,cq hua,cu,dA w hsz]
    | _=>simp at hs
  | string =>
   simp only[aK] at hs;by_cases hp:(plain x && (lo.all plain && hi.all plain && mx.all plain))=true
   ·rw[ah hp] at hs;simp only[eV] at hp;have e0:=hx.fx hp.1;have ep : ∀{a b:Option Value},kM m a b→a.all plain=true→b=a:=by
     intro a b hab ha;cases a with
     | none=>exact hab.zJ
     | some v=>obtain⟨v',rfl,hv⟩:=hab.qa;rw[hv.fx (by simpa using ha)]
    rw[e0,ep hlo hp.2.1.1,ep hhi hp.2.1.2,ep hmx hp.2.2];obtain⟨hpv,cu⟩:=kD hs;refine⟨v,?_,.cY hpv⟩;have this:=cu w;simp only[Instr.sliceAt,bt,cq hu,bQ];exact this
   ·rw[ad hp] at hs;cases hs
  | _=>simp at hs
theorem L6 (z:List Value) (hz:z ≠ []) : ∀(n i:Nat),(cj n z)[i]?=if i<n*z.length then z[i % z.length]? else none
 | 0,i=>by simp[cj]
 | n+1,i=>by
  have zS:0<z.length:=NN.2 hz;rw[cj];by_cases h:i<z.length;·rw[gF h,ah (by rw[cW];omega),eP h]
  ·rw[jv byOmega,L6 z hz n (i - z.length)]
   have e:(i - z.length) % z.length=i % z.length:=by rw[Nat.mod_eq_sub_mod (a:=i) byOmega]
   rw[e];by_cases h2:i - z.length<n*z.length;·rw[ah h2,ah (by rw[cW];omega)]
   ·rw[ad h2,ad (by rw[cW];omega)]
theorem rf (z:List Value) : ∀n,(cj n z).length=n*z.length
 | 0=>by simp[cj]
 | n+1=>by rw[cj,du,rf z n,cW];omega
theorem ug (z:Array Value) (n:Nat) (hz:z.size≠0):((Array.range (n*z.size)).map (fun i=>z[i % z.size]!)).toList=cj n z.toList:=by
 apply jT
 intro i;have hz':z.toList ≠ []:=by intro e;apply hz;have:=gC List.length e;simpa using this
 rw[L6 z.toList hz' n i,oS,Array.getElem?_map,ku];by_cases h:i<n*z.size;·rw[ah h];have hm:i % z.size<z.size:=gE _ byOmega;simp[h,hm]
 ·rw[ad h]
  simp[h]
def yc (n:Nat) (h:n≤1099511627776):IntKind.i64.wrap (n:Int)=(n:Int):=by rw[IntKind.wrap_i64];omega
theorem cg.cj {z:List Value} (h:cg m z z) : ∀n,cg m (Id.cj n z) (Id.cj n z)
 | 0=>.nil m
 | n+1=>h.append (cg.cj h n)
def wE (m:Mp) (w:World) (h h':IH) (run:Result Value) (v:Value):Prop :=
 ∃cs cs' e t v',h'=h.new (.cells cs e none)∧cg m cs cs'∧run=.ok v' (w.alloc (.cells cs'.toArray t)) ∧ ∀m':Mp,m' (2*h.n)=some (w.heap.size,0)→aW m' v v'
variable {h':IH}
def uJ (P:Program) {l l' c c':Value} (hs:makeSlice P h t l c=some (v,h')) (hl:aW m l l') (hc:aW m c c') (w:World) :wE m w h h' ((Instr.makeSlice t l' c').run P w) v:=by
 unfold Id.makeSlice at hs;cases hu:P.underlying t with
 | none=>simp[hu] at hs
 | some d =>
  rw[hu] at hs;cases d with
  | slice e =>
   simp only at hs;cases hln:lE l bh with
   | none=>simp[hln] at hs
   | some ln =>
   cases hcn:lE c bh with
   | none=>simp[hln,hcn] at hs
   | some cn =>
   cases hsz:ba P e with
   | none=>simp[hln,hcn,hsz] at hs
   | some n =>
   cases hby:kI P e with
   | none=>simp[hln,hcn,hsz,hby] at hs
   | some by_ =>
   cases hz:aT P e with
   | none=>simp[hln,hcn,hsz,hby,hz] at hs
   | some z =>
   simp only[hln,hcn,hsz,hby,hz,aK] at hs;by_cases tc:(Nat.ble ln cn && Nat.ble (cn*(by_+1)) bh && z.length == n)=true
   ·rw[ah tc] at hs;cases hs;simp only[eV,bI,bD] at tc;obtain⟨⟨hlc,mX⟩,hzn⟩:=tc;obtain⟨zv,hz0,hzp,rfl⟩:=fj hz;obtain⟨kl,rfl,hl1⟩:=mb hln hl;obtain⟨kc,rfl,hc1⟩:=mb hcn hc;unfold kI at hby;obtain⟨i,hi,hib⟩:=bg.1 hby;have hmul:cn*(by_+1)=cn*by_+cn:=by rw[tF,dG]
    have hbc:by_*cn=cn*by_:=gu _ _;unfold bh at mX hl1 hc1;have Zdm:=yc ln hl1;have Zdn:=yc cn hc1;have yA : ∃cells:Array Value,(if cn*n=0 then pure #[] else do pure (←zeroValue e).cells:Sem (Array Value)).run P w=.ok cells w∧((Array.range (cn*n)).map (fun i=>cells[i % cells.size]!)).toList=cj cn zv.cells.toList:=by
     by_cases h0:cn*n=0
     ·rw[ah h0];refine⟨#[],rfl,?_⟩;rw[h0];have:(cj cn zv.cells.toList).length=0:=by rw[rf,hzn,h0]
      rw[fC.1 this];simp
     ·rw[ad h0];refine⟨zv.cells,by simp[gT w hz0],?_⟩;have hs:zv.cells.size=n:=by simpa using hzn
      rw[←hs];exact ug zv.cells cn (by rw[hs];intro e;apply h0;rw[e,Nat.mul_zero])
    obtain⟨cells,sZ,Pu⟩:=yA
    have hLz:cg m (cj cn zv.cells.toList) (cj cn zv.cells.toList):=cg.cj (aW.cY (m:=m) hzp).cells cn
    refine⟨_,_,n,e,.slice (some ⟨w.heap.size,0,none⟩) ln cn,rfl,hLz,?_,fun m' hm=>?_⟩
    ·have e1:(Array.range (cn*n)).map (fun i=>cells[i % cells.size]!)=(cj cn zv.cells.toList).toArray:=by rw[←Pu]
     simp only[Instr.makeSlice,bt,cq hu,bQ,asInt,asIntOf,bT,run_typeInfo w hi,hib,Zdm,Zdn];have ZfI:(by_:Int)*(cn:Int)=((by_*cn:Nat):Int):=aa;have hno : ¬((decide ((cn:Int)<0) || decide ((by_:Int)*(cn:Int) > 2 ^ 48) || decide ((ln:Int)<0) || decide ((ln:Int) > (cn:Int)))=true):=by simp only[nh,aJ,ZfI];omega
     rw[ad hno];simp only[oO,bt,run_askRoom,bQ,dA w hsz];by_cases h0:cn*n=0;·rw[ah h0] at sZ ⊢;simp only[bT] at sZ;cases sZ;simp only[bt,bT,bQ,Go.newRow,lO];rw[e1];rfl
     ·rw[ad h0] at sZ ⊢
      simp only[bt,gT w hz0,bQ,bT] at sZ;cases sZ;simp only[bt,gT w hz0,bT,bQ,Go.newRow,lO];rw[e1];rfl
    ·exact .slice (s:=0) hm byOmega byOmega byOmega (by intro _;omega) (by intro e;omega)
   ·rw[ad tc] at hs;cases hs
  | _=>simp at hs
def wE.rel {run:Result Value} (M:wE m w h h' run v) (R:Rel B w0 m h w) (ec:iA m h.n h'.n) :∃v' m' w',run=.ok v' w'∧aW m' v v'∧Rel B w0 m' h' w'∧Step m h w m' h' w':=by obtain⟨cs,cs',e,t,v',rfl,hL,cu,hv⟩:=M;obtain⟨R1,S1⟩:=R.newRow (ec h.n (ar _) (jR _)) hL e t;exact⟨v',_,_,cu,hv _ (Mp.cb _ _ _ _),R1,S1⟩
variable {m:Mp}{v:Value}{t:TypeId}
def tx (P:Program) {h h':IH} {len:Nat} {parts:Array (Nat×Operand)} {ps:List (Nat×Value)} {fr:Fr} {ρ:Operand→Value}  (hρ : ∀x v,opd fr x=some v→aW m v (ρ x)) (hps:partsOf fr parts.toList=some ps) (hs:buildSlice P h t len ps=some (v,h')) (w:World) :wE m w h h' ((Instr.buildSlice t len (parts.map fun(i,x)=>(i,ρ x))).run P w) v:=by
 unfold Id.buildSlice at hs;cases hu:P.underlying t with
 | none=>simp[hu] at hs
 | some d =>
  rw[hu] at hs;cases d with
  | slice e =>
   simp only at hs;cases hsz:ba P e with
   | none=>simp[hsz] at hs
   | some n =>
   cases hz:aT P e with
   | none=>simp[hsz,hz] at hs
   | some z =>
   simp only[hsz,hz,aK] at hs;by_cases tc:(Nat.ble (len*n) mr && z.length == n)=true
   ·rw[ah tc] at hs;simp only[eV,bI,bD] at tc;obtain⟨mX,hzn⟩:=tc;obtain⟨zv,hz0,hzp,rfl⟩:=fj hz;cases hf:dF (fun i=>some (i*n,n)) (cj len zv.cells.toList) ps with
    | none=>simp[hf] at hs
    | some cells =>
     simp only[hf] at hs;cases hs;have yA : ∃zc:Array Value,(if len*n=0 then pure #[] else do pure (←zeroValue e).cells:Sem (Array Value)).run P w=.ok zc w∧((Array.range (len*n)).map (fun i=>zc[i % zc.size]!)).toList=cj len zv.cells.toList:=by
      by_cases h0:len*n=0
      ·rw[ah h0];refine⟨#[],rfl,?_⟩;rw[h0];have:(cj len zv.cells.toList).length=0:=by rw[rf,hzn,h0]
       rw[fC.1 this];simp
      ·rw[ad h0];refine⟨zv.cells,by simp[gT w hz0],?_⟩;have hs:zv.cells.size=n:=by simpa using hzn
       rw[←hs];exact ug zv.cells len (by rw[hs];intro e;apply h0;rw[e,Nat.mul_zero])
     obtain⟨zc,sZ,Pu⟩:=yA;have hLz:cg m (cj len zv.cells.toList) (((Array.range (len*n)).map (fun i=>zc[i % zc.size]!))).toList:=by rw[Pu];exact cg.cj (aW.cY (m:=m) hzp).cells len
     obtain⟨hl,hp⟩:=vI hρ _ _ hps;obtain⟨r',ZbU,hL⟩:=ES (fun i=>some (i*n,n)) ps (parts.toList.map fun p=>(p.1,ρ p.2)) _ _ _ hLz (by simp[hl]) hp hf;have Gf:(parts.map fun(x:Nat×Operand)=>match x with|(i,x)=>(i,ρ x)).toList=parts.toList.map fun p=>(p.1,ρ p.2):=by rw[Array.toList_map]
     refine⟨_,r'.toList,n,e,.slice (some ⟨w.heap.size,0,none⟩) len len,rfl,hL,?_,fun m' hm=>?_⟩
     ·simp only[Instr.buildSlice,bt,cq hu,bQ,dA w hsz];rw[ad (by unfold mr at mX;omega)];by_cases h0:len*n=0
      ·rw[ah h0] at sZ ⊢;simp only[bT] at sZ;cases sZ;simp only[bt,bT,bQ,Gf,ZbU,Go.newRow,lO];rfl
      ·rw[ad h0] at sZ ⊢;simp only[bt,gT w hz0,bQ,bT] at sZ;cases sZ;simp only[bt,gT w hz0,bT,bQ,Gf,ZbU,Go.newRow,lO];rfl
     ·exact .slice (s:=0) hm byOmega byOmega byOmega (by intro _;omega) (by intro e;omega)
   ·rw[ad tc] at hs;cases hs
  | _=>simp at hs
variable {i' i:Value}
def A8 {n:Int} (h:aW m i i') (hi:idxOf i=some n) : ∃k,i'=.int k n:=by
 unfold idxOf at hi;split at hi;·cases hi;exact⟨_,h.dN rfl⟩
 ·cases hi
def FX (P:Program) {x x':Value} (hs:indexAddr P t x i=some v) (hx:aW m x x') (hi:aW m i i') (w:World) :∃v',(Instr.indexAt t x' i').run P w=.ok v' w∧aW m v v':=by
 unfold Id.indexAddr at hs;split at hs
 ·rename_i n e b o j hu hj;obtain⟨k,rfl⟩:=A8 hi hj;obtain⟨r,s,hm,rfl⟩:=hx.nV;split at hs
  ·rename_i size j hsz;simp only[aK,rO] at hs;by_cases hlt:j<n
   ·rw[ah hlt] at hs;cases hs;refine⟨.pointer (some ⟨r,s+(o+j*size),none⟩),?_,.ptr hm⟩;have h2:(0:Int)≤Int.ofNat j∧Int.ofNat j<(n:Int):=by constructor<;>simp<;>omega
    simp only[Instr.indexAt,asIntOf,bt,bT,bQ,cq hu,Instr.sureAddr];rw[ah h2];simp[dA w hsz,oG,jS]
   ·rw[ad hlt] at hs;cases hs
  ·cases hs
 ·rename_i e b o n k j hu hj;obtain⟨ki,rfl⟩:=A8 hi hj;split at hs
  ·rename_i size j hsz;simp only[aK,rO] at hs;by_cases hlt:j<n
   ·rw[ah hlt] at hs;cases hs;rcases hx.gf with⟨r,s,cap,hm,_,_,_,_,_,rfl⟩|⟨h0,_⟩
    ·refine⟨.pointer (some ⟨r,s+(o+j*size),none⟩),?_,.ptr hm⟩;have h2:(0:Int)≤Int.ofNat j∧Int.ofNat j<(n:Int):=by constructor<;>simp<;>omega
     simp only[Instr.indexAt,asIntOf,bt,bT,bQ,cq hu];rw[ah h2];simp[dA w hsz,oG,jS]
    ·omega
   ·rw[ad hlt] at hs;cases hs
  ·cases hs
 ·cases hs
def LJ (P:Program) {cs cs':Array Value} {off:Nat} (hs:partOf P t cs off=some v) (hx:cg m cs.toList cs'.toList) (w:World) :∃v',(part t cs' off).run P w=.ok v' w∧aW m v v':=by
 unfold Id.partOf at hs;split at hs
 ·rename_i n ha hsz;cases hs;refine⟨.agg (cs'.extract off (off+n)),?_,aW.oo ?_⟩
  ·simp[part,ub w ha,dA w hsz]
  ·simp only[Array.toList_extract];have:=(hx.drop off).take (off+n - off);simpa [NQ] using this
 ·rename_i ha;obtain⟨v',h1,h2⟩:=hx.get (i:=off) (v:=v) (by simpa using hs);refine⟨v',?_,h2⟩;have:cs'[off]?=some v':=by simpa using h1
  simp[part,ub w ha,this]
 ·cases hs
def zX (kind:TypeDesc) (k:Value) : ∀(es es':List MapEntry) (i:Nat),es.map (·.key)=es'.map (·.key) → (Instr.findNow kind k es i).map (fun o=>o.map (·.1))=(Instr.findNow kind k es' i).map (fun o=>o.map (·.1))
 | [],[],i,_=>rfl
 | [],_ :: _,i,h=>by simp at h
 | _ :: _,[],i,h=>by simp at h
 | e :: es,e' :: es',i,h=>by
  simp only[kW,List.cons.injEq] at h;have ih:=zX kind k es es' (i+1) h.2;simp only[Instr.findNow,h.1];cases Instr.sameNow kind k e'.key with
  | none=>rfl
  | some b=>cases b<;>simp[ih]
def EP (kind:TypeDesc) (k:Value) : ∀(es:List MapEntry) (i j:Nat) (v:Value),Instr.findNow kind k es i=some (some (j,v))→i≤j ∧ ∃e,es[j - i]?=some e∧e.val=v
 | [],i,j,v,h=>by simp[Instr.findNow] at h
 | e :: es,i,j,v,h=>by
  simp only[Instr.findNow] at h;split at h;·simp only[tE,CS] at h;obtain⟨rfl,rfl⟩:=h;exact⟨ar _,e,aa,rfl⟩
  ·obtain⟨h1,e',h2,h3⟩:=EP kind k es (i+1) j v h
   refine⟨byOmega,e',?_,h3⟩;rw[show j - i=(j - (i+1))+1 from by omega];simpa using h2
  ·cases h
def uL (P:Program) (w:World) (kt:TypeId) (k:Value) : ∀(es es':List MapEntry) (i:Nat) (r:Option (Nat×Value)),es.map (·.key)=es'.map (·.key)→aD P (Instr.findAsking kt k es i)=some r → ∃r',(Instr.findAsking kt k es' i).run P w=.ok r' w∧r'.map (·.1)=r.map (·.1) ∧ ∀j v,r'=some (j,v)→i≤j ∧ ∃e,es'[j - i]?=some e∧e.val=v
 | [],[],i,r,_,h=>by simp only[Instr.findAsking] at h;cases h;exact⟨none,rfl,rfl,aa⟩
 | [],_ :: _,i,r,h,_=>by simp at h
 | _ :: _,[],i,r,h,_=>by simp at h
 | e :: es,e' :: es',i,r,h,hp=>by
  simp only[kW,List.cons.injEq] at h;have pb : ∀{α β:Type} (s:Sem α) (f:α→Sem β) (b:β),aD P (s.bind f)=some b → ∃a,aD P s=some a∧aD P (f a)=some b:=by
   intro α β s f b
   induction s with
   | pure a=>intro h;exact⟨a,rfl,h⟩
   | program g ih=>intro h;simp only[Sem.bind,aD] at h ⊢;exact ih P h
   | _=>intro h;simp[Sem.bind,aD] at h
  have hp':aD P ((Op.equal kt k e.key).bind fun b=>if b=true then pure (some (i,e.val)) else Instr.findAsking kt k es (i+1))=some r:=hp;obtain⟨b,hb,vZ⟩:=pb _ _ _ hp';have cu:=ml P _ _ hb w
  rw[h.1] at cu
  cases b with
  | true =>
   have hr:r=some (i,e.val):=by have:aD P (Sem.pure (some (i,e.val)))=some r:=vZ;simp only[aD] at this;cases this;rfl
   subst hr;refine⟨some (i,e'.val),?_,rfl,?_⟩
   ·simp[Instr.findAsking,cu]
   ·intro j v hjv;cases hjv;exact⟨ar _,e',aa,rfl⟩
  | false =>
   obtain⟨r',h1,h2,h3⟩:=uL P w kt k es es' (i+1) r h.2 vZ;refine⟨r',?_,h2,?_⟩;·simp[Instr.findAsking,cu,h1]
   ·intro j v hjv
    obtain⟨a,e'',c,d⟩:=h3 j v hjv;refine⟨byOmega,e'',?_,d⟩;rw[show j - i=(j - (i+1))+1 from by omega];simpa using c
variable {P:Program}
def Jr {α β:Type} {s:Sem α} {f:α→Sem β} {b:β} (h:aD P (s >>= f)=some b) : ∃a,aD P s=some a∧aD P (f a)=some b:=by
 have h':aD P (s.bind f)=some b:=h;clear h;revert h'
 induction s with
 | pure a=>intro h;exact⟨a,rfl,h⟩
 | program g ih=>intro h;simp only[Sem.bind,aD] at h ⊢;exact ih P h
 | _=>intro h;simp[Sem.bind,aD] at h
def GI {kt:TypeId} {k:Value} {es:List (Value×Value)} {c:Array MapEntry} {r:Option Nat} (hf:ER P kt k es=some r) (hm:wD m es c) (w:World) :plain k=true∧(Instr.checkKey c.isEmpty 10000 kt k).run P w=.ok () w ∧ ∃r',(Instr.findKey kt k c.toList).run P w=.ok r' w∧r'.map (·.1)=r ∧ ∀j v,r'=some (j,v) → ∃e,c[j]?=some e∧e.val=v:=by
 unfold ER at hf;simp only[aK] at hf;by_cases hp:plain k=true
 ·rw[ah hp] at hf;have ZdI:c.isEmpty=es.isEmpty:=by have:=hm.1;rw[oQ,NW,List.isEmpty_iff,←fC];omega
  cases h1:aD P (Instr.checkKey es.isEmpty 10000 kt k) with
  | none=>simp[h1] at hf
  | some u =>
   cases h2:aD P (Instr.findKey kt k (md es)) with
   | none=>simp[h1,h2] at hf
   | some r0 =>
    simp only[h1,h2] at hf;cases hf;have ZbT:(md es).map (·.key)=c.toList.map (·.key):=by
     apply jT;intro i;simp only[md,rQ,cm,oS];by_cases hi:i<es.length
     ·have hi':i<c.size:=by have:=hm.1;omega
      have:=hm.2 i es[i] c[i] (bK hi) (by simp[hi']);simp[hi,hi',this.1.1]
     ·have hi' : ¬i<c.size:=by have:=hm.1;omega
      simp[cI (xT hi),Dj (xT hi')]
    refine⟨hp,by rw[ZdI];exact ml P _ _ h1 w,?_⟩;unfold Instr.findKey at h2 ⊢;obtain⟨d,hd,h3⟩:=Jr h2;have Zf0:=ml P _ _ hd w;simp only[bt,Zf0,bQ];have hk:=zX d k (md es) c.toList 0 ZbT;cases h4:Instr.findNow d k (md es) 0 with
    | some r1 =>
     rw[h4] at h3 hk;have hr1:r1=r0:=by have:aD P (Sem.pure r1)=some r0:=h3;simp only[aD] at this;cases this;rfl
     subst hr1;cases h5:Instr.findNow d k c.toList 0 with
     | none=>rw[h5] at hk;simp at hk
     | some r2 =>
      rw[h5] at hk;simp only[jt,tE] at hk;refine⟨r2,rfl,hk.symm,fun j v hjv=>?_⟩;subst hjv;obtain⟨_,e,a,b⟩:=EP d k c.toList 0 j v h5;exact⟨e,by simpa using a,b⟩
    | none =>
     rw[h4] at h3 hk;cases h5:Instr.findNow d k c.toList 0 with
     | some r2=>rw[h5] at hk;simp at hk
     | none =>
      obtain⟨r',a,b,c'⟩:=uL P w kt k (md es) c.toList 0 r0 ZbT h3;exact⟨r',a,b,fun j v hjv=>let ⟨_,e,x,y⟩:=c' j v hjv;⟨e,by simpa using x,y⟩⟩
 ·rw[ad hp] at hf;cases hf
end Go.Id
