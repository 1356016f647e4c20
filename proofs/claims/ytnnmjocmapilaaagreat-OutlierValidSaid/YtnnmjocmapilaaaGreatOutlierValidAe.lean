/-
  The ideal machine: slices' expressions, makes, addresses, maps.
-/
import Derived.Test.YtnnmjocmapilaaaGreatOutlierValidAd
import Derived.Laws.BitsLemmas
set_option linter.unusedVariables false
set_option linter.unusedSimpArgs false
set_option linter.defProp false
set_option linter.deprecated false
namespace Go.Id
open Go Go.RowKit
theorem iM {m:Mp} {v v':Value} {most n:Nat} (h:iC v most=some n) (hv:aD m v v') : ∃k,v'=.int k (n:Int)∧n≤most:=by
 unfold iC at h
 split at h
 ·rename_i k i
  have hv':=hv.cj rfl
  subst hv'
  cases i with
  | ofNat j =>
   simp only[cond_eq_ite,Nat.ble_eq] at h
   by_cases hj:j≤most
   ·rw[if_pos hj] at h;cases h;exact⟨k,rfl,hj⟩
   ·rw[if_neg hj] at h;cases h
  | negSucc j=>simp at h
 ·cases h
theorem rE (P:Program) (w:World) (k:IntKind) (n y:Nat) (code:BoundsCode) (h:n≤y):(Instr.sliceBound (.int k (n:Int)) y code).run P w=.ok n w:=by
 simp only[Instr.sliceBound,asIntOf,Sem.run_bind,Sem.run_pure,Result.andThen_ok]
 rw[if_pos (by omega)]
 simp
def gS (m:Mp):Option Value→Option Value→Prop
 | none,none=>True
 | some v,some v'=>aD m v v'
 | _,_=>False
theorem gS.uQ {m:Mp} {x:Option Value} (h:gS m none x):x=none:=by cases x<;>simp_all [gS]
theorem gS.lW {m:Mp} {v:Value} {x:Option Value} (h:gS m (some v) x) : ∃v',x=some v'∧aD m v v':=by
 cases x with
 | none=>simp[gS] at h
 | some v'=>exact⟨v',rfl,h⟩
theorem pA (P:Program) (w:World) {m:Mp} (isSlice:Bool) {len cap c:Nat} {lo hi mx lo' hi' mx':Option Value} (hlo:gS m lo lo') (hhi:gS m hi hi') (hmx:gS m mx mx')
  {l h:Nat} {om:Option Nat} (hb:fD len c lo hi mx=some (l,h,om)) (hc:c≤cap) (hlen:len≤c) :
  (Instr.sliceBounds isSlice len cap lo' hi' mx').run P w=.ok (l,h,om.getD cap) w∧l≤h∧h≤om.getD c∧om.getD c≤c:=by
 have low : ∀{h l:Nat},GD lo h=some l→l≤h ∧ ∀code,(match lo' with|some v=>Instr.sliceBound v h code|none=>pure 0:Sem Nat).run P w=.ok l w:=by
  intro h l hl
  unfold GD at hl
  cases lo with
  | none=>rw[hlo.uQ];simp only at hl;cases hl;exact⟨Nat.zero_le _,fun _=>rfl⟩
  | some v =>
   obtain⟨v',rfl,hv⟩:=hlo.lW
   obtain⟨k,rfl,hle⟩:=iM hl hv
   exact⟨hle,fun code=>rE P w k l h code hle⟩
 unfold fD at hb
 cases mx with
 | none =>
  rw[hmx.uQ]
  simp only at hb
  cases hh:QS hi len c with
  | none=>simp[hh] at hb
  | some h1 =>
   simp only[hh] at hb
   cases hl:GD lo h1 with
   | none=>simp[hl] at hb
   | some l1 =>
    simp only[hl] at hb;cases hb
    obtain⟨h2,bw⟩:=low hl
    unfold QS at hh
    cases hi with
    | none =>
     rw[hhi.uQ]
     simp only at hh;cases hh
     refine⟨?_,h2,hlen,Nat.le_refl _⟩
     have:=bw .sliceB
     cases lo'<;>simp_all [Instr.sliceBounds]
    | some v =>
     obtain⟨v',rfl,hv⟩:=hhi.lW
     obtain⟨k,rfl,hle⟩:=iM hh hv
     refine⟨?_,h2,hle,Nat.le_refl _⟩
     have hb:=fun code=>rE P w k h cap code (by omega)
     have:=bw .sliceB
     cases lo'<;>simp_all [Instr.sliceBounds]
 | some mv =>
  obtain⟨mv',rfl,hmv⟩:=hmx.lW
  simp only at hb
  cases hm:iC mv c with
  | none=>simp[hm] at hb
  | some mm =>
   simp only[hm] at hb
   obtain⟨k,rfl,hmc⟩:=iM hm hmv
   have hb1:=fun code=>rE P w k mm cap code (by omega)
   cases hi with
   | none=>simp at hb
   | some hv =>
    obtain⟨hv',rfl,hhv⟩:=hhi.lW
    simp only at hb
    cases hh:iC hv mm with
    | none=>simp[hh] at hb
    | some h1 =>
     simp only[hh] at hb
     obtain⟨k2,rfl,hhm⟩:=iM hh hhv
     have hb2:=fun code=>rE P w k2 h1 mm code hhm
     cases hl:GD lo h1 with
     | none=>simp[hl] at hb
     | some l1 =>
      simp only[hl] at hb;cases hb
      obtain⟨h2,bw⟩:=low hl
      refine⟨?_,h2,hhm,hmc⟩
      have:=bw .slice3C
      cases lo'<;>simp_all [Instr.sliceBounds]
theorem CO (r p n:Nat):Addr.add ⟨r,p,none⟩ n=⟨r,p+n,none⟩:=kH r p n
theorem oT {m:Mp} {size:Nat} {room:Bool} {b o len k r s cap:Nat} {lo hi mx lo' hi' mx':Option Value} {v:Value} (hr:de size room (.slice (some ⟨b,o,none⟩) len k) lo hi mx=some v)
  (hm:m b=some (r,s)) (hk0:0<k) (hl:len≤k / 2) (hkc:k / 2≤cap) (hx:k % 2=1→cap=k / 2) (hz:k % 2=0→s+o+cap*(m.ez b).1≤(m.ez b).2) (Cf:room=true→(m.ez b).1=size)
  (hlo:gS m lo lo') (hhi:gS m hi hi') (hmx:gS m mx mx') (P:Program) (isSlice:Bool) (w:World) :
  ∃l h mm,(Instr.sliceBounds isSlice len cap lo' hi' mx').run P w=.ok (l,h,mm) w∧aD m v (.slice (some (if mm=l then ⟨r,s+o,none⟩ else Addr.add ⟨r,s+o,none⟩ (l*size))) (h - l) (mm - l)):=by
 unfold de at hr
 cases hb:fD len (k / 2) lo hi mx with
 | none=>simp[hb] at hr
 | some lhm =>
  obtain⟨l,h,om⟩:=lhm
  simp only[hb,cond_eq_ite,beq_iff_eq] at hr
  obtain⟨bw,h1,h2,h3⟩:=pA P w isSlice hlo hhi hmx hb hkc hl
  rw[if_neg (by omega)] at hr
  refine⟨l,h,_,bw,?_⟩
  cases om with
  | none =>
   simp only[Option.getD_none] at hr h2 h3 ⊢
   by_cases hlk:l=k / 2
   ·rw[if_pos hlk] at hr
    have hh0:h - l=0:=by omega
    rw[hh0]
    by_cases nW:k % 2=1
    ·rw[if_pos nW] at hr;cases hr
     have:=hx nW
     rw[if_pos (by omega)]
     rw[show cap - l=0 from by omega]
     exact .slice hm (by omega) (by omega) (by omega) (by intro _;rfl) (by intro e;omega)
    ·rw[if_neg nW] at hr;cases hr
     exact .lost
   ·rw[if_neg hlk] at hr
    by_cases hod:(k % 2 == 1 || room)=true
    ·rw[if_pos hod] at hr;cases hr
     rw[if_neg (by omega),CO]
     have e1:s+o+l*size=s+(o+l*size):=by omega
     rw[e1]
     refine .slice hm (by omega) (by omega) (by omega) (fun e=>by have:=hx (by omega);omega) (fun e=>?_)
     have hev:k % 2=0:=by omega
     have hrm:room=true:=by
      simp only[Bool.or_eq_true,beq_iff_eq] at hod
      rcases hod with h|h
      ·omega
      ·exact h
     have hsz:=Cf hrm
     have h1:=hz hev
     rw[hsz] at h1 ⊢
     have:(cap - l)*size+l*size=cap*size:=by rw[←Nat.add_mul];congr 1;omega
     omega
    ·rw[if_neg hod] at hr;cases hr
  | some mm =>
   simp only[Option.getD_some] at hr h2 h3 ⊢
   by_cases hlm:l=mm
   ·rw[if_pos hlm] at hr;cases hr
    rw[if_pos hlm.symm,show h - l=0 from by omega,show mm - l=0 from by omega]
    exact .slice hm (by omega) (by omega) (by omega) (by intro _;rfl) (by intro e;omega)
   ·rw[if_neg hlm] at hr;cases hr
    rw[if_neg (fun e=>hlm e.symm),CO]
    have e1:s+o+l*size=s+(o+l*size):=by omega
    rw[e1]
    exact .slice hm (by omega) (by omega) (by omega) (by intro _;omega) (by intro e;omega)
theorem Ij {B:Nat} {w0:World} {m:Mp} {h:IH} {w:World} (R:Rel B w0 m h w) {size b o len k r s:Nat} (hr:roomy h size (.slice (some ⟨b,o,none⟩) len k)=true) (hm:m b=some (r,s)):(m.ez b).1=size:=by
 unfold roomy at hr
 simp only[Bool.and_eq_true,beq_iff_eq] at hr
 obtain⟨hb,hr⟩:=hr
 cases hg:h.ext.get (b / 2) with
 | none=>simp[hg] at hr
 | some x =>
  rw[hg] at hr
  cases x with
  | cells cs e f =>
   simp only[beq_iff_eq] at hr
   have hb':2*(b / 2)=b:=by omega
   obtain⟨c,el,_,_,h1,_⟩:=R.obj (b / 2) _ r s hg (by rw[hb'];exact hm)
   rw[hb'] at h1
   rw[h1,hr]
  | _=>simp at hr
theorem Rel.cJ {B:Nat} {w0:World} {m:Mp} {h:IH} {w:World} (R:Rel B w0 m h w) (P:Program) {t:TypeId} {x x' v:Value} {lo hi mx lo' hi' mx':Option Value} (hs:cJ P h t x lo hi mx=some v)
  (hx:aD m x x') (hlo:gS m lo lo') (hhi:gS m hi hi') (hmx:gS m mx mx') :
  ∃v',(Instr.sliceAt t x' lo' hi' mx').run P w=.ok v' w∧aD m v v':=by
 unfold Id.cJ at hs
 cases hu:P.underlying t with
 | none=>simp[hu] at hs
 | some d =>
  rw[hu] at hs
  cases d with
  | slice e =>
   simp only at hs
   cases hsz:aK P e with
   | none=>simp[hsz] at hs
   | some size =>
    simp only[hsz] at hs
    cases x with
    | slice a len k =>
     cases a with
     | none =>
      obtain⟨rfl,rfl,rfl⟩:=hx.lk
      unfold de at hs
      simp only[beq_self_eq_true,Bool.and_self,cond_true] at hs
      cases hb:fD 0 0 lo hi mx with
      | none=>simp[hb] at hs
      | some lhm =>
       obtain⟨l,hh,om⟩:=lhm
       simp only[hb] at hs;cases hs
       obtain⟨bw,h1,h2,h3⟩:=pA P w true hlo hhi hmx hb (Nat.le_refl 0) (Nat.le_refl 0)
       have hl0:l=0:=by omega
       have hh0:hh=0:=by omega
       subst hl0;subst hh0
       refine⟨.slice none 0 0,?_,.bD rfl⟩
       have hm0:om.getD 0=0:=by omega
       rw[hm0] at bw
       simp[Instr.sliceAt,Go.run_underlying hu,Instr.slice,bw,bV w hsz]
     | some a =>
      obtain⟨b,o,sp⟩:=a
      cases sp with
      | some q=>simp[de] at hs
      | none =>
      rcases hx.dB with⟨r,s,cap,hm,h1,h2,h3,h4,h5,rfl⟩|⟨rfl,rfl,a,cap,rfl⟩
      ·obtain⟨l,hh,mm,bw,hv⟩:=oT hs hm h1 h2 h3 h4 h5 (fun e=>Ij R e hm) hlo hhi hmx P true w
       refine⟨_,?_,hv⟩
       simp[Instr.sliceAt,Go.run_underlying hu,Instr.slice,bw,bV w hsz]
       split<;>simp
      ·-- a lost slice: it stays one
       unfold de at hs
       cases hb:fD 0 (0 / 2) lo hi mx with
       | none=>simp[hb] at hs
       | some lhm =>
        obtain⟨l,hh,om⟩:=lhm
        simp only[hb,beq_self_eq_true,cond_true] at hs;cases hs
        obtain⟨bw,h1,h2,h3⟩:=pA P w (cap:=cap) true hlo hhi hmx hb (by omega) (by omega)
        have hl0:l=0:=by omega
        have hh0:hh=0:=by omega
        subst hl0;subst hh0
        refine⟨.slice (some (if om.getD cap=0 then a else a.add (0*size))) 0 (om.getD cap - 0),?_,.lost⟩
        simp[Instr.sliceAt,Go.run_underlying hu,Instr.slice,bw,bV w hsz]
        split<;>simp
    | _=>simp[de] at hs
  | array n e =>
   simp only at hs
   cases hsz:aK P e with
   | none=>simp[hsz] at hs
   | some size =>
    cases hA:asAddr x with
    | none=>simp[hsz,hA] at hs
    | some bo =>
     obtain⟨b,o⟩:=bo
     have hp:x=.pointer (some ⟨b,o,none⟩):=by unfold asAddr at hA;split at hA<;>simp_all
     subst hp
     obtain⟨r,s,hm,rfl⟩:=hx.jY
     simp only[hsz,hA] at hs
     obtain⟨l,hh,mm,bw,hv⟩:=oT hs hm (by omega) (by omega) (cap:=n) (by omega) (by omega) (by omega) (by simp) hlo hhi hmx P false w
     refine⟨_,?_,hv⟩
     simp[Instr.sliceAt,Go.run_underlying hu,Instr.sureAddr,bw,bV w hsz]
  | pointer arr =>
   simp only at hs
   cases hua:P.underlying arr with
   | none=>simp[hua] at hs
   | some da =>
    rw[hua] at hs
    cases da with
    | array n e =>
     simp only at hs
     cases hsz:aK P e with
     | none=>simp[hsz] at hs
     | some size =>
      cases hA:Id.asAddr x with
      | none=>simp[hsz,hA] at hs
      | some bo =>
       obtain⟨b,o⟩:=bo
       have hp:x=.pointer (some ⟨b,o,none⟩):=by unfold Id.asAddr at hA;split at hA<;>simp_all
       subst hp
       obtain⟨r,s,hm,rfl⟩:=hx.jY
       simp only[hsz,hA] at hs
       obtain⟨l,hh,mm,bw,hv⟩:=oT hs hm (by omega) (by omega) (cap:=n) (by omega) (by omega) (by omega) (by simp) hlo hhi hmx P false w
       refine⟨_,?_,hv⟩
       simp[Instr.sliceAt,Go.run_underlying hu,Instr.slice,Go.asAddr,Go.run_underlying hua,bw,bV w hsz]
    | _=>simp at hs
  | string =>
   simp only[cond_eq_ite] at hs
   by_cases hp:(plain x && (lo.all plain && hi.all plain && mx.all plain))=true
   ·rw[if_pos hp] at hs
    simp only[Bool.and_eq_true] at hp
    have e0:=hx.cV hp.1
    have ep : ∀{a b:Option Value},gS m a b→a.all plain=true→b=a:=by
     intro a b hab ha
     cases a with
     | none=>exact hab.uQ
     | some v=>obtain⟨v',rfl,hv⟩:=hab.lW;rw[hv.cV (by simpa using ha)]
    rw[e0,ep hlo hp.2.1.1,ep hhi hp.2.1.2,ep hmx hp.2.2]
    obtain⟨hpv,bw⟩:=gJ hs
    refine⟨v,?_,.bP hpv⟩
    have this:=bw w
    simp only[Instr.sliceAt,Sem.run_bind,Go.run_underlying hu,Result.andThen_ok]
    exact this
   ·rw[if_neg hp] at hs;cases hs
  | _=>simp at hs
theorem FM (z:List Value) (hz:z ≠ []) : ∀(n i:Nat),(bq n z)[i]?=if i<n*z.length then z[i % z.length]? else none
 | 0,i=>by simp[bq]
 | n+1,i=>by
  have uY:0<z.length:=List.length_pos_iff.2 hz
  rw[bq]
  by_cases h:i<z.length
  ·rw[List.getElem?_append_left h,if_pos (by rw[Nat.add_mul];omega),Nat.mod_eq_of_lt h]
  ·rw[List.getElem?_append_right (by omega),FM z hz n (i - z.length)]
   have e:(i - z.length) % z.length=i % z.length:=by rw[Nat.mod_eq_sub_mod (a:=i) (by omega)]
   rw[e]
   by_cases h2:i - z.length<n*z.length
   ·rw[if_pos h2,if_pos (by rw[Nat.add_mul];omega)]
   ·rw[if_neg h2,if_neg (by rw[Nat.add_mul];omega)]
theorem mJ (z:List Value) : ∀n,(bq n z).length=n*z.length
 | 0=>by simp[bq]
 | n+1=>by rw[bq,List.length_append,mJ z n,Nat.add_mul];omega
theorem oW (z:Array Value) (n:Nat) (hz:z.size≠0):((Array.range (n*z.size)).map (fun i=>z[i % z.size]!)).toList=bq n z.toList:=by
 apply List.ext_getElem?
 intro i
 have hz':z.toList ≠ []:=by intro e;apply hz;have:=congrArg List.length e;simpa using this
 rw[FM z.toList hz' n i,Array.getElem?_toList,Array.getElem?_map,Array.length_toList]
 by_cases h:i<n*z.size
 ·rw[if_pos h]
  have hm:i % z.size<z.size:=Nat.mod_lt _ (by omega)
  simp[h,hm]
 ·rw[if_neg h]
  simp[h]
theorem sY (n:Nat) (h:n≤1099511627776):IntKind.i64.wrap (n:Int)=(n:Int):=by
 rw[IntKind.wrap_i64];omega
theorem bm.bq {m:Mp} {z:List Value} (h:bm m z z) : ∀n,bm m (Id.bq n z) (Id.bq n z)
 | 0=>.nil m
 | n+1=>h.append (bm.bq h n)
def rr (m:Mp) (w:World) (h h':IH) (run:Result Value) (v:Value):Prop :=
 ∃cs cs' e t v',h'=h.new (.cells cs e none)∧bm m cs cs'∧run=.ok v' (w.alloc (.cells cs'.toArray t)) ∧ ∀m':Mp,m' (2*h.n)=some (w.heap.size,0)→aD m' v v'
theorem pL (P:Program) {m:Mp} {h h':IH} {t:TypeId} {l l' c c' v:Value} (hs:makeSlice P h t l c=some (v,h')) (hl:aD m l l') (hc:aD m c c') (w:World) :
  rr m w h h' ((Instr.makeSlice t l' c').run P w) v:=by
 unfold Id.makeSlice at hs
 cases hu:P.underlying t with
 | none=>simp[hu] at hs
 | some d =>
  rw[hu] at hs
  cases d with
  | slice e =>
   simp only at hs
   cases hln:iC l aN with
   | none=>simp[hln] at hs
   | some ln =>
   cases hcn:iC c aN with
   | none=>simp[hln,hcn] at hs
   | some cn =>
   cases hsz:aK P e with
   | none=>simp[hln,hcn,hsz] at hs
   | some n =>
   cases hby:gP P e with
   | none=>simp[hln,hcn,hsz,hby] at hs
   | some by_ =>
   cases hz:aC P e with
   | none=>simp[hln,hcn,hsz,hby,hz] at hs
   | some z =>
   simp only[hln,hcn,hsz,hby,hz,cond_eq_ite] at hs
   by_cases oc:(Nat.ble ln cn && Nat.ble (cn*(by_+1)) aN && z.length == n)=true
   ·rw[if_pos oc] at hs;cases hs
    simp only[Bool.and_eq_true,Nat.ble_eq,beq_iff_eq] at oc
    obtain⟨⟨hlc,jz⟩,hzn⟩:=oc
    obtain⟨zv,hz0,hzp,rfl⟩:=cP hz
    obtain⟨kl,rfl,hl1⟩:=iM hln hl
    obtain⟨kc,rfl,hc1⟩:=iM hcn hc
    unfold gP at hby
    obtain⟨i,hi,hib⟩:=Option.map_eq_some_iff.1 hby
    have hmul:cn*(by_+1)=cn*by_+cn:=by rw[Nat.mul_add,Nat.mul_one]
    have hbc:by_*cn=cn*by_:=Nat.mul_comm _ _
    unfold aN at jz hl1 hc1
    have WI:=sY ln hl1
    have WJ:=sY cn hc1
    have tN : ∃cells:Array Value,(if cn*n=0 then pure #[] else do pure (←zeroValue e).cells:Sem (Array Value)).run P w=.ok cells w∧((Array.range (cn*n)).map (fun i=>cells[i % cells.size]!)).toList=bq cn zv.cells.toList:=by
     by_cases h0:cn*n=0
     ·rw[if_pos h0]
      refine⟨#[],rfl,?_⟩
      rw[h0]
      have:(bq cn zv.cells.toList).length=0:=by rw[mJ,hzn,h0]
      rw[List.length_eq_zero_iff.1 this];simp
     ·rw[if_neg h0]
      refine⟨zv.cells,by simp[dP w hz0],?_⟩
      have hs:zv.cells.size=n:=by simpa using hzn
      rw[←hs]
      exact oW zv.cells cn (by rw[hs];intro e;apply h0;rw[e,Nat.mul_zero])
    obtain⟨cells,nZ,Ja⟩:=tN
    have hLz:bm m (bq cn zv.cells.toList) (bq cn zv.cells.toList):=bm.bq (aD.bP (m:=m) hzp).cells cn
    refine⟨_,_,n,e,.slice (some ⟨w.heap.size,0,none⟩) ln cn,rfl,hLz,?_,fun m' hm=>?_⟩
    ·have e1:(Array.range (cn*n)).map (fun i=>cells[i % cells.size]!)=(bq cn zv.cells.toList).toArray:=by rw[←Ja]
     simp only[Instr.makeSlice,Sem.run_bind,Go.run_underlying hu,Result.andThen_ok,asInt,asIntOf,Sem.run_pure,run_typeInfo w hi,hib,WI,WJ]
     have Zr:(by_:Int)*(cn:Int)=((by_*cn:Nat):Int):=by simp
     have hno : ¬((decide ((cn:Int)<0) || decide ((by_:Int)*(cn:Int) > 2 ^ 48) || decide ((ln:Int)<0) || decide ((ln:Int) > (cn:Int)))=true):=by
      simp only[Bool.or_eq_true,decide_eq_true_eq,Zr];omega
     rw[if_neg hno]
     simp only[Int.toNat_natCast,Sem.run_bind,run_askRoom,Result.andThen_ok,bV w hsz]
     by_cases h0:cn*n=0
     ·rw[if_pos h0] at nZ ⊢
      simp only[Sem.run_pure] at nZ;cases nZ
      simp only[Sem.run_bind,Sem.run_pure,Result.andThen_ok,Go.newRow,run_newObj]
      rw[e1];rfl
     ·rw[if_neg h0] at nZ ⊢
      simp only[Sem.run_bind,dP w hz0,Result.andThen_ok,Sem.run_pure] at nZ;cases nZ
      simp only[Sem.run_bind,dP w hz0,Sem.run_pure,Result.andThen_ok,Go.newRow,run_newObj]
      rw[e1];rfl
    ·exact .slice (s:=0) hm (by omega) (by omega) (by omega) (by intro _;omega) (by intro e;omega)
   ·rw[if_neg oc] at hs;cases hs
  | _=>simp at hs
theorem rr.rel {B:Nat} {w0:World} {m:Mp} {h h':IH} {w:World} {run:Result Value} {v:Value} (M:rr m w h h' run v) (R:Rel B w0 m h w) (ct:eo m h.n h'.n) :
  ∃v' m' w',run=.ok v' w'∧aD m' v v'∧Rel B w0 m' h' w'∧Step m h w m' h' w':=by
 obtain⟨cs,cs',e,t,v',rfl,hL,bw,hv⟩:=M
 obtain⟨R1,S1⟩:=R.newRow (ct h.n (Nat.le_refl _) (Nat.lt_succ_self _)) hL e t
 exact⟨v',_,_,bw,hv _ (Mp.bh _ _ _ _),R1,S1⟩
theorem ou (P:Program) {m:Mp} {h h':IH} {t:TypeId} {len:Nat} {parts:Array (Nat×Operand)} {ps:List (Nat×Value)} {fr:Fr} {ρ:Operand→Value} {v:Value}
  (hρ : ∀x v,opd fr x=some v→aD m v (ρ x)) (hps:partsOf fr parts.toList=some ps) (hs:buildSlice P h t len ps=some (v,h')) (w:World) :
  rr m w h h' ((Instr.buildSlice t len (parts.map fun(i,x)=>(i,ρ x))).run P w) v:=by
 unfold Id.buildSlice at hs
 cases hu:P.underlying t with
 | none=>simp[hu] at hs
 | some d =>
  rw[hu] at hs
  cases d with
  | slice e =>
   simp only at hs
   cases hsz:aK P e with
   | none=>simp[hsz] at hs
   | some n =>
   cases hz:aC P e with
   | none=>simp[hsz,hz] at hs
   | some z =>
   simp only[hsz,hz,cond_eq_ite] at hs
   by_cases oc:(Nat.ble (len*n) jd && z.length == n)=true
   ·rw[if_pos oc] at hs
    simp only[Bool.and_eq_true,Nat.ble_eq,beq_iff_eq] at oc
    obtain⟨jz,hzn⟩:=oc
    obtain⟨zv,hz0,hzp,rfl⟩:=cP hz
    cases hf:cd (fun i=>some (i*n,n)) (bq len zv.cells.toList) ps with
    | none=>simp[hf] at hs
    | some cells =>
     simp only[hf] at hs;cases hs
     have tN : ∃zc:Array Value,(if len*n=0 then pure #[] else do pure (←zeroValue e).cells:Sem (Array Value)).run P w=.ok zc w∧((Array.range (len*n)).map (fun i=>zc[i % zc.size]!)).toList=bq len zv.cells.toList:=by
      by_cases h0:len*n=0
      ·rw[if_pos h0]
       refine⟨#[],rfl,?_⟩
       rw[h0]
       have:(bq len zv.cells.toList).length=0:=by rw[mJ,hzn,h0]
       rw[List.length_eq_zero_iff.1 this];simp
      ·rw[if_neg h0]
       refine⟨zv.cells,by simp[dP w hz0],?_⟩
       have hs:zv.cells.size=n:=by simpa using hzn
       rw[←hs]
       exact oW zv.cells len (by rw[hs];intro e;apply h0;rw[e,Nat.mul_zero])
     obtain⟨zc,nZ,Ja⟩:=tN
     have hLz:bm m (bq len zv.cells.toList) (((Array.range (len*n)).map (fun i=>zc[i % zc.size]!))).toList:=by
      rw[Ja];exact bm.bq (aD.bP (m:=m) hzp).cells len
     obtain⟨hl,hp⟩:=qE hρ _ _ hps
     obtain⟨r',Vr,hL⟩:=Aj (fun i=>some (i*n,n)) ps (parts.toList.map fun p=>(p.1,ρ p.2)) _ _ _ hLz (by simp[hl]) hp hf
     have Bc:(parts.map fun(x:Nat×Operand)=>match x with|(i,x)=>(i,ρ x)).toList=parts.toList.map fun p=>(p.1,ρ p.2):=by rw[Array.toList_map]
     refine⟨_,r'.toList,n,e,.slice (some ⟨w.heap.size,0,none⟩) len len,rfl,hL,?_,fun m' hm=>?_⟩
     ·simp only[Instr.buildSlice,Sem.run_bind,Go.run_underlying hu,Result.andThen_ok,bV w hsz]
      rw[if_neg (by unfold jd at jz;omega)]
      by_cases h0:len*n=0
      ·rw[if_pos h0] at nZ ⊢
       simp only[Sem.run_pure] at nZ;cases nZ
       simp only[Sem.run_bind,Sem.run_pure,Result.andThen_ok,Bc,Vr,Go.newRow,run_newObj]
       rfl
      ·rw[if_neg h0] at nZ ⊢
       simp only[Sem.run_bind,dP w hz0,Result.andThen_ok,Sem.run_pure] at nZ;cases nZ
       simp only[Sem.run_bind,dP w hz0,Sem.run_pure,Result.andThen_ok,Bc,Vr,Go.newRow,run_newObj]
       rfl
     ·exact .slice (s:=0) hm (by omega) (by omega) (by omega) (by intro _;omega) (by intro e;omega)
   ·rw[if_neg oc] at hs;cases hs
  | _=>simp at hs
theorem wB {m:Mp} {i i':Value} {n:Int} (h:aD m i i') (hi:idxOf i=some n) : ∃k,i'=.int k n:=by
 unfold idxOf at hi
 split at hi
 ·cases hi;exact⟨_,h.cj rfl⟩
 ·cases hi
theorem AZ {m:Mp} (P:Program) {t:TypeId} {x x' i i' v:Value} (hs:indexAddr P t x i=some v) (hx:aD m x x') (hi:aD m i i') (w:World) :
  ∃v',(Instr.indexAt t x' i').run P w=.ok v' w∧aD m v v':=by
 unfold Id.indexAddr at hs
 split at hs
 ·rename_i n e b o j hu hj
  obtain⟨k,rfl⟩:=wB hi hj
  obtain⟨r,s,hm,rfl⟩:=hx.jY
  split at hs
  ·rename_i size j hsz
   simp only[cond_eq_ite,Nat.blt_eq] at hs
   by_cases hlt:j<n
   ·rw[if_pos hlt] at hs;cases hs
    refine⟨.pointer (some ⟨r,s+(o+j*size),none⟩),?_,.ptr hm⟩
    have h2:(0:Int)≤Int.ofNat j∧Int.ofNat j<(n:Int):=by constructor<;>simp<;>omega
    simp only[Instr.indexAt,asIntOf,Sem.run_bind,Sem.run_pure,Result.andThen_ok,Go.run_underlying hu,Instr.sureAddr]
    rw[if_pos h2]
    simp[bV w hsz,kH,Nat.add_assoc]
   ·rw[if_neg hlt] at hs;cases hs
  ·cases hs
 ·rename_i e b o n k j hu hj
  obtain⟨ki,rfl⟩:=wB hi hj
  split at hs
  ·rename_i size j hsz
   simp only[cond_eq_ite,Nat.blt_eq] at hs
   by_cases hlt:j<n
   ·rw[if_pos hlt] at hs;cases hs
    rcases hx.dB with⟨r,s,cap,hm,_,_,_,_,_,rfl⟩|⟨h0,_⟩
    ·refine⟨.pointer (some ⟨r,s+(o+j*size),none⟩),?_,.ptr hm⟩
     have h2:(0:Int)≤Int.ofNat j∧Int.ofNat j<(n:Int):=by constructor<;>simp<;>omega
     simp only[Instr.indexAt,asIntOf,Sem.run_bind,Sem.run_pure,Result.andThen_ok,Go.run_underlying hu]
     rw[if_pos h2]
     simp[bV w hsz,kH,Nat.add_assoc]
    ·omega
   ·rw[if_neg hlt] at hs;cases hs
  ·cases hs
 ·cases hs
theorem Fv {m:Mp} (P:Program) {t:TypeId} {cs cs':Array Value} {off:Nat} {v:Value} (hs:partOf P t cs off=some v) (hx:bm m cs.toList cs'.toList) (w:World) :
  ∃v',(part t cs' off).run P w=.ok v' w∧aD m v v':=by
 unfold Id.partOf at hs
 split at hs
 ·rename_i n ha hsz
  cases hs
  refine⟨.agg (cs'.extract off (off+n)),?_,aD.kf ?_⟩
  ·simp[part,oP w ha,bV w hsz]
  ·simp only[Array.toList_extract]
   have:=(hx.drop off).take (off+n - off)
   simpa [List.extract_eq_take_drop] using this
 ·rename_i ha
  obtain⟨v',h1,h2⟩:=hx.get (i:=off) (v:=v) (by simpa using hs)
  refine⟨v',?_,h2⟩
  have:cs'[off]?=some v':=by simpa using h1
  simp[part,oP w ha,this]
 ·cases hs
theorem vf (kind:TypeDesc) (k:Value) : ∀(es es':List MapEntry) (i:Nat),es.map (·.key)=es'.map (·.key) →
  (Instr.findNow kind k es i).map (fun o=>o.map (·.1))=(Instr.findNow kind k es' i).map (fun o=>o.map (·.1))
 | [],[],i,_=>rfl
 | [],_ :: _,i,h=>by simp at h
 | _ :: _,[],i,h=>by simp at h
 | e :: es,e' :: es',i,h=>by
  simp only[List.map_cons,List.cons.injEq] at h
  have ih:=vf kind k es es' (i+1) h.2
  simp only[Instr.findNow,h.1]
  cases Instr.sameNow kind k e'.key with
  | none=>rfl
  | some b=>cases b<;>simp[ih]
theorem Ah (kind:TypeDesc) (k:Value) : ∀(es:List MapEntry) (i j:Nat) (v:Value),Instr.findNow kind k es i=some (some (j,v))→i≤j ∧ ∃e,es[j - i]?=some e∧e.val=v
 | [],i,j,v,h=>by simp[Instr.findNow] at h
 | e :: es,i,j,v,h=>by
  simp only[Instr.findNow] at h
  split at h
  ·simp only[Option.some.injEq,Prod.mk.injEq] at h
   obtain⟨rfl,rfl⟩:=h
   exact⟨Nat.le_refl _,e,by simp,rfl⟩
  ·obtain⟨h1,e',h2,h3⟩:=Ah kind k es (i+1) j v h
   refine⟨by omega,e',?_,h3⟩
   rw[show j - i=(j - (i+1))+1 from by omega]
   simpa using h2
  ·cases h
theorem pN (P:Program) (w:World) (kt:TypeId) (k:Value) : ∀(es es':List MapEntry) (i:Nat) (r:Option (Nat×Value)),es.map (·.key)=es'.map (·.key)→aw P (Instr.findAsking kt k es i)=some r →
  ∃r',(Instr.findAsking kt k es' i).run P w=.ok r' w∧r'.map (·.1)=r.map (·.1) ∧ ∀j v,r'=some (j,v)→i≤j ∧ ∃e,es'[j - i]?=some e∧e.val=v
 | [],[],i,r,_,h=>by
  simp only[Instr.findAsking] at h
  cases h
  exact⟨none,rfl,rfl,by simp⟩
 | [],_ :: _,i,r,h,_=>by simp at h
 | _ :: _,[],i,r,h,_=>by simp at h
 | e :: es,e' :: es',i,r,h,hp=>by
  simp only[List.map_cons,List.cons.injEq] at h
  have pb : ∀{α β:Type} (s:Sem α) (f:α→Sem β) (b:β),aw P (s.bind f)=some b → ∃a,aw P s=some a∧aw P (f a)=some b:=by
   intro α β s f b
   induction s with
   | pure a=>intro h;exact⟨a,rfl,h⟩
   | program g ih=>intro h;simp only[Sem.bind,aw] at h ⊢;exact ih P h
   | _=>intro h;simp[Sem.bind,aw] at h
  have hp':aw P ((Op.equal kt k e.key).bind fun b=>if b=true then pure (some (i,e.val)) else Instr.findAsking kt k es (i+1))=some r:=hp
  obtain⟨b,hb,qQ⟩:=pb _ _ _ hp'
  have bw:=ja P _ _ hb w
  rw[h.1] at bw
  cases b with
  | true =>
   have hr:r=some (i,e.val):=by
    have:aw P (Sem.pure (some (i,e.val)))=some r:=qQ
    simp only[aw] at this;cases this;rfl
   subst hr
   refine⟨some (i,e'.val),?_,rfl,?_⟩
   ·simp[Instr.findAsking,bw]
   ·intro j v hjv;cases hjv;exact⟨Nat.le_refl _,e',by simp,rfl⟩
  | false =>
   obtain⟨r',h1,h2,h3⟩:=pN P w kt k es es' (i+1) r h.2 qQ
   refine⟨r',?_,h2,?_⟩
   ·simp[Instr.findAsking,bw,h1]
   ·intro j v hjv
    obtain⟨a,e'',c,d⟩:=h3 j v hjv
    refine⟨by omega,e'',?_,d⟩
    rw[show j - i=(j - (i+1))+1 from by omega]
    simpa using c
theorem Du {P:Program} {α β:Type} {s:Sem α} {f:α→Sem β} {b:β} (h:aw P (s >>= f)=some b) : ∃a,aw P s=some a∧aw P (f a)=some b:=by
 have h':aw P (s.bind f)=some b:=h
 clear h
 revert h'
 induction s with
 | pure a=>intro h;exact⟨a,rfl,h⟩
 | program g ih=>intro h;simp only[Sem.bind,aw] at h ⊢;exact ih P h
 | _=>intro h;simp[Sem.bind,aw] at h
theorem BB {P:Program} {m:Mp} {kt:TypeId} {k:Value} {es:List (Value×Value)} {c:Array MapEntry} {r:Option Nat} (hf:Ai P kt k es=some r) (hm:rq m es c) (w:World) :
  plain k=true∧(Instr.checkKey c.isEmpty 10000 kt k).run P w=.ok () w ∧ ∃r',(Instr.findKey kt k c.toList).run P w=.ok r' w∧r'.map (·.1)=r ∧ ∀j v,r'=some (j,v) → ∃e,c[j]?=some e∧e.val=v:=by
 unfold Ai at hf
 simp only[cond_eq_ite] at hf
 by_cases hp:plain k=true
 ·rw[if_pos hp] at hf
  have W9:c.isEmpty=es.isEmpty:=by
   have:=hm.1
   rw[Bool.eq_iff_iff,Array.isEmpty_iff_size_eq_zero,List.isEmpty_iff,←List.length_eq_zero_iff];omega
  cases h1:aw P (Instr.checkKey es.isEmpty 10000 kt k) with
  | none=>simp[h1] at hf
  | some u =>
   cases h2:aw P (Instr.findKey kt k (iP es)) with
   | none=>simp[h1,h2] at hf
   | some r0 =>
    simp only[h1,h2] at hf;cases hf
    have Vq:(iP es).map (·.key)=c.toList.map (·.key):=by
     apply List.ext_getElem?
     intro i
     simp only[iP,List.map_map,List.getElem?_map,Array.getElem?_toList]
     by_cases hi:i<es.length
     ·have hi':i<c.size:=by have:=hm.1;omega
      have:=hm.2 i es[i] c[i] (List.getElem?_eq_getElem hi) (by simp[hi'])
      simp[hi,hi',this.1.1]
     ·have hi' : ¬i<c.size:=by have:=hm.1;omega
      simp[List.getElem?_eq_none (Nat.le_of_not_lt hi),Array.getElem?_eq_none (Nat.le_of_not_lt hi')]
    refine⟨hp,by rw[W9];exact ja P _ _ h1 w,?_⟩
    unfold Instr.findKey at h2 ⊢
    obtain⟨d,hd,h3⟩:=Du h2
    have ZM:=ja P _ _ hd w
    simp only[Sem.run_bind,ZM,Result.andThen_ok]
    have hk:=vf d k (iP es) c.toList 0 Vq
    cases h4:Instr.findNow d k (iP es) 0 with
    | some r1 =>
     rw[h4] at h3 hk
     have hr1:r1=r0:=by
      have:aw P (Sem.pure r1)=some r0:=h3
      simp only[aw] at this;cases this;rfl
     subst hr1
     cases h5:Instr.findNow d k c.toList 0 with
     | none=>rw[h5] at hk;simp at hk
     | some r2 =>
      rw[h5] at hk
      simp only[Option.map_some,Option.some.injEq] at hk
      refine⟨r2,rfl,hk.symm,fun j v hjv=>?_⟩
      subst hjv
      obtain⟨_,e,a,b⟩:=Ah d k c.toList 0 j v h5
      exact⟨e,by simpa using a,b⟩
    | none =>
     rw[h4] at h3 hk
     cases h5:Instr.findNow d k c.toList 0 with
     | some r2=>rw[h5] at hk;simp at hk
     | none =>
      obtain⟨r',a,b,c'⟩:=pN P w kt k (iP es) c.toList 0 r0 Vq h3
      exact⟨r',a,b,fun j v hjv=>let ⟨_,e,x,y⟩:=c' j v hjv;⟨e,by simpa using x,y⟩⟩
 ·rw[if_neg hp] at hf;cases hf
theorem Rel.B0 {B:Nat} {w0:World} {m:Mp} {h:IH} {w:World} (R:Rel B w0 m h w) {k r s:Nat} {es:List (Value×Value)} (hk:mapOf h k=some es) (hm:m k=some (r,s)) :
  h.ext.get (k / 2)=some (.map es)∧2*(k / 2)=k ∧ ∃c,w.heap[r]?=some (.map c es.length)∧rq m es c:=by
 unfold mapOf at hk
 simp only[cond_eq_ite,beq_iff_eq] at hk
 by_cases hb:k % 2=1
 ·rw[if_pos hb] at hk;cases hk
 ·rw[if_neg hb] at hk
  have hkk:2*(k / 2)=k:=by omega
  cases hg:h.ext.get (k / 2) with
  | none=>simp[hg] at hk
  | some o =>
   rw[hg] at hk
   cases o with
   | map es' =>
    simp only at hk;cases hk
    obtain⟨_,c,h1,h2⟩:=R.obj (k / 2) _ r s hg (by rw[hkk];exact hm)
    exact⟨rfl,hkk,c,h1,h2⟩
   | _=>simp at hk
theorem run_getObj_map (P:Program) {w:World} {r:Nat} {c:Array MapEntry} {clock:Nat} (h:w.heap[r]?=some (.map c clock)):(getObj r).run P w=.ok (.map c clock) w:=by
 simp only[getObj,Sem.run,h]
theorem run_setObj_map (P:Program) {w:World} {r:Nat} {c:Array MapEntry} {clock:Nat} (h:w.heap[r]?=some (.map c clock)) (o:Obj):(Go.setObj r o).run P w=.ok () (World.put w r o):=by
 simp only[Go.setObj,Sem.run,h];rfl
def mg (kt et:TypeId) (k:Value) (ok:Bool) (c:Array MapEntry):Sem Value:=do
 Instr.checkKey c.isEmpty 10000 kt k
 let (v,ok') ←match ←Instr.findKey kt k c.toList with
  | some (_,v)=>pure (v,true)
  | none=>pure (←zeroValue et,false)
 pure (if ok then .tuple #[v,.bool ok'] else v)
theorem ux {m:Mp} (P:Program) (w:World) {kt et:TypeId} {k k' v:Value} {ok:Bool} {es:List (Value×Value)} {c:Array MapEntry} (hcm:rq m es c) (hk:aD m k k')
  (hl:(match Ai P kt k es with
   | none=>none
   | some none=>match pT P et with
    | some z=>bif plain z then some (bif ok then Value.tuple #[z,.bool false] else z) else none
    | none=>none
   | some (some i)=>(es[i]?).map fun e=>bif ok then .tuple #[e.2,.bool true] else e.2)=some v) :
  ∃v',(mg kt et k' ok c).run P w=.ok v' w∧aD m v v':=by
 cases hf:Ai P kt k es with
 | none=>simp[hf] at hl
 | some ri =>
  obtain⟨hp,hck,r',u7,hr',hat⟩:=BB hf hcm w
  have ek:=hk.cV hp
  subst ek
  simp only[hf] at hl
  cases ri with
  | none =>
   have hn:r'=none:=by cases r'<;>simp_all
   subst hn
   simp only at hl
   cases hz:pT P et with
   | none=>simp[hz] at hl
   | some z =>
    simp only[hz,cond_eq_ite] at hl
    by_cases hzp:plain z=true
    ·rw[if_pos hzp] at hl
     cases ok with
     | false =>
      simp only[Bool.false_eq_true,if_false] at hl;cases hl
      exact⟨_,by simp[mg,hck,u7,dP w hz],.bP hzp⟩
     | true =>
      simp only[if_true] at hl;cases hl
      exact⟨_,by simp[mg,hck,u7,dP w hz],aD.fx (.cons (.bP hzp) (.cons (.bD rfl) (.nil m)))⟩
    ·rw[if_neg hzp] at hl;cases hl
  | some i =>
   simp only at hl
   cases hei:es[i]? with
   | none=>simp[hei] at hl
   | some e =>
    simp only[hei,Option.map_some,cond_eq_ite] at hl
    obtain⟨x,hx⟩ : ∃x,r'=some (i,x):=by
     cases r' with
     | none=>simp at hr'
     | some p=>obtain⟨a,b⟩:=p;simp at hr';subst hr';exact⟨b,rfl⟩
    subst hx
    obtain⟨e',he',hev⟩:=hat i x rfl
    have hE:=hcm.2 i e e' hei he'
    have hv:aD m e.2 x:=by rw[←hev];exact hE.1.2.2
    cases ok with
    | false =>
     simp only[Bool.false_eq_true,if_false] at hl;cases hl
     exact⟨x,by simp[mg,hck,u7],hv⟩
    | true =>
     simp only[if_true] at hl;cases hl
     exact⟨.tuple #[x,.bool true],by simp[mg,hck,u7],aD.fx (.cons hv (.cons (.bD rfl) (.nil m)))⟩
theorem Rel.lookup {B:Nat} {w0:World} {m:Mp} {h:IH} {w:World} (R:Rel B w0 m h w) (P:Program) {mt:TypeId} {mv mv' k k' v:Value} {ok:Bool} (hl:lookup P h mt mv k ok=some v) (hmv:aD m mv mv') (hk:aD m k k') :
  ∃v',(Instr.lookup mt mv' k' ok).run P w=.ok v' w∧aD m v v':=by
 unfold Id.lookup at hl
 cases hu:P.underlying mt with
 | none=>simp[hu] at hl
 | some d =>
  rw[hu] at hl
  cases d with
  | map kt et =>
   simp only at hl
   cases hes:entriesOf h mv with
   | none=>rw[hes] at hl;cases hl
   | some es =>
    rw[hes] at hl
    simp only at hl
    unfold entriesOf at hes
    split at hes
    ·cases hes
     have:=hmv.cj rfl
     subst this
     obtain⟨v',h1,h2⟩:=ux P w (c:=#[]) ⟨rfl,by simp⟩ hk hl
     refine⟨v',?_,h2⟩
     rw[←h1]
     simp only[Instr.lookup,mg,Sem.run_bind,Go.run_underlying hu,Result.andThen_ok,Sem.run_pure]
     congr 1
    ·rename_i r
     cases hmv with
     | bD h=>simp[Id.bD] at h
     | map hm =>
      obtain⟨_,_,c,nY,hcm⟩:=R.B0 hes hm
      obtain⟨v',h1,h2⟩:=ux P w hcm hk hl
      refine⟨v',?_,h2⟩
      rw[←h1]
      simp only[Instr.lookup,mg,Sem.run_bind,Go.run_underlying hu,Result.andThen_ok,Sem.run_pure,run_getObj_map P nY]
      congr 1
    ·cases hes
  | _=>simp at hl
theorem Rel.mapUpdate {B:Nat} {w0:World} {m:Mp} {h h':IH} {w:World} (R:Rel B w0 m h w) (P:Program) {mt:TypeId} {mv mv' k k' v v':Value} (hl:mapUpdate P h mt mv k v=some h') (hmv:aD m mv mv') (hk:aD m k k') (hv:aD m v v') :
  ∃w',(Instr.mapUpdate mt mv' k' v').run P w=.ok () w'∧Rel B w0 m h' w'∧Step m h w m h' w':=by
 unfold Id.mapUpdate at hl
 split at hl
 ·rename_i kt et r hu
  cases hmv with
  | bD h=>simp[Id.bD] at h
  | @map _ r' s hm =>
   cases hes:mapOf h r with
   | none=>simp[hes] at hl
   | some es =>
    simp only[hes,cond_eq_ite] at hl
    obtain⟨hg,hrr,c,nY,hcm⟩:=R.B0 hes hm
    have hm':m (2*(r / 2))=some (r',s):=by rw[hrr];exact hm
    have hs0:s=0:=(R.obj (r / 2) _ r' s hg hm').1
    by_cases hck:Qd (aw P (Instr.checkKey false 10000 kt k))=true
    ·rw[if_pos hck] at hl
     have ZO : ∀w:World,(Instr.checkKey false 10000 kt k).run P w=.ok () w:=by
      cases hx:aw P (Instr.checkKey false 10000 kt k) with
      | none=>rw[hx] at hck;cases hck
      | some u=>exact ja P _ _ hx
     cases hf:Ai P kt k es with
     | none=>simp[hf] at hl
     | some ri =>
      obtain⟨hp,_,r0,u7,hr0,hat⟩:=BB hf hcm w
      have ek:=hk.cV hp
      subst ek
      simp only[hf] at hl
      cases ri with
      | none =>
       simp only at hl;cases hl
       have hn:r0=none:=by cases r0<;>simp_all
       subst hn
       obtain⟨R1,S1⟩:=R.setObj hg rfl rfl hm' (o1:=.map (es ++ [(k',v)])) (o':=.map (c.push { key:=k',val:=v',born:=es.length }) (es.length+1)) rfl
        (fun w' z hw'=>⟨hs0,c.push { key:=k',val:=v',born:=es.length },by rw[hw',List.length_append];rfl,by simp[hcm.1],fun i e e' he he'=>by
         rw[Array.getElem?_push] at he'
         by_cases hi:i<es.length
         ·rw[List.getElem?_append_left hi] at he
          rw[if_neg (by have:=hcm.1;omega)] at he'
          exact hcm.2 i e e' he he'
         ·rw[List.getElem?_append_right (by omega)] at he
          have hi0:i - es.length=0:=by
           rcases Nat.eq_zero_or_pos (i - es.length) with h|h
           ·exact h
           ·rw[List.getElem?_eq_none (by simp;omega)] at he;cases he
          rw[hi0] at he;simp at he;subst he
          rw[if_pos (by have:=hcm.1;omega)] at he';cases he'
          exact⟨⟨rfl,hp,hv⟩,by show es.length=i;omega⟩⟩)
       refine⟨_,?_,R1,S1⟩
       simp[Instr.mapUpdate,Go.run_underlying hu,run_getObj_map P nY,ZO,u7,run_setObj_map P nY]
      | some i =>
       simp only at hl
       cases hei:es[i]? with
       | none=>simp[hei] at hl
       | some e =>
        simp only[hei] at hl
        by_cases dW:Instr.sameBits 10000 e.1 k'=true
        ·rw[if_pos dW] at hl;cases hl
         obtain⟨x,hx⟩ : ∃x,r0=some (i,x):=by
          cases r0 with
          | none=>simp at hr0
          | some p=>obtain⟨a,b⟩:=p;simp at hr0;subst hr0;exact⟨b,rfl⟩
         subst hx
         obtain⟨e',he',_⟩:=hat i x rfl
         have hE:=hcm.2 i e e' hei he'
         have hil:i<es.length:=by
          rcases Nat.lt_or_ge i es.length with h|h
          ·exact h
          ·rw[List.getElem?_eq_none h] at hei;cases hei
         obtain⟨R1,S1⟩:=R.setObj hg rfl rfl hm' (o1:=.map (es.set i (k',v))) (o':=.map (c.modify i fun e => { e with key:=k',val:=v' }) es.length) rfl
          (fun w' z hw'=>⟨hs0,c.modify i fun e => { e with key:=k',val:=v' },by rw[hw',List.length_set],by simp[hcm.1],fun j a a' ha ha'=>by
           rw[Array.getElem?_modify] at ha'
           by_cases hj:i=j
           ·subst hj
            rw[List.getElem?_set_self (by simpa using hil)] at ha;cases ha
            simp only[if_true,he',Option.map_some,Option.some.injEq] at ha'
            subst ha'
            exact⟨⟨rfl,hp,hv⟩,hE.2⟩
           ·rw[List.getElem?_set_ne hj] at ha
            simp only[hj,if_false] at ha'
            exact hcm.2 j a a' ha ha'⟩)
         refine⟨_,?_,R1,S1⟩
         have hkt:(Instr.keyThatStays (((c[i]?).map (·.key)).getD k') k').run P w=.ok k' w:=by
          simp only[he',Option.map_some,Option.getD_some,Instr.keyThatStays,hE.1.1,dW,if_true,Sem.run_pure]
         simp[Instr.mapUpdate,Go.run_underlying hu,run_getObj_map P nY,ZO,u7,hkt,run_setObj_map P nY]
        ·rw[if_neg dW] at hl;cases hl
    ·rw[if_neg hck] at hl;cases hl
 ·cases hl
theorem BA {P:Program} {m:Mp} {t:TypeId} {x y x' y':Value} {b:Bool} (h:uS P t x y=some b) (hx:aD m x x') (hy:aD m y y') (w:World):(Op.equal t x' y').run P w=.ok b w:=by
 unfold uS at h
 cases hu:P.underlying t with
 | none=>simp[hu] at h
 | some d =>
  simp only[hu] at h
  show(Op.equalIn (9999+1) t x' y').run P w=_
  generalize 9999=depth
  unfold tC at h
  split at h<;>cases h<;>cases hx<;>cases hy<;>first
   | (simp_all [Id.bD];done)
   | simp[Op.equalIn,Go.run_underlying hu]
theorem aD.unit (m:Mp):aD m (.tuple #[]) (.tuple #[]):=.tuple rfl fun i v v' h=>by simp at h
theorem FK {z:List Value} {v:Value} : ∀{n:Nat},v∈bq n z→v∈z
 | 0,h=>by cases h
 | n+1,h=>by
  rw[bq,List.mem_append] at h
  rcases h with h|h
  ·exact h
  ·exact FK h
theorem yI (z:Array Value) (n:Nat) (hz:z.size≠0):(Builtin.zeroCells z n).toList=bq n z.toList:=by
 rw[←oW z n hz]
 simp[Builtin.zeroCells]
theorem Rel.clear {B:Nat} {w0:World} {m:Mp} {h h':IH} {w:World} (R:Rel B w0 m h w) (P:Program) {ts:Array TypeId} {ty t:TypeId} {x x' v:Value}
  (h0:ts[0]?=some t) (hc:vx P h t x=some (v,h')) (hx:aD m x x') :
  ∃w',(Builtin.clear_ ts ty #[x']).run P w=.ok v w'∧aD m v v∧Rel B w0 m h' w'∧Step m h w m h' w':=by
 unfold vx at hc
 have e0 : ∀y:Value,(#[y]:Array Value)[0]?=some y:=fun _=>rfl
 cases hdt:P.underlying t with
 | none=>simp[hdt] at hc
 | some td =>
  rw[hdt] at hc
  cases td with
  | slice e =>
   split at hc
   ·cases hc
    obtain⟨rfl,rfl,rfl⟩:=hx.lk
    refine⟨w,?_,.unit m,R,Step.refl _ _ _⟩
    simp only[Builtin.clear_,h0,e0,Sem.run_bind,Go.run_underlying hdt,Result.andThen_ok,Sem.run_pure]
   ·rename_i h1 h2 b o dl dk he
    cases he
    have hdv : ∃r q cap a,x'=.slice (some a) dl cap∧(0<dk→m b=some (r,q)∧a=⟨r,q+o,none⟩)∧(dk=0→dl=0):=by
     rcases hx.dB with⟨r,q,cap,hm,h1,_,_,_,_,rfl⟩|⟨hl,hk,a,cap,rfl⟩
     ·exact⟨r,q,cap,_,rfl,fun _=>⟨hm,rfl⟩,fun e=>by omega⟩
     ·subst hl;exact⟨0,0,cap,a,rfl,fun e=>by omega,fun _=>rfl⟩
    obtain⟨r,q,cap,a,rfl,uY,hzero⟩:=hdv
    simp only[cond_eq_ite,beq_iff_eq] at hc
    by_cases hn:dl=0
    ·rw[if_pos hn] at hc;cases hc
     subst hn
     refine⟨w,?_,.unit m,R,Step.refl _ _ _⟩
     simp only[Builtin.clear_,h0,e0,Sem.run_bind,Go.run_underlying hdt,Result.andThen_ok,Sem.run_pure]
    ·rw[if_neg hn] at hc
     cases hz:aC P e with
     | none=>simp[hz] at hc
     | some z =>
      simp only[hz] at hc
      by_cases ef:(z.isEmpty || !(z.all aA))=true
      ·rw[if_pos ef] at hc;cases hc
      rw[if_neg ef] at hc
      simp only[Bool.or_eq_true,not_or,Bool.not_eq_true,Bool.not_eq_false'] at ef
      obtain⟨h1w,hw1,hv1⟩:=Option.map_eq_some_iff.1 hc
      cases hv1
      obtain⟨zv,hz0,hzp,rfl⟩:=cP hz
      have hk:0<dk:=by
       rcases Nat.eq_zero_or_pos dk with e|e
       ·exact absurd (hzero e) hn
       ·exact e
      obtain⟨hm,rfl⟩:=uY hk
      have hL:bm m (bq dl zv.cells.toList) (bq dl zv.cells.toList):=bm.bq (aD.bP (m:=m) hzp).cells dl
      obtain⟨w',hr1,R1,S1⟩:=R.wr hw1 hm hL (fun v hv=>List.all_eq_true.1 ef.2 v (FK hv)) P
      have hsz:zv.cells.size≠0:=by
       intro e
       have:zv.cells.toList = []:=List.eq_nil_of_length_eq_zero (by rw[Array.length_toList];exact e)
       rw[this] at ef;simp at ef
      rw[←yI _ _ hsz] at hr1
      refine⟨w',?_,.unit m,R1,S1⟩
      obtain⟨n,rfl⟩ : ∃n,dl=n+1:=⟨dl - 1,by omega⟩
      simp only[Builtin.clear_,h0,e0,Sem.run_bind,Go.run_underlying hdt,Result.andThen_ok,dP w hz0,hr1,Sem.run_pure]
   ·cases hc
  | _=>simp at hc
theorem Rel.cap {m:Mp} {w:World} (P:Program) {ts:Array TypeId} {ty t:TypeId} {x x' v:Value} (h0:ts[0]?=some t) (hc:Xu P t x=some v) (hx:aD m x x') :
  (Builtin.cap_ ts ty #[x']).run P w=.ok v w∧plain v=true:=by
 unfold Xu at hc
 have e0 : ∀y:Value,(#[y]:Array Value)[0]?=some y:=fun _=>rfl
 cases hdt:P.underlying t with
 | none=>simp[hdt] at hc
 | some td =>
  rw[hdt] at hc
  cases td with
  | slice e =>
   split at hc
   ·cases hc
    obtain⟨rfl,rfl,rfl⟩:=hx.lk
    refine⟨?_,rfl⟩
    simp only[Builtin.cap_,h0,e0,Sem.run_bind,Go.run_underlying hdt,Result.andThen_ok,Sem.run_pure]
    rfl
   ·rename_i h1 h2 b o dl dk he
    cases he
    simp only[cond_eq_ite,beq_iff_eq] at hc
    by_cases hn:dk % 2=1
    ·rw[if_pos hn] at hc;cases hc
     rcases hx.dB with⟨r,q,cap,hm,h3,h4,h5,h6,h7,rfl⟩|⟨hl,hk,a,cap,rfl⟩
     ·refine⟨?_,rfl⟩
      simp only[Builtin.cap_,h0,e0,Sem.run_bind,Go.run_underlying hdt,Result.andThen_ok,Sem.run_pure,h6 hn]
      rfl
     ·omega
    ·rw[if_neg hn] at hc;cases hc
   ·cases hc
  | _=>simp at hc
end Go.Id
