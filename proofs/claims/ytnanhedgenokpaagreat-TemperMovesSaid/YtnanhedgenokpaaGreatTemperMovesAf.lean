/-
  The ideal machine: slices' expressions, makes, addresses, maps. The ideal machine: literals, addresses, parts, maps, builtins.
-/
import Derived.Test.YtnanhedgenokpaaGreatTemperMovesAe
import Derived.Laws.BitsLemmas
set_option linter.unusedVariables false
set_option linter.unusedSimpArgs false
set_option linter.defProp false
set_option linter.deprecated false
namespace Go.Id
open Go Go.RowKit
theorem iv {m:Mp} {v v':Value} {most n:Nat} (h:jX v most=some n) (hv:aB m v v') : ∃k,v'=.int k (n:Int)∧n≤most:=by
 unfold jX at h
 split at h
 ·rename_i k i
  have hv':=hv.dw rfl
  subst hv'
  cases i with
  | ofNat j =>
   simp only[cond_eq_ite,Nat.ble_eq] at h
   by_cases hj:j≤most
   ·rw[if_pos hj] at h;cases h;exact⟨k,rfl,hj⟩
   ·rw[if_neg hj] at h;cases h
  | negSucc j=>simp at h
 ·cases h
theorem px (P:Program) (w:World) (k:IntKind) (n y:Nat) (code:BoundsCode) (h:n≤y):(Instr.sliceBound (.int k (n:Int)) y code).run P w=.ok n w:=by
 simp only[Instr.sliceBound,asIntOf,Sem.run_bind,Sem.run_pure,Result.andThen_ok]
 rw[if_pos (by omega)]
 simp
def gv (m:Mp):Option Value→Option Value→Prop
 | none,none=>True
 | some v,some v'=>aB m v v'
 | _,_=>False
theorem gv.sf {m:Mp} {x:Option Value} (h:gv m none x):x=none:=by cases x<;>simp_all [gv]
theorem gv.lj {m:Mp} {v:Value} {x:Option Value} (h:gv m (some v) x) : ∃v',x=some v'∧aB m v v':=by
 cases x with
 | none=>simp[gv] at h
 | some v'=>exact⟨v',rfl,h⟩
theorem ny (P:Program) (w:World) {m:Mp} (isSlice:Bool) {len cap c:Nat} {lo hi mx lo' hi' mx':Option Value} (hlo:gv m lo lo') (hhi:gv m hi hi') (hmx:gv m mx mx')
  {l h:Nat} {om:Option Nat} (hb:fx len c lo hi mx=some (l,h,om)) (hc:c≤cap) (hlen:len≤c) :
  (Instr.sliceBounds isSlice len cap lo' hi' mx').run P w=.ok (l,h,om.getD cap) w∧l≤h∧h≤om.getD c∧om.getD c≤c:=by
 have low : ∀{h l:Nat},Dd lo h=some l→l≤h ∧ ∀code,(match lo' with|some v=>Instr.sliceBound v h code|none=>pure 0:Sem Nat).run P w=.ok l w:=by
  intro h l hl
  unfold Dd at hl
  cases lo with
  | none=>rw[hlo.sf];simp only at hl;cases hl;exact⟨Nat.zero_le _,fun _=>rfl⟩
  | some v =>
   obtain⟨v',rfl,hv⟩:=hlo.lj
   obtain⟨k,rfl,hle⟩:=iv hl hv
   exact⟨hle,fun code=>px P w k l h code hle⟩
 unfold fx at hb
 cases mx with
 | none =>
  rw[hmx.sf]
  simp only at hb
  cases hh:Lg hi len c with
  | none=>simp[hh] at hb
  | some h1 =>
   simp only[hh] at hb
   cases hl:Dd lo h1 with
   | none=>simp[hl] at hb
   | some l1 =>
    simp only[hl] at hb;cases hb
    obtain⟨h2,bf⟩:=low hl
    unfold Lg at hh
    cases hi with
    | none =>
     rw[hhi.sf]
     simp only at hh;cases hh
     refine⟨?_,h2,hlen,Nat.le_refl _⟩
     have:=bf .sliceB
     cases lo'<;>simp_all [Instr.sliceBounds]
    | some v =>
     obtain⟨v',rfl,hv⟩:=hhi.lj
     obtain⟨k,rfl,hle⟩:=iv hh hv
     refine⟨?_,h2,hle,Nat.le_refl _⟩
     have hb:=fun code=>px P w k h cap code (by omega)
     have:=bf .sliceB
     cases lo'<;>simp_all [Instr.sliceBounds]
 | some mv =>
  obtain⟨mv',rfl,hmv⟩:=hmx.lj
  simp only at hb
  cases hm:jX mv c with
  | none=>simp[hm] at hb
  | some mm =>
   simp only[hm] at hb
   obtain⟨k,rfl,hmc⟩:=iv hm hmv
   have hb1:=fun code=>px P w k mm cap code (by omega)
   cases hi with
   | none=>simp at hb
   | some hv =>
    obtain⟨hv',rfl,hhv⟩:=hhi.lj
    simp only at hb
    cases hh:jX hv mm with
    | none=>simp[hh] at hb
    | some h1 =>
     simp only[hh] at hb
     obtain⟨k2,rfl,hhm⟩:=iv hh hhv
     have hb2:=fun code=>px P w k2 h1 mm code hhm
     cases hl:Dd lo h1 with
     | none=>simp[hl] at hb
     | some l1 =>
      simp only[hl] at hb;cases hb
      obtain⟨h2,bf⟩:=low hl
      refine⟨?_,h2,hhm,hmc⟩
      have:=bf .slice3C
      cases lo'<;>simp_all [Instr.sliceBounds]
theorem AE (r p n:Nat):Addr.add ⟨r,p,none⟩ n=⟨r,p+n,none⟩:=kj r p n
theorem mY {m:Mp} {size:Nat} {room:Bool} {b o len k r s cap:Nat} {lo hi mx lo' hi' mx':Option Value} {v:Value} (hr:du size room (.slice (some ⟨b,o,none⟩) len k) lo hi mx=some v)
  (hm:m b=some (r,s)) (hk0:0<k) (hl:len≤k / 2) (hkc:k / 2≤cap) (hx:k % 2=1→cap=k / 2) (hz:k % 2=0→s+o+cap*(m.ez b).1≤(m.ez b).2) (zS:room=true→(m.ez b).1=size)
  (hlo:gv m lo lo') (hhi:gv m hi hi') (hmx:gv m mx mx') (P:Program) (isSlice:Bool) (w:World) :
  ∃l h mm,(Instr.sliceBounds isSlice len cap lo' hi' mx').run P w=.ok (l,h,mm) w∧aB m v (.slice (some (if mm=l then ⟨r,s+o,none⟩ else Addr.add ⟨r,s+o,none⟩ (l*size))) (h - l) (mm - l)):=by
 unfold du at hr
 cases hb:fx len (k / 2) lo hi mx with
 | none=>simp[hb] at hr
 | some lhm =>
  obtain⟨l,h,om⟩:=lhm
  simp only[hb,cond_eq_ite,beq_iff_eq] at hr
  obtain⟨bf,h1,h2,h3⟩:=ny P w isSlice hlo hhi hmx hb hkc hl
  rw[if_neg (by omega)] at hr
  refine⟨l,h,_,bf,?_⟩
  cases om with
  | none =>
   simp only[Option.getD_none] at hr h2 h3 ⊢
   by_cases hlk:l=k / 2
   ·rw[if_pos hlk] at hr
    have hh0:h - l=0:=by omega
    rw[hh0]
    by_cases tR:k % 2=1
    ·rw[if_pos tR] at hr;cases hr
     have:=hx tR
     rw[if_pos (by omega)]
     rw[show cap - l=0 from by omega]
     exact .slice hm (by omega) (by omega) (by omega) (by intro _;rfl) (by intro e;omega)
    ·rw[if_neg tR] at hr;cases hr
     exact .lost
   ·rw[if_neg hlk] at hr
    by_cases hod:(k % 2 == 1 || room)=true
    ·rw[if_pos hod] at hr;cases hr
     rw[if_neg (by omega),AE]
     have e1:s+o+l*size=s+(o+l*size):=by omega
     rw[e1]
     refine .slice hm (by omega) (by omega) (by omega) (fun e=>by have:=hx (by omega);omega) (fun e=>?_)
     have hev:k % 2=0:=by omega
     have hrm:room=true:=by
      simp only[Bool.or_eq_true,beq_iff_eq] at hod
      rcases hod with h|h
      ·omega
      ·exact h
     have hsz:=zS hrm
     have h1:=hz hev
     rw[hsz] at h1 ⊢
     have:(cap - l)*size+l*size=cap*size:=by rw[←Nat.add_mul];congr 1;omega
     omega
    ·rw[if_neg hod] at hr;cases hr
  | some mm =>
   simp only[Option.getD_some] at hr h2 h3 ⊢
   by_cases hlm:l=mm
   ·rw[if_pos hlm] at hr;cases hr
    rw[if_pos hlm.symm,show h - l=0 from by omega,show mm - l=0 from by omega]
    exact .slice hm (by omega) (by omega) (by omega) (by intro _;rfl) (by intro e;omega)
   ·rw[if_neg hlm] at hr;cases hr
    rw[if_neg (fun e=>hlm e.symm),AE]
    have e1:s+o+l*size=s+(o+l*size):=by omega
    rw[e1]
    exact .slice hm (by omega) (by omega) (by omega) (by intro _;omega) (by intro e;omega)
theorem EI {B:Nat} {w0:World} {m:Mp} {h:IH} {w:World} (R:Rel B w0 m h w) {size b o len k r s:Nat} (hr:roomy h size (.slice (some ⟨b,o,none⟩) len k)=true) (hm:m b=some (r,s)):(m.ez b).1=size:=by
 unfold roomy at hr
 simp only[Bool.and_eq_true,beq_iff_eq] at hr
 obtain⟨hb,hr⟩:=hr
 cases hg:h.ext.get (b / 2) with
 | none=>simp[hg] at hr
 | some x =>
  rw[hg] at hr
  cases x with
  | cells cs e f =>
   simp only[beq_iff_eq] at hr
   have hb':2*(b / 2)=b:=by omega
   obtain⟨c,el,_,_,h1,_⟩:=R.obj (b / 2) _ r s hg (by rw[hb'];exact hm)
   rw[hb'] at h1
   rw[h1,hr]
  | _=>simp at hr
theorem Rel.di {B:Nat} {w0:World} {m:Mp} {h:IH} {w:World} (R:Rel B w0 m h w) (P:Program) {t:TypeId} {x x' v:Value} {lo hi mx lo' hi' mx':Option Value} (hs:di P h t x lo hi mx=some v)
  (hx:aB m x x') (hlo:gv m lo lo') (hhi:gv m hi hi') (hmx:gv m mx mx') :
  ∃v',(Instr.sliceAt t x' lo' hi' mx').run P w=.ok v' w∧aB m v v':=by
 unfold Id.di at hs
 cases hu:P.underlying t with
 | none=>simp[hu] at hs
 | some d =>
  rw[hu] at hs
  cases d with
  | slice e =>
   simp only at hs
   cases hsz:aP P e with
   | none=>simp[hsz] at hs
   | some size =>
    simp only[hsz] at hs
    cases x with
    | slice a len k =>
     cases a with
     | none =>
      obtain⟨rfl,rfl,rfl⟩:=hx.lX
      unfold du at hs
      simp only[beq_self_eq_true,Bool.and_self,cond_true] at hs
      cases hb:fx 0 0 lo hi mx with
      | none=>simp[hb] at hs
      | some lhm =>
       obtain⟨l,hh,om⟩:=lhm
       simp only[hb] at hs;cases hs
       obtain⟨bf,h1,h2,h3⟩:=ny P w true hlo hhi hmx hb (Nat.le_refl 0) (Nat.le_refl 0)
       have hl0:l=0:=by omega
       have hh0:hh=0:=by omega
       subst hl0;subst hh0
       refine⟨.slice none 0 0,?_,.bP rfl⟩
       have hm0:om.getD 0=0:=by omega
       rw[hm0] at bf
       simp[Instr.sliceAt,Go.run_underlying hu,Instr.slice,bf,bJ w hsz]
     | some a =>
      obtain⟨b,o,sp⟩:=a
      cases sp with
      | some q=>simp[du] at hs
      | none =>
      rcases hx.dZ with⟨r,s,cap,hm,h1,h2,h3,h4,h5,rfl⟩|⟨rfl,rfl,a,cap,rfl⟩
      ·obtain⟨l,hh,mm,bf,hv⟩:=mY hs hm h1 h2 h3 h4 h5 (fun e=>EI R e hm) hlo hhi hmx P true w
       refine⟨_,?_,hv⟩
       simp[Instr.sliceAt,Go.run_underlying hu,Instr.slice,bf,bJ w hsz]
       split<;>simp
      ·-- a lost slice: it stays one
       unfold du at hs
       cases hb:fx 0 (0 / 2) lo hi mx with
       | none=>simp[hb] at hs
       | some lhm =>
        obtain⟨l,hh,om⟩:=lhm
        simp only[hb,beq_self_eq_true,cond_true] at hs;cases hs
        obtain⟨bf,h1,h2,h3⟩:=ny P w (cap:=cap) true hlo hhi hmx hb (by omega) (by omega)
        have hl0:l=0:=by omega
        have hh0:hh=0:=by omega
        subst hl0;subst hh0
        refine⟨.slice (some (if om.getD cap=0 then a else a.add (0*size))) 0 (om.getD cap - 0),?_,.lost⟩
        simp[Instr.sliceAt,Go.run_underlying hu,Instr.slice,bf,bJ w hsz]
        split<;>simp
    | _=>simp[du] at hs
  | array n e =>
   simp only at hs
   cases hsz:aP P e with
   | none=>simp[hsz] at hs
   | some size =>
    cases hA:asAddr x with
    | none=>simp[hsz,hA] at hs
    | some bo =>
     obtain⟨b,o⟩:=bo
     have hp:x=.pointer (some ⟨b,o,none⟩):=by unfold asAddr at hA;split at hA<;>simp_all
     subst hp
     obtain⟨r,s,hm,rfl⟩:=hx.jL
     simp only[hsz,hA] at hs
     obtain⟨l,hh,mm,bf,hv⟩:=mY hs hm (by omega) (by omega) (cap:=n) (by omega) (by omega) (by omega) (by simp) hlo hhi hmx P false w
     refine⟨_,?_,hv⟩
     simp[Instr.sliceAt,Go.run_underlying hu,Instr.sureAddr,bf,bJ w hsz]
  | pointer arr =>
   simp only at hs
   cases hua:P.underlying arr with
   | none=>simp[hua] at hs
   | some da =>
    rw[hua] at hs
    cases da with
    | array n e =>
     simp only at hs
     cases hsz:aP P e with
     | none=>simp[hsz] at hs
     | some size =>
      cases hA:Id.asAddr x with
      | none=>simp[hsz,hA] at hs
      | some bo =>
       obtain⟨b,o⟩:=bo
       have hp:x=.pointer (some ⟨b,o,none⟩):=by unfold Id.asAddr at hA;split at hA<;>simp_all
       subst hp
       obtain⟨r,s,hm,rfl⟩:=hx.jL
       simp only[hsz,hA] at hs
       obtain⟨l,hh,mm,bf,hv⟩:=mY hs hm (by omega) (by omega) (cap:=n) (by omega) (by omega) (by omega) (by simp) hlo hhi hmx P false w
       refine⟨_,?_,hv⟩
       simp[Instr.sliceAt,Go.run_underlying hu,Instr.slice,Go.asAddr,Go.run_underlying hua,bf,bJ w hsz]
    | _=>simp at hs
  | string =>
   simp only[cond_eq_ite] at hs
   by_cases hp:(plain x && (lo.all plain && hi.all plain && mx.all plain))=true
   ·rw[if_pos hp] at hs
    simp only[Bool.and_eq_true] at hp
    have e0:=hx.eF hp.1
    have ep : ∀{a b:Option Value},gv m a b→a.all plain=true→b=a:=by
     intro a b hab ha
     cases a with
     | none=>exact hab.sf
     | some v=>obtain⟨v',rfl,hv⟩:=hab.lj;rw[hv.eF (by simpa using ha)]
    rw[e0,ep hlo hp.2.1.1,ep hhi hp.2.1.2,ep hmx hp.2.2]
    obtain⟨hpv,bf⟩:=fZ hs
    refine⟨v,?_,.bT hpv⟩
    have this:=bf w
    simp only[Instr.sliceAt,Sem.run_bind,Go.run_underlying hu,Result.andThen_ok]
    exact this
   ·rw[if_neg hp] at hs;cases hs
  | _=>simp at hs
theorem CM (z:List Value) (hz:z ≠ []) : ∀(n i:Nat),(bA n z)[i]?=if i<n*z.length then z[i % z.length]? else none
 | 0,i=>by simp[bA]
 | n+1,i=>by
  have qR:0<z.length:=List.length_pos_iff.2 hz
  rw[bA]
  by_cases h:i<z.length
  ·rw[List.getElem?_append_left h,if_pos (by rw[Nat.add_mul];omega),Nat.mod_eq_of_lt h]
  ·rw[List.getElem?_append_right (by omega),CM z hz n (i - z.length)]
   have e:(i - z.length) % z.length=i % z.length:=by rw[Nat.mod_eq_sub_mod (a:=i) (by omega)]
   rw[e]
   by_cases h2:i - z.length<n*z.length
   ·rw[if_pos h2,if_pos (by rw[Nat.add_mul];omega)]
   ·rw[if_neg h2,if_neg (by rw[Nat.add_mul];omega)]
theorem lV (z:List Value) : ∀n,(bA n z).length=n*z.length
 | 0=>by simp[bA]
 | n+1=>by rw[bA,List.length_append,lV z n,Nat.add_mul];omega
theorem mZ (z:Array Value) (n:Nat) (hz:z.size≠0):((Array.range (n*z.size)).map (fun i=>z[i % z.size]!)).toList=bA n z.toList:=by
 apply List.ext_getElem?
 intro i
 have hz':z.toList ≠ []:=by intro e;apply hz;have:=congrArg List.length e;simpa using this
 rw[CM z.toList hz' n i,Array.getElem?_toList,Array.getElem?_map,Array.length_toList]
 by_cases h:i<n*z.size
 ·rw[if_pos h]
  have hm:i % z.size<z.size:=Nat.mod_lt _ (by omega)
  simp[h,hm]
 ·rw[if_neg h]
  simp[h]
theorem qD (n:Nat) (h:n≤1099511627776):IntKind.i64.wrap (n:Int)=(n:Int):=by
 rw[IntKind.wrap_i64];omega
theorem bC.bA {m:Mp} {z:List Value} (h:bC m z z) : ∀n,bC m (Id.bA n z) (Id.bA n z)
 | 0=>.nil m
 | n+1=>h.append (bC.bA h n)
def ph (m:Mp) (w:World) (h h':IH) (run:Result Value) (v:Value):Prop :=
 ∃cs cs' e t v',h'=h.new (.cells cs e none)∧bC m cs cs'∧run=.ok v' (w.alloc (.cells cs'.toArray t)) ∧ ∀m':Mp,m' (2*h.n)=some (w.heap.size,0)→aB m' v v'
theorem nN (P:Program) {m:Mp} {h h':IH} {t:TypeId} {l l' c c' v:Value} (hs:makeSlice P h t l c=some (v,h')) (hl:aB m l l') (hc:aB m c c') (w:World) :
  ph m w h h' ((Instr.makeSlice t l' c').run P w) v:=by
 unfold Id.makeSlice at hs
 cases hu:P.underlying t with
 | none=>simp[hu] at hs
 | some d =>
  rw[hu] at hs
  cases d with
  | slice e =>
   simp only at hs
   cases hln:jX l aX with
   | none=>simp[hln] at hs
   | some ln =>
   cases hcn:jX c aX with
   | none=>simp[hln,hcn] at hs
   | some cn =>
   cases hsz:aP P e with
   | none=>simp[hln,hcn,hsz] at hs
   | some n =>
   cases hby:jD P e with
   | none=>simp[hln,hcn,hsz,hby] at hs
   | some by_ =>
   cases hz:aE P e with
   | none=>simp[hln,hcn,hsz,hby,hz] at hs
   | some z =>
   simp only[hln,hcn,hsz,hby,hz,cond_eq_ite] at hs
   by_cases mG:(Nat.ble ln cn && Nat.ble (cn*(by_+1)) aX && z.length == n)=true
   ·rw[if_pos mG] at hs;cases hs
    simp only[Bool.and_eq_true,Nat.ble_eq,beq_iff_eq] at mG
    obtain⟨⟨hlc,ji⟩,hzn⟩:=mG
    obtain⟨zv,hz0,hzp,rfl⟩:=cP hz
    obtain⟨kl,rfl,hl1⟩:=iv hln hl
    obtain⟨kc,rfl,hc1⟩:=iv hcn hc
    unfold jD at hby
    obtain⟨i,hi,hib⟩:=Option.map_eq_some_iff.1 hby
    have hmul:cn*(by_+1)=cn*by_+cn:=by rw[Nat.mul_add,Nat.mul_one]
    have hbc:by_*cn=cn*by_:=Nat.mul_comm _ _
    unfold aX at ji hl1 hc1
    have Qe:=qD ln hl1
    have Qf:=qD cn hc1
    have qT : ∃cells:Array Value,(if cn*n=0 then pure #[] else do pure (←zeroValue e).cells:Sem (Array Value)).run P w=.ok cells w∧((Array.range (cn*n)).map (fun i=>cells[i % cells.size]!)).toList=bA cn zv.cells.toList:=by
     by_cases h0:cn*n=0
     ·rw[if_pos h0]
      refine⟨#[],rfl,?_⟩
      rw[h0]
      have:(bA cn zv.cells.toList).length=0:=by rw[lV,hzn,h0]
      rw[List.length_eq_zero_iff.1 this];simp
     ·rw[if_neg h0]
      refine⟨zv.cells,by simp[dK w hz0],?_⟩
      have hs:zv.cells.size=n:=by simpa using hzn
      rw[←hs]
      exact mZ zv.cells cn (by rw[hs];intro e;apply h0;rw[e,Nat.mul_zero])
    obtain⟨cells,mF,Fs⟩:=qT
    have hLz:bC m (bA cn zv.cells.toList) (bA cn zv.cells.toList):=bC.bA (aB.bT (m:=m) hzp).cells cn
    refine⟨_,_,n,e,.slice (some ⟨w.heap.size,0,none⟩) ln cn,rfl,hLz,?_,fun m' hm=>?_⟩
    ·have e1:(Array.range (cn*n)).map (fun i=>cells[i % cells.size]!)=(bA cn zv.cells.toList).toArray:=by rw[←Fs]
     simp only[Instr.makeSlice,Sem.run_bind,Go.run_underlying hu,Result.andThen_ok,asInt,asIntOf,Sem.run_pure,run_typeInfo w hi,hib,Qe,Qf]
     have Sj:(by_:Int)*(cn:Int)=((by_*cn:Nat):Int):=by simp
     have hno : ¬((decide ((cn:Int)<0) || decide ((by_:Int)*(cn:Int) > 2 ^ 48) || decide ((ln:Int)<0) || decide ((ln:Int) > (cn:Int)))=true):=by
      simp only[Bool.or_eq_true,decide_eq_true_eq,Sj];omega
     rw[if_neg hno]
     simp only[Int.toNat_natCast,Sem.run_bind,run_askRoom,Result.andThen_ok,bJ w hsz]
     by_cases h0:cn*n=0
     ·rw[if_pos h0] at mF ⊢
      simp only[Sem.run_pure] at mF;cases mF
      simp only[Sem.run_bind,Sem.run_pure,Result.andThen_ok,Go.newRow,run_newObj]
      rw[e1];rfl
     ·rw[if_neg h0] at mF ⊢
      simp only[Sem.run_bind,dK w hz0,Result.andThen_ok,Sem.run_pure] at mF;cases mF
      simp only[Sem.run_bind,dK w hz0,Sem.run_pure,Result.andThen_ok,Go.newRow,run_newObj]
      rw[e1];rfl
    ·exact .slice (s:=0) hm (by omega) (by omega) (by omega) (by intro _;omega) (by intro e;omega)
   ·rw[if_neg mG] at hs;cases hs
  | _=>simp at hs
theorem ph.rel {B:Nat} {w0:World} {m:Mp} {h h':IH} {w:World} {run:Result Value} {v:Value} (M:ph m w h h' run v) (R:Rel B w0 m h w) (cg:fy m h.n h'.n) :
  ∃v' m' w',run=.ok v' w'∧aB m' v v'∧Rel B w0 m' h' w'∧Step m h w m' h' w':=by
 obtain⟨cs,cs',e,t,v',rfl,hL,bf,hv⟩:=M
 obtain⟨R1,S1⟩:=R.newRow (cg h.n (Nat.le_refl _) (Nat.lt_succ_self _)) hL e t
 exact⟨v',_,_,bf,hv _ (Mp.aW _ _ _ _),R1,S1⟩
end Go.Id

namespace Go.Id
open Go Go.RowKit
theorem mO (P:Program) {m:Mp} {h h':IH} {t:TypeId} {len:Nat} {parts:Array (Nat×Operand)} {ps:List (Nat×Value)} {fr:Fr} {ρ:Operand→Value} {v:Value}
  (hρ : ∀x v,opd fr x=some v→aB m v (ρ x)) (hps:partsOf fr parts.toList=some ps) (hs:buildSlice P h t len ps=some (v,h')) (w:World) :
  ph m w h h' ((Instr.buildSlice t len (parts.map fun(i,x)=>(i,ρ x))).run P w) v:=by
 unfold Id.buildSlice at hs
 cases hu:P.underlying t with
 | none=>simp[hu] at hs
 | some d =>
  rw[hu] at hs
  cases d with
  | slice e =>
   simp only at hs
   cases hsz:aP P e with
   | none=>simp[hsz] at hs
   | some n =>
   cases hz:aE P e with
   | none=>simp[hsz,hz] at hs
   | some z =>
   simp only[hsz,hz,cond_eq_ite] at hs
   by_cases mG:(Nat.ble (len*n) mN && z.length == n)=true
   ·rw[if_pos mG] at hs
    simp only[Bool.and_eq_true,Nat.ble_eq,beq_iff_eq] at mG
    obtain⟨ji,hzn⟩:=mG
    obtain⟨zv,hz0,hzp,rfl⟩:=cP hz
    cases hf:cz (fun i=>some (i*n,n)) (bA len zv.cells.toList) ps with
    | none=>simp[hf] at hs
    | some cells =>
     simp only[hf] at hs;cases hs
     have qT : ∃zc:Array Value,(if len*n=0 then pure #[] else do pure (←zeroValue e).cells:Sem (Array Value)).run P w=.ok zc w∧((Array.range (len*n)).map (fun i=>zc[i % zc.size]!)).toList=bA len zv.cells.toList:=by
      by_cases h0:len*n=0
      ·rw[if_pos h0]
       refine⟨#[],rfl,?_⟩
       rw[h0]
       have:(bA len zv.cells.toList).length=0:=by rw[lV,hzn,h0]
       rw[List.length_eq_zero_iff.1 this];simp
      ·rw[if_neg h0]
       refine⟨zv.cells,by simp[dK w hz0],?_⟩
       have hs:zv.cells.size=n:=by simpa using hzn
       rw[←hs]
       exact mZ zv.cells len (by rw[hs];intro e;apply h0;rw[e,Nat.mul_zero])
     obtain⟨zc,mF,Fs⟩:=qT
     have hLz:bC m (bA len zv.cells.toList) (((Array.range (len*n)).map (fun i=>zc[i % zc.size]!))).toList:=by
      rw[Fs];exact bC.bA (aB.bT (m:=m) hzp).cells len
     obtain⟨hl,hp⟩:=oD hρ _ _ hps
     obtain⟨r',Pj,hL⟩:=xK (fun i=>some (i*n,n)) ps (parts.toList.map fun p=>(p.1,ρ p.2)) _ _ _ hLz (by simp[hl]) hp hf
     have yP:(parts.map fun(x:Nat×Operand)=>match x with|(i,x)=>(i,ρ x)).toList=parts.toList.map fun p=>(p.1,ρ p.2):=by rw[Array.toList_map]
     refine⟨_,r'.toList,n,e,.slice (some ⟨w.heap.size,0,none⟩) len len,rfl,hL,?_,fun m' hm=>?_⟩
     ·simp only[Instr.buildSlice,Sem.run_bind,Go.run_underlying hu,Result.andThen_ok,bJ w hsz]
      rw[if_neg (by unfold mN at ji;omega)]
      by_cases h0:len*n=0
      ·rw[if_pos h0] at mF ⊢
       simp only[Sem.run_pure] at mF;cases mF
       simp only[Sem.run_bind,Sem.run_pure,Result.andThen_ok,yP,Pj,Go.newRow,run_newObj]
       rfl
      ·rw[if_neg h0] at mF ⊢
       simp only[Sem.run_bind,dK w hz0,Result.andThen_ok,Sem.run_pure] at mF;cases mF
       simp only[Sem.run_bind,dK w hz0,Sem.run_pure,Result.andThen_ok,yP,Pj,Go.newRow,run_newObj]
       rfl
     ·exact .slice (s:=0) hm (by omega) (by omega) (by omega) (by intro _;omega) (by intro e;omega)
   ·rw[if_neg mG] at hs;cases hs
  | _=>simp at hs
theorem tQ {m:Mp} {i i':Value} {n:Int} (h:aB m i i') (hi:idxOf i=some n) : ∃k,i'=.int k n:=by
 unfold idxOf at hi
 split at hi
 ·cases hi;exact⟨_,h.dw rfl⟩
 ·cases hi
theorem yD {m:Mp} (P:Program) {t:TypeId} {x x' i i' v:Value} (hs:indexAddr P t x i=some v) (hx:aB m x x') (hi:aB m i i') (w:World) :
  ∃v',(Instr.indexAt t x' i').run P w=.ok v' w∧aB m v v':=by
 unfold Id.indexAddr at hs
 split at hs
 ·rename_i n e b o j hu hj
  obtain⟨k,rfl⟩:=tQ hi hj
  obtain⟨r,s,hm,rfl⟩:=hx.jL
  split at hs
  ·rename_i size j hsz
   simp only[cond_eq_ite,Nat.blt_eq] at hs
   by_cases hlt:j<n
   ·rw[if_pos hlt] at hs;cases hs
    refine⟨.pointer (some ⟨r,s+(o+j*size),none⟩),?_,.ptr hm⟩
    have h2:(0:Int)≤Int.ofNat j∧Int.ofNat j<(n:Int):=by constructor<;>simp<;>omega
    simp only[Instr.indexAt,asIntOf,Sem.run_bind,Sem.run_pure,Result.andThen_ok,Go.run_underlying hu,Instr.sureAddr]
    rw[if_pos h2]
    simp[bJ w hsz,kj,Nat.add_assoc]
   ·rw[if_neg hlt] at hs;cases hs
  ·cases hs
 ·rename_i e b o n k j hu hj
  obtain⟨ki,rfl⟩:=tQ hi hj
  split at hs
  ·rename_i size j hsz
   simp only[cond_eq_ite,Nat.blt_eq] at hs
   by_cases hlt:j<n
   ·rw[if_pos hlt] at hs;cases hs
    rcases hx.dZ with⟨r,s,cap,hm,_,_,_,_,_,rfl⟩|⟨h0,_⟩
    ·refine⟨.pointer (some ⟨r,s+(o+j*size),none⟩),?_,.ptr hm⟩
     have h2:(0:Int)≤Int.ofNat j∧Int.ofNat j<(n:Int):=by constructor<;>simp<;>omega
     simp only[Instr.indexAt,asIntOf,Sem.run_bind,Sem.run_pure,Result.andThen_ok,Go.run_underlying hu]
     rw[if_pos h2]
     simp[bJ w hsz,kj,Nat.add_assoc]
    ·omega
   ·rw[if_neg hlt] at hs;cases hs
  ·cases hs
 ·cases hs
theorem Cy {m:Mp} (P:Program) {t:TypeId} {cs cs':Array Value} {off:Nat} {v:Value} (hs:partOf P t cs off=some v) (hx:bC m cs.toList cs'.toList) (w:World) :
  ∃v',(part t cs' off).run P w=.ok v' w∧aB m v v':=by
 unfold Id.partOf at hs
 split at hs
 ·rename_i n ha hsz
  cases hs
  refine⟨.agg (cs'.extract off (off+n)),?_,aB.pR ?_⟩
  ·simp[part,mX w ha,bJ w hsz]
  ·simp only[Array.toList_extract]
   have:=(hx.drop off).take (off+n - off)
   simpa [List.extract_eq_take_drop] using this
 ·rename_i ha
  obtain⟨v',h1,h2⟩:=hx.get (i:=off) (v:=v) (by simpa using hs)
  refine⟨v',?_,h2⟩
  have:cs'[off]?=some v':=by simpa using h1
  simp[part,mX w ha,this]
 ·cases hs
theorem sF (kind:TypeDesc) (k:Value) : ∀(es es':List MapEntry) (i:Nat),es.map (·.key)=es'.map (·.key) →
  (Instr.findNow kind k es i).map (fun o=>o.map (·.1))=(Instr.findNow kind k es' i).map (fun o=>o.map (·.1))
 | [],[],i,_=>rfl
 | [],_ :: _,i,h=>by simp at h
 | _ :: _,[],i,h=>by simp at h
 | e :: es,e' :: es',i,h=>by
  simp only[List.map_cons,List.cons.injEq] at h
  have ih:=sF kind k es es' (i+1) h.2
  simp only[Instr.findNow,h.1]
  cases Instr.sameNow kind k e'.key with
  | none=>rfl
  | some b=>cases b<;>simp[ih]
theorem xI (kind:TypeDesc) (k:Value) : ∀(es:List MapEntry) (i j:Nat) (v:Value),Instr.findNow kind k es i=some (some (j,v))→i≤j ∧ ∃e,es[j - i]?=some e∧e.val=v
 | [],i,j,v,h=>by simp[Instr.findNow] at h
 | e :: es,i,j,v,h=>by
  simp only[Instr.findNow] at h
  split at h
  ·simp only[Option.some.injEq,Prod.mk.injEq] at h
   obtain⟨rfl,rfl⟩:=h
   exact⟨Nat.le_refl _,e,by simp,rfl⟩
  ·obtain⟨h1,e',h2,h3⟩:=xI kind k es (i+1) j v h
   refine⟨by omega,e',?_,h3⟩
   rw[show j - i=(j - (i+1))+1 from by omega]
   simpa using h2
  ·cases h
theorem nQ (P:Program) (w:World) (kt:TypeId) (k:Value) : ∀(es es':List MapEntry) (i:Nat) (r:Option (Nat×Value)),es.map (·.key)=es'.map (·.key)→ar P (Instr.findAsking kt k es i)=some r →
  ∃r',(Instr.findAsking kt k es' i).run P w=.ok r' w∧r'.map (·.1)=r.map (·.1) ∧ ∀j v,r'=some (j,v)→i≤j ∧ ∃e,es'[j - i]?=some e∧e.val=v
 | [],[],i,r,_,h=>by
  simp only[Instr.findAsking] at h
  cases h
  exact⟨none,rfl,rfl,by simp⟩
 | [],_ :: _,i,r,h,_=>by simp at h
 | _ :: _,[],i,r,h,_=>by simp at h
 | e :: es,e' :: es',i,r,h,hp=>by
  simp only[List.map_cons,List.cons.injEq] at h
  have pb : ∀{α β:Type} (s:Sem α) (f:α→Sem β) (b:β),ar P (s.bind f)=some b → ∃a,ar P s=some a∧ar P (f a)=some b:=by
   intro α β s f b
   induction s with
   | pure a=>intro h;exact⟨a,rfl,h⟩
   | program g ih=>intro h;simp only[Sem.bind,ar] at h ⊢;exact ih P h
   | _=>intro h;simp[Sem.bind,ar] at h
  have hp':ar P ((Op.equal kt k e.key).bind fun b=>if b=true then pure (some (i,e.val)) else Instr.findAsking kt k es (i+1))=some r:=hp
  obtain⟨b,hb,oP⟩:=pb _ _ _ hp'
  have bf:=iI P _ _ hb w
  rw[h.1] at bf
  cases b with
  | true =>
   have hr:r=some (i,e.val):=by
    have:ar P (Sem.pure (some (i,e.val)))=some r:=oP
    simp only[ar] at this;cases this;rfl
   subst hr
   refine⟨some (i,e'.val),?_,rfl,?_⟩
   ·simp[Instr.findAsking,bf]
   ·intro j v hjv;cases hjv;exact⟨Nat.le_refl _,e',by simp,rfl⟩
  | false =>
   obtain⟨r',h1,h2,h3⟩:=nQ P w kt k es es' (i+1) r h.2 oP
   refine⟨r',?_,h2,?_⟩
   ·simp[Instr.findAsking,bf,h1]
   ·intro j v hjv
    obtain⟨a,e'',c,d⟩:=h3 j v hjv
    refine⟨by omega,e'',?_,d⟩
    rw[show j - i=(j - (i+1))+1 from by omega]
    simpa using c
theorem A9 {P:Program} {α β:Type} {s:Sem α} {f:α→Sem β} {b:β} (h:ar P (s >>= f)=some b) : ∃a,ar P s=some a∧ar P (f a)=some b:=by
 have h':ar P (s.bind f)=some b:=h
 clear h
 revert h'
 induction s with
 | pure a=>intro h;exact⟨a,rfl,h⟩
 | program g ih=>intro h;simp only[Sem.bind,ar] at h ⊢;exact ih P h
 | _=>intro h;simp[Sem.bind,ar] at h
theorem zp {P:Program} {m:Mp} {kt:TypeId} {k:Value} {es:List (Value×Value)} {c:Array MapEntry} {r:Option Nat} (hf:sG P kt k es=some r) (hm:pg m es c) (w:World) :
  plain k=true∧(Instr.checkKey c.isEmpty 10000 kt k).run P w=.ok () w ∧ ∃r',(Instr.findKey kt k c.toList).run P w=.ok r' w∧r'.map (·.1)=r ∧ ∀j v,r'=some (j,v) → ∃e,c[j]?=some e∧e.val=v:=by
 unfold sG at hf
 simp only[cond_eq_ite] at hf
 by_cases hp:plain k=true
 ·rw[if_pos hp] at hf
  have Qx:c.isEmpty=es.isEmpty:=by
   have:=hm.1
   rw[Bool.eq_iff_iff,Array.isEmpty_iff_size_eq_zero,List.isEmpty_iff,←List.length_eq_zero_iff];omega
  cases h1:ar P (Instr.checkKey es.isEmpty 10000 kt k) with
  | none=>simp[h1] at hf
  | some u =>
   cases h2:ar P (Instr.findKey kt k (df es)) with
   | none=>simp[h1,h2] at hf
   | some r0 =>
    simp only[h1,h2] at hf;cases hf
    have Ph:(df es).map (·.key)=c.toList.map (·.key):=by
     apply List.ext_getElem?
     intro i
     simp only[df,List.map_map,List.getElem?_map,Array.getElem?_toList]
     by_cases hi:i<es.length
     ·have hi':i<c.size:=by have:=hm.1;omega
      have:=hm.2 i es[i] c[i] (List.getElem?_eq_getElem hi) (by simp[hi'])
      simp[hi,hi',this.1.1]
     ·have hi' : ¬i<c.size:=by have:=hm.1;omega
      simp[List.getElem?_eq_none (Nat.le_of_not_lt hi),Array.getElem?_eq_none (Nat.le_of_not_lt hi')]
    refine⟨hp,by rw[Qx];exact iI P _ _ h1 w,?_⟩
    unfold Instr.findKey at h2 ⊢
    obtain⟨d,hd,h3⟩:=A9 h2
    have Sz:=iI P _ _ hd w
    simp only[Sem.run_bind,Sz,Result.andThen_ok]
    have hk:=sF d k (df es) c.toList 0 Ph
    cases h4:Instr.findNow d k (df es) 0 with
    | some r1 =>
     rw[h4] at h3 hk
     have hr1:r1=r0:=by
      have:ar P (Sem.pure r1)=some r0:=h3
      simp only[ar] at this;cases this;rfl
     subst hr1
     cases h5:Instr.findNow d k c.toList 0 with
     | none=>rw[h5] at hk;simp at hk
     | some r2 =>
      rw[h5] at hk
      simp only[Option.map_some,Option.some.injEq] at hk
      refine⟨r2,rfl,hk.symm,fun j v hjv=>?_⟩
      subst hjv
      obtain⟨_,e,a,b⟩:=xI d k c.toList 0 j v h5
      exact⟨e,by simpa using a,b⟩
    | none =>
     rw[h4] at h3 hk
     cases h5:Instr.findNow d k c.toList 0 with
     | some r2=>rw[h5] at hk;simp at hk
     | none =>
      obtain⟨r',a,b,c'⟩:=nQ P w kt k (df es) c.toList 0 r0 Ph h3
      exact⟨r',a,b,fun j v hjv=>let ⟨_,e,x,y⟩:=c' j v hjv;⟨e,by simpa using x,y⟩⟩
 ·rw[if_neg hp] at hf;cases hf
end Go.Id
