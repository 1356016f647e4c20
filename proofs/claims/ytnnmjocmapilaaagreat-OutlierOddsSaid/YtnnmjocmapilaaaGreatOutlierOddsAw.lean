/-
  The functions on fractions and integers of any length give what is reckoned.
-/
import Derived.Test.YtnnmjocmapilaaaGreatOutlierOddsAv
import Derived.Test.YtnnmjocmapilaaaGreatOutlierOddsAt
set_option linter.unusedVariables false
set_option linter.unusedSimpArgs false
set_option linter.defProp false
set_option linter.deprecated false
namespace Go.Id
open Go
open Go renaming Operand→QY,Program→QX,TypeId→QZ,Value→QQ
open Nat renaming reduceAdd→zA,reduceEqDiff→zE,reduceLeDiff→zL
open Nat (reduceMul)
set_option maxHeartbeats 16000000
open Go.Proofs.Tryz (prog)
abbrev Num (f:FuncId) (sem:List NV→Option NR):Prop:=xM Proofs.Tryz.prog f sem
def qI {n m:Bool} {b x c y d u e z:Nat} (g:(NV.rat n b x c y).mM) (k:(NV.rat m d u e z).mM) :(oC n x y).num=sI n x∧((oC n x y).den:Int)=y∧(oC m u z).num=sI m u∧((oC m u z).den:Int)=z∧0<y*z:=by rw[(zr g).1,(zr g).2,(zr k).1,(zr k).2,mj,mj];exact⟨rfl,rfl,rfl,rfl,kf (lT g.1.2.1) (lT k.1.2.1)⟩
def TB:Num 83 VM:=Ei ⟨_,Proofs.Tryz.func83,rfl⟩ fun n b x c y m d u e z r g k h0=>by cases h0;obtain⟨e1,e2,e3,e4,p⟩:=qI g k;refine⟨pJ _ p,fun h v v2 hv hw=>(mH hv hw (rV g) (rV k) byOmega).mono fun r h' q=>pH p ?_⟩;have:=q.2;rw[zw,e1,e2,e3,e4] at this;exact this
def O8:Num 198 QR:=Ei ⟨_,Proofs.Tryz.func198,rfl⟩ fun n b x c y m d u e z r g k h0=>by cases h0;obtain⟨e1,e2,e3,e4,p⟩:=qI g k;refine⟨pJ _ p,fun h v v2 hv hw=>(S9 hv hw (rV g) (rV k) byOmega).mono fun r h' q=>pH p ?_⟩;have:=q.2;rw[VX,e1,e2,e3,e4] at this;exact this
def O7:Num 87 QM:=Ei ⟨_,Proofs.Tryz.func87,rfl⟩ fun n b x c y m d u e z r g k h0=>by cases h0;obtain⟨e1,e2,e3,e4,p⟩:=qI g k;refine⟨pJ _ p,fun h v v2 hv hw=>(nu hv hw (rV g) (rV k) byOmega).mono fun r h' q=>pH p ?_⟩;have:=q.2;rw[Ct,e1,e2,e3,e4] at this;exact this
theorem SQ (n m:Bool) (x y z u:Nat):Rat.divInt (sint n x*z) ((y:Int)*sint m u)=Rat.divInt (sint n x*sint m z) ((y:Int)*u):=by
 cases m;·rfl
 ·show Rat.divInt (sint n x*z) ((y:Int) * -(u:Int))=Rat.divInt (sint n x * -(z:Int)) _
  rw[x9,Rat.divInt_neg',x9]
def TC:Num 84 VN:=Ei ⟨_,Proofs.Tryz.func84,rfl⟩ fun n b x c y m d u e z r g k h0=>by
 obtain⟨h1,h0⟩:=qC h0;cases h0;obtain⟨e1,e2,e3,e4,_⟩:=qI g k;have u0:u≠0:=fun h=>by rw[h] at h1;cases h1
 have p:0<y*u:=kf (lT g.1.2.1) (lT u0);have q0:oC m u z≠0:=fun h=>by
  rw[h,mj] at e3;have:(sint m u).natAbs=0:=by rw[←e3];rfl
  rw[lu] at this;exact u0 this
 refine⟨pJ _ p,fun h v v2 hv hw=>(DU hv hw (rV g) (rV k) byOmega q0).mono fun r h' q=>pH p ?_⟩;have:=q.2;rw[zu,e1,e2,e3,e4,mj,mj,SQ,←mj,←mj] at this;exact this
def Wl:Num 90 Zbv:=Ei ⟨_,Proofs.Tryz.func90,rfl⟩ fun n b x c y m d u e z r g k h0=>by cases h0;obtain⟨e1,e2,e3,e4,p⟩:=qI g k;rw[Jf];refine⟨rfl,fun h v v2 hv hw=>(wR hv hw (rV g) (rV k) byOmega).mono fun r h' q=>q.2.trans ?_⟩;rw[←Ku,e1,e2,e3,e4];rfl
def Tz:Num 247 VJ:=ZbA ⟨_,Proofs.Tryz.func247,rfl⟩ fun n b x c y r g h0=>by
 cases h0;refine⟨⟨?_,g.1.2⟩,fun h v hv=>(DS hv).mono fun r h' q=>?_⟩
 ·cases n
  ·intro h1 h2;rw[h2] at h1;cases h1
  ·intro h1;cases h1
 ·have : -oC n x y=oC (iB n false (Nat.ble 1 x)) x y:=by
   unfold oC;rw[Rat.neg_divInt];congr 1;cases n
   ·cases x with
    | zero=>rfl
    | succ x=>rfl
   ·exact Int.neg_neg _
  show ch h' r (oC _ x y);rw[←this];exact q.2
def TA:Num 132 VK:=ZbA ⟨_,Proofs.Tryz.func132,rfl⟩ fun n b x c y r g h0=>by
 cases h0;have y0:=g.1.2.1;have e:Bx (sI n x) (Int.ofNat y)=mU (oC n x y):=by rw[DC (by show(0:Int)<(y:Int);omega),mj];rfl
 rw[e];exact⟨rh _,fun h v hv=>(DT hv).mono fun r h' q=>q.2⟩
def Tx:Num 131 U7:=Rn ⟨_,Proofs.Tryz.func131,rfl⟩ fun n b x r g h0=>by
 cases h0;exact⟨⟨g.1,byOmega,Nat.gcd_one_right x⟩,fun h v hv=>(yQ hv).mono fun r h' q=>by
  show ch h' r (oC n x 1);rw[VZ];exact q.2⟩
def Ed {k:Int→Option NR} {v:Value} {r:NR} (h:Mm k v=some r) : ∃n,v=KI n∧k n=some r:=by
 unfold Mm at h;split at h
 case h_2=>cases h
 exact⟨_,rfl,h⟩
def TD:Num 75 VP:=Rl ⟨_,Proofs.Tryz.func75,rfl⟩ fun v r h0=>by obtain⟨n,rfl,h0⟩:=Ed h0;obtain⟨h1,h0⟩:=dZ h0;cases h0;refine⟨pJ _ byOmega,fun h=>(iL n (lF h1)).mono fun r h' q=>pH byOmega ?_⟩;rw[show Rat.divInt n ((1:Nat):Int)=(n:Rat) from uS (n:Rat)];exact q.2
def Wk:Num 156 Zbt:=Rl ⟨_,Proofs.Tryz.func156,rfl⟩ fun v r h0=>by
 cases hs:yg v Zby with
 | none=>rw[hs] at h0;cases h0
 | some w =>
  rw[hs,bL] at h0;obtain⟨p,hp,rfl,h1⟩:=qZ hs;cases h1;change iB (okF (wdI p.1) (wdI p.2)) (iN (wdI p.2) fun _ y=>some (D3 (wdI p.1) y)) none=some r at h0;obtain⟨h1,h0⟩:=dZ h0;have ok:=JD h1;rw[MY] at h0;cases h0;have d0:=ok.1;have e:((wdI p.2).natAbs:Int)=wdI p.2:=byOmega;refine⟨pJ _ byOmega,fun h=>(gS p.1 p.2 hp.1 hp.2).mono fun r h' q=>pH byOmega ?_⟩;rw[e];show wC h' r (rOf p).num ((rOf p).den:Int);rw[(fi ok).1,(fi ok).2];exact q.2
def Tw:Num 187 U3:=AY ⟨_,Proofs.Tryz.func187,rfl⟩ fun n b x m c y r g k h0=>by cases h0;refine⟨qz _,fun h v v2 hv hw=>(vG hv hw (jb g) (jb k)).mono fun r h' q=>qv ?_⟩;rw[mj,mj];exact q.2
def O6:Num 242 Qk:=AY ⟨_,Proofs.Tryz.func242,rfl⟩ fun n b x m c y r g k h0=>by cases h0;refine⟨qz _,fun h v v2 hv hw=>(GW hv hw (jb g) (jb k)).mono fun r h' q=>qv ?_⟩;rw[mj,mj];exact q.2
def O4:Num 104 Qg:=AY ⟨_,Proofs.Tryz.func104,rfl⟩ fun n b x m c y r g k h0=>by cases h0;refine⟨qz _,fun h v v2 hv hw=>(jP hv hw (AZ g) (AZ k)).mono fun r h' q=>qv ?_⟩;rw[mj,mj];exact q.2
def Wj:Num 190 Zbc:=AY ⟨_,Proofs.Tryz.func190,rfl⟩ fun n b x m c y r g k h0=>by cases h0;rw[Jf,mj,mj];exact⟨rfl,fun h v v2 hv hw=>(Jz hv hw (jb g) (jb k)).mono fun r h' q=>q.2⟩
def Mu:Num 207 Lc:=AY ⟨_,Proofs.Tryz.func207,rfl⟩ fun n b x m c y r g k h0=>by cases h0;refine⟨(fun h=>by cases h),fun h v v2 hv hw=>(yl hv hw (jb g) (jb k)).mono fun r h' q=>?_⟩;have:=q.2;unfold Int.gcd at this;rw[lu,lu] at this;exact this
def O5:Num 206 Qh:=AY ⟨_,Proofs.Tryz.func206,rfl⟩ fun n b x m c y r g k h0=>by
 obtain⟨h1,h0⟩:=qC h0;cases h0;have y0:sint m y≠0:=fun h=>by
  have e:(sint m y).natAbs=0:=by rw[h];rfl
  rw[lu] at e;rw[e] at h1;cases h1
 refine⟨SG _ _,fun h v v2 hv hw=>(wS hv hw (jb g) (jb k) y0).mono fun r h' q=>SF ?_⟩;rw[mj,mj];exact q.2
def Tt:Num 236 UX:=Rn ⟨_,Proofs.Tryz.func236,rfl⟩ fun n b x r g h0=>by
 cases h0;refine⟨?_,fun h v hv=>(qh hv).mono fun r h' q=>?_⟩
 ·cases n
  ·intro h1 h2;rw[h2] at h1;cases h1
  ·intro h1;cases h1
 ·have : -sint n x=sint (iB n false (Nat.ble 1 x)) x:=by
   cases n
   ·cases x with
    | zero=>rfl
    | succ x=>rfl
   ·exact Int.neg_neg _
  show bW h' r (sint _ x);rw[←this];exact q.2
def Tv:Num 92 UZ:=Rn ⟨_,Proofs.Tryz.func92,rfl⟩ fun n b x r g h0=>by cases h0;rw[SV,mj];exact⟨rfl,fun h v hv=>(qi hv).mono fun r h' q=>q.2⟩
def Ty:Num 101 U8:=Rl ⟨_,Proofs.Tryz.func101,rfl⟩ fun v r h0=>by obtain⟨n,rfl,h0⟩:=Ed h0;obtain⟨h1,h0⟩:=dZ h0;cases h0;exact⟨qz _,fun h=>(zG n (lF h1)).mono fun r h' q=>qv q.2⟩
def Mt:Num 103 KV:=Rl ⟨_,Proofs.Tryz.func103,rfl⟩ fun v r h0=>by
 cases hs:Gs v (fun n=>some (.int .i64 n)) with
 | none=>rw[hs] at h0;cases h0
 | some w =>
  rw[hs,bL] at h0;obtain⟨n,hn,rfl,h1⟩:=ye hs;cases h1;cases h0;exact⟨qz _,fun h=>(mn n hn).mono fun r h' q=>qv q.2⟩
def Tu:Num 105 UY:=Rn ⟨_,Proofs.Tryz.func105,rfl⟩ fun n b x r g h0=>by
 have pl : ∀z,plain (wdV z)=true:=fun z=>by
  show(wdC z).toArray.all ct=true;rw[wdC,List.all_toArray,List.all_map];simp[ct]
 have ew : ∀z,Value.agg ⟨vf 8 z []⟩=wdV z:=fun z=>by unfold wdV wdC;rw[wI,x8]
 have key : ∀z e,(NR.val (.tuple #[.agg ⟨vf 8 z []⟩,KI e])).mM:=fun z e=>by rw[ew];show [wdV z,KI e].all plain=true;rw[tM,pl];rfl
 change iB (inF (sI n x)) _ _=some r at h0;rw[iz,Pn,mj] at h0;by_cases c:InW (sint n x);·rw[bf c] at h0;cases h0;refine⟨key _ _,fun h v hv=>(vE hv).mono fun r h' q=>q.2.trans ?_⟩;rw[ah c,ew,Dt c]
 ·rw[aY c] at h0
  cases h0;refine⟨key _ _,fun h v hv=>(vE hv).mono fun r h' q=>q.2.trans ?_⟩;rw[ad c,ew]
noncomputable section
abbrev Za1:=FuncId×(List NK×(List NV→Option NR))
def SI (l:List Za1) (f:FuncId):Option (List QQ→IH→Option (QQ×IH)):=List.rec (motive:=fun _=>Option (List QQ→IH→Option (QQ×IH))) none (fun p _ ih=>iB (Nat.beq f p.1) (some (Pd p.2.1 p.2.2)) ih) l
def Lm : ∀{l:List Za1} {f:FuncId} {g:List QQ→IH→Option (QQ×IH)},SI l f=some g → ∃p∈l,p.1=f∧g=Pd p.2.1 p.2.2
 | [],_,_,h=>by cases h
 | p :: l,f,g,h=>by
  change iB (Nat.beq f p.1) (some (Pd p.2.1 p.2.2)) (SI l f)=some g at h;rw[iz] at h;cases hb:Nat.beq f p.1 with
  | true =>
   rw[hb] at h;cases h;exact⟨p,oM,(my.mp hb).symm,rfl⟩
  | false =>
   rw[hb] at h;obtain⟨q,h1,h2⟩:=Lm h;exact⟨q,pR _ h1,h2⟩
def Vw {P:Program} (S:Sound (E0 P)) {tb:List (FuncId×(List QQ→Option QQ))} (h : ∀p∈tb,Ar P p.1 p.2) {tn:List Za1} (k : ∀p∈tn,xM P p.1 p.2.2):Sound (E2 P (I7 tb) (SI tn)) :=
 ZcM S (LG S h) fun f g hg=>by obtain⟨p,h1,h2,h3⟩:=Lm hg;exact⟨p.2.1,p.2.2,h3,h2▸k p h1⟩
end
end Go.Id
namespace Go.Proofs.YtnnmjocmapilaaaGreat
open Go.ChangeShapes Go.WideShapes Go.ChangeAt Go.RowKit Go.Id
noncomputable def tn2:List Za1:=[(156,[.val],Zbt),(75,[.val],VP),(131,[.long],U7),(132,[.rat],VK),(247,[.rat],VJ),(83,[.rat,.rat],VM),(198,[.rat,.rat],QR),(87,[.rat,.rat],QM),(84,[.rat,.rat],VN),(90,[.rat,.rat],Zbv),(103,[.val],KV),(101,[.val],U8),(105,[.long],UY),(236,[.long],UX),(92,[.long],UZ),(187,[.long,.long],U3),(242,[.long,.long],Qk),(104,[.long,.long],Qg),(190,[.long,.long],Zbc),(207,[.long,.long],Lc),(206,[.long,.long],Qh)]
def Ze4 : ∀p∈tn2,xM Tryz.prog p.1 p.2.2:=by
 intro p hp;simp only[tn2,dD,List.not_mem_nil,or_false] at hp;rcases hp with rfl|rfl|rfl|rfl|rfl|rfl|rfl|rfl|rfl|rfl|rfl|rfl|rfl|rfl|rfl|rfl|rfl|rfl|rfl|rfl|rfl;·exact Wk
 ·exact TD
 ·exact Tx
 ·exact TA
 ·exact Tz
 ·exact TB
 ·exact O8
 ·exact O7
 ·exact TC
 ·exact Wl
 ·exact Mt
 ·exact Ty
 ·exact Tu
 ·exact Tt
 ·exact Tv
 ·exact Tw
 ·exact O6
 ·exact O4
 ·exact Wj
 ·exact Mu
 ·exact O5
noncomputable def tb2:List (FuncId×(List Value→Option Value)):=[(189,WA),(88,of2),(42,of2),(128,PW),(26,cmp2)]
def ZeB : ∀p∈tb2,Ar Tryz.prog p.1 p.2:=by
 intro p hp;simp only[tb2,dD,List.not_mem_nil,or_false] at hp;rcases hp with rfl|rfl|rfl|rfl|rfl;·exact wk Tryz.sound Tryz.func189 rfl Vg
 ·exact wk Tryz.sound Tryz.func88 rfl Zcq
 ·exact wk Tryz.sound Tryz.func42 rfl Vf
 ·exact wk Tryz.sound Tryz.func128 rfl SD
 ·exact wk Tryz.sound Tryz.func26 rfl YY
def Zm:Sound (E2 Tryz.prog (I7 tb2) (SI tn2)):=Vw Tryz.sound ZeB Ze4
def IQ:Sg (E2 Tryz.prog (I7 tb2) (SI tn2)) (4999+1) 15 (fun _=>none)=true:=mQ
noncomputable def tbO:FuncId→Option (List Value→Option Value):=I7 [(15,okT)]
def Zl:Sound (E1 Tryz.prog tbO):=LG Tryz.sound fun p hp=>by obtain rfl:=iD.1 hp;exact PM (E:=E2 Tryz.prog (I7 tb2) (SI tn2)) Zm Tryz.func15 rfl IQ
def Xy {H:Type} {enc:TypeId×Value→H} {W:World} {held:Bool} (G:Nat→Option (List Value)) {fuel:Nat} {cs:List Value} {x:DataW H×List MemPlace} (h:DataW.trod enc Tryz.prog W 0 (fun _=>true) held fuel 58 cs=some x) :∃b1 y1 n1 b2 y2 n2,cs = [.bool b1,y1,.int .u32 n1,.bool b2,y2,.int .u32 n2]∧(ef y1=true∧ef y2=true)∧(aM (trV y1)=true∧aM (trV y2)=true∧(0≤n1∧n1<4294967296)∧(0≤n2∧n2<4294967296)):=by obtain⟨xs,m,_,_,hl,hn,hf⟩:=DataW.trod_struct IY h;rw[Kx] at hl;have hn2:xs.length=2:=hn;obtain⟨x0,hx0⟩:=fJ (l:=xs) (i:=0) byOmega;have f0:DataW.trod enc Tryz.prog W 0 (fun _=>true) held m 56 ((cs.drop 0).take (Tryz.prog.cellsOf 56))=some x0:=(hf 0 { name := "N",type:=56,offset:=0,embedded:=false,tag := "",pkgPath := "",byteOffset:=0 } rfl).trans hx0;obtain⟨x1,hx1⟩:=fJ (l:=xs) (i:=1) byOmega;have f1:DataW.trod enc Tryz.prog W 0 (fun _=>true) held m 56 ((cs.drop 3).take (Tryz.prog.cellsOf 56))=some x1:=(hf 1 { name := "D",type:=56,offset:=3,embedded:=false,tag := "",pkgPath := "",byteOffset:=40 } rfl).trans hx1;rw[Fv] at f0 f1;obtain⟨a,b,c,d,e,f,rfl⟩:=len6 hl;obtain⟨b1,y1,n1,e0,o1,t1,r1⟩:=CH G f0;obtain⟨b2,y2,n2,e1,o2,t2,r2⟩:=CH G f1;cases e0;cases e1;exact⟨b1,_,n1,b2,_,n2,rfl,⟨t1,t2⟩,o1,o2,r1,r2⟩
end Go.Proofs.YtnnmjocmapilaaaGreat
namespace Go.Id
def rs:Nat→(Nat→Rat)→Rat
 | 0,_=>0
 | n+1,g=>rs n g+g n
variable {f:Nat→Rat}{n:Nat}{g:Nat→Rat}
theorem bR (h : ∀i,i<n→f i=g i):rs n f=rs n g:=by
 induction n with
 | zero=>rfl
 | succ n ih=>rw[rs,rs,ih (fun i hi=>h i (by omega)),h n (by omega)]
theorem VL (n:Nat) (f g:Nat→Rat):rs n (fun i=>f i+g i)=rs n f+rs n g:=by
 induction n with
 | zero=>rw[rs,rs,rs,Rat.add_zero]
 | succ n ih=>rw[rs,rs,rs,ih];grind
theorem rU (n:Nat) (c:Rat) (f:Nat→Rat):rs n (fun i=>c*f i)=c*rs n f:=by
 induction n with
 | zero=>simp[rs]
 | succ n ih=>rw[rs,rs,ih];grind
theorem wO (n:Nat):rs n (fun _=>0)=0:=by
 induction n with
 | zero=>rfl
 | succ n ih=>rw[rs,ih];grind
theorem Jj (n m:Nat) (f:Nat→Nat→Rat):rs n (fun i=>rs m (fun j=>f i j))=rs m (fun j=>rs n (fun i=>f i j)):=by
 induction n with
 | zero=>simp only[rs,wO]
 | succ n ih=>simp only[rs,VL];rw[ih]
def ZeR (h : ∀i,i<n→f i≤g i):rs n f≤rs n g:=by
 induction n with
 | zero=>simp[rs]
 | succ n ih =>
  have a:=ih (fun i hi=>h i (by omega));have b:=h n (by omega);rw[rs,rs];grind
def S5 (h : ∀i,i<n→0≤f i):0≤rs n f:=by have:=ZeR (f:=fun _=>0) (g:=f) h;rwa [wO] at this
def cX (N:Nat) (p:Nat→Nat→Rat):Nat→Nat→(List Nat→Rat)→Rat
 | 0,_,F=>F []
 | k+1,s,F=>rs N fun j=>p s j*cX N p k j (fun l=>F (j :: l))
section
variable {N:Nat} {p:Nat→Nat→Rat}
theorem iY {k s:Nat} {F G:List Nat→Rat} (h : ∀l,l.length=k→F l=G l):cX N p k s F=cX N p k s G:=by
 induction k generalizing s F G with
 | zero=>exact h [] rfl
 | succ k ih =>
  rw[cX,cX];refine bR fun j _=>?_;rw[ih fun l hl=>h (j :: l) (by rw[List.length_cons,hl])]
theorem sM (k s:Nat) (c:Rat) (F:List Nat→Rat):cX N p k s (fun l=>c*F l)=c*cX N p k s F:=by
 induction k generalizing s F with
 | zero=>rfl
 | succ k ih =>
  rw[cX,cX,←rU];refine bR fun j _=>?_;rw[ih];grind
theorem V4 (k s:Nat) (F G:List Nat→Rat):cX N p k s (fun l=>F l+G l)=cX N p k s F+cX N p k s G:=by
 induction k generalizing s F G with
 | zero=>rfl
 | succ k ih =>
  rw[cX,cX,cX,←VL];refine bR fun j _=>?_;rw[ih];grind
theorem zx (k s n:Nat) (F:Nat→List Nat→Rat):cX N p k s (fun l=>rs n fun i=>F i l)=rs n fun i=>cX N p k s (F i):=by
 induction n with
 | zero =>
  have:=sM (N:=N) (p:=p) k s 0 (fun _=>0);simp only[rs];simpa using this
 | succ n ih =>
  simp only[rs];rw[V4,ih]
theorem Tj {w:Nat→Rat} (hr : ∀i j,i<N→j<N→w i*p i j=w j*p j i) (j k:Nat) (F:List Nat→Nat→List Nat→Rat) :rs N (fun s=>w s*cX N p j s fun b=>cX N p k s fun o=>F b s o)=rs N (fun s=>w s*cX N p (j+k) s fun l=>F ((s :: l).take j).reverse ((s :: l).getD j 0) ((s :: l).drop (j+1))):=by
 induction j generalizing k F with
 | zero =>
  refine bR fun s _=>?_;rw[Nat.zero_add];rfl
 | succ j ih =>
  have e:=ih (k+1) (fun b t o=>F (t :: b) (o.getD 0 0) (o.drop 1));have l1:rs N (fun s=>w s*cX N p (j+1) s fun b=>cX N p k s fun o=>F b s o)=rs N (fun t=>w t*cX N p j t fun b=>cX N p (k+1) t fun o=>F (t :: b) (o.getD 0 0) (o.drop 1)):=by simp only[cX,←rU,zx];rw[Jj];refine bR fun t ht=>bR fun s hs=>?_;have e1:=sM (N:=N) (p:=p) j t (p t s) (fun b=>cX N p k s fun o=>F (t :: b) s o);show w s*(p s t*cX N p j t fun b=>cX N p k s fun o=>F (t :: b) s o)=w t*cX N p j t fun b=>p t s*cX N p k s fun o=>F (t :: b) s o;rw[e1,←Rat.mul_assoc,←Rat.mul_assoc,hr s t hs ht]
  rw[l1,e,show j+1+k=j+(k+1) by omega];refine bR fun s _=>?_;congr 1;refine iY fun l hl=>?_;have hj:j<(s :: l).length:=by rw[List.length_cons];omega
  rw[List.getD_eq_getElem?_getD,List.getD_eq_getElem?_getD,List.getElem?_drop,List.drop_drop,Nat.add_zero,←List.getD_eq_getElem?_getD,←List.getD_eq_getElem?_getD];congr 1;rw[List.getD_eq_getElem?_getD,List.getElem?_eq_getElem hj,Option.getD_some,List.take_add_one,List.getElem?_eq_getElem hj,Option.toList_some,List.reverse_append];rfl
end
abbrev leF (f:Nat→Rat) (s:Nat) (t:Nat):Bool:=decide (f t≤f s)
theorem XV (f:Nat→Rat) {x:List Nat} {j:Nat} (hj:j<x.length):(x.take j).reverse.countP (leF f (x.getD j 0))+(x.drop (j+1)).countP (leF f (x.getD j 0))+1=x.countP (leF f (x.getD j 0)):=by
 have e:x=x.take j ++ x.getD j 0 :: x.drop (j+1):=by rw[bC,bK hj,mZ,←List.drop_eq_getElem_cons hj,List.take_append_drop]
 obtain⟨z,hz⟩:=bm (x.getD j 0);rw[←hz] at e ⊢
 conv=>rhs;rw[e]
 rw[List.countP_append,List.countP_cons_of_pos (p:=leF f z) (bf tD),List.countP_reverse];omega
section
variable {N:Nat} {p:Nat→Nat→Rat} {w:Nat→Rat}
def qO (N:Nat) (p:Nat→Nat→Rat) (f:Nat→Rat) (R k s:Nat):Rat:=cX N p k s fun o=>if o.countP (leF f s)+1≤R then 1 else 0
end
theorem Cs {n a:Nat} (h:a<n) (g:Nat→Rat):rs n (fun i=>if i=a then g i else 0)=g a:=by
 induction n with
 | zero=>omega
 | succ n ih =>
  rw[rs]
  by_cases c:n=a;·rw[ah c,c,bR (g:=fun _=>0) (fun i hi=>by rw[ad byOmega]),wO,Aw]
  ·rw[ad c,ih byOmega,lP]
section
variable {N:Nat} {p:Nat→Nat→Rat}
variable {s:Nat}
def Q1 {k:Nat} {F G:List Nat→Rat} (h : ∀l,l.length=k→(∀x∈l,x<N)→F l=G l):cX N p k s F=cX N p k s G:=by
 induction k generalizing s F G with
 | zero=>exact h [] rfl aa
 | succ k ih =>
  rw[cX,cX];refine bR fun j hj=>?_;rw[ih fun l hl hx=>h (j :: l) (by rw[gX,hl]) (by
   intro x hm;rcases dD.1 hm with rfl|hm;·exact hj
   ·exact hx x hm)]
def iP (s:Nat) (l:List Nat):Nat:=l.getLast?.getD s
theorem Pk (s a:Nat) (l:List Nat):iP s (a :: l)=iP a l:=by unfold iP;rw[List.getLast?_cons,mZ]
theorem Hm (s a:Nat) (l:List Nat):iP s (l ++ [a])=a:=by unfold iP;rw[List.getLast?_append];rfl
theorem MP {l:List Nat} (hs:s<N) (h : ∀x∈l,x<N):iP s l<N:=by
 unfold iP;cases e:l.getLast? with
 | none=>exact hs
 | some a=>exact h a (List.mem_of_getLast? e)
theorem Tk (k s:Nat) (F:List Nat→Rat):cX N p (k+1) s F=cX N p k s fun l=>rs N fun j=>p (iP s l) j*F (l ++ [j]):=by
 induction k generalizing s F with
 | zero=>rfl
 | succ k ih =>
  rw[cX,cX];refine bR fun j _=>?_;rw[ih];congr 1;refine iY fun l _=>?_;rw[Pk];rfl
def mf (N:Nat) (p:Nat→Nat→Rat) (hit:Nat→Bool) (s:Nat):Nat→Nat→Nat→Rat
 | 0,j,n=>if j=s∧n=0 then 1 else 0
 | k+1,j,n=>if hit j then (if n=0 then 0 else rs N fun i=>mf N p hit s k i (n - 1)*p i j) else rs N fun i=>mf N p hit s k i n*p i j
theorem Uq (hit:Nat→Bool) (hs:s<N) (k:Nat) {j:Nat} (hj:j<N) (n:Nat):mf N p hit s k j n=cX N p k s fun l=>if iP s l=j∧l.countP hit=n then 1 else 0:=by
 induction k generalizing j n with
 | zero =>
  rw[mf,cX]
  show _=if s=j∧0=n then (1:Rat) else 0;by_cases c:j=s∧n=0;·rw[ah c,ah ⟨c.1.symm,c.2.symm⟩]
  ·rw[ad c,ad fun x=>c ⟨x.1.symm,x.2.symm⟩]
 | succ k ih =>
  have st : ∀m,(rs N fun i=>mf N p hit s k i m*p i j)=cX N p k s fun l=>p (iP s l) j*if l.countP hit=m then 1 else 0:=fun m=>by
   rw[bR (g:=fun i=>cX N p k s fun l=>p i j*if iP s l=i∧l.countP hit=m then 1 else 0) (fun i hi=>by rw[ih hi,Rat.mul_comm,sM]),←zx];refine Q1 fun l hl hx=>?_;rw[←Cs (MP hs hx) (fun i=>p i j*if l.countP hit=m then 1 else 0)];refine bR fun i _=>?_;by_cases c:i=iP s l;·rw[ah c,←c];simp
   ·rw[ad c,ad fun x=>c x.1.symm,rM]
  have rt:(cX N p (k+1) s fun l=>if iP s l=j∧l.countP hit=n then (1:Rat) else 0)=cX N p k s fun l=>p (iP s l) j*if l.countP hit+(if hit j then 1 else 0)=n then 1 else 0:=by
   rw[Tk];refine iY fun l _=>?_;rw[←Cs hj (fun t=>p (iP s l) t*if l.countP hit+(if hit t then 1 else 0)=n then 1 else 0)];refine bR fun t _=>?_;rw[Hm,List.countP_append,List.countP_singleton];by_cases c:t=j;·rw[ah c];simp[c]
   ·rw[ad c,ad fun x=>c x.1,rM]
  rw[rt,mf];by_cases hh:hit j
  ·rw[ah hh];by_cases n0:n=0
   ·rw[ah n0,iY (G:=fun l=>0*0) (fun l _=>by rw[ad (by rw[ah hh];omega)];simp),sM,rL]
   ·rw[ad n0,st];refine iY fun l _=>?_;congr 1;by_cases c:l.countP hit=n - 1
    ·rw[ah c,ah (by rw[ah hh];omega)]
    ·rw[ad c,ad (by rw[ah hh];omega)]
  ·rw[ad hh,st];refine iY fun l _=>?_;rw[ad hh];rfl
theorem Zcy (hit:Nat→Bool) (hs:s<N) (k n:Nat):(rs N fun j=>mf N p hit s k j n)=cX N p k s fun l=>if l.countP hit=n then 1 else 0:=by
 rw[bR fun j hj=>Uq hit hs k hj n,←zx];refine Q1 fun l _ hx=>?_;rw[←Cs (MP hs hx) (fun _=>if l.countP hit=n then (1:Rat) else 0)];refine bR fun i _=>?_;by_cases c:i=iP s l;·rw[ah c,←c];simp
 ·rw[ad c,ad fun x=>c x.1.symm]
end
section
variable {N:Nat} {p:Nat→Nat→Rat}
variable {M:Nat}
theorem Fm (hit:Nat→Bool) (k s:Nat) (hM:k<M) (g:Nat→Rat):(rs M fun i=>(cX N p k s fun l=>if l.countP hit=i then 1 else 0)*g i)=cX N p k s fun l=>g (l.countP hit):=by
 rw[bR (g:=fun i=>cX N p k s fun l=>g i*if l.countP hit=i then 1 else 0) (fun i _=>by rw[sM,Rat.mul_comm]),←zx];refine iY fun l hl=>?_;have c:l.countP hit<M:=kh (hl▸List.countP_le_length) hM;rw[←Cs c g];refine bR fun i _=>?_;by_cases e:i=l.countP hit;·rw[ah e,ah e.symm,Ax]
 ·rw[ad e,ad fun x=>e x.symm,rM]
theorem upQ (hit:Nat→Bool) (s:Nat) {k1 k2:Nat} (h1:k1<M) (h2:k2<M) (R:Nat) :(rs M fun i=>rs M fun j=>if i+j+1≤R then (cX N p k1 s fun l=>if l.countP hit=i then 1 else 0)*(cX N p k2 s fun l=>if l.countP hit=j then 1 else 0) else 0)
   = cX N p k1 s fun b=>cX N p k2 s fun o=>if b.countP hit+o.countP hit+1≤R then 1 else 0:=by
 rw[←Fm hit k1 s h1 (fun i=>cX N p k2 s fun o=>if i+o.countP hit+1≤R then 1 else 0)];refine bR fun i _=>?_;rw[←Fm hit k2 s h2 (fun j=>if i+j+1≤R then 1 else 0),←rU];refine bR fun j _=>?_;by_cases c:i+j+1≤R;·rw[ah c,ah c,Ax]
 ·rw[ad c,ad c,rM,rM]
theorem upQ1 (f:Nat→Rat) (s:Nat) {k:Nat} (h:k<M) (R:Nat) :
  (rs M fun i=>if i+1≤R then (cX N p k s fun l=>if l.countP (leF f s)=i then 1 else 0) else 0)=qO N p f R k s:=by
 unfold qO;rw[←Fm (leF f s) k s h (fun i=>if i+1≤R then 1 else 0)];refine bR fun i _=>?_;by_cases c:i+1≤R;·rw[ah c,ah c,Ax]
 ·rw[ad c,ad c,rM]
end
open Go
open Go renaming Operand→QY,Program→QX,TypeId→QZ,Value→QQ
open Nat renaming reduceAdd→zA,reduceEqDiff→zE,reduceLeDiff→zL
open Nat (reduceMul)
set_option maxHeartbeats 16000000
def OvL (L x:Nat) (q:Rat):Prop:=0<L∧L≤2 ^ x ∧ ∃N:Int,q=(N:Rat) / ((L:Int):Rat)∧N.natAbs≤2 ^ x
variable {L:Nat}
def um (h:0<L):((L:Int):Rat)≠0:=by intro e;have:=Rat.intCast_eq_zero_iff.1 e;omega
variable {q:Rat}{x:Nat}
def OvL.qb (h:OvL L x q):QB x q:=by obtain⟨hL,hx,N,rfl,hN⟩:=h;rw[←oK];obtain⟨e1,e2⟩:=rq (n:=N) (d:=(L:Int)) byOmega;have a1:=z8 N (Int.gcd N (L:Int));have a2:=z8 (L:Int) (Int.gcd N (L:Int));rw[e1] at a1;rw[e2] at a2;have a3:((Rat.divInt N (L:Int)).den:Int).natAbs=(Rat.divInt N (L:Int)).den:=jU _;have a4:((L:Int)).natAbs=L:=jU _;exact⟨bA a1 hN,byOmega⟩
variable {y:Nat}
def OvL.mono (h:OvL L x q) (k:x≤y):OvL L y q:=by obtain⟨hL,hx,N,e,hN⟩:=h;have:=fQ (n:=2) byOmega k;exact⟨hL,bA hx this,N,e,bA hN this⟩
variable {p:Rat}
def OvL.add (hp:OvL L x p) (hq:OvL L x q):OvL L (x+1) (p+q):=by
 obtain⟨hL,hx,N,e,hN⟩:=hp
 obtain⟨_,_,M,f,hM⟩:=hq;have h2:2 ^ (x+1)=2 ^ x+2 ^ x:=by rw[dU];omega
 have:=um hL;refine⟨hL,byOmega,N+M,?_,?_⟩;·rw[e,f,Rat.intCast_add];grind
 ·have:=Int.natAbs_add_le N M
  omega
def OvL.mul {K:Nat} (hp:OvL L x p) (hq:OvL K y q):OvL (L*K) (x+y) (p*q):=by obtain⟨hL,hx,N,e,hN⟩:=hp;obtain⟨hK,hy,M,f,hM⟩:=hq;have h2:2 ^ (x+y)=2 ^ x*2 ^ y:=dC ..;have:=um hL;have:=um hK;refine⟨kf hL hK,by rw[h2];exact fB hx hy,N*M,?_,by rw[h2,Int.natAbs_mul];exact fB hN hM⟩;rw[e,f,uT,oP,uT];grind
def OvL.zero (hL:0<L) (hx:L≤2 ^ x):OvL L x 0:=⟨hL,hx,0,by simp;grind,aa⟩
def OvL.one:OvL 1 0 1:=⟨byOmega,byOmega,1,by simp;grind,aa⟩
variable {n:Nat}
theorem OvL.rs {f:Nat→Rat} (hL:0<L) (hx:L≤2 ^ x) (h : ∀i,i<n→OvL L x (f i)):OvL L (x+n) (Go.Id.rs n f):=by
 induction n with
 | zero=>exact OvL.zero hL hx
 | succ n ih =>
  exact(ih fun i hi=>h i byOmega).add ((h n byOmega).mono byOmega)
variable {z:Int}
def ZM (h:z.natAbs≤2 ^ x):OvL 1 x (z:Rat):=⟨byOmega,Iv,z,by simp;grind,h⟩
def ZT (x:Nat):1≤2 ^ x:=Iv
def QB.abs (h:QB x (z:Rat)):z.natAbs≤2 ^ x:=h.1
def OvL.ite {L x:Nat} {q:Rat} {c:Prop} [Decidable c] (h:OvL L x q):OvL L x (if c then q else 0):=by
 split;·exact h
 ·exact OvL.zero h.1 h.2.1
def vF:Nat→(Nat→Nat)→Nat
 | 0,_=>1
 | n+1,g=>vF n g*g n
variable {g:Nat→Nat}
def GS {i:Nat} (hi:i<n):g i∣vF n g:=by
 induction n with
 | zero=>omega
 | succ n ih =>
  rw[vF]
  by_cases c:i=n;·subst c;exact Az ..
  ·exact pP (ih byOmega) (xU ..)
def GR (h : ∀i,i<n→0<g i):0<vF n g:=by
 induction n with
 | zero=>exact Nat.one_pos
 | succ n ih=>exact kf (ih fun i hi=>h i byOmega) (h n byOmega)
variable {b:Nat}
def Mb (h : ∀i,i<n→g i≤2 ^ b):vF n g≤2 ^ (b*n):=by
 induction n with
 | zero=>exact tG (by rw[Nat.mul_zero];rfl)
 | succ n ih =>
  rw[vF,Nat.mul_succ,dC];exact fB (ih fun i hi=>h i byOmega) (h n byOmega)
def Z3 {N:Nat} {f:Nat→Nat→Rat} (h : ∀i j,i<N→j<N→0≤f i j∧f i j≤1∧(f i j).den≤2 ^ b) : ∃D,∀i j,i<N→j<N→OvL D (b*N*N) (f i j):=by
 refine⟨vF N fun i=>vF N fun j=>(f i j).den,fun i j hi hj=>?_⟩;obtain⟨D,hD⟩:=bm (vF N fun i=>vF N fun j=>(f i j).den);have pos:0<D:=by rw[hD];exact GR fun i _=>GR fun j _=>(f i j).den_pos
 have le:D≤2 ^ (b*N*N):=by rw[hD];exact Mb fun i hi=>Mb fun j hj=>(h i j hi hj).2.2
 have dv:(f i j).den∣D:=by rw[hD];exact pP (GS (g:=fun j=>(f i j).den) hj) (GS (g:=fun i=>vF N fun j=>(f i j).den) hi)
 rw[←hD];obtain⟨h0,h1,_⟩:=h i j hi hj;obtain⟨c,hc⟩:=dv;have dp:=(f i j).den_pos;have n0:0≤(f i j).num:=tC.2 h0;have n1:(f i j).num≤(f i j).den:=by have:=(Rat.le_iff (f i j) 1).1 h1;simpa using this
 have hne:((c:Int):Rat)≠0:=by intro e;have:(c:Int)=0:=Rat.intCast_eq_zero_iff.1 e;have:c=0:=byOmega;subst this;omega
 have hdn:(((f i j).den:Int):Rat)≠0:=um dp;refine⟨pos,le,(f i j).num*c,?_,?_⟩
 ·have e:f i j=((f i j).num:Rat) / (((f i j).den:Int):Rat):=by rw[←oK];exact(uS (f i j)).symm
  rw[hc,oP,uT,uT]
  conv=>lhs;rw[e]
  grind
 ·refine bA ?_ le;rw[Int.natAbs_mul,jU,hc];exact cT _ byOmega
section
variable (p:Nat→Nat→Rat) (hit:Nat→Bool) (x:Nat→Nat→Rat)
def oY (a:Nat):Nat:=if hit a then 1 else 0
def zd (i a m:Nat):Rat:=if hit a then (if m=0 then 0 else x i (m - 1)) else x i m
def nxQ (i j n a m:Nat):Rat:=rs i (fun t=>zd hit x t a m*p t a)+if a<j∨(a=j∧m<n+oY hit a) then zd hit x i a m*p i a else 0
def ZV (a m:Nat):nxQ p hit x 0 0 0 a m=0:=by
 unfold nxQ;rw[rs,Aw];by_cases d:a<0∨(a=0∧m<0+oY hit a)
 ·rw[ah d];have hh:hit a=true:=by
   cases e:hit a with
   | true=>rfl
   | false=>have:=d;unfold oY at this;rw[e] at this;simp at this
  have m0:m=0:=by have:=d;unfold oY at this;rw[hh] at this;simp at this;exact this.2
  unfold zd;rw[ah hh,ah m0,rL]
 ·rw[ad d]
theorem Zbz (i j n:Nat):nxQ p hit x i j n j (n+oY hit j)+x i n*p i j=nxQ p hit x i j (n+1) j (n+oY hit j):=by
 have e:zd hit x i j (n+oY hit j)=x i n:=by
  unfold zd oY;by_cases h:hit j;·simp[h]
  ·simp[h]
 unfold nxQ;rw[ad byOmega,ah byOmega,e,lP]
variable {m a:Nat}
def Rk (i j n:Nat) (h : ¬(a=j∧m=n+oY hit j)):nxQ p hit x i j (n+1) a m=nxQ p hit x i j n a m:=by
 unfold nxQ;congr 1;by_cases c:a=j
 ·subst c;by_cases d:m<n+oY hit a
  ·rw[ah byOmega,ah byOmega]
  ·rw[ad byOmega,ad byOmega]
 ·by_cases d:a<j
  ·rw[ah byOmega,ah byOmega]
  ·rw[ad byOmega,ad byOmega]
variable {i:Nat}
def Rj {j n:Nat} (h:x i n=0∨p i j=0) (a m:Nat):nxQ p hit x i j (n+1) a m=nxQ p hit x i j n a m:=by
 by_cases c:a=j∧m=n+oY hit j
 ·obtain⟨rfl,rfl⟩:=c;rw[←Zbz];rcases h with h|h
  ·rw[h,rL,lP]
  ·rw[h,rM,lP]
 ·exact Rk p hit x i j n c
def Zdc (i j:Nat) {S:Nat} (hm:m<S):nxQ p hit x i (j+1) 0 a m=nxQ p hit x i j S a m:=by
 unfold nxQ;congr 1;by_cases c:a<j+1;·rw[ah byOmega,ah byOmega]
 ·rw[ad (c:=a<j∨_) byOmega];by_cases d:a=j+1∧m<0+oY hit a
  ·have hh:hit a=true:=by
    cases e:hit a with
    | true=>rfl
    | false=>have:=d.2;unfold oY at this;rw[e] at this;simp at this
   have m0:m=0:=by have:=d.2;unfold oY at this;rw[hh] at this;simp at this;exact this
   unfold zd;rw[hh,m0];simp
  ·rw[ad byOmega]
def Zda {N:Nat} (m:Nat) (ha:a<N):nxQ p hit x (i+1) 0 0 a m=nxQ p hit x i N 0 a m:=by
 unfold nxQ;rw[ah (c:=a<N∨_) (.inl ha),rs];by_cases d:a=0∧m<0+oY hit a
 ·have hh:hit a=true:=by
   cases e:hit a with
   | true=>rfl
   | false=>have:=d.2;unfold oY at this;rw[e] at this;simp at this
  have m0:m=0:=by have:=d.2;unfold oY at this;rw[hh] at this;simp at this;exact this
  have z : ∀t,zd hit x t a m=0:=fun t=>by unfold zd;rw[ah hh,ah m0]
  rw[z,z,rL,rL];split<;>simp[lP]
 ·rw[ad byOmega,lP]
end
variable {N:Nat}{p:Nat→Nat→Rat}{s:Nat}{hit:Nat→Bool}{x:Nat→Nat→Rat}
def Zdb {k:Nat} (a m:Nat) (hx : ∀i m,i<N→x i m=mf N p hit s k i m):nxQ p hit x N 0 0 a m=mf N p hit s (k+1) a m:=by
 unfold nxQ;rw[mf];have z:(if a<0∨(a=0∧m<0+oY hit a) then zd hit x N a m*p N a else 0)=0:=by
  by_cases d:a=0∧m<0+oY hit a
  ·have hh:hit a=true:=by
    cases e:hit a with
    | true=>rfl
    | false=>have:=d.2;unfold oY at this;rw[e] at this;simp at this
   have m0:m=0:=by have:=d.2;unfold oY at this;rw[hh] at this;simp at this;exact this
   unfold zd;rw[hh,m0];simp
  ·rw[ad byOmega]
 rw[z,lP];unfold zd;by_cases hh:hit a
 ·simp only[hh,bS];by_cases m0:m=0
  ·simp only[m0,bS];rw[bR (g:=fun _=>0) (fun i _=>by rw[rL]),wO]
  ·simp only[m0,cH];exact bR fun i hi=>by rw[hx i _ hi]
 ·simp only[hh];exact bR fun i hi=>by simp only[gv,cH];rw[hx i _ hi]
variable {L y i:Nat}
def Zj (hx : ∀i m,i<N→OvL L y (x i m)) (hi:i<N) (a m:Nat):OvL L y (zd hit x i a m):=by
 unfold zd;split
 ·split
  ·exact OvL.zero (hx i 0 hi).1 (hx i 0 hi).2.1
  ·exact hx i _ hi
 ·exact hx i _ hi
variable {D d:Nat}
def Zdd (hx : ∀i m,i<N→OvL L y (x i m)) (hp : ∀i j,i<N→j<N→OvL D d (p i j)) {a:Nat} (hi:i<N) (ha:a<N) (j n m:Nat):OvL (L*D) (y+d+N) (nxQ p hit x i j n a m):=by
 have t : ∀t,t<N→OvL (L*D) (y+d) (zd hit x t a m*p t a):=fun t ht=>(Zj hx ht a m).mul (hp t a ht ha);have z:=t i hi;refine OvL.mono (x:=y+d+i+1) ?_ byOmega;refine OvL.add ?_ ?_;·exact OvL.rs z.1 z.2.1 fun t' ht'=>t t' byOmega
 ·exact(z.mono byOmega).ite
variable {j:Nat}
def CJ (hp : ∀i j,i<N→j<N→OvL D d (p i j)) (k:Nat) (hj:j<N) (n:Nat):OvL (D ^ k) (k*(d+N)) (mf N p hit s k j n):=by
 induction k generalizing j n with
 | zero =>
  rw[mf,pN,iC];exact OvL.one.ite
 | succ k ih =>
  have t : ∀m i,i<N→OvL (D ^ k*D) (k*(d+N)+d) (mf N p hit s k i m*p i j):=fun m i hi=>(ih hi m).mul (hp i j hi hj);have z:=t 0 j hj;rw[mf,dU,uU,←jS];split
  ·split
   ·exact(OvL.zero z.1 z.2.1).mono byOmega
   ·exact OvL.rs z.1 z.2.1 (t _)
  ·exact OvL.rs z.1 z.2.1 (t _)
def Yb (k:Nat) {n:Nat} (h:k<n):mf N p hit s k j n=0:=by
 induction k generalizing j n with
 | zero=>rw[mf,ad byOmega]
 | succ k ih =>
  rw[mf]
  split;·rw[ad byOmega,bR (g:=fun _=>0) (fun i _=>by rw[ih byOmega,rL]),wO]
  ·rw[bR (g:=fun _=>0) (fun i _=>by rw[ih byOmega,rL]),wO]
open Go.Proofs.Tryz (prog)
def mkV (k n:Nat):QQ:=.slice (some ⟨2*k,0,none⟩) n (2*n+1)
def Ww (k n:Nat):(mkV k n).cells = #[mkV k n]∧aM (mkV k n)=true:=⟨rfl,by simp[mkV,aM]⟩
def Zn (c:List QQ):Prop:=∀x∈c,∃a b d,x=.slice a b d
variable {h:IH}{c:List QQ}{v:QQ}{c':List QQ}{b:Nat}
def N6 {ds:List Nat} (s:cA h 1 v ds.length (ds.map K64)) (hb:h.ext.get b=some (.cells c 1 none)) (hc:Zn c) (hl:c'.length=c.length):cA (h.put b (.cells c' 1 none)) 1 v ds.length (ds.map K64):=by
 by_cases hk:gj v=some (2*b)
 case neg=>exact s.putAt hk _
 obtain⟨hz,hln,⟨rfl,_⟩|⟨b0,o,k,rfl,s⟩⟩:=s;·cases hk
 have hb0:b0=2*b:=by injection hk
 subst hb0
 refine⟨hz,hln,.inr ⟨2*b,o,k,rfl,?_⟩⟩;rcases s with s|⟨a1,a2,row,a3,a4,a5,a6⟩
 ·exact .inl s
 have k2:2*b / 2=b:=byOmega
 have k0:(2*b % 2 == 1)=false:=aa;have jc:row=c:=by simp only[IH.row,k0,dL,k2,hb] at a4;injection a4 with a4;exact a4.symm
 subst jc
 by_cases hn:ds.length=0
 ·have hd:ds = []:=fC.1 hn;subst hd;refine .inr ⟨a1,a2,c',?_,?_,aa,by simp at a6 ⊢;omega⟩
  ·rcases a3 with a3|⟨a4',a5',f,_⟩
   ·omega
   ·exact .inr ⟨a4',a5',none,by rw[k2];exact ak _ _ rfl⟩
  ·simp only[IH.row,k0,dL,k2];rw[ak _ _ rfl]
 ·exfalso;cases ds with
  | nil=>exact hn rfl
  | cons d ds =>
   have:K64 d∈row:=by
    have h1:K64 d∈(row.drop o).take ((d :: ds).length*1):=by rw[a5];simp
    exact List.mem_of_mem_drop (AB h1)
   obtain⟨_,_,_,h2⟩:=hc _ this;cases h2
def bW.ZD {z:Int} (p:bW h v z) (hb:h.ext.get b=some (.cells c 1 none)) (hc:Zn c) (hl:c'.length=c.length):bW (h.put b (.cells c' 1 none)) v z:=by obtain⟨s,e,ds,d1,d2⟩:=p;exact⟨s,e,ds,⟨N6 d1.1 hb hc hl,d1.2⟩,d2⟩
variable {q:Rat}
def ch.ZD (p:ch h v q) (hb:h.ext.get b=some (.cells c 1 none)) (hc:Zn c) (hl:c'.length=c.length):ch (h.put b (.cells c' 1 none)) v q:=by obtain⟨a,s,b',t,e,h1,h2⟩:=p;exact⟨a,s,b',t,e,h1.ZD hb hc hl,h2.ZD hb hc hl⟩
def ch.F0 (p:ch h v q) {k e:Nat} {f:Option Nat} (hk:h.ext.get k=some (.cells c e f)) (he:e≠1) (o:cB):ch (h.put k o) v q :=
 p.rA ((uM.refl 1 h).put hk he o)
def pd (H:IH) (k M:Nat) (g:Nat→Rat):Prop:=∃cs,wB H 4 k (mkV k M) M cs ∧ ∀m,m<M→pe ch H cs m (g m)
structure Tab (H:IH) (n0 n1 b N M:Nat) (r:Nat→Nat) (q:Nat→Nat→Rat):Prop where
 lo:n0≤b∧b<n1
 ob:wB H 1 b (mkV b N) N ((List.range N).map fun j=>mkV (r j) M)
 lr : ∀j,j<N→n0≤r j∧r j<n1∧r j≠b
 inj : ∀i j,i<N→j<N→r i=r j→i=j
 row : ∀j,j<N→pd H (r j) M (q j)
section
variable {H H':IH} {n0 n1 b N M:Nat} {r:Nat→Nat} {q:Nat→Nat→Rat}
variable {k:Nat}{g:Nat→Rat}
def pd.ext (t:pd H k M g) (e:Ext H H'):pd H' k M g :=
 let ⟨cs,h1,h2⟩:=t
 ⟨cs,h1.ext e,fun m hm=>(h2 m hm).mono fun _ p=>p.ae e.ae⟩
def pd.congr {g':Nat→Rat} (t:pd H k M g) (h : ∀m,m<M→g m=g' m):pd H k M g' :=
 let ⟨cs,h1,h2⟩:=t
 ⟨cs,h1,fun m hm=>h m hm▸h2 m hm⟩
variable {j:Nat}{f:Option Nat}{c:List QQ}{e:Nat}
def pd.F0 (t:pd H k M g) (hj:H.ext.get j=some (.cells c e f)) (he:e≠1) (hk:k≠j) (o:cB):pd (H.put j o) k M g :=
 let ⟨cs,h1,h2⟩:=t
 ⟨cs,⟨h1.form,h1.len,h1.size,h1.some_,h1.old,(ax _ _ hk).trans h1.got⟩,fun m hm=>(h2 m hm).mono fun _ p=>p.F0 hj he o⟩
variable {m:Nat}
def pd.ldK (t:pd H k M g) (hm:m<M) : ∃a s b u,(∀h',Ext H h'→load prog h' 137 (a9 (mkV k M) (m*4))=some (.agg #[a,s,b,u]))∧ch H (.agg #[a,s,b,u]) (g m):=by obtain⟨cs,h1,h2⟩:=t;obtain⟨a,s,b,u,h3,h4⟩:=h2 m hm;have hl:=h1.len;refine⟨a,s,b,u,fun h' e=>?_,h4⟩;rw[(h1.ext e).sl.Ev (aX.refl h') byOmega byOmega FK xp,h3]
def pd.idx (t:pd H k M g) (hm:m<M):indexAddr prog 139 (mkV k M) (KN m)=some (a9 (mkV k M) (m*4)):=by obtain⟨cs,h1,_⟩:=t;exact h1.sl.idx EX (k:=.i64) hm
theorem pd.len (t:pd H k M g) (h':IH):qB prog h' 139 (mkV k M)=some (KN M):=by obtain⟨cs,h1,_⟩:=t;exact h1.sl.len GG h'
variable {x1 x3 x4:QQ}{z:Rat}{x2:QQ}
def pd.set (t:pd H k M g) (hm:m<M) (p:ch H (.agg #[x1,x2,x3,x4]) z) (hc:([x1,x2,x3,x4]:List QQ).all aM=true) :
  ∃cs' c,H.ext.get k=some (.cells c 4 none)∧store prog H 137 (a9 (mkV k M) (m*4)) (.agg #[x1,x2,x3,x4])=some (H.put k (.cells cs' 4 none))∧pd (H.put k (.cells cs' 4 none)) k M (fun c=>if c=m then z else g c):=by
 obtain⟨cs,h1,h2⟩:=t;obtain⟨s1,s2⟩:=h1.set (P:=prog) (t:=137) xp hm (x:=.agg #[x1,x2,x3,x4]) (xs:=[x1,x2,x3,x4]) rfl rfl hc;have hl:=h1.len;refine⟨_,cs,h1.got,s1,_,s2,fun c hc=>?_⟩;by_cases e:c=m;·subst e;simp only[bS];exact pe.set byOmega (p.F0 h1.got aP _)
 ·simp only[ad e]
  exact((h2 c hc).mono fun _ p=>p.F0 h1.got aP _).other byOmega e
def Tab.ext (t:Tab H n0 n1 b N M r q) (e:Ext H H'):Tab H' n0 n1 b N M r q :=
 ⟨t.lo,t.ob.ext e,t.lr,t.inj,fun j hj=>(t.row j hj).ext e⟩
def Tab.up {n2:Nat} (t:Tab H n0 n1 b N M r q) (h:n1≤n2):Tab H n0 n2 b N M r q :=
 ⟨⟨t.lo.1,cV t.lo.2 h⟩,t.ob,fun j hj=>⟨(t.lr j hj).1,cV (t.lr j hj).2.1 h,(t.lr j hj).2.2⟩,t.inj,t.row⟩
def Tab.congr {q':Nat→Nat→Rat} (t:Tab H n0 n1 b N M r q) (h : ∀j m,j<N→m<M→q j m=q' j m):Tab H n0 n1 b N M r q' :=
 ⟨t.lo,t.ob,t.lr,t.inj,fun j hj=>(t.row j hj).congr fun m hm=>h j m hj hm⟩
def Tab.put (t:Tab H n0 n1 b N M r q) (hj:H.ext.get j=some (.cells c e f)) (he:e≠1) (hk:j<n0∨n1≤j) (o:cB):Tab (H.put j o) n0 n1 b N M r q:=by have hb:=t.lo;refine⟨t.lo,⟨t.ob.form,t.ob.len,t.ob.size,t.ob.some_,t.ob.old,(ax _ _ byOmega).trans t.ob.got⟩,t.lr,t.inj,fun i hi=>(t.row i hi).F0 hj he ?_ o⟩;have:=t.lr i hi;omega
def Tab.ldR (t:Tab H n0 n1 b N M r q) {h':IH} (e:Ext H h') (hj:j<N):load prog h' 139 (a9 (mkV b N) j)=some (mkV (r j) M):=by have hl:=t.ob.len;rw[(t.ob.ext e).sl.ld (aX.refl h') byOmega Cb,cm,kY hj];rfl
def Tab.idx (t:Tab H n0 n1 b N M r q) (hj:j<N):indexAddr prog 147 (mkV b N) (KN j)=some (a9 (mkV b N) j):=by have:=t.ob.sl.idx RR (P:=prog) (k:=.i64) hj;rwa [dG] at this
theorem Tab.len (t:Tab H n0 n1 b N M r q) (h':IH):qB prog h' 147 (mkV b N)=some (KN N) :=
 t.ob.sl.len Vx h'
def Tab.set (t:Tab H n0 n1 b N M r q) (hj:j<N) (hm:m<M) (p:ch H (.agg #[x1,x2,x3,x4]) z) (hc:([x1,x2,x3,x4]:List QQ).all aM=true) :∃cs' c,H.ext.get (r j)=some (.cells c 4 none)∧store prog H 137 (a9 (mkV (r j) M) (m*4)) (.agg #[x1,x2,x3,x4])=some (H.put (r j) (.cells cs' 4 none))∧Tab (H.put (r j) (.cells cs' 4 none)) n0 n1 b N M r (fun a c=>if a=j∧c=m then z else q a c):=by
 obtain⟨cs',c,g,s1,s2⟩:=(t.row j hj).set hm p hc;have hr:=t.lr j hj;refine⟨cs',c,g,s1,t.lo,⟨t.ob.form,t.ob.len,t.ob.size,t.ob.some_,t.ob.old,(ax _ _ (Ne.symm hr.2.2)).trans t.ob.got⟩,t.lr,t.inj,fun i hi=>?_⟩;by_cases e:i=j
 ·subst e
  exact s2.congr fun m' _=>by
   by_cases d:m'=m;·simp[d]
   ·simp[d]
 ·exact((t.row i hi).F0 g aP (fun x=>e (t.inj i j hi hj x)) _).congr fun m' _=>by simp only[ad (show ¬(i=j∧m'=m) from fun x=>e x.1)]
end
structure xk (H:IH) (v:QQ) (N M:Nat) (rv:Nat→QQ) (q:Nat→Nat→Rat):Prop where
 sl:cA H 1 v N ((List.range N).map rv)
 row : ∀j,j<N→sm ch H (rv j) ((List.range M).map (q j))
section
variable {H H':IH} {v:QQ} {N M:Nat} {rv:Nat→QQ} {q:Nat→Nat→Rat}
def xk.ae (t:xk H v N M rv q) (k:aX H H'):xk H' v N M rv q:=⟨t.sl.ae k,fun j hj=>(t.row j hj).ae kF k⟩
variable {j:Nat}
def xk.ldR (t:xk H v N M rv q) {h':IH} (e:Ext H h') (hj:j<N):load prog h' 139 (a9 v j)=some (rv j):=by rw[t.sl.ld e.ae (by simp;exact hj) Cb,cm,kY hj];rfl
def xk.idx (t:xk H v N M rv q) (hj:j<N):indexAddr prog 147 v (KN j)=some (a9 v j):=by have:=t.sl.idx RR (P:=prog) (k:=.i64) hj;rwa [dG] at this
def xk.lenR (t:xk H v N M rv q) (hj:j<N) (h':IH):qB prog h' 139 (rv j)=some (KN M):=by obtain⟨cs,s,_,_⟩:=t.row j hj;have:=s.len GG (P:=prog) h';rwa [cd,Dd] at this
variable {m:Nat}
def xk.idxR (t:xk H v N M rv q) (hj:j<N) (hm:m<M):indexAddr prog 139 (rv j) (KN m)=some (a9 (rv j) (m*4)):=by obtain⟨cs,s,_,_⟩:=t.row j hj;exact s.idx EX (k:=.i64) (by rw[cd,Dd];exact hm)
def xk.ldK (t:xk H v N M rv q) (hj:j<N) (hm:m<M) : ∃a s b u,(∀h',Ext H h'→load prog h' 137 (a9 (rv j) (m*4))=some (.agg #[a,s,b,u]))∧ch H (.agg #[a,s,b,u]) (q j m):=by obtain⟨a,s,b,u,h1,h2⟩:=(t.row j hj).lG kF (i:=m) (q:=q j m) (by rw[cm,kY hm];rfl) FK xp (P:=prog);exact⟨a,s,b,u,fun h' e=>h1 h' e.ae,h2⟩
theorem pd.el {k:Nat} {g:Nat→Rat} (t:pd H k M g) (hM:M≤1000):sm ch H (mkV k M) ((List.range M).map g):=by
 obtain⟨cs,h1,h2⟩:=t;refine⟨cs,by simpa using h1.sl,KM (by simpa using h1.len) fun j q hj=>?_,bq⟩;have hjm:j<M:=by have:=(bZ.1 hj).1;simpa using this
 rw[cm,kY hjm] at hj;cases hj;exact h2 j hjm
def Tab.toR {n0 n1 b:Nat} {r:Nat→Nat} (t:Tab H n0 n1 b N M r q) (hM:M≤1000):xk H (mkV b N) N M (fun j=>mkV (r j) M) q :=
 ⟨t.ob.sl,fun j hj=>(t.row j hj).el hM⟩
end
def uO (N M i:Nat) (r:Nat→Nat):List Value:=(List.range N).map fun j=>if j<i then mkV (r j) M else .slice none 0 0
theorem SK (N M:Nat) (r:Nat→Nat):uO N M 0 r=cj N [.slice none 0 0]:=by rw[DZ];unfold uO;refine List.ext_getElem aa fun i h1 h2=>?_;simp
variable {N:Nat}{r:Nat→Nat}{M i:Nat}
theorem Vo {k:Nat} (hi:i<N):IH.aI (uO N M i r) (i*1) [mkV k M]=uO N M (i+1) (fun j=>if j=i then k else r j):=by
 rw[dG,jz (by simp[uO];omega)];unfold uO;refine List.ext_getElem aa fun j h1 h2=>?_;simp only[List.getElem_set,List.getElem_map,List.getElem_range];by_cases e:i=j;·subst e;simp
 ·rw[ad e,ad (c:=j=i) (Ne.symm e)];by_cases c:j<i
  ·rw[ah c,ah byOmega]
  ·rw[ad c,ad byOmega]
def Zd (N M i:Nat) (r:Nat→Nat):Zn (uO N M i r):=fun x hx=>by
 unfold uO at hx;obtain⟨j,_,rfl⟩:=ju.1 hx;split;·exact⟨_,_,_,rfl⟩
 ·exact⟨_,_,_,rfl⟩
theorem DF (N M i:Nat) (r:Nat→Nat):(uO N M i r).length=N:=by simp[uO]
structure Qb (H:IH) (b N M i:Nat) (r:Nat→Nat):Prop where
 ob:wB H 1 b (mkV b N) N (uO N M i r)
 lr : ∀j,j<i→b<r j∧r j<H.n
 inj : ∀j k,j<i→k<i→r j=r k→j=k
 row : ∀j,j<i→pd H (r j) M fun _=>0
variable {H:IH}{b:Nat}
def Qb.ext {H':IH} (t:Qb H b N M i r) (e:Ext H H'):Qb H' b N M i r :=
 ⟨t.ob.ext e,fun j hj=>⟨(t.lr j hj).1,cV (t.lr j hj).2 e.n⟩,t.inj,fun j hj=>(t.row j hj).ext e⟩
def Qb.full (t:Qb H b N M N r):Tab H b H.n b N M r fun _ _=>0:=by
 refine⟨⟨ar _,t.ob.old⟩,?_,fun j hj=>⟨pO (t.lr j hj).1,(t.lr j hj).2,Nat.ne_of_gt (t.lr j hj).1⟩,t.inj,t.row⟩;have:uO N M N r=(List.range N).map fun j=>mkV (r j) M:=by unfold uO;refine xZ fun j hj=>?_;rw[ah (xX.1 hj)]
 rw[←this];exact t.ob
def I8 (o:wB H 1 b (mkV b N) N (uO N M (i+1) r)) (hi:i<N):load prog H 139 (a9 (mkV b N) i)=some (mkV (r i) M):=by have l2:=o.len;rw[o.sl.ld (aX.refl H) byOmega Cb];unfold uO;rw[cm,kY hi];simp
def KQ {h:IH} (hN:0<N) (hN1:N≤1000) (hM:0<M) (hM1:M≤1000) :WV prog (.func (.func 178) #[] #[]) [KN N,KN M] h fun v h'=>Ext h h' ∧ ∃b r,h.n≤b∧v=mkV b N∧Tab h' b h'.n b N M r fun _ _=>0:=by
 refine enter (nt:=38) (rs:=[.tmp 4]) Proofs.Tryz.func178 rfl rfl rfl aa ?_;simp -dsimp (disch:=omega) only[wpS,zE,zA,Ze8,Zff];obtain⟨v5,hv5⟩:=bm (mkV h.n N);obtain⟨H1,hH1⟩:=bm (h.new (.cells (cj N [.slice none 0 0]) 1 none));have E1:Ext h H1:=by rw[hH1];exact(Ext.refl h).new _
 have n1:H1.n=h.n+1:=by rw[hH1];rfl
 have r1:wB H1 1 h.n v5 N (uO N M 0 fun _=>0):=⟨hv5,by rw[DF,dG],byOmega,hN,byOmega,by rw[hH1,SK];simp (disch:=omega) only[aq]⟩;rw[←hH1];have t1:Qb H1 h.n N M 0 fun _=>0:=⟨hv5▸r1,fun j hj=>byOmega,fun j k hj=>byOmega,fun j hj=>byOmega⟩;clear hH1 r1;refine loop (fun m fr hh => ∃(i:Nat) (r:Nat→Nat),i+m=N∧Ext h hh∧Qb hh h.n N M i r∧aj fr 1=some (KN M)∧aj fr 5=some (mkV h.n N)∧aj fr 11=some (KN N)∧aj fr 12=some (KN i)) N ⟨0,fun _=>0,byOmega,E1,t1,by simp[mkV]⟩ ?_;clear t1 E1 n1;rintro m fr hh ⟨i,r,him,hE,t,f1,f5,f11,f12⟩;simp -dsimp (disch:=omega) only[wpS,f11,f12];refine az ?_ ?_<;>intro hc<;>simp only[aJ,aV] at hc
 ·have hi:i<N:=byOmega;have nn:=hE.n;have ob:=t.ob.old;have E1:Ext hh (hh.new (.cells (cj M ZR) 4 none)):=(Ext.refl hh).new _;have t2:=t.ext E1;have ol:=t2.ob.len;have ix:indexAddr prog 147 (mkV h.n N) (KN i)=some (a9 (mkV h.n N) i):=by have:=t.ob.sl.idx RR (P:=prog) (k:=.i64) hi;rwa [dG] at this
  obtain⟨s1,s2⟩:=t2.ob.set (P:=prog) (t:=139) Zbj hi (x:=mkV hh.n M) (xs:=[mkV hh.n M]) rfl rfl (by simp[mkV,aM]);rw[Vo hi] at s1 s2;rw[dG] at s1;have s1':store prog (hh.new (.cells (cj M ZR) 4 none)) 139 (a9 (mkV h.n N) i) (.slice (some ⟨2*hh.n,0,none⟩) M (2*M+1))=_:=s1;obtain⟨H2,hH2⟩:=bm ((hh.new (.cells (cj M ZR) 4 none)).put h.n (.cells (uO N M (i+1) fun j=>if j=i then hh.n else r j) 1 none));rw[←hH2] at s1' s2;have E2:Ext h H2:=by rw[hH2];exact(hE.trans E1).put (ar _) _
  have n2:H2.n=hh.n+1:=by rw[hH2];rfl
  have g2:H2.ext.get hh.n=some (.cells (cj M ZR) 4 none):=by rw[hH2,ax _ _ byOmega];simp (disch:=omega) only[aq]
  have rw2 : ∀j,j<i→pd H2 (r j) M fun _=>0:=fun j hj=>by have lj:=t2.lr j hj;obtain⟨cs,c1,c2⟩:=t2.row j hj;rw[hH2];exact⟨cs,⟨c1.form,c1.len,c1.size,c1.some_,c1.old,(ax _ _ byOmega).trans c1.got⟩,fun m hm=>(c2 m hm).mono fun _ p=>p.ZD t2.ob.got (Zd _ _ _ _) (by rw[DF,DF])⟩
  have lr2 : ∀j,j<i→h.n<r j∧r j<hh.n:=fun j hj=>t.lr j hj;obtain⟨r',hr'⟩ : ∃f,f=(fun j=>if j=i then hh.n else r j):=⟨_,rfl⟩;rw[←hr'] at s2 hH2;have ri:r' i=hh.n:=by rw[hr'];simp
  have rj : ∀j,j<i→r' j=r j:=fun j hj=>by rw[hr'];simp only[ad (show ¬j=i by omega)]
  have ld2:=I8 s2 hi;rw[ri] at ld2;have r2:wB H2 4 hh.n (mkV hh.n M) M (cj M ZR):=⟨rfl,by rw[L0];rfl,byOmega,hM,byOmega,g2⟩;have Z9:qB prog H2 139 (mkV hh.n M)=some (KN M):=r2.sl.len GG H2;clear hH2 g2 t2 s1;simp -dsimp (disch:=omega) only[wpS,wpT,zE,Ze9,f1,f5,f12,ix,s1',ld2,Z9];refine loop (fun m2 fr H => ∃(j:Nat) (cs:List Value),j+m2=M∧Ext h H∧hh.n<H.n∧wB H 1 h.n (mkV h.n N) N (uO N M (i+1) r')∧(∀j,j<i→pd H (r j) M fun _=>0)∧wB H 4 hh.n (mkV hh.n M) M cs∧(∀m,m<j→pe ch H cs m 0) ∧aj fr 1=some (KN M)∧aj fr 5=some (mkV h.n N)∧aj fr 6=some (KN i)∧aj fr 11=some (KN N)∧aj fr 12=some (KN i)∧aj fr 24=some (KN M)∧aj fr 25=some (KN j)) M ⟨0,_,byOmega,E2,byOmega,s2,rw2,r2,fun m hm=>byOmega,by simp[f1,f5,f11,f12]⟩ ?_;clear E2 n2 s2 rw2 r2 s1' ld2 Z9 f1 f5 f11 f12 E1 hr';rintro m2 fr H ⟨j,cs,hjm,E,nH,o,rows,rb,el,f1,f5,f6,f11,f12,f24,f25⟩;simp -dsimp (disch:=omega) only[wpS,f24,f25];refine az ?_ ?_<;>intro hc2<;>simp only[aJ,aV] at hc2
  ·have hj:j<M:=byOmega;have ld3:=I8 o hi;rw[ri] at ld3;simp -dsimp (disch:=omega) only[wpS,wpT,zE,f25];refine drawn [(3,[7])] ab ab rfl ?_;simp -dsimp (disch:=omega) only[wpS,zE,f5,f6,ix,ld3];refine call (iL 0 ⟨byOmega,byOmega⟩) ?_;rintro z h4 ⟨X4,p4⟩;have m4:=X4.n;have o4:=o.ext X4;have ld4:=I8 o4 hi;rw[ri] at ld4;obtain⟨x1,x2,x3,x4,rfl,_,_,d1,o1,d2,o2,o3,o5⟩:=p4.parts;have rb4:=rb.ext X4;have rl:=rb4.len;have ixr:indexAddr prog 139 (mkV hh.n M) (KN j)=some (a9 (mkV hh.n M) (j*4)):=rb4.sl.idx EX (k:=.i64) hj;obtain⟨u1,u2⟩:=rb4.set (P:=prog) (t:=137) xp hj (x:=.agg #[x1,x2,x3,x4]) (xs:=[x1,x2,x3,x4]) rfl rfl (by simp[o1,o2,o3,o5]);simp -dsimp (disch:=omega) only[wpS,zE,ixr,u1];refine⟨ai rfl rfl rfl rfl (au rfl ld3 ld4),?_⟩;simp -dsimp (disch:=omega) only[wpS,wpT,zE,zA,f25];refine⟨m2 - 1,byOmega,j+1,_,byOmega,(E.trans X4).put (by have:=hE.n;omega) _,by simp only[bd];omega,⟨o4.form,o4.len,o4.size,o4.some_,o4.old,(ax _ _ byOmega).trans o4.got⟩,fun k hk=>((rows k hk).ext X4).F0 rb4.got aP (by have:=t.lr k hk;omega) _,u2,fun m hm=>?_,by simp[f1,f5,f6,f11,f12,f24]⟩;by_cases e:m=j
   ·subst e;exact pe.set byOmega (p4.F0 rb4.got aP _)
   ·exact((el m byOmega).mono fun _ p=>(p.ae X4.ae).F0 rb4.got aP _).other byOmega e
  ·obtain rfl:j=M:=byOmega;simp -dsimp (disch:=omega) only[wpS,wpT,zE,f12];refine⟨m - 1,byOmega,i+1,r',byOmega,E,⟨o,fun k hk=>?_,fun k l hk hl h=>?_,fun k hk=>?_⟩,by simp[f1,f5,f11]⟩
   ·by_cases e:k=i
    ·subst e;rw[ri];exact⟨byOmega,byOmega⟩
    ·rw[rj k byOmega];have:=lr2 k byOmega;exact⟨this.1,byOmega⟩
   ·by_cases e:k=i
    ·by_cases e2:l=i
     ·omega
     ·rw[e,ri,rj l byOmega] at h;have:=lr2 l byOmega;omega
    ·by_cases e2:l=i
     ·rw[e2,ri,rj k byOmega] at h;have:=lr2 k byOmega;omega
     ·rw[rj k byOmega,rj l byOmega] at h;exact t.inj k l byOmega byOmega h
   ·by_cases e:k=i
    ·subst e;rw[ri];exact⟨cs,rb,el⟩
    ·rw[rj k byOmega];exact rows k byOmega
 ·obtain rfl:i=N:=byOmega;simp -dsimp (disch:=omega) only[wpS,wpT,zE,f5];exact⟨hE,h.n,r,ar _,rfl,t.full⟩
end Go.Id
