/-
  Contracts: the reference's long integers, sixth part: wide integers read and written.
-/
import Derived.Test.YtnnmjocmapilaaaGreatOutlierValidAq
set_option linter.unusedVariables false
set_option linter.unusedSimpArgs false
set_option linter.defProp false
set_option linter.deprecated false
namespace Go.Id
open Go
open Nat (reduceMul)
open Nat renaming reduceAdd→zA,reduceEqDiff→zE,reduceLeDiff→zL
set_option maxHeartbeats 16000000
theorem bS (n:Nat):List.take 8 (List.drop 0 (wdC n))=wdC n:=by
 rw[List.drop_zero,List.take_of_length_le (by rw[ar];omega)]
set_option maxRecDepth 100000 in
theorem uX {h:IH} (n:Nat) (hn:n<W8):WV Proofs.Tryz.prog (.func (.func 136) #[] #[]) [wdV n] h fun r h'=>Ext h h'∧ba h' r (wdI n):=by
 refine enter (nt:=20) (rs:=[.cell 2 175]) Proofs.Tryz.func136 rfl rfl rfl (by simp) ?_
 simp -dsimp (disch:=try exact dx) only[wpS,zE,zL,kS,eV,Bm,ar,bS]
 refine call (NT n) ?_
 rintro d h1 ⟨hE,os,hD,hos,nV⟩
 rw[Nat.mod_eq_of_lt hn] at nV
 have hE1:Ext h h1:=(((Ext.refl h).new _).new _).trans hE
 have hr:h1.row (2*h.n)=some (wdC n):=by
  rw[hE.row (by simp<;>omega)];simp -dsimp (disch:=try exact dx) only[wpS]
 have h7:=VP hn
 simp -dsimp (disch:=omega) only[wpS,wpT,zE,zA,reduceMul,Int.reduceToNat,tV,rY,IU,jN,hr,tV,du n 7 (by omega),show pM 7 8=some 7 from rfl]
 refine aq ?_ ?_<;>intro hc<;>simp only[decide_eq_true_eq,decide_eq_false_iff_not] at hc
 ·simp -dsimp (disch:=omega) only[wpS,wpT,zE]
  refine call (j0 hD false) ?_
  rintro r h2 ⟨hE2,hr2⟩
  have hg:h2.ext.get (h.n+1)=some (.cells [.bool false,.slice none 0 0] 0 none):=by
   rw[hE2.get _ (by have:=hE.n;simp at this;omega),hE.get _ (by simp)];exact ah _ _ rfl
  obtain⟨s1,n3,rfl,c3,o3,l3,z3⟩:=hr2.form
  simp -dsimp (disch:=omega) only[wpS,wpT,zE,zL,zA,reduceMul,Int.reduceToNat,gF,IU,jN,bW,hg,o3]
  refine⟨(hE1.trans hE2).put (by omega) _,?_⟩
  have:(if false=true then -(ao os:Int) else ao os)=wdI n:=by
   rw[wdI,if_pos (h7.1 (by omega)),nV];rfl
  rw[this] at hr2 ⊢
  exact hr2.aa ((aJ.refl _).put hg _)
 ·simp -dsimp (disch:=omega) only[wpS,wpT,zE,zA,reduceMul,Int.reduceToNat,IU,jN]
  simp -dsimp (disch:=omega) only[wpS,wpT,zE,zL,zA,st3,show pM 16 17=some 16 from rfl]
  have hE3 : ∀a b:bz,Ext h1 ((h1.new a).put h1.n b):=fun a b=>((Ext.refl h1).new _).put (Nat.le_refl _) _
  refine call (wK (hD.aa (hE3 _ _).aa)) ?_
  rintro c h2 ⟨rfl,ds,hDs,hNs,hvs⟩
  have hW:gV ((h1.new (.cells (List.map KN [0,0,0,0,0,0,0,0,0,0,0,0,0,0,0,0,0]) 1 none)).put h1.n (.cells (List.map KN [0,0,0,0,0,0,0,0,0,0,0,0,0,0,0,0,1]) 1 none)) (.slice (some ⟨2*h1.n,0,none⟩) 17 35) [0,0,0,0,0,0,0,0,0,0,0,0,0,0,0,0,1] :=
   ⟨cT (f:=none) (ae _ _ rfl) (by simp) (by omega) rfl (by omega) (by simp),by intro d hd;simp at hd;omega,by simp⟩
  have hWv:ao [0,0,0,0,0,0,0,0,0,0,0,0,0,0,0,0,1]=W8:=by rw[AU];simp[ao,aE]
  simp -dsimp (disch:=omega) only[wpS,zE]
  refine call (yw hW hDs hNs (by rw[hWv,hvs,nV];omega)) ?_
  rintro e h3 ⟨hE4,es,hDe,hNe,hve⟩
  rw[hWv,hvs,nV] at hve
  simp -dsimp (disch:=omega) only[wpS,zE]
  refine call (j0 hDe true) ?_
  rintro r h4 ⟨hE5,hr2⟩
  have hz:(if true=true then -(ao es:Int) else ao es)=wdI n:=by
   have TX : ¬n<H8:=by rw[←h7];omega
   rw[if_pos rfl,wdI,if_neg TX,hve];omega
  rw[hz] at hr2
  have hE6:=(hE3 _ _).trans (hE4.trans hE5)
  have hg:h4.ext.get (h.n+1)=some (.cells [.bool false,.slice none 0 0] 0 none):=by
   rw[hE6.get _ (by have:=hE.n;simp at this;omega),hE.get _ (by simp)];exact ah _ _ rfl
  obtain⟨s1,n3,rfl,c3,o3,l3,z3⟩:=hr2.form
  simp -dsimp (disch:=omega) only[wpS,wpT,zE,zL,zA,gF,bW,hg,o3]
  refine⟨(hE1.trans hE6).put (by omega) _,?_⟩
  exact hr2.aa ((aJ.refl _).put hg _)
def InW (z:Int):Prop:=-(H8:Int)≤z∧z<H8
instance (z:Int):Decidable (InW z):=inferInstanceAs (Decidable (_∧_))
def aV (z:Int):Nat:=if 0≤z then z.toNat else W8 - z.natAbs
theorem dR {z:Int} (h:InW z):aV z<W8:=by
 have:=pF
 unfold InW at h
 unfold aV
 split<;>omega
theorem cm {z:Int} (h:InW z):wdI (aV z)=z:=by
 have:=pF
 unfold InW at h
 unfold wdI aV
 split
 ·rw[if_pos (by omega)];omega
 ·rw[if_neg (by omega)];omega
abbrev pH (z:Int):Value:=wdV (aV z)
abbrev ZW:Value:=.int .u64 0
theorem lP:wdC 0 = [ZW,ZW,ZW,ZW,ZW,ZW,ZW,ZW]:=by
 simp[wdC,wrd,List.range_succ]
theorem TH:ao [0,0,0,0,0,0,0,0,0,0,0,0,0,0,0,2147483648]=H8:=by rw[XV];simp[ao,aE]
theorem Mc:ao [0,0,0,0,0,0,0,0,0,0,0,0,0,0,0,0,1]=W8:=by rw[AU];simp[ao,aE]
theorem SA {n i x:Nat} (hi:i<8) (hn:n<18446744073709551616 ^ (i+1)) (hx:wrd n i+x<18446744073709551616):(wdC n).set i (K64 (wrd n i+x))=wdC (n+x*18446744073709551616 ^ i):=by
 apply List.ext_getElem?
 intro j
 rw[List.getElem?_set]
 by_cases hij:i=j
 ·subst hij
  rw[if_pos rfl,du _ _ hi,ar,if_pos hi,yJ hn hx]
 ·rw[if_neg hij]
  by_cases hj:j<8
  ·rw[du _ _ hj,du _ _ hj]
   by_cases hlt:j<i
   ·rw[pU hlt]
   ·rw[tZ hn (by omega),tZ (OL hn hx) (by omega)]
  ·rw[List.getElem?_eq_none (by rw[ar];omega),List.getElem?_eq_none (by rw[ar];omega)]
set_option maxRecDepth 100000 in
theorem Iz {h:IH} {v:Value} {z:Int} (hv:ba h v z) :
  WV Proofs.Tryz.prog (.func (.func 116) #[] #[]) [v] h fun r h'=>Ext h h'∧r=if InW z then .tuple #[pH z,KI 0] else .tuple #[wdV 0,KI 6]:=by
 obtain⟨s,rfl,ds,hD,hN,hx⟩:=hv
 have hl:=hD.2.2
 refine enter (nt:=63) (rs:=[.cell 2 30,.tmp 3]) Proofs.Tryz.func116 rfl rfl rfl (by simp) ?_
 simp -dsimp (disch:=try exact dx) only[wpS,wpT,zE,zL,zA,reduceMul,Int.reduceToNat,nh,IU,jN,st3,fc,qM,show pM 15 16=some 15 from rfl]
 have hL:gV ((((h.new (.cells [.bool (decide (z<0)),s] 0 none)).new (.cells [ZW,ZW,ZW,ZW,ZW,ZW,ZW,ZW] 0 none)).new (.cells (List.map KN [0,0,0,0,0,0,0,0,0,0,0,0,0,0,0,0]) 1 none)).put (h.n+1+1) (.cells (List.map KN [0,0,0,0,0,0,0,0,0,0,0,0,0,0,0,2147483648]) 1 none)) (.slice (some ⟨2*(h.n+1+1),0,none⟩) 16 33) [0,0,0,0,0,0,0,0,0,0,0,0,0,0,0,2147483648] :=
  ⟨cT (f:=none) (ae _ _ rfl) (by simp) (by omega) rfl (by omega) (by simp),by intro d hd;simp at hd;omega,by simp⟩
 have hE : ∀a b c d:bz,Ext h ((((h.new a).new b).new c).put (h.n+1+1) d):=fun a b c d=>((((Ext.refl h).new _).new _).new _).put (by omega) _
 refine call (zG (hD.aa (hE _ _ _ _).aa) hL hN (.inr (by simp))) ?_
 rintro r h1 ⟨e1,c,rfl,hc1,hc2,hc3,hc4⟩
 have g1:h1.row (2*h.n)=some [.bool (decide (z<0)),s]:=by rw[e1];simp -dsimp (disch:=try exact dx) only[wpS]
 have g2:h1.ext.get (h.n+1)=some (.cells [ZW,ZW,ZW,ZW,ZW,ZW,ZW,ZW] 0 none):=by rw[e1];simp -dsimp (disch:=try exact dx) only[wpS]
 have g3:Ext h h1:=by rw[e1];exact hE _ _ _ _
 have g4:h.n+1<h1.n:=by rw[e1];simp
 clear e1 hL hE
 rw[TH,hx] at hc1 hc2
 have hW8:=pF
 by_cases hW:InW z
 ·have hc:c<0∨c=0∧z<0:=by unfold InW at hW;omega
  simp -dsimp (disch:=omega) only[wpR,zE]
  rw[mu]
  refine cut (fun fr2 h2=>h2=h1∧ab fr2 2=some (ptr (2*(h.n+1)) 0)∧ab fr2 1=some (ptr (2*h.n) 0)) ?_ ?_
  ·rcases hc with hc|⟨rfl,hz⟩
   ·simp -dsimp (disch:=omega) only[wpS,wpT,zE]
    exact⟨rfl,by simp⟩
   ·simp -dsimp (disch:=omega) only[wpS,wpT,zE,dL,ld4,g1,vo hz]
    exact⟨rfl,by simp⟩
  ·rintro fr2 h2 ⟨rfl,f2,f1⟩
   simp -dsimp (disch:=omega) only[wpS,zE,nh,fc,qM,dL,ld4,g1,f1]
   refine fC (fun fr3 h3=>ab fr3 2=some (ptr (2*(h.n+1)) 0)∧Ext h2 h3 ∧ ∃d ds2,ab fr3 6=some d∧gV h3 d ds2∧ao ds2=aV z∧ds2.length≤16) (fun hz=>?_) (fun hz=>?_) ?_
   ·simp only[decide_eq_true_eq] at hz
    simp -dsimp (disch:=omega) only[wpS,wpT,zE,zL,zA,reduceMul,Int.reduceToNat,IU,jN,st3,show pM 16 17=some 16 from rfl]
    have hE3 : ∀a b:bz,Ext h2 ((h2.new a).put h2.n b):=fun a b=>((Ext.refl h2).new _).put (Nat.le_refl _) _
    have hWW:gV ((h2.new (.cells (List.map KN [0,0,0,0,0,0,0,0,0,0,0,0,0,0,0,0,0]) 1 none)).put h2.n (.cells (List.map KN [0,0,0,0,0,0,0,0,0,0,0,0,0,0,0,0,1]) 1 none)) (.slice (some ⟨2*h2.n,0,none⟩) 17 35) [0,0,0,0,0,0,0,0,0,0,0,0,0,0,0,0,1] :=
     ⟨cT (f:=none) (ae _ _ rfl) (by simp) (by omega) rfl (by omega) (by simp),by intro d hd;simp at hd;omega,by simp⟩
    refine call (yw hWW (hD.aa (g3.trans (hE3 _ _)).aa) hN (by rw[Mc,hx];unfold InW at hW;omega)) ?_
    rintro e h3 ⟨hE4,es,hDe,hNe,hve⟩
    rw[Mc,hx] at hve
    have hv2:ao es=aV z:=by rw[hve,aV,if_neg (by omega)]
    simp -dsimp (disch:=omega) only[wpS,zE]
    refine⟨by simp[f2],(hE3 _ _).trans hE4,e,es,by simp,hDe,hv2,?_⟩
    have h5:=dR hW
    rw[←hv2,AU] at h5
    by_cases hne:es = []
    ·subst hne;simp
    ·have h6:=hNe.ge hne
     have h7:=(Nat.pow_lt_pow_iff_right (a:=4294967296) (by omega)).1 (Nat.lt_of_le_of_lt h6 h5)
     omega
   ·simp only[decide_eq_false_iff_not] at hz
    simp -dsimp (disch:=omega) only[wpS,wpT]
    have hv2:ao ds=aV z:=by rw[hx,aV,if_pos (by omega)];omega
    refine⟨by simp[f2],Ext.refl _,s,ds,by simp,hD.aa g3.aa,hv2,?_⟩
    have h5:=dR hW
    rw[←hv2,AU] at h5
    by_cases hne:ds = []
    ·subst hne;simp
    ·have h6:=hN.ge hne
     have h7:=(Nat.pow_lt_pow_iff_right (a:=4294967296) (by omega)).1 (Nat.lt_of_le_of_lt h6 h5)
     omega
   ·rintro fr3 h3 ⟨f2,hE3,d,ds2,f6,hD2,hv2,hl2⟩
    simp -dsimp (disch:=omega) only[wpS,nh]
    have hlen:=hD2.2.2
    refine loop (fun m fr h4 => ∃i:Nat,i+m=ds2.length∧ab fr 2=some (ptr (2*(h.n+1)) 0)∧ab fr 6=some d∧ab fr 8=some (ptr (2*h3.n) 0)∧ab fr 9=some (KN i)∧h3.n<h4.n∧h4.ext.get h3.n=some (.cells (wdC (aE ds2 i)) 0 none)∧Ext h3 h4) ds2.length ⟨0,by simp,by simp[f2],by simp[f6],by simp,by simp,by simp,by rw[aE,lP];exact ah _ _ rfl,(Ext.refl h3).new _⟩ ?_
    rintro m fr h4 ⟨i,him,f2,f6,f8,f9,hn4,hg4,hE4⟩
    simp -dsimp (disch:=try exact dx) only[wpS,zE,f6,f9,hD2.1.len fT]
    refine aq ?_ ?_<;>intro hc<;>simp only[decide_eq_true_eq,decide_eq_false_iff_not] at hc
    ·have hi:i<ds2.length:=by omega
     have dd:=bH hD2.2.1 i
     have hvl:=gW hD2.2.1 i
     have fl:h4.row (2*h3.n)=some (wdC (aE ds2 i)):=by rw[jl];exact AE hg4
     have e1:((i:Int) / 2)=((i / 2:Nat):Int):=by omega
     have hi8:i / 2<8:=by omega
     obtain⟨x,hsh,hx1,hx2⟩ : ∃x:Nat,(∀t o1 o2,binop Proofs.Tryz.prog .shl t o1 o2 (K64 (ds2.getD i 0)) (.int .i64 (32*((i:Int) % 2)))=some (K64 x))∧aE ds2 (i+1)=aE ds2 i+x*18446744073709551616 ^ (i / 2)∧wrd (aE ds2 i) (i / 2)+x<18446744073709551616:=by
      rcases Nat.mod_two_eq_zero_or_one i with hm|hm
      ·obtain⟨k,rfl⟩ : ∃k,i=2*k:=⟨i / 2,by omega⟩
       have hk:2*k / 2=k:=by omega
       refine⟨ds2.getD (2*k) 0,fun t o1 o2=>?_,?_,?_⟩
       ·have e2:(32*(((2*k:Nat):Int) % 2))=((0:Nat):Int):=by omega
        rw[e2,Ki _ _ _ _ (by omega) (by omega)];simp
       ·rw[aE,hk,pow_two]
       ·rw[hk,tZ (by rw[←pow_two];exact hvl) (Nat.le_refl _)];omega
      ·obtain⟨k,rfl⟩ : ∃k,i=2*k+1:=⟨i / 2,by omega⟩
       have hk:(2*k+1) / 2=k:=by omega
       refine⟨ds2.getD (2*k+1) 0*4294967296,fun t o1 o2=>?_,?_,?_⟩
       ·have e2:(32*(((2*k+1:Nat):Int) % 2))=((32:Nat):Int):=by omega
        rw[e2,Ki _ _ _ _ (by omega) (by omega)]
       ·rw[aE,hk,Dw];grind
       ·rw[hk]
        rw[Dw] at hvl
        have h8:aE ds2 (2*k+1) / 18446744073709551616 ^ k<4294967296:=by
         rw[Nat.div_lt_iff_lt_mul (Nat.pow_pos (by omega))];exact hvl
        have h9:wrd (aE ds2 (2*k+1)) k≤aE ds2 (2*k+1) / 18446744073709551616 ^ k:=Nat.mod_le _ _
        omega
     have hwl:aE ds2 i<18446744073709551616 ^ (i / 2+1):=by
      have h8:4294967296 ^ i≤4294967296 ^ (2*(i / 2+1)):=Nat.pow_le_pow_right (by omega) (by omega)
      rw[pow_two] at h8
      omega
     have I5:=SA hi8 hwl hx2
     rw[←hx1] at I5
     have I4:IH.aG (wdC (aE ds2 i)) (i / 2) [.int .u64 ((wrd (aE ds2 i) (i / 2):Int)+(x:Int))]=wdC (aE ds2 (i+1)):=by
      rw[gG (by rw[ar];exact hi8),←I5];rfl
     have hwr:=vK (aE ds2 i) (i / 2)
     simp -dsimp (disch:=try exact dx) only[wpS,wpT,zE,zL,tV,rY,Ed,vU,f6,f8,f9,e1,tV,fl,du _ _ hi8,hD2.1.idx jN hi,hD2.1.ld hE4.aa (P:=Proofs.Tryz.prog) (t:=3) (c:=i) (by simpa using hi) ag3,cc,get_some hi,hsh,hg4,ar,I4]
     refine⟨m - 1,by omega,i+1,by omega,by simp[f2],by simp[f6],by simp[f8],by simp,by simpa using hn4,ae _ _ rfl,hE4.put (Nat.le_refl _) _⟩
    ·obtain rfl:i=ds2.length:=by omega
     have hgz:h4.ext.get (h.n+1)=some (.cells [ZW,ZW,ZW,ZW,ZW,ZW,ZW,ZW] 0 none):=by
      rw[hE4.get _ (by have:=hE3.n;omega),hE3.get _ g4];exact g2
     have fl:h4.row (2*h3.n)=some (wdC (aV z)):=by rw[jl,←hv2];exact AE hg4
     have I4:IH.aG [ZW,ZW,ZW,ZW,ZW,ZW,ZW,ZW] 0 (wdC (aV z))=wdC (aV z):=iI (by rw[ar];rfl)
     simp -dsimp (disch:=omega) only[wpS,wpT,zE,zL,zA,kK,eV,f2,f8,fl,hgz,ar,bS,cb,I4]
     refine⟨((g3.trans hE3).trans hE4).put (by omega) _,?_⟩
     rw[if_pos hW];rfl
 ·have hc:0<c∨c=0 ∧ ¬z<0:=by unfold InW at hW;omega
  rcases hc with hc|⟨hc,hz⟩
  ·simp -dsimp (disch:=omega) only[wpS,wpT,zE,zL,zA,Ek,kK,eV,g2]
   refine⟨g3.put (by omega) _,?_⟩
   rw[if_neg hW,wdV,lP];rfl
  ·subst hc
   simp -dsimp (disch:=omega) only[wpS,wpT,zE,zL,zA,dL,ld4,Ek,kK,eV,g1,g2,vu hz]
   refine⟨g3.put (by omega) _,?_⟩
   rw[if_neg hW,wdV,lP];rfl
end Go.Id
namespace Go.Id
open Go
open Nat (reduceMul)
open Nat renaming reduceAdd→zA,reduceEqDiff→zE,reduceLeDiff→zL
theorem sm (n:Int):IntKind.u64.wrap n=n % 18446744073709551616:=by simp[IntKind.wrap,IntKind.bits,IntKind.signed]
theorem EP (n:Nat):(wdV n).cells.toList=wdC n:=rfl
abbrev fR (n:Int):Prop:=-9223372036854775808≤n∧n<9223372036854775808
theorem Iu (b:Nat) (hb:0<b) (m k:Nat) (h:m≤k):b ^ m≤b ^ k:=Nat.pow_le_pow_right hb h
theorem Ke {n:Int} (h:n.natAbs≤18446744073709551616):aU n:=by
 have h1:=Iu 4294967296 (by decide) 3 1000000 (by decide)
 have h2:(4294967296:Nat) ^ 3=79228162514264337593543950336:=by decide
 unfold aU Small
 refine Nat.lt_of_lt_of_le ?_ h1
 omega
theorem Wf {z:Int} (h:InW z):aU z:=by
 have h1:=Iu 4294967296 (by decide) 16 1000000 (by decide)
 rw[←AU] at h1
 have h2:=pF
 have h3:=tY
 unfold InW at h
 unfold aU Small
 refine Nat.lt_of_lt_of_le ?_ h1
 omega
set_option maxRecDepth 100000 in
theorem nU {h:IH} (n:Int) (hn:fR n):WV Proofs.Tryz.prog (.func (.func 117) #[] #[]) [KI n] h fun r h'=>Ext h h'∧ba h' r n:=by
 have hB : ∃u:Nat,u=n.natAbs:=⟨_,rfl⟩
 obtain⟨u,hu⟩:=hB
 refine enter (nt:=21) (rs:=[.cell 2 175]) Proofs.Tryz.func117 rfl rfl rfl (by simp) ?_
 simp -dsimp (disch:=omega) only[wpR]
 rw[mu]
 simp -dsimp (disch:=omega) only[wpR,kS]
 rw[mu]
 simp -dsimp (disch:=omega) only[wpR,zE]
 rw[mu]
 simp -dsimp (disch:=omega) only[wpR,zE,Ed]
 rw[mu]
 refine cut (fun fr2 h2=>h2=h.new (.cells [.bool false,.slice none 0 0] 0 none)∧ab fr2 2=some (ptr (2*h.n) 0)∧ab fr2 3=some (.bool (decide (n<0)))∧ab fr2 4=some (K64 u)) ?_ ?_
 ·by_cases hz:n<0
  ·have e1:IntKind.u64.wrap n=n+18446744073709551616:=by rw[sm];omega
   have e2:IntKind.u64.wrap (-(n+18446744073709551616))=(u:Int):=by rw[sm];omega
   simp -dsimp (disch:=omega) only[wpS,zE,vo hz,e1,e2]
   exact⟨rfl,by simp[hz]⟩
  ·have e1:n=(u:Int):=by omega
   simp -dsimp (disch:=omega) only[wpS,zE,vu hz]
   exact⟨rfl,by simp,by simp;omega,by simp;exact e1⟩
 ·rintro fr2 h2 ⟨rfl,f2,f3,f4⟩
  have e1:((u:Int) % 4294967296)=((u % 4294967296:Nat):Int):=by omega
  have e2:((u:Int) / 4294967296)=((u / 4294967296:Nat):Int):=by omega
  simp -dsimp (disch:=omega) only[wpS,wpT,zE,zL,zA,reduceMul,Az,Bf,f3,f4,e1,e2]
  have hD:gV ((h.new (.cells [.bool false,.slice none 0 0] 0 none)).new (.cells (List.map KN [u % 4294967296,u / 4294967296]) 1 none)) (.slice (some ⟨2*(h.n+1),0,none⟩) 2 5) [u % 4294967296,u / 4294967296] :=
   ⟨cT (f:=none) (ah _ _ rfl) (by simp) (by omega) rfl (by omega) (by simp),by intro d hd;simp at hd;omega,by simp⟩
  refine call (j0 hD _) ?_
  rintro r h1 ⟨hE,hr⟩
  have hz:(if decide (n<0)=true then -(ao [u % 4294967296,u / 4294967296]:Int) else ao [u % 4294967296,u / 4294967296])=n:=by
   have:ao [u % 4294967296,u / 4294967296]=u:=by simp[ao,aE];omega
   rw[this]
   by_cases h0:n<0<;>simp[h0]<;>omega
  rw[hz] at hr
  obtain⟨s1,n3,rfl,c3,o3,l3,z3⟩:=hr.form
  have hg:h1.ext.get h.n=some (.cells [.bool false,.slice none 0 0] 0 none):=by
   rw[hE.get _ (by simp<;>omega)];simp -dsimp (disch:=try exact dx) only[wpS]
  simp -dsimp (disch:=omega) only[wpS,wpT,zE,zL,zA,gF,bW,f2,hg,o3]
  refine⟨((((Ext.refl h).new _).new _).trans hE).put (by omega) _,?_⟩
  exact hr.aa ((aJ.refl _).put hg _)
theorem dT {h:IH} (n:Int) (hn:fR n):WV Proofs.Tryz.prog (.func (.func 43) #[] #[]) [KI n] h fun r h'=>Ext h h'∧r=pH n:=by
 refine enter (nt:=12) (rs:=[.cell 2 30]) Proofs.Tryz.func43 rfl rfl rfl (by simp) ?_
 simp -dsimp (disch:=omega) only[wpS,zE,nh]
 refine call (nU n hn) ?_
 rintro r h1 ⟨hE,hr⟩
 simp -dsimp (disch:=omega) only[wpS,zE]
 refine call (Iz hr) ?_
 rintro r2 h2 ⟨hE2,rfl⟩
 have hW:InW n:=by have:=tY;unfold InW;omega
 rw[if_pos hW]
 have hg:h2.ext.get h.n=some (.cells [ZW,ZW,ZW,ZW,ZW,ZW,ZW,ZW] 0 none):=by
  rw[hE2.get _ (by have:=hE.n;simp at this;omega),hE.get _ (by simp)];exact ah _ _ rfl
 have I4:IH.aG [ZW,ZW,ZW,ZW,ZW,ZW,ZW,ZW] 0 (wdC (aV n))=wdC (aV n):=iI (by rw[ar];rfl)
 have hlt:h.n<h2.n:=by have a1:=hE.n;have a2:=hE2.n;simp only[aI] at a1;omega
 simp -dsimp (disch:=omega) only[wpS,wpT,zE,zL,zA,nh,kK,eV,EP,ar,cb,bS,I4,hg]
 exact⟨((((Ext.refl h).new _).trans hE).trans hE2 |>.new _).put (by omega) _ |>.put (by omega) _,rfl⟩
end Go.Id
namespace Go.Id
theorem dh {ds:List Nat} {k w:Nat} (hk:k<ds.length) (j:Nat):(ds.set k w).getD j 0=if j=k then w else ds.getD j 0:=by
 simp only[List.getD_eq_getElem?_getD,List.getElem?_set]
 by_cases h:k=j
 ·subst h;simp[hk]
 ·rw[if_neg h,if_neg (fun x=>h x.symm)]
theorem qf {ds:List Nat} {k w:Nat} (hk:k<ds.length) : ∀n,aE (ds.set k w) n+(if k<n then ds.getD k 0*4294967296 ^ k else 0)=aE ds n+(if k<n then w*4294967296 ^ k else 0)
 | 0=>by simp[aE]
 | n+1=>by
  have ih:=qf (w:=w) hk n
  rw[aE,aE,dh hk]
  by_cases h1:k<n
  ·rw[if_pos h1,if_pos h1] at ih
   rw[if_pos (show k<n+1 by omega),if_pos (show k<n+1 by omega),if_neg (show ¬n=k by omega)]
   omega
  ·rw[if_neg h1,if_neg h1] at ih
   by_cases h2:n=k
   ·subst h2
    rw[if_pos (Nat.lt_succ_self n),if_pos (Nat.lt_succ_self n),if_pos rfl]
    omega
   ·rw[if_neg (show ¬k<n+1 by omega),if_neg (show ¬k<n+1 by omega),if_neg h2]
    omega
theorem im {ds:List Nat} {k:Nat} (w:Nat) (hk:k<ds.length):ao (ds.set k w)+ds.getD k 0*4294967296 ^ k=ao ds+w*4294967296 ^ k:=by
 have h:=qf (w:=w) hk ds.length
 rw[if_pos hk,if_pos hk] at h
 rw[ao,ao,List.length_set];exact h
theorem nJ (m:Nat) : ∀n,aE (List.replicate m 0) n=0
 | 0=>rfl
 | n+1=>by
  rw[aE,nJ m n]
  have:(List.replicate m 0).getD n 0=0:=by
   rw[List.getD_eq_getElem?_getD,List.getElem?_replicate];split<;>rfl
  rw[this];simp
theorem jD (m:Nat):ao (List.replicate m 0)=0:=nJ m _
theorem jK (m j:Nat):(List.replicate m 0).getD j 0=0:=by
 rw[List.getD_eq_getElem?_getD,List.getElem?_replicate];split<;>rfl
theorem bB.set {ds:List Nat} (h:bB ds) (k:Nat) {w:Nat} (hw:w<4294967296):bB (ds.set k w):=by
 intro d hd
 rcases List.mem_or_eq_of_mem_set hd with h1|h1
 ·exact h d h1
 ·omega
theorem bB.bq (m:Nat):bB (List.replicate m 0):=by
 intro d hd
 rw[List.mem_replicate] at hd
 omega
theorem Norm.K2 {ds:List Nat} (h:Norm ds) {m:Nat} (hs:ao ds<4294967296 ^ m):ds.length≤m:=by
 apply Classical.byContradiction;intro hn
 have hne:ds ≠ []:=by intro h0;subst h0;simp at hn
 have h1:=h.ge hne
 have h2:4294967296 ^ m≤4294967296 ^ (ds.length - 1):=Nat.pow_le_pow_right (by omega) (by omega)
 omega
theorem ud {ds:List Nat} (h:bB ds) : ∀{n k:Nat},n≤k→aE ds k % 4294967296 ^ n=aE ds n
 | n,0,hk=>by
  obtain rfl:n=0:=by omega
  simp[aE]
 | n,k+1,hk=>by
  by_cases hn:n=k+1
  ·subst hn;exact Nat.mod_eq_of_lt (gW h _)
  ·have ih:=ud h (show n≤k by omega)
   rw[aE]
   have hd:4294967296 ^ n∣ds.getD k 0*4294967296 ^ k:=Nat.dvd_trans (Nat.pow_dvd_pow _ (by omega)) (Nat.dvd_mul_left _ _)
   obtain⟨c,hc⟩:=hd
   rw[hc,Nat.add_mul_mod_self_left,ih]
theorem qY {ds:List Nat} (h:bB ds) (j:Nat):ds.getD j 0=ao ds / 4294967296 ^ j % 4294967296:=by
 have hp:=qD j
 by_cases hj:j<ds.length
 ·have e1:aE ds (j+1)=ao ds % 4294967296 ^ (j+1):=(ud h (show j+1≤ds.length by omega)).symm
  have e2:aE ds (j+1) / 4294967296 ^ j=ds.getD j 0:=by
   rw[aE,Nat.add_mul_div_right _ _ hp,Nat.div_eq_of_lt (gW h j),Nat.zero_add]
  rw[←e2,e1,Nat.pow_succ,Nat.mod_mul_right_div_self]
 ·rw[cM (by omega)]
  have h1:=jg h
  have h2:4294967296 ^ ds.length≤4294967296 ^ j:=Nat.pow_le_pow_right (by omega) (by omega)
  rw[Nat.div_eq_of_lt (by omega)]
theorem KB (j:Nat):4294967296 ^ j=2 ^ (32*j):=by rw[Nat.pow_mul]
theorem XF {ds:List Nat} (h:bB ds) {i k:Nat} (hk:k<32):ds.getD i 0 / 2 ^ k % 2=ao ds / 2 ^ (32*i+k) % 2:=by
 rw[qY h,KB,Nat.pow_add,←Nat.div_div_eq_div_mul]
 generalize ao ds / 2 ^ (32*i)=x
 have e2:4294967296=2 ^ k*2 ^ (32 - k):=by rw[←Nat.pow_add,show k+(32 - k)=32 by omega]
 rw[e2,Nat.mod_mul_right_div_self]
 have:2∣2 ^ (32 - k):=⟨2 ^ (31 - k),by rw[←Nat.pow_succ'];congr 1;omega⟩
 exact Nat.mod_mod_of_dvd _ this
theorem R6 {ds:List Nat} (h:bB ds) {i k:Nat} (hk:k<32) (hd:2 ^ (32*i+k+1)∣ao ds):ds.getD i 0+2 ^ k<4294967296:=by
 have hd:2 ^ (k+1)∣ds.getD i 0:=by
  rw[qY h,KB]
  obtain⟨c,hc⟩:=hd
  have e:2 ^ (32*i+k+1)=2 ^ (32*i)*2 ^ (k+1):=by rw[←Nat.pow_add];congr 1
  rw[hc,e,Nat.mul_assoc,Nat.mul_div_cancel_left _ (Nat.pow_pos (by omega))]
  have e2:4294967296=2 ^ (k+1)*2 ^ (31 - k):=by rw[←Nat.pow_add,show k+1+(31 - k)=32 by omega]
  rw[show(4294967296:Nat)=2 ^ (k+1)*2 ^ (31 - k) from e2]
  exact(Nat.dvd_mod_iff (Nat.dvd_mul_right _ _)).2 (Nat.dvd_mul_right _ _)
 have hlt:2 ^ k<2 ^ (k+1):=Nat.pow_lt_pow_right (by omega) (by omega)
 have hw:=bH h i
 obtain⟨c,hc⟩:=hd
 rw[hc] at hw ⊢
 have e2:4294967296=2 ^ (k+1)*2 ^ (31 - k):=by rw[←Nat.pow_add,show k+1+(31 - k)=32 by omega]
 rw[e2] at hw ⊢
 have hc2:c<2 ^ (31 - k):=Nat.lt_of_mul_lt_mul_left hw
 have:2 ^ (k+1)*(c+1)≤2 ^ (k+1)*2 ^ (31 - k):=Nat.mul_le_mul_left _ hc2
 rw[Nat.mul_add,Nat.mul_one] at this
 omega
def EA (a b K V r:Nat):Prop:=a=b*V+r*2 ^ K+a % 2 ^ K∧2 ^ K∣V∧r<b
theorem KU (a K:Nat):a % 2 ^ (K+1)=a / 2 ^ K % 2*2 ^ K+a % 2 ^ K:=by
 rw[Nat.pow_succ,Nat.mod_mul,Nat.add_comm,Nat.mul_comm]
theorem Ro {a b K V r:Nat} (h:EA a b (K+1) V r) (hc:b≤2*r+a / 2 ^ K % 2):EA a b K (V+2 ^ K) (2*r+a / 2 ^ K % 2 - b):=by
 obtain⟨h1,h2,h3⟩:=h
 rw[KU] at h1
 have hb:=Nat.mod_lt (a / 2 ^ K) (show 0<2 by omega)
 generalize a / 2 ^ K % 2=d at *
 obtain⟨e,he⟩ : ∃e,2*r+d=b+e:=⟨2*r+d - b,by omega⟩
 refine⟨?_,?_,by omega⟩
 ·rw[he,Nat.add_sub_cancel_left]
  rw[h1.trans (show _=(b*V+(2*r+d)*2 ^ K)+a % 2 ^ K by rw[Nat.pow_succ];grind)]
  rw[he]
  have e3:(b*V+(b+e)*2 ^ K+a % 2 ^ K) % 2 ^ K=a % 2 ^ K:=by
   obtain⟨c,hc⟩:=Nat.dvd_trans (Nat.pow_dvd_pow 2 (Nat.le_succ K)) h2
   rw[hc]
   have:b*(2 ^ K*c)+(b+e)*2 ^ K+a % 2 ^ K=a % 2 ^ K+2 ^ K*(b*c+(b+e)):=by grind
   rw[this,Nat.add_mul_mod_self_left,Nat.mod_mod]
  rw[e3];grind
 ·exact(Nat.dvd_add_right (Nat.dvd_trans (Nat.pow_dvd_pow _ (by omega)) h2)).2 (Nat.dvd_refl _)
theorem Oe {a b K V r:Nat} (h:EA a b (K+1) V r) (hc:2*r+a / 2 ^ K % 2<b):EA a b K V (2*r+a / 2 ^ K % 2):=by
 obtain⟨h1,h2,h3⟩:=h
 rw[KU] at h1
 refine⟨?_,Nat.dvd_trans (Nat.pow_dvd_pow _ (by omega)) h2,hc⟩
 rw[Nat.pow_succ] at h1
 generalize a / 2 ^ K % 2=d at *
 have e:(2*r+d)*2 ^ K=r*(2 ^ K*2)+d*2 ^ K:=by grind
 omega
theorem Jx {a b K:Nat} (h:a / 2 ^ K<b):EA a b K 0 (a / 2 ^ K):=by
 refine⟨?_,Nat.dvd_zero _,h⟩
 have:=Nat.div_add_mod a (2 ^ K)
 rw[Nat.mul_comm (a / 2 ^ K)];omega
theorem Rp {a b V r:Nat} (h:EA a b 0 V r):V=a / b∧r=a % b:=by
 obtain⟨h1,_,h3⟩:=h
 simp only[Nat.pow_zero,Nat.mul_one,Nat.mod_one,Nat.add_zero] at h1
 have e1:=Nat.mul_add_mod b V r
 have e2:=Nat.mul_add_div (show 0<b by omega) V r
 rw[←h1,Nat.mod_eq_of_lt h3] at e1
 rw[←h1,Nat.div_eq_of_lt h3,Nat.add_zero] at e2
 exact⟨e2.symm,e1.symm⟩
theorem Mx {ds:List Nat} (h:bB ds) (m:Nat):ao (ds.drop m)=ao ds / 4294967296 ^ m:=by
 induction m generalizing ds with
 | zero=>simp
 | succ m ih =>
  cases ds with
  | nil=>simp[ao,aE]
  | cons d ds =>
   have hd:bB ds:=fun x hx=>h x (by simp[hx])
   have hd0:d<4294967296:=h d (by simp)
   rw[List.drop_succ_cons,ih hd,jE,Nat.pow_succ,Nat.mul_comm (4294967296 ^ m),←Nat.div_div_eq_div_mul]
   congr 1;omega
theorem Norm.drop {ds:List Nat} (h:Norm ds) (m:Nat):Norm (ds.drop m):=by
 by_cases hm:ds.length≤m
 ·left;exact List.drop_eq_nil_of_le hm
 ·rcases h with rfl|h
  ·left;simp
  ·right
   rw[List.length_drop]
   have:(ds.drop m).getD (ds.length - m - 1) 0=ds.getD (ds.length - 1) 0:=by
    simp only[List.getD_eq_getElem?_getD,List.getElem?_drop]
    rw[show m+(ds.length - m - 1)=ds.length - 1 by omega]
   rw[this];exact h
theorem bB.drop {ds:List Nat} (h:bB ds) (m:Nat):bB (ds.drop m):=fun d hd=>h d (List.mem_of_mem_drop hd)
end Go.Id
