/-
  OutlierPaths: for every input the law returns true, and each argument reads as it did. Conditions: none but the row's own.
-/
import Derived.Test.YtjhnilfelokpcaaGreatOutlierPathsAq
import Derived.Test.YtjhnilfelokpcaaGreatOutlierPathsBm
import Derived.Test.YtjhnilfelokpcaaGreatOutlierPathsBr
import Derived.Test.YtjhnilfelokpcaaGreatOutlierPathsBa
import Derived.Test.YtjhnilfelokpcaaGreatOutlierPathsBb
import Init
import Derived.Test.YtjhnilfelokpcaaGreatOutlierPathsAy
import Derived.Test.YtjhnilfelokpcaaGreatOutlierPathsBh
import Derived.Test.YtjhnilfelokpcaaGreatOutlierPathsBf
import Derived.Test.YtjhnilfelokpcaaGreatOutlierPathsBl
import Derived.Test.YtjhnilfelokpcaaGreatOutlierPathsBo
set_option linter.unusedVariables false
set_option linter.unusedSimpArgs false
set_option linter.defProp false
set_option linter.deprecated false
namespace Go.Id
open Go
theorem Nm {h:IH} {v:Value} {ll:List (List (Nat×Nat))} {w a:Nat} {p:Nat×Nat} (hv:hP h v ll) (l0:0<ll.length) (hl:ll.length≤60) (hr : ∀x∈ll,x.length=ll.length) (hw:w<256) (ha:a<256) (hp:p.1<W8∧p.2<W8) :
  WV Proofs.Tryz.prog (.func (.func 21) #[] #[]) [bdV w a p,v] h fun r h'=>Ext h h' ∧ ∃mm,hP h' r mm∧ID p ll mm:=by
 have E1:Ext h (h.new (.cells (bdC w a p) 0 none)):=(Ext.refl h).new _
 have g1:(h.new (.cells (bdC w a p) 0 none)).ext.get h.n=some (.cells (bdC w a p) 0 none):=by simp (disch:=try exact dx) only[ab]
 have l18:(bdC w a p).length=18:=by simp[aP]
 have t18:List.take 18 (List.drop 0 (bdC w a p))=bdC w a p:=by rw[List.drop_zero,List.take_of_length_le (by omega)]
 refine enter (nt:=8) (rs:=[.tmp 4]) Proofs.Tryz.func21 rfl rfl rfl (by simp) ?_
 simp -dsimp (disch:=try exact dx) only[wpS,Nat.reduceEqDiff,Nat.reduceLeDiff,Nat.reduceAdd,WR,Co,l18,t18]
 refine call (Tb (hv.ae E1.ae) l0 hl hr hw ha hp) ?_
 rintro r h2 ⟨X2,mm,h3,h4⟩
 simp -dsimp (disch:=try exact dx) only[wpS,Nat.reduceEqDiff]
 exact⟨E1.trans X2,mm,h3,h4⟩
noncomputable abbrev bodyLv:Code:=Proofs.Tryz.f4.body.getD .skip
structure LVf (fr:Fr) (w:Value) (l:Int) (bx bb:Nat):Prop where
 f2:ai fr 2=some w
 f3:ai fr 3=some (KI l)
 f4:ai fr 4=some (ptr (2*bx) 0)
 f5:ai fr 5=some (ptr (2*bb) 0)
section
variable {h hh:IH} {fr:Fr} {sz bx bb:Nat} {vN vS vL vA vR vQ w:Value} {lN lS lL lA ws:List Nat} {lR lQ:List Int} {l:Int}
end
end Go.Id

namespace Go.Id
open Go
end Go.Id

namespace Go.Id
open Go
end Go.Id

namespace Go.Id
open Go
end Go.Id

namespace Go.Id
open Go
end Go.Id

namespace Go.Id
open Go
end Go.Id

namespace Go.Id
open Go
end Go.Id

namespace Go.Id
open Go
end Go.Id

namespace Go.Id
open Go
end Go.Id

namespace Go.Id
open Go
end Go.Id

namespace Go.Id
open Go
end Go.Id

namespace Go.Id
end Go.Id

namespace Go.Id
open Go
end Go.Id

namespace Go.Id
open Go
end Go.Id

namespace Go.Id
open Go
end Go.Id

namespace Go.Id
open Go
noncomputable def Li:FuncId→Option (List Value→Option Value):=CL [(28,okT)]
noncomputable abbrev bodyOl:Code:=Proofs.Tryz.f9.body.getD .skip
structure LX (h hh:IH) (fr:Fr) (a b:Nat) (mid:Bool) (at_ long:Int):Prop where
 e:Ext h hh
 f4:ai fr 4=some (.bool mid)
 f5:ai fr 5=some (KI at_)
 f6:ai fr 6=some (.int .u16 long)
 f9:ai fr 9=some (ptr (2*a) 0)
 f10:ai fr 10=some (ptr (2*b) 0)
section
variable {h hh:IH} {fr:Fr} {Q:bh→Fr→IH→Prop} {v w:Value} {nd a b:Nat} {mid:Bool} {at_ long:Int} {l0:List (Nat×Nat)}
end
end Go.Id

namespace Go.Id
open Go
open Go.Proofs.Tryz (prog)
open Nat renaming reduceAdd→zA,reduceEqDiff→zE,reduceLeDiff→zL
set_option maxHeartbeats 16000000

noncomputable abbrev tx:Code:=Proofs.Tryz.f6.body.getD .skip
noncomputable abbrev QOp:bh→Fr→IH→Prop:=Hp prog [.tmp 10] fun r _=>r=.bool true
theorem op0 (base:Nat→Option (List Value)) (sz:Nat) (vN:Value) (b c:Nat) (p:Nat×Nat) (x y s:Int) :
  evC (E1 prog Li) (cb (E1 prog Li) 1) 6 141 none 1 (partAt tx 0) (dC 0 [.agg #[B8 sz,vN],bdV b c p,KI x,KI y,.agg #[.int .u64 s]]) (IH.start base)=some (.normal,(10,.bool false) :: (9,ptr 4 0) :: (6,ptr 2 0) :: (5,ptr 0 0) :: dC 0 [.agg #[B8 sz,vN],bdV b c p,KI x,KI y,.agg #[.int .u64 s]],(((IH.start base).new (.cells [B8 sz,vN] 0 none)).new (.cells (bdC b c p) 0 none)).new (.cells [.int .u64 s] 0 none)):=rfl
theorem op1 (fr:Fr) (h:IH) :
  evC (E1 prog Li) (cb (E1 prog Li) 1) 6 141 none 1 (partAt tx 1) fr h=some (.normal,(31,.bool false) :: (30,.bool true) :: fr,h):=rfl
structure OPf (fr:Fr) (x y:Int) (bc:Nat):Prop where
 f2:ai fr 2=some (KI x)
 f3:ai fr 3=some (KI y)
 f9:ai fr 9=some (ptr (2*bc) 0)
theorem OPf.up {fr fr':Fr} {x y:Int} {bc:Nat} (s:OPf fr x y bc) (h2:ai fr' 2=ai fr 2) (h3:ai fr' 3=ai fr 3) (h9:ai fr' 9=ai fr 9):OPf fr' x y bc :=
 ⟨h2.trans s.f2,h3.trans s.f3,h9.trans s.f9⟩
section
variable {h hh:IH} {fr:Fr} {sz bx bb bc s:Nat} {vN:Value} {lN:List Nat} {x y:Int}
theorem op2 (hN:AT h vN lN) (hsz:sz<256) (g:h.ext.get bx=some (.cells [B8 sz,vN] 0 none)) (L:OPf fr x y bc) (f5:ai fr 5=some (ptr (2*bx) 0)) (f6:ai fr 6=some (ptr (2*bb) 0)):Do (wpC prog 6 141 none (partAt tx 2) fr h) (rA (fun fr h'=>Pst (Ext h h' ∧ ∃m ll,hP h' m ll∧oT ll∧fk ll∧OPf fr x y bc∧ai fr 6=some (ptr (2*bb) 0)∧ai fr 11=some m) nx) QOp) nx:=by
 show Do (wpC _ _ _ _ (.region _ _ _) fr h) _ _
 simp -dsimp (disch:=try exact dx) only[wpS,wpT,zL,zA,Zo,f5,aj g,kH]
 refine call (Im hN hsz) ?_
 rintro m h1 ⟨X1,ll,hm,hl,hr⟩
 obtain⟨k1,k2⟩:=Sv (ll:=ll) (by omega) (by omega) (fun x hx=>by rw[hl];exact hr x hx)
 simp -dsimp (disch:=try exact dx) only[wpS,zE]
 exact⟨X1,m,ll,hm,k1,k2,L.up (by simp) (by simp) (by simp),by simp[f6],by simp⟩
theorem op3 {m:Value} {ll:List (List (Nat×Nat))} {b c:Nat} {p:Nat×Nat} (hm:hP hh m ll) (k1:oT ll) (k2:fk ll) (hs:s<18446744073709551616) (lbb:bb<hh.n) (lbc:bc<hh.n)
  (gb:hh.ext.get bb=some (.cells (bdC b c p) 0 none)) (gc:hh.ext.get bc=some (.cells [K64 s] 0 none)) (hb:b<256) (hc:c<256) (hp:p.1<W8∧p.2<W8) (L:OPf fr x y bc) (f6:ai fr 6=some (ptr (2*bb) 0)) (f11:ai fr 11=some m) :
  Do (wpC prog 6 141 none (CX tx 3) fr hh) QOp nx:=by
 obtain⟨cm,co,hlen⟩:=hm.co
 have hW:IJ ll:=fun x hx q hq=>by
  obtain⟨i,hi⟩:=List.getElem?_of_mem hx
  obtain⟨_,_,s,_⟩:=hm.Ra hi
  exact s.2.2 q hq
 have l18:(bdC b c p).length=18:=by simp[aP]
 have t18:List.take 18 (List.drop 0 (bdC b c p))=bdC b c p:=by rw[List.drop_zero,List.take_of_length_le (by omega)]
 obtain⟨xa,hxa⟩:=N6 x
 obtain⟨ya,hya⟩:=N6 y
 have r1 : ∀ox oy,binop prog .rem 35 ox oy (.int .u64 (xa:Int)) (.int .u64 4)=some (.int .u64 ((xa % 4:Nat):Int)):=fun ox oy=>lW _ _ .u64 ox oy xa 4 (by omega)
 have r2 : ∀ox oy,binop prog .rem 35 ox oy (.int .u64 (ya:Int)) (.int .u64 21)=some (.int .u64 ((ya % 21:Nat):Int)):=fun ox oy=>lW _ _ .u64 ox oy ya 21 (by omega)
 show Do (wpC _ _ _ _ (.seq (.seq _ _) _) fr hh) _ _
 simp -dsimp (disch:=try exact dx) only[wpS,zE,zL,WR,f6,f11,aj gb,l18,t18]
 refine call (Nm hm k1.1 k1.2.1 (fun x hx=>(k1.2.2 x hx).1) hb hc hp) ?_
 rintro w h1 ⟨X1,mm,hmm,hbd⟩
 have kmm:=Nl hbd k1 k2 hW hp
 obtain⟨cm2,co2,_⟩:=hmm.co
 have gc1:=X1.kept lbc gc
 have n1:=X1.n
 simp -dsimp (disch:=try exact dx) only[wpS,wpT,zE,zL,zA,bv57,U4,U3,cm,cm2]
 refine loop (fun mk fr g => ∃k:Nat,k+mk=2∧Ext h1 g∧OPf fr x y bc∧ai fr 38=some (.agg #[m,w])∧ai fr 39=some (KN k)) 2
  ⟨0,by omega,Ext.refl _,L.up (by simp) (by simp) (by simp),by simp,by simp⟩ ?_
 clear L f6 f11
 rintro mk fr g ⟨k,hkm,E,L,f38,f39⟩
 simp -dsimp (disch:=try exact dx) only[wpS,f39]
 refine aA ?_ ?_<;>intro hc1<;>simp only[decide_eq_true_eq,decide_eq_false_iff_not] at hc1
 ·obtain⟨vk,lk,hvk,sk0,kk⟩ : ∃vk lk,oU prog 57 (.agg #[m,w]) (KN k)=some vk∧hP h1 vk lk∧(fk lk→oT lk):=by
   rcases(by omega:k=0∨k=1) with rfl|rfl
   ·exact⟨m,ll,by kernel_rfl,hm.ae X1.ae,fun _=>k1⟩
   ·exact⟨w,mm,by kernel_rfl,hmm,kmm⟩
  simp -dsimp (disch:=try exact dx) only[wpS,wpT,zE,zL,zA,bv36,U7,U6,QG,VQ,bv70,U1,U0,f38,f39,hvk,L.f2,L.f3,hxa,hya,r1,r2]
  refine loop (fun m2 fr g2 => ∃o:Nat,o+m2=2∧Ext g g2∧OPf fr x y bc∧ai fr 13=some vk∧ai fr 38=some (.agg #[m,w])∧ai fr 39=some (KN k)∧ai fr 54=some (.agg #[KI x,KI y,KN (xa % 4),KN (ya % 21)])∧ai fr 55=some (KN o)) 2
   ⟨0,by omega,Ext.refl _,L.up (by simp) (by simp) (by simp),by simp,by simp[f38],by simp[f39],by simp,by simp⟩ ?_
  clear L f38 f39
  rintro m2 fr g2 ⟨o,hom,E2,L,f13,f38,f39,f54,f55⟩
  simp -dsimp (disch:=try exact dx) only[wpS,f55]
  refine aA ?_ ?_<;>intro hc2<;>simp only[decide_eq_true_eq,decide_eq_false_iff_not] at hc2
  ·obtain⟨a,b,hab⟩ : ∃a b:Int,oU prog 70 (.agg #[KI x,KI y,KN (xa % 4),KN (ya % 21)]) (KN o)=some (.agg #[KI a,KI b]):=by
    rcases(by omega:o=0∨o=1) with rfl|rfl
    ·exact⟨x,y,by kernel_rfl⟩
    ·exact⟨((xa % 4:Nat):Int),((ya % 21:Nat):Int),by kernel_rfl⟩
   have E12:=E.trans E2
   have n2:=E12.n
   have gc2:=E12.kept (by omega) gc1
   have sk:=sk0.ae E12.ae
   have j0:nW 0 2=some 0:=by decide
   have j1:nW 1 2=some 1:=by decide
   simp -dsimp (disch:=try exact dx) only[wpS,wpT,zE,zL,zA,Wo,YS,Tf,ld3,bZ,f54,f55,hab,f13,j0,j1,L.f9,aj gc2,tk1]
   obtain⟨H3,hH3⟩ : ∃H,H=(g2.new (.cells [.int .i64 0,.int .i64 0] 0 none)).put g2.n (.cells [KI a,KI b] 0 none):=⟨_,rfl⟩
   have E3:Ext g2 H3:=by rw[hH3];exact((Ext.refl g2).new _).put (Nat.le_refl _) _
   have n3:H3.n=g2.n+1:=by rw[hH3];rfl
   have p3:H3.ext.get g2.n=some (.cells [KI a,KI b] 0 none):=by rw[hH3];exact aa _ _ rfl
   rw[←hH3]
   clear hH3
   have c3:=E3.kept (by omega) gc2
   obtain⟨F,hF⟩ : ∃F,F=qh lk a b s:=⟨_,rfl⟩
   obtain⟨G,hG⟩ : ∃G,G=xz lk a b s:=⟨_,rfl⟩
   have lF:F.1.length≤21:=by rw[hF];exact LU kk hs
   have lG:G.1.length≤21:=by rw[hG];exact N5 kk hs
   refine call (L6 (sk.ae E3.ae) kk hs) ?_
   rw[←hF]
   rintro _ h4 ⟨X4,HC,rfl,S1⟩
   have n4:=X4.n
   have c4:=X4.kept (by omega) c3
   have p4:=X4.kept (by omega) p3
   simp -dsimp (disch:=try exact dx) only[wpS,wpT,zE,zL,Tf,ld3,bZ,jr,dj,chV,j0,j1,f13,L.f9,aj c4,aj p4,tk1]
   obtain⟨H5,hH5⟩ : ∃H,H=(h4.new (.cells [.int .u64 0] 0 none)).put h4.n (.cells [K64 F.2.1] 0 none):=⟨_,rfl⟩
   have E5:Ext h4 H5:=by rw[hH5];exact((Ext.refl h4).new _).put (Nat.le_refl _) _
   have n5:H5.n=h4.n+1:=by rw[hH5];rfl
   have b5:H5.ext.get h4.n=some (.cells [K64 F.2.1] 0 none):=by rw[hH5];exact aa _ _ rfl
   rw[←hH5]
   clear hH5
   have c5:=E5.kept (by omega) c4
   have p5:=E5.kept (by omega) p4
   refine call (EZ (sk.ae ((E3.trans X4).trans E5).ae) kk hs) ?_
   rw[←hF]
   rintro _ h6 ⟨X6,HB,rfl,S2⟩
   have n6:=X6.n
   have c6:=X6.kept (by omega) c5
   have p6:=X6.kept (by omega) p5
   simp -dsimp (disch:=try exact dx) only[wpS,wpT,zE,zL,Tf,ld3,bZ,jr,dj,chV,j0,j1,f13,L.f9,aj c6,aj p6,tk1]
   obtain⟨H7,hH7⟩ : ∃H,H=(h6.new (.cells [.int .u64 0] 0 none)).put h6.n (.cells [K64 F.2.1] 0 none):=⟨_,rfl⟩
   have E7:Ext h6 H7:=by rw[hH7];exact((Ext.refl h6).new _).put (Nat.le_refl _) _
   have n7:H7.n=h6.n+1:=by rw[hH7];rfl
   have b7:H7.ext.get h6.n=some (.cells [K64 F.2.1] 0 none):=by rw[hH7];exact aa _ _ rfl
   rw[←hH7]
   clear hH7
   have c7:=E7.kept (by omega) c6
   have p7:=E7.kept (by omega) p6
   refine call (Es (sk.ae ((((E3.trans X4).trans E5).trans X6).trans E7).ae) kk hs) ?_
   rw[←hG]
   rintro _ h8 ⟨X8,out3,rfl,S3⟩
   have n8:=X8.n
   have c8:=X8.kept (by omega) c7
   have p8:=X8.kept (by omega) p7
   simp -dsimp (maxSteps:=1000000) (disch:=first|omega|(simp only[ax,ay];omega)|decide +kernel|(repeat first|rw[ax]|rw[ay])) only[wpS,wpT,zE,zL,Tf,ld3,bZ,jr,dj,chV,j0,j1,f13,L.f9,aj c8,aj p8,tk1]
   obtain⟨H9,hH9⟩ : ∃H,H=(h8.new (.cells [.int .u64 0] 0 none)).put h8.n (.cells [K64 G.2.2.1] 0 none):=⟨_,rfl⟩
   have E9:Ext h8 H9:=by rw[hH9];exact((Ext.refl h8).new _).put (Nat.le_refl _) _
   have n9:H9.n=h8.n+1:=by rw[hH9];rfl
   have b9:H9.ext.get h8.n=some (.cells [K64 G.2.2.1] 0 none):=by rw[hH9];exact aa _ _ rfl
   rw[←hH9]
   clear hH9
   have c9:=E9.kept (by omega) c8
   have p9:=E9.kept (by omega) p8
   have X39:=(((((E3.trans X4).trans E5).trans X6).trans E7).trans X8).trans E9
   refine call (yS (sk.ae X39.ae) kk hs) ?_
   rw[←hG]
   rintro _ ha ⟨Xa,out4,rfl,S4⟩
   have na:=Xa.n
   have ca:=Xa.kept (by omega) c9
   have pa:=Xa.kept (by omega) p9
   simp -dsimp (maxSteps:=1000000) (disch:=first|omega|(simp only[ax,ay];omega)|decide +kernel|(repeat first|rw[ax]|rw[ay])) only[wpS,wpT,zE,zL,jr,dj,chV]
   obtain⟨Hb,hHb⟩ : ∃H,H=(ha.new (.cells [.int .u64 0] 0 none)).put ha.n (.cells [K64 G.2.2.1] 0 none):=⟨_,rfl⟩
   have Eb:Ext ha Hb:=by rw[hHb];exact((Ext.refl ha).new _).put (Nat.le_refl _) _
   have nb:Hb.n=ha.n+1:=by rw[hHb];rfl
   have bb1:Hb.ext.get ha.n=some (.cells [K64 G.2.2.1] 0 none):=by rw[hHb];exact aa _ _ rfl
   rw[←hHb]
   clear hHb
   have T1:=S1.ae ((((((E5.trans X6).trans E7).trans X8).trans E9).trans Xa).trans Eb).ae
   have T2:=S2.ae ((((E7.trans X8).trans E9).trans Xa).trans Eb).ae
   have T3:=S3.ae ((E9.trans Xa).trans Eb).ae
   have T4:=S4.ae Eb.ae
   have b5':=(((((X6.trans E7).trans X8).trans E9).trans Xa).trans Eb).kept (by omega) b5
   have b7':=(((X8.trans E9).trans Xa).trans Eb).kept (by omega) b7
   have b9':=(Xa.trans Eb).kept (by omega) b9
   refine call (B4 T1.now T2.now (by omega)) ?_
   rintro _ z1 ⟨ez,rfl⟩
   rw[ez]
   clear ez z1
   have d1:(F.2.2 != F.2.2)=false:=by simp
   have d2:(G.2.2.2 != G.2.2.2)=false:=by simp
   have d3:(G.2.1 != G.2.1)=false:=by simp
   simp -dsimp (maxSteps:=1000000) (disch:=first|omega|(simp only[ax,ay];omega)|decide +kernel|(repeat first|rw[ax]|rw[ay])) only[wpS,wpT,zE,zL,bZ,decide_true,d1,aj b5',aj b7',tk1,Ky]
   refine call (B4 T3.now T4.now (by omega)) ?_
   rintro _ z1 ⟨ez,rfl⟩
   rw[ez]
   clear ez z1
   simp -dsimp (maxSteps:=1000000) (disch:=first|omega|(simp only[ax,ay];omega)|decide +kernel|(repeat first|rw[ax]|rw[ay])) only[wpS,wpT,zE,zL,bZ,decide_true,d2,d3,aj b9',aj bb1,tk1,Ky,f55]
   exact⟨m2 - 1,by omega,o+1,by omega,(((E2.trans X39).trans Xa).trans Eb),L.up (by simp) (by simp) (by simp),by simp[f13],by simp[f38],by simp[f39],by simp[f54],by simp⟩
  ·simp -dsimp (disch:=try exact dx) only[wpS,wpT,zE,f39]
   exact⟨mk - 1,by omega,k+1,by omega,E.trans E2,L.up (by simp) (by simp) (by simp),by simp[f38],by simp⟩
 ·simp -dsimp (disch:=try exact dx) only[wpS,wpT]
theorem C9 {b c:Nat} {p:Nat×Nat} (hN:AT h vN lN) (hsz:sz<256) (hs:s<18446744073709551616) (lbx:bx<h.n) (lbb:bb<h.n) (lbc:bc<h.n) (gx:h.ext.get bx=some (.cells [B8 sz,vN] 0 none)) (gb:h.ext.get bb=some (.cells (bdC b c p) 0 none)) (gc:h.ext.get bc=some (.cells [K64 s] 0 none)) (hb:b<256) (hc:c<256) (hp:p.1<W8∧p.2<W8)
  (f2:ai fr 2=some (KI x)) (f3:ai fr 3=some (KI y)) (f5:ai fr 5=some (ptr (2*bx) 0)) (f6:ai fr 6=some (ptr (2*bb) 0)) (f9:ai fr 9=some (ptr (2*bc) 0)) :
  Do (wpC prog 6 141 none (CX tx 2) fr h) QOp nx:=by
 show Do (wpC _ _ _ _ (.seq (partAt tx 2) (CX tx 3)) fr h) QOp _
 rw[kM];refine cut _ (op2 hN hsz gx ⟨f2,f3,f9⟩ f5 f6) ?_;rintro fr2 h2 ⟨X2,m,ll,hm,k1,k2,L,f6,f11⟩
 have n2:=X2.n
 exact op3 hm k1 k2 hs (by omega) (by omega) (X2.kept lbb gb) (X2.kept lbc gc) hb hc hp L f6 f11
end
end Go.Id

namespace Go.Proofs.YtjhnilfelokpcaaGreat
open Go.ChangeShapes Go.WideShapes Go.ChangeAt Go.RowKit Go.Id
theorem wf_u16 {x:Int} (h:(Lit.int .u16 x).wf=true):0≤x∧x<65536:=by
 simp only[Lit.wf,Bool.and_eq_true,decide_eq_true_eq] at h
 have h1:(0:Int)≤x:=h.1
 have h2:x≤(65535:Int):=h.2
 exact⟨h1,by omega⟩
theorem YD {m:Mp} (n d:Nat):aC m (shV n d) (.agg (shC n d).toArray):=.bT (BA n d)
set_option maxRecDepth 100000 in
theorem rB (os:Os) (started:os.Started) (H:Type) (enc:TypeId×Value→H) :
  ReturnsInHanded {} Tryz.checked os 6 .any (Rows.outlierPathsSpec.pre6 enc Tryz.prog Tryz.f6 Rows.outlierPathsRow.domain false) (Rows.outlierPathsSpec.post enc Tryz.prog Tryz.f6 false true false false):=by
 refine returnsInHanded_of_change (C:=Tryz.checked) Tryz.own started (by kernel_rfl) Tryz.func6
  (ChangeSpec.witness6 (enc:=enc) (C:=Tryz.checked) false ⟨#[],#[.agg #[.int .u8 0,.slice none 0 0],.agg #[.int .u8 0,.int .u8 0,.int .u64 0,.int .u64 0,.int .u64 0,.int .u64 0,.int .u64 0,.int .u64 0,.int .u64 0,.int .u64 0,.int .u64 0,.int .u64 0,.int .u64 0,.int .u64 0,.int .u64 0,.int .u64 0,.int .u64 0,.int .u64 0],.int .i64 0,.int .i64 0,.agg #[.int .u64 0]],[]⟩ 8 (by kernel_rfl) (by kernel_rfl) (by kernel_rfl) (by kernel_rfl)) ?_
 intro W base args ds gs before W6 hW hcnd _
 have nX : ∀(j:Nat) t v,Tryz.f6.params[j]?=some t→args[j]?=some v→Value.okWide Tryz.prog W .any base t v:=W6
 have hW':=hW
 obtain⟨p,q,hA0,hV,rfl,hfz,hnd⟩:=hW
 have hA:DataW.TrodAll enc Tryz.prog W 0 (fun _=>true) true Tryz.f6.params.toList args.toList ds p:=hA0
 have hA1:=hA
 rw[Tryz.params6] at hA nX
 obtain⟨a0,r0,d0,ds0,p0,q0,e0,rfl,rfl,t0,h0A⟩:=trodAll_cons hA
 obtain⟨a1,r1,d1,ds1,p1,q1,rfl,rfl,rfl,t1,h1A⟩:=trodAll_cons h0A
 obtain⟨a2,r2,d2,ds2,p2,q2,rfl,rfl,rfl,t2,h2A⟩:=trodAll_cons h1A
 obtain⟨a3,r3,d3,ds3,p3,q3,rfl,rfl,rfl,t3,h3A⟩:=trodAll_cons h2A
 obtain⟨a4,r4,d4,ds4,p4,q4,rfl,rfl,rfl,t4,h4A⟩:=trodAll_cons h3A
 obtain⟨rfl,rfl,rfl⟩:=trodAll_nil h4A
 obtain⟨rfl,rfl⟩:=trodVars_none hV
 obtain rfl:args = #[a0,a1,a2,a3,a4]:=by cases args;simpa using e0
 obtain⟨z0,rfl,_⟩:=okWide_struct En (nX 0 _ _ rfl rfl)
 obtain⟨fu0,t0⟩:=t0
 obtain⟨k0,yN0,lN0,g0,kb0,m0,sN0⟩:=MD (fun _=>none) t0
 obtain rfl:z0 = #[B8 k0,yN0]:=by cases z0;simpa using g0
 obtain⟨z1,rfl,_⟩:=okWide_struct NX (nX 1 _ _ rfl rfl)
 obtain⟨fu1,t1⟩:=t1
 obtain⟨bw1,ba1,bn1,bd1,kw1,ka1,kn1,kd1,g1⟩:=Tc t1
 obtain rfl:z1=(bdC bw1 ba1 (bn1,bd1)).toArray:=by cases z1;simpa using g1
 obtain⟨x2,rfl,_,_,w2⟩:=open_int Tx (nX 2 _ _ rfl rfl) t2
 have i2:jP x2:=wf_i64 w2
 obtain⟨x3,rfl,_,_,w3⟩:=open_int Tx (nX 3 _ _ rfl rfl) t3
 have i3:jP x3:=wf_i64 w3
 obtain⟨z4,rfl,_⟩:=okWide_struct Eo (nX 4 _ _ rfl rfl)
 obtain⟨fu4,t4⟩:=t4
 obtain⟨k4,g4,kb4⟩:=MX t4
 obtain rfl:z4 = #[K64 k4]:=by cases z4;simpa using g4
 have hb:=RI (W:=W) (G:=fun _=>none) (fun b cs h=>by cases h)
 refine(Hz (tb:=Li) (nt:=141) (rs:=[.tmp 10]) Tryz.sound (show Sound (E1 Tryz.prog Li) from RN) Tryz.func6 rfl rfl rfl (by simp) (op0 _ _ _ _ _ (_,_) _ _ _) (op1 _ _) (C9 (bx:=0) (bb:=1) (bc:=2) (p:=(bn1,bd1)) (sN0.ae ((((Ext.refl _).new _).new _).new _).ae) kb0 kb4 (by simp) (by simp) (by simp) ((ar _ _ (by simp)).trans ((ar _ _ (by simp)).trans (ab _ _ rfl))) ((ar _ _ (by simp)).trans (ab _ _ rfl)) (ab _ _ rfl) kw1 ka1 ⟨kn1,kd1⟩ rfl rfl rfl rfl rfl) hb (args':=#[.agg #[B8 k0,yN0],.agg (bdC bw1 ba1 (bn1,bd1)).toArray,.int .i64 x2,.int .i64 x3,.agg #[K64 k4]]) (.cons (.kY (.cons (.bJ rfl) (.cons (Jb m0) (.nil _)))) (.cons (Td bw1 ba1 (bn1,bd1)) (.cons (.bJ rfl) (.cons (.bJ rfl) (.cons (.kY (.cons (.bJ rfl) (.nil _))) (.nil _))))))).mono fun e W' ⟨he,hk⟩=>?_
 subst he
 refine⟨_,rfl,AG (pa:=p0 ++ (p1 ++ (p2 ++ (p3 ++ (p4 ++ []))))) (pv:=[]) hW' (fun _ _ _=>trodAll_mk1 (shut_bool Tryz.underlying4 _)) (fun sp hs=>?_) (fun _ _=>rfl) hk⟩
 exact rK Tryz.kids Tryz.pos hk hA1 (fun t ht=>by
  rw[Tryz.params6] at ht
  simp at ht
  rcases ht with rfl|rfl|rfl|rfl|rfl<;>exact of_decide_eq_true (by kernel_rfl)) (fun x hx=>hs x (by simpa using hx))
theorem outlierPaths_row:Rows.OutlierPathsSaid :=
 OpenClaim.holds_of_wide 6 Tryz.f6 rfl rfl rfl rfl rfl rfl rfl ⟨rfl,rfl,rfl,rfl,rfl⟩ rfl rfl rfl rfl rfl (by kernel_rfl) Tryz.func6 (by kernel_rfl)
  (of_decide_eq_true (by kernel_rfl)) (by unfold Func.isWrapper;first|(rw[if_pos (by decide +kernel)];kernel_rfl)|(rw[if_neg (by decide +kernel)];exact⟨rfl,rfl⟩))
  (fun os started H enc _=>rB os started H enc)
#print axioms outlierPaths_row
end Go.Proofs.YtjhnilfelokpcaaGreat
