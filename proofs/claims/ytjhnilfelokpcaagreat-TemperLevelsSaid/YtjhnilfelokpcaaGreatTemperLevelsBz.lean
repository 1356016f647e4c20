/-
  TemperLevels: for every input the law returns true, and each argument reads as it did. Conditions: none but the row's own.
-/
import Derived.Test.YtjhnilfelokpcaaGreatTemperLevelsAt
import Derived.Test.YtjhnilfelokpcaaGreatTemperLevelsBv
import Derived.Test.YtjhnilfelokpcaaGreatTemperLevelsBy
set_option linter.unusedVariables false
set_option linter.unusedSimpArgs false
set_option linter.defProp false
set_option linter.deprecated false
namespace Go.Id
open Go
open Go.Proofs.Tryz (prog)
open Nat renaming reduceAdd→zA,reduceEqDiff→zE,reduceLeDiff→zL
set_option maxHeartbeats 16000000
theorem bendOf_ok {h:IH} {v:Value} {ll:List (List (Nat×Nat))} {w a:Nat} {p:Nat×Nat} (hv:ShLs h v ll) (l0:0<ll.length) (hl:ll.length≤60) (hr : ∀x∈ll,x.length=ll.length) (hw:w<256) (ha:a<256) (hp:p.1<W8∧p.2<W8) :
  WV prog (.func (.func 21) #[] #[]) [bdV w a p,v] h fun r h'=>Ext h h' ∧ ∃mm,ShLs h' r mm∧bendTo p ll mm:=by
 have E1:Ext h (h.new (.cells (bdC w a p) 0 none)):=(Ext.refl h).new _
 have g1:(h.new (.cells (bdC w a p) 0 none)).ext.get h.n=some (.cells (bdC w a p) 0 none):=by simp (disch:=try exact dx) only[get_new_same]
 have l18:(bdC w a p).length=18:=by simp[shC_len]
 have t18:List.take 18 (List.drop 0 (bdC w a p))=bdC w a p:=by rw[List.drop_zero,List.take_of_length_le (by omega)]
 refine enter (nt:=8) (rs:=[.tmp 4]) Proofs.Tryz.func21 rfl rfl rfl (by simp) ?_
 simp -dsimp (disch:=try exact dx) only[wpS,zE,zL,zA,ld53,bdV_cells,l18,t18]
 refine call (bend_ok (hv.keep E1.keep) l0 hl hr hw ha hp) ?_
 rintro r h2 ⟨X2,mm,h3,h4⟩
 simp -dsimp (disch:=try exact dx) only[wpS,zE]
 exact⟨E1.trans X2,mm,h3,h4⟩
noncomputable abbrev bodyLv:Code:=Proofs.Tryz.f4.body.getD .skip
theorem lv0 (base:Nat→Option (List Value)) (sz:Nat) (vN vS vL vA vR vQ w:Value) (b c:Nat) (p:Nat×Nat) (l:Int) :
  evC (E1 prog tb34) (callV (E1 prog tb34) 1) 4 111 none 1 (partAt bodyLv 0) (enterFr 0 [.agg #[B8 sz,vN,vS,vL,vA,vR,vQ],bdV b c p,w,KI l]) (IH.start base)=some (.normal,(8,.bool false) :: (5,ptr 2 0) :: (4,ptr 0 0) :: enterFr 0 [.agg #[B8 sz,vN,vS,vL,vA,vR,vQ],bdV b c p,w,KI l],((IH.start base).new (.cells [B8 sz,vN,vS,vL,vA,vR,vQ] 0 none)).new (.cells (bdC b c p) 0 none)):=rfl
theorem lv1 (fr:Fr) (h:IH) :
  evC (E1 prog tb34) (callV (E1 prog tb34) 1) 4 111 none 1 (partAt bodyLv 1) fr h=some (.normal,(26,.bool false) :: (25,.bool true) :: fr,h):=rfl
noncomputable abbrev QLv:IExit→Fr→IH→Prop:=retK prog [.tmp 8] fun r _=>r=.bool true
structure LVf (fr:Fr) (w:Value) (l:Int) (bx bb:Nat):Prop where
 f2:fget fr 2=some w
 f3:fget fr 3=some (KI l)
 f4:fget fr 4=some (ptr (2*bx) 0)
 f5:fget fr 5=some (ptr (2*bb) 0)
section
variable {h hh:IH} {fr:Fr} {sz bx bb:Nat} {vN vS vL vA vR vQ w:Value} {lN lS lL lA ws:List Nat} {lR lQ:List Int} {l:Int}
theorem lv2 (hw:WiAr h w ws) (f2:fget fr 2=some w) (f3:fget fr 3=some (KI l)) (f4:fget fr 4=some (ptr (2*bx) 0)) (f5:fget fr 5=some (ptr (2*bb) 0)):Do (wpC prog 4 111 none (partAt bodyLv 2) fr h) (seqK (fun fr h'=>Pst (h'=h ∧ ∃w ws,WiSl h w ws∧LVf fr w l bx bb) nx) QLv) nx:=by
 show Do (wpC _ _ _ _ (.region _ _ _) fr h) _ _
 have lv:=hw.2.1
 obtain⟨M,hM⟩ : ∃M,M=min ws.length 6:=⟨_,rfl⟩
 have hmin:(if (6:Int)<(ws.length:Int) then (6:Int) else (ws.length:Int))=(M:Int):=by split<;>omega
 obtain⟨w2,e2,s2⟩:=hw.first (Keep.refl h) (m:=M) (by omega) (by omega)
 simp -dsimp (disch:=try exact dx) only[wpS,zE,f2,hw.1.len sl28,min_ii,hmin,e2]
 exact⟨rfl,w2,_,s2,⟨by simp,by simp[f3],by simp[f4],by simp[f5]⟩⟩
theorem lv3 (hN:BySl h vN lN) (hsz:sz<256) (g:h.ext.get bx=some (.cells [B8 sz,vN,vS,vL,vA,vR,vQ] 0 none)) (L:LVf fr w l bx bb):Do (wpC prog 4 111 none (partAt bodyLv 3) fr h) (seqK (fun fr h'=>Pst (Ext h h' ∧ ∃m ll,ShLs h' m ll∧1≤ll.length∧ll.length≤4∧(∀x∈ll,x.length=ll.length)∧LVf fr w l bx bb∧fget fr 9=some m) nx) QLv) nx:=by
 show Do (wpC _ _ _ _ (.region _ _ _) fr h) _ _
 have tk2b:List.take 2 (List.drop 0 [B8 sz,vN,vS,vL,vA,vR,vQ]) = [B8 sz,vN]:=rfl
 simp -dsimp (disch:=try exact dx) only[wpS,wpT,zE,zL,zA,fa27_0,ld24,L.f4,row_of g,tk2b]
 refine call (dkernel_ok hN hsz) ?_
 rintro m h1 ⟨X1,ll,hm,hl,hr⟩
 simp -dsimp (disch:=try exact dx) only[wpS,zE]
 exact⟨X1,m,ll,hm,by omega,by omega,fun x hx=>by rw[hl];exact(hr x hx).1,⟨by simp[L.f2],by simp[L.f3],by simp[L.f4],by simp[L.f5]⟩,by simp⟩
theorem lv4 {m:Value} {ll:List (List (Nat×Nat))} (hm:ShLs h m ll) (l1:1≤ll.length) (l2:ll.length≤4) (hS:BySl h vS lS) (hL:BySl h vL lL) (hA:BySl h vA lA) (cN:cellOK vN=true) (cR:cellOK vR=true) (cQ:cellOK vQ=true) (g:h.ext.get bx=some (.cells [B8 sz,vN,vS,vL,vA,vR,vQ] 0 none)) (L:LVf fr w l bx bb) (f9:fget fr 9=some m):Do (wpC prog 4 111 none (partAt bodyLv 4) fr h) (seqK (fun fr h'=>Pst (Ext h h' ∧ ∃v10 s,InSl h' v10 s∧LVf fr w l bx bb∧fget fr 9=some m∧fget fr 10=some v10) nx) QLv) nx:=by
 show Do (wpC _ _ _ _ (.region _ _ _) fr h) _ _
 obtain⟨_,_,hlen⟩:=hm.co
 have tk7:List.take 7 (List.drop 0 [B8 sz,vN,vS,vL,vA,vR,vQ]) = [B8 sz,vN,vS,vL,vA,vR,vQ]:=rfl
 simp -dsimp (disch:=try exact dx) only[wpS,wpT,zE,zL,zA,ld27,L.f4,f9,hlen,row_of g,tk7]
 refine call (lists_ok (n:=ll.length) hS hL hA (by omega) (by omega) cN cR cQ) ?_
 rintro _ h1 ⟨X1,v13,v14,v15,s,l,t,rfl,s13,s14,s15,hl⟩
 simp -dsimp (disch:=try exact dx) only[wpS,zE]
 exact⟨X1,v13,s,s13,⟨by simp[L.f2],by simp[L.f3],by simp[L.f4],by simp[L.f5]⟩,by simp[f9],by simp⟩
theorem LVf.up {fr fr':Fr} (s:LVf fr w l bx bb) (h2:fget fr' 2=fget fr 2) (h3:fget fr' 3=fget fr 3) (h4:fget fr' 4=fget fr 4) (h5:fget fr' 5=fget fr 5):LVf fr' w l bx bb :=
 ⟨h2.trans s.f2,h3.trans s.f3,h4.trans s.f4,h5.trans s.f5⟩
theorem lv5 {m v10:Value} {ll:List (List (Nat×Nat))} {s0:List Int} {b c:Nat} {p:Nat×Nat} (hm:ShLs hh m ll) (l1:1≤ll.length) (l2:ll.length≤4) (hr : ∀x∈ll,x.length=ll.length) (hw:WiSl hh w ws) (s10:InSl hh v10 s0) (hR:InAr hh vR lR) (hN:BySl hh vN lN) (lbx:bx<hh.n) (lbb:bb<hh.n)
  (gx:hh.ext.get bx=some (.cells [B8 sz,vN,vS,vL,vA,vR,vQ] 0 none)) (gb:hh.ext.get bb=some (.cells (bdC b c p) 0 none)) (hb:b<256) (hc:c<256) (hp:p.1<W8∧p.2<W8) (hl:In64 l) (L:LVf fr w l bx bb) (f9:fget fr 9=some m) (f10:fget fr 10=some v10) :
  Do (wpC prog 4 111 none (restAt bodyLv 5) fr hh) QLv nx:=by
 obtain⟨cm,co,hlen⟩:=hm.co
 have tk2b:List.take 2 (List.drop 0 [B8 sz,vN,vS,vL,vA,vR,vQ]) = [B8 sz,vN]:=rfl
 have l18:(bdC b c p).length=18:=by simp[shC_len]
 have t18:List.take 18 (List.drop 0 (bdC b c p))=bdC b c p:=by rw[List.drop_zero,List.take_of_length_le (by omega)]
 obtain⟨ya,hya⟩:=teU64w l
 obtain⟨qa,hqa⟩ : ∃q:Nat,q=ya % 9:=⟨_,rfl⟩
 have ra : ∀ox oy,binop prog .rem 35 ox oy (.int .u64 (ya:Int)) (.int .u64 9)=some (.int .u64 (qa:Int)):=fun ox oy=>by rw[hqa];exact rem_natk _ _ .u64 ox oy ya 9 (by omega)
 have lR':=hR.2.1
 obtain⟨M,hM⟩ : ∃M,M=min lR.length 6:=⟨_,rfl⟩
 have hmin:(if (6:Int)<(lR.length:Int) then (6:Int) else (lR.length:Int))=(M:Int):=by split<;>omega
 show Do (wpC _ _ _ _ (.seq (.seq _ _) _) fr hh) _ _
 simp -dsimp (disch:=try exact dx) only[wpS,zE,zL,ld53,f9,L.f5,row_of gb,l18,t18]
 refine call (bendOf_ok hm (by omega) (by omega) hr hb hc hp) ?_
 rintro v46 h1 ⟨X1,mm,sm,_⟩
 obtain⟨cm2,co2,_⟩:=sm.co
 have E1:=X1.keep
 simp -dsimp (disch:=try exact dx) only[wpS,wpT,zE,zL,zA,bv57,pl57_0,pl57_1,cm,cm2]
 refine loop (fun mk fr g => ∃k:Nat,k+mk=2∧Ext h1 g∧LVf fr w l bx bb∧fget fr 9=some m∧fget fr 10=some v10∧fget fr 47=some (.agg #[m,v46])∧fget fr 48=some (KN k)) 2
  ⟨0,by omega,Ext.refl _,L.up (by simp) (by simp) (by simp) (by simp),by simp[f9],by simp[f10],by simp,by simp⟩ ?_
 clear L f9 f10
 rintro mk fr g ⟨k,hkm,E,L,f9,f10,f47,f48⟩
 simp -dsimp (disch:=try exact dx) only[wpS,f48]
 refine bq_intro ?_ ?_<;>intro hc1<;>simp only[decide_eq_true_eq,decide_eq_false_iff_not] at hc1
 ·obtain⟨vk,lk,hvk,sk0⟩ : ∃vk lk,indexV prog 57 (.agg #[m,v46]) (KN k)=some vk∧ShLs h1 vk lk:=by
   rcases(by omega:k=0∨k=1) with rfl|rfl
   ·exact⟨m,ll,by kernel_rfl,hm.keep E1⟩
   ·exact⟨v46,mm,by kernel_rfl,sm⟩
  have EE:=X1.trans E
  have gx':=EE.kept lbx gx
  simp -dsimp (disch:=try exact dx) only[wpS,wpT,zE,zL,zA,fa27_0,ld24,f47,f48,hvk,L.f2,L.f4,f9,hlen,row_of gx',tk2b]
  refine call (dweights_ok (hN.keep EE.keep) ll.length (by omega)) ?_
  rintro v56 g1 ⟨Y1,wo,sw,_⟩
  simp -dsimp (disch:=try exact dx) only[wpS,wpT,zE,zL,zA,bv38,pl38_0,pl38_1,hw.1.cells,sw.1.cells]
  refine loop (fun m2 fr gg => ∃o:Nat,o+m2=2∧Ext g1 gg∧LVf fr w l bx bb∧fget fr 9=some m∧fget fr 10=some v10∧fget fr 14=some vk∧fget fr 47=some (.agg #[m,v46])∧fget fr 48=some (KN k)∧fget fr 57=some (.agg #[w,v56])∧fget fr 58=some (KN o)) 2
   ⟨0,by omega,Ext.refl _,L.up (by simp) (by simp) (by simp) (by simp),by simp[f9],by simp[f10],by simp,by simp[f47],by simp[f48],by simp,by simp⟩ ?_
  clear L f9 f10 f47 f48
  rintro m2 fr gg ⟨o,hom,E2,L,f9,f10,f14,f47,f48,f57,f58⟩
  simp -dsimp (disch:=try exact dx) only[wpS,f58]
  refine bq_intro ?_ ?_<;>intro hc2<;>simp only[decide_eq_true_eq,decide_eq_false_iff_not] at hc2
  ·obtain⟨vw,lw,hvw,sw0⟩ : ∃vw lw,indexV prog 38 (.agg #[w,v56]) (KN o)=some vw∧WiSl g1 vw lw:=by
    rcases(by omega:o=0∨o=1) with rfl|rfl
    ·exact⟨w,ws,by kernel_rfl,hw.keep (EE.trans Y1).keep⟩
    ·exact⟨v56,wo,by kernel_rfl,sw⟩
   have E3:=(EE.trans Y1).trans E2
   have gx2:=E3.kept lbx gx
   obtain⟨w1,e1,s1⟩:=hR.first E3.keep (m:=M) (by omega) (by omega)
   simp -dsimp (disch:=try exact dx) only[wpS,wpT,zE,zL,zA,fa27_4,ld25,bv32,pl32_0,pl32_1,f10,f57,f58,hvw,L.f4,row_of gx2,hR.1.len sl25,min_ii,hmin,e1,s10.1.cells,s1.1.cells]
   refine loop (fun m3 fr g3 => ∃q:Nat,q+m3=2∧Ext gg g3∧LVf fr w l bx bb∧fget fr 9=some m∧fget fr 10=some v10∧fget fr 14=some vk∧fget fr 16=some vw∧fget fr 47=some (.agg #[m,v46])∧fget fr 48=some (KN k)∧fget fr 57=some (.agg #[w,v56])∧fget fr 58=some (KN o)∧fget fr 69=some (.agg #[v10,w1])∧fget fr 70=some (KN q)) 2
    ⟨0,by omega,Ext.refl _,L.up (by simp) (by simp) (by simp) (by simp),by simp[f9],by simp[f10],by simp[f14],by simp,by simp[f47],by simp[f48],by simp[f57],by simp[f58],by simp,by simp⟩ ?_
   clear L f9 f10 f14 f47 f48 f57 f58
   rintro m3 fr g3 ⟨q,hqm,E4,L,f9,f10,f14,f16,f47,f48,f57,f58,f69,f70⟩
   simp -dsimp (disch:=try exact dx) only[wpS,f70]
   refine bq_intro ?_ ?_<;>intro hc3<;>simp only[decide_eq_true_eq,decide_eq_false_iff_not] at hc3
   ·obtain⟨vs,ls,hvs,ss0⟩ : ∃vs ls,indexV prog 32 (.agg #[v10,w1]) (KN q)=some vs∧InSl gg vs ls:=by
     rcases(by omega:q=0∨q=1) with rfl|rfl
     ·exact⟨v10,s0,by kernel_rfl,s10.keep E3.keep⟩
     ·exact⟨w1,_,by kernel_rfl,s1.keep E3.keep⟩
    simp -dsimp (disch:=try exact dx) only[wpS,wpT,zE,zL,zA,cv3_35,cv35_3,bv36,pl36_0,pl36_1,f69,f70,hvs,L.f3,hya,ra]
    refine loop (fun m4 fr g4 => ∃o4:Nat,o4+m4=2∧Ext g3 g4∧LVf fr w l bx bb∧fget fr 9=some m∧fget fr 10=some v10∧fget fr 14=some vk∧fget fr 16=some vw∧fget fr 18=some vs∧fget fr 47=some (.agg #[m,v46])∧fget fr 48=some (KN k)∧fget fr 57=some (.agg #[w,v56])∧fget fr 58=some (KN o)∧fget fr 69=some (.agg #[v10,w1])∧fget fr 70=some (KN q)∧fget fr 78=some (.agg #[KI l,KI (qa:Int)])∧fget fr 79=some (KN o4)) 2
     ⟨0,by omega,Ext.refl _,L.up (by simp) (by simp) (by simp) (by simp),by simp[f9],by simp[f10],by simp[f14],by simp[f16],by simp,by simp[f47],by simp[f48],by simp[f57],by simp[f58],by simp[f69],by simp[f70],by simp,by simp⟩ ?_
    clear L f9 f10 f14 f16 f47 f48 f57 f58 f69 f70
    rintro m4 fr g4 ⟨o4,hom4,E5,L,f9,f10,f14,f16,f18,f47,f48,f57,f58,f69,f70,f78,f79⟩
    simp -dsimp (disch:=try exact dx) only[wpS,f79]
    refine bq_intro ?_ ?_<;>intro hc4<;>simp only[decide_eq_true_eq,decide_eq_false_iff_not] at hc4
    ·obtain⟨kk,hkk,ik⟩ : ∃kk,indexV prog 36 (.agg #[KI l,KI (qa:Int)]) (KN o4)=some (KI kk)∧In64 kk:=by
      rcases(by omega:o4=0∨o4=1) with rfl|rfl
      ·exact⟨l,by kernel_rfl,hl⟩
      ·exact⟨qa,by kernel_rfl,by omega,by omega⟩
     have E45:=E4.trans E5
     have sk:=sk0.keep (((E.trans Y1).trans E2).trans E45).keep
     have sw1:=sw0.keep (E2.trans E45).keep
     have ss:=ss0.keep E45.keep
     simp -dsimp (disch:=try exact dx) only[wpS,wpT,zE,f14,f16,f18,f78,f79,hkk]
     refine call (teLevel_ok sk sw1 ss ik) ?_
     rintro _ g5 ⟨Y5,o1,rfl,q1,q2⟩
     simp -dsimp (disch:=try exact dx) only[wpS,zE,f14,f16,f18]
     refine call (rfLevel_ok (sk.keep Y5.keep) (sw1.keep Y5.keep) (ss.keep Y5.keep) ik) ?_
     rintro _ g6 ⟨Y6,o2,rfl,q3,q4⟩
     obtain⟨er,her⟩ : ∃er,er=levE lk lw ls kk:=⟨_,rfl⟩
     rw[←her] at q1 q2 q3 q4
     obtain⟨rr,t1,t2⟩ : ∃rr,ShLs g6 o1 rr∧ShLs g6 o2 rr:=by
      by_cases z:er=0
      ·exact⟨_,(q1 z).keep Y6.keep,q3 z⟩
      ·rw[q2 z,q4 z]
       exact⟨[],⟨[],SlOf.nil _ (by omega),by simp,fun i x hx=>by simp at hx⟩,⟨[],SlOf.nil _ (by omega),by simp,fun i x hx=>by simp at hx⟩⟩
     rw[←her]
     simp -dsimp (disch:=try exact dx) only[wpS,zE]
     refine call (kSame_ok t1 t2) ?_
     rintro _ _ ⟨rfl,rfl⟩
     have d:(er != er)=false:=by simp
     simp -dsimp (disch:=try exact dx) only[wpS,wpT,zE,decide_true,d,f79]
     exact⟨m4 - 1,by omega,o4+1,by omega,(E5.trans Y5).trans Y6,L.up (by simp) (by simp) (by simp) (by simp),by simp[f9],by simp[f10],by simp[f14],by simp[f16],by simp[f18],by simp[f47],by simp[f48],by simp[f57],by simp[f58],by simp[f69],by simp[f70],by simp[f78],by simp⟩
    ·simp -dsimp (disch:=try exact dx) only[wpS,wpT,zE,f70]
     exact⟨m3 - 1,by omega,q+1,by omega,E4.trans E5,L.up (by simp) (by simp) (by simp) (by simp),by simp[f9],by simp[f10],by simp[f14],by simp[f16],by simp[f47],by simp[f48],by simp[f57],by simp[f58],by simp[f69],by simp⟩
   ·simp -dsimp (disch:=try exact dx) only[wpS,wpT,zE,f58]
    exact⟨m2 - 1,by omega,o+1,by omega,E2.trans E4,L.up (by simp) (by simp) (by simp) (by simp),by simp[f9],by simp[f10],by simp[f14],by simp[f47],by simp[f48],by simp[f57],by simp⟩
  ·simp -dsimp (disch:=try exact dx) only[wpS,wpT,zE,f48]
   exact⟨mk - 1,by omega,k+1,by omega,(E.trans Y1).trans E2,L.up (by simp) (by simp) (by simp) (by simp),by simp[f9],by simp[f10],by simp[f47],by simp⟩
 ·simp -dsimp (disch:=try exact dx) only[wpS,wpT]
theorem levels_rest {b c:Nat} {p:Nat×Nat} (hw:WiAr h w ws) (hN:BySl h vN lN) (hS:BySl h vS lS) (hL:BySl h vL lL) (hA:BySl h vA lA) (hR:InAr h vR lR) (hQ:InAr h vQ lQ) (hsz:sz<256) (lbx:bx<h.n) (lbb:bb<h.n) (gx:h.ext.get bx=some (.cells [B8 sz,vN,vS,vL,vA,vR,vQ] 0 none)) (gb:h.ext.get bb=some (.cells (bdC b c p) 0 none)) (hb:b<256) (hc:c<256) (hp:p.1<W8∧p.2<W8) (hl:In64 l)
  (f2:fget fr 2=some w) (f3:fget fr 3=some (KI l)) (f4:fget fr 4=some (ptr (2*bx) 0)) (f5:fget fr 5=some (ptr (2*bb) 0)) :
  Do (wpC prog 4 111 none (restAt bodyLv 2) fr h) QLv nx:=by
 show Do (wpC _ _ _ _ (.seq (partAt bodyLv 2) (restAt bodyLv 3)) fr h) QLv _
 rw[d_seq];refine cut _ (lv2 hw f2 f3 f4 f5) ?_;rintro fr2 h2 ⟨e2,w',ws',sw,L⟩;rw[e2];clear e2 h2
 show Do (wpC _ _ _ _ (.seq (partAt bodyLv 3) (restAt bodyLv 4)) fr2 h) QLv _
 rw[d_seq];refine cut _ (lv3 hN hsz gx L) ?_;clear L;rintro fr3 h3 ⟨X3,m,ll,hm,l1,l2,hr,L,f9⟩
 have n3:=X3.n
 show Do (wpC _ _ _ _ (.seq (partAt bodyLv 4) (restAt bodyLv 5)) fr3 h3) QLv _
 rw[d_seq];refine cut _ (lv4 hm l1 l2 (hS.keep X3.keep) (hL.keep X3.keep) (hA.keep X3.keep) hN.1.cok hR.1.cok hQ.1.cok (X3.kept lbx gx) L f9) ?_;clear L f9;rintro fr4 h4 ⟨X4,v10,s,s10,L,f9,f10⟩
 have n4:=X4.n
 have X34:=X3.trans X4
 exact lv5 (hm.keep X4.keep) l1 l2 hr (sw.keep X34.keep) s10 (hR.keep X34.keep) (hN.keep X34.keep) (by omega) (by omega) (X34.kept lbx gx) (X34.kept lbb gb) hb hc hp hl L f9 f10
end
end Go.Id

namespace Go.Proofs.YtjhnilfelokpcaaGreat
open Go.ChangeShapes Go.WideShapes Go.ChangeAt Go.RowKit Go.Id
theorem wf_u16 {x:Int} (h:(Lit.int .u16 x).wf=true):0≤x∧x<65536:=by
 simp only[Lit.wf,Bool.and_eq_true,decide_eq_true_eq] at h
 have h1:(0:Int)≤x:=h.1
 have h2:x≤(65535:Int):=h.2
 exact⟨h1,by omega⟩
theorem shV_rel {m:Mp} (n d:Nat):VRel m (shV n d) (.agg (shC n d).toArray):=.plain_mk (plain_shV n d)
set_option maxRecDepth 100000 in
theorem temperLevels_lifted (os:Os) (started:os.Started) (H:Type) (enc:TypeId×Value→H) :
  ReturnsInHanded {} Tryz.checked os 4 .any (Rows.temperLevelsSpec.pre6 enc Tryz.prog Tryz.f4 Rows.temperLevelsRow.domain false) (Rows.temperLevelsSpec.post enc Tryz.prog Tryz.f4 false true false false):=by
 refine returnsInHanded_of_change (C:=Tryz.checked) Tryz.own started (by kernel_rfl) Tryz.func4
  (ChangeSpec.witness6 (enc:=enc) (C:=Tryz.checked) false ⟨#[],#[.agg #[.int .u8 0,.slice none 0 0,.slice none 0 0,.slice none 0 0,.slice none 0 0,.slice none 0 0,.slice none 0 0],.agg #[.int .u8 0,.int .u8 0,.int .u64 0,.int .u64 0,.int .u64 0,.int .u64 0,.int .u64 0,.int .u64 0,.int .u64 0,.int .u64 0,.int .u64 0,.int .u64 0,.int .u64 0,.int .u64 0,.int .u64 0,.int .u64 0,.int .u64 0,.int .u64 0],.slice none 0 0,.int .i64 0],[]⟩ 8 (by kernel_rfl) (by kernel_rfl) (by kernel_rfl) (by kernel_rfl)) ?_
 intro W base args ds gs before hval0 hW hcnd _
 have hval : ∀(j:Nat) t v,Tryz.f4.params[j]?=some t→args[j]?=some v→Value.okWide Tryz.prog W .any base t v:=hval0
 have hW':=hW
 obtain⟨p,q,hA0,hV,rfl,hfz,hnd⟩:=hW
 have hA:DataW.TrodAll enc Tryz.prog W 0 (fun _=>true) true Tryz.f4.params.toList args.toList ds p:=hA0
 have hA1:=hA
 rw[Tryz.params4] at hA hval
 obtain⟨a0,r0,d0,ds0,p0,q0,e0,rfl,rfl,t0,h0A⟩:=trodAll_cons hA
 obtain⟨a1,r1,d1,ds1,p1,q1,rfl,rfl,rfl,t1,h1A⟩:=trodAll_cons h0A
 obtain⟨a2,r2,d2,ds2,p2,q2,rfl,rfl,rfl,t2,h2A⟩:=trodAll_cons h1A
 obtain⟨a3,r3,d3,ds3,p3,q3,rfl,rfl,rfl,t3,h3A⟩:=trodAll_cons h2A
 obtain⟨rfl,rfl,rfl⟩:=trodAll_nil h3A
 obtain⟨rfl,rfl⟩:=trodVars_none hV
 obtain rfl:args = #[a0,a1,a2,a3]:=by cases args;simpa using e0
 obtain⟨z0,rfl,_⟩:=okWide_struct u_case (hval 0 _ _ rfl rfl)
 obtain⟨fu0,t0⟩:=t0
 obtain⟨k0,yN0,yS0,yL0,yA0,yR0,yQ0,lN0,lS0,lL0,lA0,lR0,lQ0,g0,kb0,m0,sN0,sS0,sL0,sA0,sR0,sQ0⟩:=case_of (fun _=>none) t0
 obtain rfl:z0 = #[B8 k0,yN0,yS0,yL0,yA0,yR0,yQ0]:=by cases z0;simpa using g0
 obtain⟨z1,rfl,_⟩:=okWide_struct u_bend (hval 1 _ _ rfl rfl)
 obtain⟨fu1,t1⟩:=t1
 obtain⟨bw1,ba1,bn1,bd1,kw1,ka1,kn1,kd1,g1⟩:=bend_of t1
 obtain rfl:z1=(bdC bw1 ba1 (bn1,bd1)).toArray:=by cases z1;simpa using g1
 obtain⟨b2,n2,c2,rfl⟩:=okWide_slice u_wides (hval 2 _ _ rfl rfl)
 obtain⟨fu2,t2⟩:=t2
 obtain⟨v2,l2,g2,m2,s2⟩:=tell_wides (fun _=>none) t2
 cases g2
 obtain⟨x3,rfl,_,_,w3⟩:=open_int u_int (hval 3 _ _ rfl rfl) t3
 have i3:In64 x3:=wf_i64 w3
 have hb:=tell_ok (W:=W) (G:=fun _=>none) (fun b cs h=>by cases h)
 refine(parts_true (tb:=tb34) (nt:=111) (rs:=[.tmp 8]) Tryz.sound (show Sound (E1 Tryz.prog tb34) from sound_T) Tryz.func4 rfl rfl rfl (by simp) (lv0 _ _ _ _ _ _ _ _ _ _ _ (_,_) _) (lv1 _ _) (levels_rest (bx:=0) (bb:=1) (p:=(bn1,bd1)) (s2.keep (((Ext.refl _).new _).new _).keep) (sN0.keep (((Ext.refl _).new _).new _).keep) (sS0.keep (((Ext.refl _).new _).new _).keep) (sL0.keep (((Ext.refl _).new _).new _).keep) (sA0.keep (((Ext.refl _).new _).new _).keep) (sR0.keep (((Ext.refl _).new _).new _).keep) (sQ0.keep (((Ext.refl _).new _).new _).keep) kb0 (by simp) (by simp) ((get_new_old _ _ (by simp)).trans (get_new_same _ _ rfl)) (get_new_same _ _ rfl) kw1 ka1 ⟨kn1,kd1⟩ i3 rfl rfl rfl rfl) hb (args':=#[.agg #[B8 k0,yN0,yS0,yL0,yA0,yR0,yQ0],.agg (bdC bw1 ba1 (bn1,bd1)).toArray,.slice b2 n2 c2,.int .i64 x3]) (.cons (.agg_iff (.cons (.scal rfl) (.cons (trV_rel m0.1) (.cons (trV_rel m0.2.1) (.cons (trV_rel m0.2.2.1) (.cons (trV_rel m0.2.2.2.1) (.cons (trV_rel m0.2.2.2.2.1) (.cons (trV_rel m0.2.2.2.2.2) (.nil _))))))))) (.cons (bdV_rel bw1 ba1 (bn1,bd1)) (.cons (trV_rel m2) (.cons (.scal rfl) (.nil _)))))).mono fun e W' ⟨he,hk⟩=>?_
 subst he
 refine⟨_,rfl,post_of_below (pa:=p0 ++ (p1 ++ (p2 ++ (p3 ++ [])))) (pv:=[]) hW' (fun _ _ _=>trodAll_mk1 (shut_bool Tryz.underlying4 _)) (fun sp hs=>?_) (fun _ _=>rfl) hk⟩
 exact trodAll_stays Tryz.kids Tryz.pos hk hA1 (fun t ht=>by
  rw[Tryz.params4] at ht
  simp at ht
  rcases ht with rfl|rfl|rfl|rfl<;>exact of_decide_eq_true (by kernel_rfl)) (fun x hx=>hs x (by simpa using hx))
theorem temperLevels_row:Rows.TemperLevelsSaid :=
 OpenClaim.holds_of_wide 4 Tryz.f4 rfl rfl rfl rfl rfl rfl rfl ⟨rfl,rfl,rfl,rfl,rfl⟩ rfl rfl rfl rfl rfl (by kernel_rfl) Tryz.func4 (by kernel_rfl)
  (of_decide_eq_true (by kernel_rfl)) (by unfold Func.isWrapper;first|(rw[if_pos (by decide +kernel)];kernel_rfl)|(rw[if_neg (by decide +kernel)];exact⟨rfl,rfl⟩))
  (fun os started H enc _=>temperLevels_lifted os started H enc)
#print axioms temperLevels_row
end Go.Proofs.YtjhnilfelokpcaaGreat
