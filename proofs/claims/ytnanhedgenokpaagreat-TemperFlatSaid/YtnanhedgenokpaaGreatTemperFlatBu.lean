/-
  TemperFlat: for every input the law returns true, and each argument reads as it did. Conditions: none but the row's own.
-/
import Derived.Test.YtnanhedgenokpaaGreatTemperFlatAt
import Derived.Test.YtnanhedgenokpaaGreatTemperFlatBf
import Derived.Test.YtnanhedgenokpaaGreatTemperFlatBt
import Derived.Test.YtnanhedgenokpaaGreatTemperFlatBb
import Derived.Test.YtnanhedgenokpaaGreatTemperFlatBk
import Derived.Test.YtnanhedgenokpaaGreatTemperFlatBe
import Derived.Test.YtnanhedgenokpaaGreatTemperFlatBl
import Derived.Test.YtnanhedgenokpaaGreatTemperFlatBo
set_option linter.unusedVariables false
set_option linter.unusedSimpArgs false
set_option linter.defProp false
set_option linter.deprecated false
namespace Go.Id
open Go
open Go.Proofs.Tryz (prog)
open Nat (reduceMul)
open Nat renaming reduceAdd→zA,reduceEqDiff→zE
def fil (n k:Nat) (x:Int):List Value:=(List.range n).map fun j=>KI (if j<k then x else 0)
theorem fil_len (n k:Nat) (x:Int):(fil n k x).length=n:=by simp[fil]
theorem fil_zero (n:Nat) (x:Int):fil n 0 x=repl n [KI 0]:=by
 rw[repl_one]
 apply List.ext_getElem
 ·simp[fil]
 ·intro i h1 h2;simp[fil]
theorem fil_one {n:Nat} (hn:0<n) (x:Int):IH.splice (fil n 0 x) 0 [KI x]=fil n 1 x:=by
 apply List.ext_getElem?
 intro j
 rw[get_splice _ _ _ (by rw[fil_len];simp;omega)]
 by_cases h1:0≤j∧j<0 + [KI x].length
 ·rw[if_pos h1]
  obtain rfl:j=0:=by simp at h1;exact h1
  simp[fil,hn]
 ·rw[if_neg h1]
  have h2 : ¬j<1:=fun hh=>h1 ⟨by omega,by simp;omega⟩
  rcases Nat.lt_or_ge j n with h3|h3
  ·have : ¬j=0:=by omega
   simp[fil,h3,this]
  ·simp[fil,h3]
theorem fil_ok (n k:Nat) (x:Int) {l:List Value} (h : ∀y∈l,y∈fil n k x):l.all cellOK=true:=by
 rw[List.all_eq_true]
 intro y hy
 have:=h y hy
 simp[fil] at this
 obtain⟨j,_,rfl⟩:=this
 rfl
theorem fil_get {n k j:Nat} (x:Int) (hj:j<n):(fil n k x)[j]?=some (KI (if j<k then x else 0)):=by simp[fil,hj]
theorem fil_splice {n k m:Nat} (x:Int) (hm:m≤k) (hk:k+m≤n):IH.splice (fil n k x) k ((fil n k x).take m)=fil n (k+m) x:=by
 apply List.ext_getElem?
 intro j
 have hl:((fil n k x).take m).length=m:=by rw[List.length_take,fil_len];omega
 rw[get_splice _ _ _ (by rw[hl,fil_len];exact hk),hl]
 by_cases hj:j<n
 ·rw[fil_get (k:=k+m) x hj]
  by_cases h1:k≤j∧j<k+m
  ·rw[if_pos h1,List.getElem?_take,if_pos (by omega),fil_get x (by omega),if_pos (by omega),if_pos h1.2]
  ·rw[if_neg h1,fil_get x hj]
   by_cases h2:j<k
   ·rw[if_pos h2,if_pos (by omega)]
   ·rw[if_neg h2,if_neg (by omega)]
 ·rw[if_neg (by omega),List.getElem?_eq_none (by rw[fil_len];omega),List.getElem?_eq_none (by rw[fil_len];omega)]
theorem repeat_ok {h:IH} {v:Value} (x:Int) (hs:SlOf h 1 v 1 [KI x]) (n:Nat) (hn:n≤1000000) :
  WV prog (.func (.func 27) #[] #[]) [v,KI n] h fun r h'=>Ext h h'∧SlOf h' 1 r n (List.replicate n (KI x)):=by
 have e1:((1:Nat):Int)=1:=rfl
 refine enter (nt:=48) (rs:=[.tmp 4]) Proofs.Tryz.func27 rfl rfl rfl (by simp) ?_
 simp -dsimp (disch:=try exact dx) only[wpS,wpT,zE,zA,cv3_94,hs.len sl25]
 refine call (mul_ok 1 n (by omega) (by omega)) ?_
 rintro _ _ ⟨rfl,rfl⟩
 rw[Nat.one_mul]
 rename_i h1
 have hE:Ext h1 (h1.new (.cells (repl n [KI 0]) 1 none)):=(Ext.refl h1).new _
 have hnow:SlNow (h1.new (.cells (repl n [KI 0]) 1 none)) 1 v 1 [KI x]:=(hs.keep hE.keep).now
 have fin : ∀h2:IH,Ext h1 h2→h1.n<h2.n→h2.ext.get h1.n=some (.cells (fil n n x) 1 none)→SlOf h2 1 (.slice (some ⟨2*h1.n,0,none⟩) n (2*n+1)) n (List.replicate n (KI x)):=by
  intro h2 _ hlt hg
  have:List.replicate n (KI x)=fil n n x:=by
   apply List.ext_getElem
   ·simp[fil]
   ·intro i a b
    simp[fil]
    intro hh;simp at a;omega
  rw[this]
  exact sl_block hg hlt (by omega) (by rw[fil_len];omega) (by omega) (by omega)
 rcases Nat.eq_zero_or_pos n with rfl|hp
 ·have hcp:=copy_none (P:=prog) u25 sz3 (h1.new (.cells (repl 0 [KI 0]) 1 none)) h1.n 0 1 hnow #[25,25] rfl
  rw[show repl 0 [KI 0] = [] from rfl] at hcp
  simp -dsimp (disch:=try exact dx) only[wpS,wpT,zE,reduceMul,cv94_3,ms25,hcp]
  refine loop (fun m fr h2=>h2=h1.new (.cells [] 1 none)∧fget fr 7=some (.slice (some ⟨2*h1.n,0,none⟩) 0 1)∧fget fr 8=some (KI 0)) 0 ⟨rfl,by simp,by simp⟩ ?_
  rintro m fr h2 ⟨rfl,f7,f8⟩
  simp -dsimp (disch:=try exact dx) only[wpS,wpT,zE,ln25,f7,f8]
  exact⟨hE,fin _ hE (by simp) (by rw[get_new_same _ _ rfl];rfl)⟩
 ·have hcp:=copy_eq (P:=prog) u25 sz3 (h:=h1.new (.cells (fil n 0 x) 1 none)) (k:=h1.n) (o:=0) (dn:=n) (c:=2*n+1) (cs:=fil n 0 x) (e2:=1) (get_new_same _ _ rfl) (sn:=1) (ss:=[KI x]) ((hs.keep ((Ext.refl h1).new _).keep).now) (by simp[cellOK,KI]) (by omega) (by rw[fil_len];omega) #[25,25] rfl
  have hx1:IH.splice (fil n 0 x) 0 ([KI x].take (min 1 n*1))=fil n 1 x:=by
   rw[show min 1 n=1 by omega];exact fil_one hp x
  rw[hx1,show((min 1 n:Nat):Int)=1 by omega] at hcp
  have hE2:Ext h1 ((h1.new (.cells (fil n 0 x) 1 none)).put h1.n (.cells (fil n 1 x) 1 none)):=((Ext.refl h1).new _).put (Nat.le_refl _) _
  have hg2:((h1.new (.cells (fil n 0 x) 1 none)).put h1.n (.cells (fil n 1 x) 1 none)).ext.get h1.n=some (.cells (fil n 1 x) 1 none):=get_put_same _ _ rfl
  have hl2:h1.n<((h1.new (.cells (fil n 0 x) 1 none)).put h1.n (.cells (fil n 1 x) 1 none)).n:=by simp
  rw[fil_zero] at hcp hE2 hg2 hl2
  simp -dsimp (disch:=try exact dx) only[wpS,wpT,zE,cv94_3,ms25,hcp]
  refine loop (fun m fr h3 => ∃k:Nat,0<k∧k+m=n∧Ext h1 h3∧h1.n<h3.n∧h3.ext.get h1.n=some (.cells (fil n k x) 1 none)∧fget fr 7=some (.slice (some ⟨2*h1.n,0,none⟩) n (2*n+1))∧fget fr 8=some (KI k)) (n - 1) ⟨1,by omega,by omega,hE2,hl2,hg2,by simp,by simp⟩ ?_
  rintro m fr h3 ⟨k,hk0,hkm,hE3,hl3,hg3,f7,f8⟩
  simp -dsimp (disch:=try exact dx) only[wpS,zE,ln25,f7,f8]
  refine bq_intro ?_ ?_<;>intro hc2<;>simp only[decide_eq_true_eq,decide_eq_false_iff_not] at hc2
  ·have s1:=slice_odd (P:=prog) u25 sz3 h3 (b:=2*h1.n) (o:=0) (n:=n) (k:=2*n+1) (l:=k) (m:=n) (by omega) (by omega) (lo:=some (KI k)) (hi:=none) (natOf_nat (k:=.i64) (by omega)) rfl
   have s2:=slice_odd (P:=prog) u25 sz3 h3 (b:=2*h1.n) (o:=0) (n:=n) (k:=2*n+1) (l:=0) (m:=k) (by omega) (by omega) (lo:=none) (hi:=some (KI k)) rfl (natOf_nat (k:=.i64) (by omega))
   have hr:h3.row (2*h1.n)=some (fil n k x):=by rw[row_even];simp[IH.cells,hg3]
   have hno:=slNow_mk (h:=h3) (b:=2*h1.n) (o:=0+0*1) (n:=k - 0) (k:=2*n+1 - 2*0) (sz:=1) (by omega) hr (by rw[fil_len];omega)
   have hc3:=copy_eq (P:=prog) u25 sz3 (h:=h3) (k:=h1.n) (o:=0+k*1) (dn:=n - k) (c:=2*n+1 - 2*k) (cs:=fil n k x) (e2:=1) hg3 hno (fil_ok _ _ _ fun y hy=>List.mem_of_mem_drop (List.mem_of_mem_take hy)) (by omega) (by rw[fil_len];omega) #[25,25] rfl
   have hx3:IH.splice (fil n k x) (0+k*1) (((List.drop (0+0*1) (fil n k x)).take ((k - 0)*1)).take (min (k - 0) (n - k)*1))=fil n (k+min k (n - k)) x:=by
    rw[show 0+0*1=0 from rfl,List.drop_zero,List.take_take,show 0+k*1=k by omega,show min (min (k - 0) (n - k)*1) ((k - 0)*1)=min k (n - k) by omega]
    exact fil_splice x (by omega) (by omega)
   rw[hx3] at hc3
   simp only[Nat.zero_add,Nat.mul_one,Nat.mul_zero,Nat.add_zero] at hc3 s1 s2
   simp -dsimp (disch:=try exact dx) only[wpS,wpT,zE,f7,f8,s1,s2,hc3]
   refine⟨m - min k m,by omega,k+min k m,by omega,by omega,hE3.put (by omega) _,by simp;omega,?_,by simp[f7],?_⟩
   ·rw[show n - k=m by omega];exact get_put_same _ _ rfl
   ·rw[fget_cons,if_pos rfl];exact congrArg (fun z=>some (Value.int .i64 z)) (by omega)
  ·simp -dsimp (disch:=try exact dx) only[wpS,wpT,zE,f7]
   obtain rfl:k=n:=by omega
   exact⟨hE3,fin _ hE3 hl3 hg3⟩
end Go.Id

namespace Go.Id
open Go
section
variable {h hh:IH} {fr:Fr} {sz bx bc s:Nat} {vN vS vL vA vR vQ:Value} {lN lS lL lA:List Nat}
end
end Go.Id

namespace Go.Id
open Go
open Go.Proofs.Tryz (prog)
open Nat renaming reduceAdd→zA,reduceEqDiff→zE,reduceLeDiff→zL
set_option maxHeartbeats 16000000
theorem has_ok {h:IH} {w:Value} (c:w.cells = #[w]) :
  WV prog (.func (.func 26) #[] #[]) [w] h fun r h'=>r=.func (.func 98) #[] #[ptr (2*h.n) 0]∧h'=h.new (.cells [w] 0 none):=by
 refine enter (nt:=4) (rs:=[.tmp 2]) Proofs.Tryz.func26 rfl rfl rfl (by simp) ?_
 simp -dsimp (disch:=try exact dx) only[wpS,wpT,zE,c]
theorem has1_ok {h:IH} {v w:Value} {ll:List (List (Nat×Nat))} {b:Nat} (hv:ShLs h v ll) (hw:ShLs h w ll) (g:h.ext.get b=some (.cells [w] 0 none)) :
  WV prog (.func (.func 98) #[] #[ptr (2*b) 0]) [v,KI 0] h fun r h'=>h'=h∧r=.bool true:=by
 refine enter (nt:=13) (rs:=[.tmp 5]) Proofs.Tryz.func98 rfl rfl rfl (by simp) ?_
 simp -dsimp (disch:=try exact dx) only[wpS,zE,zA,ld38,row_of g]
 refine call (kSame_ok hv hw) ?_
 rintro _ _ ⟨rfl,rfl⟩
 simp -dsimp (disch:=try exact dx) only[wpS,wpT,zE,decide_true]
theorem q34_ok {h:IH} (n d:Int) (hn:In64 n) (hd:In64 d) (d0:d≠0):WV prog (.func (.func 102) #[] #[]) [KI n,KI d] h fun r h'=>Ext h h'∧r=shareV (Rat.divInt n d):=by
 refine enter (nt:=14) (rs:=[.cell 4 32]) Proofs.Tryz.func102 rfl rfl rfl (by simp) ?_
 simp -dsimp (disch:=try exact dx) only[wpS,zE,zA,zc32]
 have E1:Ext h (h.new (.cells Z16 0 none)):=(Ext.refl h).new _
 have g1:(h.new (.cells Z16 0 none)).ext.get h.n=some (.cells Z16 0 none):=by simp (disch:=try exact dx) only[get_new_same]
 refine call (shof_ok n d hn hd d0) ?_
 rintro _ h1 ⟨X1,rfl⟩
 have m1:=X1.n
 simp only[new_n] at m1
 have k1:=X1.kept (by simp) g1
 simp -dsimp (disch:=try exact dx) only[wpS,wpT,zE,zL,zA,zc32,st32,ld32,k1,shV_cells,shC_len,shC_all,sh_sp3,sh_take]
 exact⟨(((E1.trans X1).new _).put (by omega) _).put (by omega) _,rfl⟩
theorem odds_ok {h:IH} {n d:Int} :
  WV prog (.func (.func 28) #[] #[]) [KI n,KI d] h fun r h'=>r=.func (.func 101) #[] #[ptr (2*h.n) 0,ptr (2*(h.n+1)) 0]∧h'=(h.new (.cells [KI n] 0 none)).new (.cells [KI d] 0 none):=by
 refine enter (nt:=6) (rs:=[.tmp 4]) Proofs.Tryz.func28 rfl rfl rfl (by simp) ?_
 simp -dsimp (disch:=try exact dx) only[wpS,wpT,zE,zA]
theorem odds1_ok {h:IH} {n d:Int} {b c:Nat} (hn:In64 n) (hd:In64 d) (d0:d≠0) (hq:QW (Rat.divInt n d)) (hb:b<h.n) (hc:c<h.n) (gb:h.ext.get b=some (.cells [KI n] 0 none)) (gc:h.ext.get c=some (.cells [KI d] 0 none)) :
  WV prog (.func (.func 101) #[] #[ptr (2*b) 0,ptr (2*c) 0]) [shareV (Rat.divInt n d),KI 0] h fun r h'=>Ext h h'∧r=.bool true:=by
 obtain⟨p,hp⟩ : ∃p,p=shq (Rat.divInt n d):=⟨_,rfl⟩
 have pw:p.1<W8∧p.2<W8:=by rw[hp];exact shq_lt hq
 have eq:shareV (Rat.divInt n d)=shV p.1 p.2:=by rw[hp];exact shareV_shq _
 rw[eq]
 obtain⟨H0,hH0⟩ : ∃H,H=h.new (.cells (shC p.1 p.2) 0 none):=⟨_,rfl⟩
 have E0:Ext h H0:=by rw[hH0];exact(Ext.refl h).new _
 have g0:H0.ext.get h.n=some (.cells (shC p.1 p.2) 0 none):=by rw[hH0];simp (disch:=try exact dx) only[get_new_same]
 have hb0:=E0.kept hb gb
 have hc0:=E0.kept hc gc
 have e1 : ∀ox oy,binop prog .eql 32 ox oy (.agg (shC p.1 p.2).toArray) (.agg (shC p.1 p.2).toArray)=some (.bool true):=fun ox oy=>by
  have:=sh_eql pw.1 pw.2 pw.1 pw.2 ox oy
  rw[show decide (p.1=p.1∧p.2=p.2)=true by simp] at this
  exact this
 have n0:H0.n=h.n+1:=by rw[hH0];rfl
 refine enter (nt:=16) (rs:=[.tmp 6]) Proofs.Tryz.func101 rfl rfl rfl (by simp) ?_
 simp -dsimp (disch:=try exact dx) only[wpS,zE,zA,shV_cells,←hH0]
 clear hH0
 refine drawn [(0,[10])] (by kernel_rfl) (by kernel_rfl) rfl ?_
 simp -dsimp (disch:=try exact dx) only[wpS,zE,zL,ld32,ld3,row_of g0,row_of hb0,row_of hc0,shC_len,sh_take]
 refine call (q34_ok n d hn hd d0) ?_
 rintro _ h1 ⟨X1,rfl⟩
 have L0:=(psh g0).2.2
 have L1:=(psh (X1.kept (by omega) g0)).2.2
 rw[eq]
 simp -dsimp (disch:=try exact dx) only[wpS,wpT,zE,shV,e1]
 refine⟨wpSteady_one rfl rfl rfl rfl (steady_load (av:=ptr (2*h.n) 0) rfl L0 L1),?_⟩
 simp -dsimp (disch:=try exact dx) only[wpS,wpT,zE,zA]
 exact E0.trans X1
noncomputable abbrev bodyFl:Code:=Proofs.Tryz.f5.body.getD .skip
theorem fl0 (base:Nat→Option (List Value)) (sz:Nat) (vN vS vL vA vR vQ:Value) (x y z:Nat) :
  evC (E1 prog tb34) (callV (E1 prog tb34) 1) 5 140 none 1 (partAt bodyFl 0) (enterFr 0 [.agg #[B8 sz,vN,vS,vL,vA,vR,vQ],B8 x,B8 y,B8 z]) (IH.start base)=some (.normal,(8,.bool false) :: (4,ptr 0 0) :: enterFr 0 [.agg #[B8 sz,vN,vS,vL,vA,vR,vQ],B8 x,B8 y,B8 z],(IH.start base).new (.cells [B8 sz,vN,vS,vL,vA,vR,vQ] 0 none)):=rfl
theorem fl1 (fr:Fr) (h:IH) :
  evC (E1 prog tb34) (callV (E1 prog tb34) 1) 5 140 none 1 (partAt bodyFl 1) fr h=some (.normal,(22,.bool false) :: (21,.bool true) :: fr,h):=rfl
noncomputable abbrev QFl:IExit→Fr→IH→Prop:=retK prog [.tmp 8] fun r _=>r=.bool true
section
variable {h hh:IH} {fr:Fr} {sz bx x1 x2 x3:Nat} {vN vS vL vA vR vQ:Value} {lN lS lL lA:List Nat}
open Classical in
theorem flat_rest (hN:BySl h vN lN) (hS:BySl h vS lS) (hL:BySl h vL lL) (hA:BySl h vA lA) (cR:cellOK vR=true) (cQ:cellOK vQ=true) (hsz:sz<256) (i1:x1<256) (i2:x2<256) (i3:x3<256) (lbx:bx<h.n) (gx:h.ext.get bx=some (.cells [B8 sz,vN,vS,vL,vA,vR,vQ] 0 none)) (f1:fget fr 1=some (B8 x1)) (f2:fget fr 2=some (B8 x2)) (f3:fget fr 3=some (B8 x3)) (f4:fget fr 4=some (ptr (2*bx) 0)) :
  Do (wpC prog 5 140 none (restAt bodyFl 2) fr h) QFl nx:=by
 have tk2b:List.take 2 (List.drop 0 [B8 sz,vN,vS,vL,vA,vR,vQ]) = [B8 sz,vN]:=rfl
 have tk7:List.take 7 (List.drop 0 [B8 sz,vN,vS,vL,vA,vR,vQ]) = [B8 sz,vN,vS,vL,vA,vR,vQ]:=rfl
 show Do (wpC _ _ _ _ (.seq _ _) fr h) _ _
 simp -dsimp (disch:=try exact dx) only[wpS,wpT,zE,zL,zA,fa27_0,ld24,f4,row_of gx,tk2b]
 refine call (dkernel_ok hN hsz) ?_
 rintro m h1 ⟨X1,ll,hm,hl,hr⟩
 have kd:kerD ll:=draft_kerD (by omega) (by omega) (fun x hx=>by rw[hl];exact hr x hx)
 have l1:=kd.1.1
 have l4:=kd.2.1
 obtain⟨cm,co,hlen⟩:=hm.co
 have n1:=X1.n
 have gx1:=X1.kept lbx gx
 simp -dsimp (disch:=try exact dx) only[wpS,wpT,zE,zL,zA,ld27,hlen,f4,row_of gx1,tk7]
 refine call (lists_ok2 (n:=ll.length) (hS.keep X1.keep) (hL.keep X1.keep) (hA.keep X1.keep) (by omega) (by omega) hN.1.cok cR cQ) ?_
 rintro _ h2 ⟨X2,v7,v8,v9,sc,lv,st,rfl,s7,s8,s9,b1,b2,b3,b4,b5,b6⟩
 have n2:=X2.n
 have gx2:=X2.kept (by omega) gx1
 have X12:=X1.trans X2
 simp -dsimp (disch:=try exact dx) only[wpS,wpT,zE,zL,zA,fa27_0,ld24,f4,row_of gx2,tk2b]
 refine call (dweights_ok2 (hN.keep X12.keep) ll.length (by omega)) ?_
 rintro w h3 ⟨X3,ws,hw,lw,bw⟩
 have n3:=X3.n
 have X13:=X12.trans X3
 have X23:=X2.trans X3
 have i0:In64 (0:Int):=⟨by omega,by omega⟩
 have lev0:=lev_draft (level:=0) kd lw b1 bw b2 (by omega)
 have mz:mapZ (tgtZ sc 0) ws ws.length=ws:=mapZ_same hw.2.2 (fun j hj=>by rw[Int.mul_zero];omega)
 have kr:kerL ll ws sc 0=filtLL ll ws:=by unfold kerL;rw[mz]
 obtain⟨te,fe⟩:=levE_parts lev0.1
 rw[mz] at fe
 obtain⟨lf,ff⟩:=lev_flat lev0.1 mz
 simp -dsimp (disch:=try exact dx) only[wpS,zE]
 refine call (teTargets_ok hw (s7.keep X3.keep) i0) ?_
 rintro _ h4 ⟨X4,vt,rfl,t1,_⟩
 have t1:=t1 te
 rw[mz] at t1
 rw[te]
 simp -dsimp (disch:=try exact dx) only[wpS,zE]
 have X24:=X23.trans X4
 refine call (kfilter_ok (hm.keep X24.keep) (hw.keep X4.keep)) ?_
 rintro _ h5 ⟨X5,vf,rfl,t2,_⟩
 have t2:=t2 fe
 rw[fe]
 simp -dsimp (maxSteps:=1000000) (disch:=first|omega|(simp only[new_n,put_n];omega)|decide +kernel|(repeat first|rw[new_n]|rw[put_n])) only[wpS,wpT,zE]
 refine call (wiequal_ok (t1.keep X5.keep) (hw.keep (X4.trans X5).keep)) ?_
 rintro _ z1 ⟨ez,rfl⟩
 rw[ez]
 clear ez z1
 have X35:=X4.trans X5
 have X25:=X23.trans X35
 obtain⟨cf,cof,_⟩:=t2.co
 simp -dsimp (disch:=try exact dx) only[wpS,wpT,zE]
 refine call (has_ok cf) ?_
 rintro _ H6 ⟨rfl,hH6⟩
 have E6:Ext h5 H6:=by rw[hH6];exact(Ext.refl h5).new _
 have n6:H6.n=h5.n+1:=by rw[hH6];rfl
 have g6:H6.ext.get h5.n=some (.cells [vf] 0 none):=by rw[hH6];exact get_new_same _ _ rfl
 clear hH6
 simp -dsimp (disch:=try exact dx) only[wpS,wpT,zE]
 have X26:=X25.trans E6
 refine call (teLevel_ok (hm.keep X26.keep) (hw.keep (X35.trans E6).keep) (s7.keep (X3.trans (X35.trans E6)).keep) i0) ?_
 rintro _ h7 ⟨X7,o7,rfl,q7,_⟩
 have q7:=q7 lev0.1
 rw[lev0.1]
 rw[mz] at q7
 obtain⟨c7,co7,_⟩:=q7.co
 simp -dsimp (disch:=try exact dx) only[wpS,wpT,zE]
 refine call (has1_ok q7 (t2.keep (E6.trans X7).keep) (X7.kept (by omega) g6)) ?_
 rintro _ z1 ⟨ez,rfl⟩
 rw[ez]
 clear ez z1
 simp -dsimp (disch:=try exact dx) only[wpS,wpT,zE]
 refine call (has_ok cf) ?_
 rintro _ H8 ⟨rfl,hH8⟩
 have E8:Ext h7 H8:=by rw[hH8];exact(Ext.refl h7).new _
 have n8:H8.n=h7.n+1:=by rw[hH8];rfl
 have g8:H8.ext.get h7.n=some (.cells [vf] 0 none):=by rw[hH8];exact get_new_same _ _ rfl
 clear hH8
 simp -dsimp (maxSteps:=1000000) (disch:=first|omega|(simp only[new_n,put_n];omega)|decide +kernel|(repeat first|rw[new_n]|rw[put_n])) only[wpS,wpT,zE]
 have X58:=(E6.trans X7).trans E8
 have X38:=X35.trans X58
 refine call (teLevel_ok (t2.keep X58.keep) (hw.keep X38.keep) (s7.keep (X3.trans X38).keep) i0) ?_
 rintro _ h9 ⟨X9,o9,rfl,q9,_⟩
 have q9:=q9 lf
 rw[lf]
 rw[mz,ff] at q9
 obtain⟨c9,co9,_⟩:=q9.co
 simp -dsimp (maxSteps:=1000000) (disch:=first|omega|(simp only[new_n,put_n];omega)|decide +kernel|(repeat first|rw[new_n]|rw[put_n])) only[wpS,wpT,zE]
 refine call (has1_ok q9 (t2.keep (X58.trans X9).keep) (X9.kept (by omega) g8)) ?_
 rintro _ z1 ⟨ez,rfl⟩
 rw[ez]
 clear ez z1
 have hr1 : ∀ox oy,binop prog .rem 5 ox oy (B8 x1) (.int .u8 31)=some (.int .u8 ((x1 % 31:Nat):Int)):=fun ox oy=>rem_natk _ _ .u8 ox oy x1 31 (by omega)
 have hr2 : ∀ox oy,binop prog .rem 5 ox oy (B8 x2) (.int .u8 9)=some (.int .u8 ((x2 % 9:Nat):Int)):=fun ox oy=>rem_natk _ _ .u8 ox oy x2 9 (by omega)
 have hr3 : ∀ox oy,binop prog .rem 5 ox oy (B8 x3) (.int .u8 9)=some (.int .u8 ((x3 % 9:Nat):Int)):=fun ox oy=>rem_natk _ _ .u8 ox oy x3 9 (by omega)
 simp -dsimp (maxSteps:=1000000) (disch:=first|omega|(simp only[new_n,put_n];omega)|decide +kernel|(repeat first|rw[new_n]|rw[put_n])) only[wpS,wpT,zE,zL,zA,cv5_3,bs25,f1,hr1]
 obtain⟨xq,hxq⟩ : ∃x:Int,x=((x1 % 31:Nat):Int):=⟨_,rfl⟩
 have xb:0≤xq∧xq≤30:=by omega
 have Ea:Ext h9 (h9.new (.cells [KI xq] 1 none)):=(Ext.refl h9).new _
 have sa:=(one_sl h9 xq ⟨by omega,by omega⟩).1
 rw[←hxq]
 refine call (repeat_ok xq sa ll.length (by omega)) ?_
 rintro v19 hb ⟨Xb,sb⟩
 obtain⟨eqs,heqs⟩ : ∃l:List Int,l=List.replicate ll.length xq:=⟨_,rfl⟩
 have el:eqs.length=ll.length:=by rw[heqs,List.length_replicate]
 have eb : ∀x∈eqs,x=xq:=fun x hx=>by rw[heqs] at hx;exact List.eq_of_mem_replicate hx
 have s19:InSl hb v19 eqs:=⟨by rw[heqs,List.length_replicate,List.map_replicate];exact sb,by omega,fun x hx=>by rw[eb x hx];exact⟨by omega,by omega⟩⟩
 have eb2 : ∀x∈eqs,0≤x∧x≤30:=fun x hx=>by rw[eb x hx];exact xb
 have eg : ∀j,j<ll.length→eqs.getD j 0=xq:=fun j hj=>by
  rw[List.getD_eq_getElem?_getD,List.getElem?_eq_getElem (by omega)]
  exact eb _ (List.getElem_mem _)
 have E0:exq 0=Rat.divInt 1 1:=rfl
 have q1:QW (Rat.divInt 1 1):=exq_qw (k:=0) (by omega)
 have i1':In64 (1:Int):=⟨by omega,by omega⟩
 have X9b:=(X9.trans Ea).trans Xb
 have X5b:=X58.trans X9b
 have X3b:=X35.trans X5b
 simp -dsimp (disch:=try exact dx) only[wpS,zE]
 refine loop (fun mk fr g => ∃i:Nat,i+mk=ll.length∧Ext hb g∧fget fr 2=some (B8 x2)∧fget fr 3=some (B8 x3)∧fget fr 9=some m∧fget fr 11=some v7∧fget fr 14=some w∧fget fr 17=some vf∧fget fr 19=some v19∧fget fr 93=some (KN ll.length)∧fget fr 94=some (KN i)) ll.length
  ⟨0,by omega,Ext.refl _,by simp[f2],by simp[f3],by simp,by simp,by simp,by simp,by simp,by simp,by simp⟩ ?_
 clear f1 f2 f3 f4
 rintro mk fr g ⟨i,him,E,f2,f3,f9,f11,f14,f17,f19,f93,f94⟩
 simp -dsimp (disch:=try exact dx) only[wpS,f93,f94]
 refine bq_intro ?_ ?_<;>intro hc1<;>simp only[decide_eq_true_eq,decide_eq_false_iff_not] at hc1
 ·have hi:i<ll.length:=by omega
  have y2:(0:Int)≤((x2 % 9:Nat):Int)∧((x2 % 9:Nat):Int)≤8:=by omega
  have y3:(0:Int)≤((x3 % 9:Nat):Int)∧((x3 % 9:Nat):Int)≤8:=by omega
  have k1:chanceRes eqs ((x2 % 9:Nat):Int) ((x3 % 9:Nat):Int) (i:Int) 0=.tuple #[shareV (Rat.divInt 1 1),KI 0]:=by
   have h:=chanceRes_ok (s:=eqs) (x:=i) (y:=0) (by omega) (by omega) eb2 y2 y3 (by omega) (by omega)
   rw[show chK eqs ((x2 % 9:Nat):Int) ((x3 % 9:Nat):Int) i 0=0 by unfold chK;rw[eg i hi,eg 0 (by omega),Int.sub_self,Int.mul_zero];rfl,E0] at h
   exact h
  have k2:chanceRes sc ((x2 % 9:Nat):Int) ((x2 % 9:Nat):Int) (i:Int) 0=.tuple #[shareV (Rat.divInt 1 1),KI 0]:=by
   have h:=chanceRes_ok (s:=sc) (x:=i) (y:=0) (by omega) (by omega) b2 y2 y2 (by omega) (by omega)
   rw[show chK sc ((x2 % 9:Nat):Int) ((x2 % 9:Nat):Int) i 0=0 by unfold chK;rw[Int.sub_self,Int.zero_mul];rfl,E0] at h
   exact h
  simp -dsimp (disch:=try exact dx) only[wpS,wpT,zE,f94]
  refine call odds_ok ?_
  rintro _ Hc ⟨rfl,hHc⟩
  have Ec:Ext g Hc:=by rw[hHc];exact((Ext.refl g).new _).new _
  have nc:Hc.n=g.n+2:=by rw[hHc];rfl
  have gc0:Hc.ext.get g.n=some (.cells [KI 1] 0 none):=by rw[hHc];simp (disch:=try exact dx) only[get_new_same,get_new_old]
  have gc1:Hc.ext.get (g.n+1)=some (.cells [KI 1] 0 none):=by rw[hHc];simp (disch:=try exact dx) only[get_new_same]
  clear hHc
  simp -dsimp (disch:=try exact dx) only[wpS,zE,cv5_3,f2,f3,f19,hr2,hr3]
  refine call (teChance_ok (s19.keep (E.trans Ec).keep) ⟨by omega,by omega⟩ ⟨by omega,by omega⟩ ⟨by omega,by omega⟩ i0) ?_
  rintro _ hd ⟨Xd,rfl⟩
  have nd:=Xd.n
  rw[k1]
  simp -dsimp (disch:=try exact dx) only[wpS,zE]
  refine call (odds1_ok i1' i1' (by omega) q1 (by omega) (by omega) (Xd.kept (by omega) gc0) (Xd.kept (by omega) gc1)) ?_
  rintro _ he ⟨Xe,rfl⟩
  simp -dsimp (disch:=try exact dx) only[wpS,wpT,zE]
  refine call odds_ok ?_
  rintro _ Hf ⟨rfl,hHf⟩
  have Ef:Ext he Hf:=by rw[hHf];exact((Ext.refl he).new _).new _
  have nf:Hf.n=he.n+2:=by rw[hHf];rfl
  have gf0:Hf.ext.get he.n=some (.cells [KI 1] 0 none):=by rw[hHf];simp (disch:=try exact dx) only[get_new_same,get_new_old]
  have gf1:Hf.ext.get (he.n+1)=some (.cells [KI 1] 0 none):=by rw[hHf];simp (disch:=try exact dx) only[get_new_same]
  clear hHf
  have Egf:=((Ec.trans Xd).trans Xe).trans Ef
  simp -dsimp (disch:=try exact dx) only[wpS,wpT,zE,cv5_3,f2,f11,hr2]
  refine call (teChance_ok (s7.keep (((X3.trans X3b).trans E).trans Egf).keep) ⟨by omega,by omega⟩ ⟨by omega,by omega⟩ ⟨by omega,by omega⟩ i0) ?_
  rintro _ hg ⟨Xg,rfl⟩
  have ng:=Xg.n
  rw[k2]
  simp -dsimp (disch:=try exact dx) only[wpS,wpT,zE]
  refine call (odds1_ok i1' i1' (by omega) q1 (by omega) (by omega) (Xg.kept (by omega) gf0) (Xg.kept (by omega) gf1)) ?_
  rintro _ hh2 ⟨Xh,rfl⟩
  simp -dsimp (disch:=try exact dx) only[wpS,wpT,zE,f94]
  exact⟨mk - 1,by omega,i+1,by omega,((E.trans Egf).trans Xg).trans Xh,by simp[f2],by simp[f3],by simp[f9],by simp[f11],by simp[f14],by simp[f17],by simp[f19],by simp[f93],by simp⟩
 ·simp -dsimp (disch:=try exact dx) only[wpS,wpT,zE,f17]
  refine call (has_ok cf) ?_
  rintro _ Hc ⟨rfl,hHc⟩
  have Ec:Ext g Hc:=by rw[hHc];exact(Ext.refl g).new _
  have nc:Hc.n=g.n+1:=by rw[hHc];rfl
  have gc0:Hc.ext.get g.n=some (.cells [vf] 0 none):=by rw[hHc];exact get_new_same _ _ rfl
  clear hHc
  have y2:(0:Int)≤((x2 % 9:Nat):Int)∧((x2 % 9:Nat):Int)≤8:=by omega
  have leq:=lev_draft (level:=((x2 % 9:Nat):Int)) kd lw el bw eb2 y2
  have mzq:mapZ (tgtZ eqs ((x2 % 9:Nat):Int)) ws ws.length=ws:=mapZ_same hw.2.2 (fun j hj=>by
   have hm:=maxL_mem eqs (by rintro rfl;simp at el;omega)
   rw[eb _ hm,eg j (by omega),Int.sub_self,Int.zero_mul]
   omega)
  have EE:=E.trans Ec
  simp -dsimp (disch:=try exact dx) only[wpS,zE,cv5_3,f2,f9,f14,f19,hr2]
  refine call (teLevel_ok (hm.keep ((X23.trans X3b).trans EE).keep) (hw.keep (X3b.trans EE).keep) (s19.keep EE.keep) ⟨by omega,by omega⟩) ?_
  rintro _ hd ⟨Xd,od,rfl,qd,_⟩
  have qd:=qd leq.1
  rw[leq.1]
  rw[mzq] at qd
  obtain⟨cd,cod,_⟩:=qd.co
  simp -dsimp (disch:=try exact dx) only[wpS,zE]
  refine call (has1_ok qd (t2.keep ((X5b.trans EE).trans Xd).keep) (Xd.kept (by omega) gc0)) ?_
  rintro _ z1 ⟨ez,rfl⟩
  rw[ez]
  clear ez z1
  simp -dsimp (disch:=try exact dx) only[wpS,zE]
end
end Go.Id

namespace Go.Proofs.YtnanhedgenokpaaGreat
open Go.ChangeShapes Go.WideShapes Go.ChangeAt Go.RowKit Go.Id
theorem wf_u16 {x:Int} (h:(Lit.int .u16 x).wf=true):0≤x∧x<65536:=by
 simp only[Lit.wf,Bool.and_eq_true,decide_eq_true_eq] at h
 have h1:(0:Int)≤x:=h.1
 have h2:x≤(65535:Int):=h.2
 exact⟨h1,by omega⟩
theorem shV_rel {m:Mp} (n d:Nat):VRel m (shV n d) (.agg (shC n d).toArray):=.plain_mk (plain_shV n d)
set_option maxRecDepth 100000 in
theorem temperFlat_lifted (os:Os) (started:os.Started) (H:Type) (enc:TypeId×Value→H) :
  ReturnsInHanded {} Tryz.checked os 5 .any (Rows.temperFlatSpec.pre6 enc Tryz.prog Tryz.f5 Rows.temperFlatRow.domain false) (Rows.temperFlatSpec.post enc Tryz.prog Tryz.f5 false true false false):=by
 refine returnsInHanded_of_change (C:=Tryz.checked) Tryz.own started (by kernel_rfl) Tryz.func5
  (ChangeSpec.witness6 (enc:=enc) (C:=Tryz.checked) false ⟨#[],#[.agg #[.int .u8 0,.slice none 0 0,.slice none 0 0,.slice none 0 0,.slice none 0 0,.slice none 0 0,.slice none 0 0],.int .u8 0,.int .u8 0,.int .u8 0],[]⟩ 8 (by kernel_rfl) (by kernel_rfl) (by kernel_rfl) (by kernel_rfl)) ?_
 intro W base args ds gs before hval0 hW hcnd _
 have hval : ∀(j:Nat) t v,Tryz.f5.params[j]?=some t→args[j]?=some v→Value.okWide Tryz.prog W .any base t v:=hval0
 have hW':=hW
 obtain⟨p,q,hA0,hV,rfl,hfz,hnd⟩:=hW
 have hA:DataW.TrodAll enc Tryz.prog W 0 (fun _=>true) true Tryz.f5.params.toList args.toList ds p:=hA0
 have hA1:=hA
 rw[Tryz.params5] at hA hval
 obtain⟨a0,r0,d0,ds0,p0,q0,e0,rfl,rfl,t0,h0A⟩:=trodAll_cons hA
 obtain⟨a1,r1,d1,ds1,p1,q1,rfl,rfl,rfl,t1,h1A⟩:=trodAll_cons h0A
 obtain⟨a2,r2,d2,ds2,p2,q2,rfl,rfl,rfl,t2,h2A⟩:=trodAll_cons h1A
 obtain⟨a3,r3,d3,ds3,p3,q3,rfl,rfl,rfl,t3,h3A⟩:=trodAll_cons h2A
 obtain⟨rfl,rfl,rfl⟩:=trodAll_nil h3A
 obtain⟨rfl,rfl⟩:=trodVars_none hV
 obtain rfl:args = #[a0,a1,a2,a3]:=by cases args;simpa using e0
 obtain⟨z0,rfl,_⟩:=okWide_struct u_case (hval 0 _ _ rfl rfl)
 obtain⟨fu0,t0⟩:=t0
 obtain⟨k0,yN0,yS0,yL0,yA0,yR0,yQ0,lN0,lS0,lL0,lA0,lR0,lQ0,g0,kb0,m0,sN0,sS0,sL0,sA0,sR0,sQ0⟩:=case_of (fun _=>none) t0
 obtain rfl:z0 = #[B8 k0,yN0,yS0,yL0,yA0,yR0,yQ0]:=by cases z0;simpa using g0
 obtain⟨xi1,rfl,_,_,w1⟩:=open_int u_u8 (hval 1 _ _ rfl rfl) t1
 have j1:0≤xi1∧xi1<256:=wf_u8 w1
 obtain⟨x1,rfl⟩:=Int.eq_ofNat_of_zero_le j1.1
 have i1:x1<256:=by omega
 obtain⟨xi2,rfl,_,_,w2⟩:=open_int u_u8 (hval 2 _ _ rfl rfl) t2
 have j2:0≤xi2∧xi2<256:=wf_u8 w2
 obtain⟨x2,rfl⟩:=Int.eq_ofNat_of_zero_le j2.1
 have i2:x2<256:=by omega
 obtain⟨xi3,rfl,_,_,w3⟩:=open_int u_u8 (hval 3 _ _ rfl rfl) t3
 have j3:0≤xi3∧xi3<256:=wf_u8 w3
 obtain⟨x3,rfl⟩:=Int.eq_ofNat_of_zero_le j3.1
 have i3:x3<256:=by omega
 have hb:=tell_ok (W:=W) (G:=fun _=>none) (fun b cs h=>by cases h)
 refine(parts_true (tb:=tb34) (nt:=140) (rs:=[.tmp 8]) Tryz.sound (show Sound (E1 Tryz.prog tb34) from sound_T) Tryz.func5 rfl rfl rfl (by simp) (fl0 _ _ _ _ _ _ _ _ _ _ _) (fl1 _ _) (flat_rest (bx:=0) (sN0.keep ((Ext.refl _).new _).keep) (sS0.keep ((Ext.refl _).new _).keep) (sL0.keep ((Ext.refl _).new _).keep) (sA0.keep ((Ext.refl _).new _).keep) sR0.1.cok sQ0.1.cok kb0 i1 i2 i3 (by simp) (get_new_same _ _ rfl) rfl rfl rfl rfl) hb (args':=#[.agg #[B8 k0,yN0,yS0,yL0,yA0,yR0,yQ0],B8 x1,B8 x2,B8 x3]) (.cons (.agg_iff (.cons (.scal rfl) (.cons (trV_rel m0.1) (.cons (trV_rel m0.2.1) (.cons (trV_rel m0.2.2.1) (.cons (trV_rel m0.2.2.2.1) (.cons (trV_rel m0.2.2.2.2.1) (.cons (trV_rel m0.2.2.2.2.2) (.nil _))))))))) (.cons (.scal rfl) (.cons (.scal rfl) (.cons (.scal rfl) (.nil _)))))).mono fun e W' ⟨he,hk⟩=>?_
 subst he
 refine⟨_,rfl,post_of_below (pa:=p0 ++ (p1 ++ (p2 ++ (p3 ++ [])))) (pv:=[]) hW' (fun _ _ _=>trodAll_mk1 (shut_bool Tryz.underlying4 _)) (fun sp hs=>?_) (fun _ _=>rfl) hk⟩
 exact trodAll_stays Tryz.kids Tryz.pos hk hA1 (fun t ht=>by
  rw[Tryz.params5] at ht
  simp at ht
  rcases ht with rfl|rfl|rfl|rfl<;>exact of_decide_eq_true (by kernel_rfl)) (fun x hx=>hs x (by simpa using hx))
theorem temperFlat_row:Rows.TemperFlatSaid :=
 OpenClaim.holds_of_wide 5 Tryz.f5 rfl rfl rfl rfl rfl rfl rfl ⟨rfl,rfl,rfl,rfl,rfl⟩ rfl rfl rfl rfl rfl (by kernel_rfl) Tryz.func5 (by kernel_rfl)
  (of_decide_eq_true (by kernel_rfl)) (by unfold Func.isWrapper;first|(rw[if_pos (by decide +kernel)];kernel_rfl)|(rw[if_neg (by decide +kernel)];exact⟨rfl,rfl⟩))
  (fun os started H enc _=>temperFlat_lifted os started H enc)
#print axioms temperFlat_row
end Go.Proofs.YtnanhedgenokpaaGreat
