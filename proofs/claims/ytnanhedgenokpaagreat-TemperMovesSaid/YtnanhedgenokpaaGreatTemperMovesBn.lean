/-
  Contracts: reference 33: drafted kernels. Contracts: package outlier: whole.
-/
import Derived.Test.YtnanhedgenokpaaGreatTemperMovesAt
import Derived.Test.YtnanhedgenokpaaGreatTemperMovesBm
import Derived.Test.YtnanhedgenokpaaGreatTemperMovesBi
import Derived.Test.YtnanhedgenokpaaGreatTemperMovesBl
set_option linter.unusedVariables false
set_option linter.unusedSimpArgs false
set_option linter.defProp false
set_option linter.deprecated false
namespace Go.Id
open Go
open Go.Proofs.Tryz (prog)
open Nat renaming reduceAdd→zA,reduceEqDiff→zE,reduceLeDiff→zL
set_option maxHeartbeats 16000000
theorem zQ (l:List (Nat×Nat)) (p:Nat×Nat):shL (l ++ [p])=shL l ++ shC p.1 p.2:=by simp[shL]
theorem xU (s:Nat) : ∀(l:List Nat) (a:Rat),(l.map fun y=>Rat.divInt (y:Nat) (s:Nat)).foldl (· + ·) a=a+Rat.divInt (l.sum:Nat) (s:Nat)
 | [],a=>by
  rw[List.map_nil,List.foldl_nil,List.sum_nil,show(((0:Nat):Int))=0 from rfl,Rat.zero_divInt,Rat.add_zero]
 | x :: l,a=>by
  rw[List.map_cons,List.foldl_cons,xU s l,List.sum_cons,Rat.divInt_eq_div,Rat.divInt_eq_div,Rat.divInt_eq_div]
  have e:(((x+l.sum:Nat):Int):Rat)=((x:Int):Rat)+((l.sum:Int):Rat):=by
   rw[←Rat.intCast_add];rfl
  rw[e]
  grind
theorem NR {ys:List Nat} (h0:0<ys.sum) (hb:ys.sum≤1000) (hy : ∀y∈ys,y≤1000):gJ (ys.map fun y=>shq (Rat.divInt (y:Nat) (ys.sum:Nat))):=by
 have hq : ∀y∈ys,QW (Rat.divInt (y:Nat) (ys.sum:Nat)):=fun y h=>by
  have:=hy y h
  exact wR ⟨by omega,by omega⟩ ⟨by omega,by omega⟩ (by omega)
 refine⟨fun p hp=>?_,?_⟩
 ·obtain⟨y,hm,rfl⟩:=List.mem_map.1 hp
  obtain⟨e1,e2⟩:=rN (hq y hm)
  rintro(hb|hb)
  ·exact hb e2
  ·have e3:wdI (shq (Rat.divInt (y:Nat) (ys.sum:Nat))).1=(Rat.divInt (y:Nat) (ys.sum:Nat)).num:=cK (hq y hm).1
   rw[e3] at hb
   have:0≤Rat.divInt (y:Nat) (ys.sum:Nat):=Rat.divInt_nonneg (by omega) (by omega)
   have:=Rat.num_nonneg.2 this
   omega
 ·have e:(ys.map fun y=>shq (Rat.divInt (y:Nat) (ys.sum:Nat))).map rOf=ys.map fun y=>Rat.divInt (y:Nat) (ys.sum:Nat):=by
   rw[List.map_map]
   exact List.map_congr_left fun y hm=>(rN (hq y hm)).1
  rw[e]
  unfold fJ
  rw[xU,Rat.divInt_eq_div,Rat.zero_add]
  have hne:(((ys.sum:Nat):Int):Rat)≠0:=fun h=>by
   have:((ys.sum:Nat):Int)=0:=Rat.intCast_inj.1 h
   omega
  grind
def smR (S:Nat) (l:List (Nat×Nat)):Prop:=0<S∧S≤1000 ∧ ∀p∈l,p.1≤1000∧0<p.2∧p.2∣S
def EF (l:List (Nat×Nat)):Prop:=gJ l∧(∃S,smR S l) ∧ ∃q∈l,0<q.1
theorem sP {y S:Nat} (hS:0<S) : ∃m:Nat,0<m∧(y:Int)=(Rat.divInt (y:Nat) (S:Nat)).num*m∧S=(Rat.divInt (y:Nat) (S:Nat)).den*m:=by
 obtain⟨q,hq⟩ : ∃q,q=Rat.divInt (y:Nat) (S:Nat):=⟨_,rfl⟩
 obtain⟨m,_,e1,e2⟩:=Rat.divInt_num_den (n:=(y:Int)) (d:=(S:Int)) (n':=q.num) (d':=q.den) (z':=q.den_nz) (c:=q.reduced) (by omega) (by rw[←hq])
 rw[←hq]
 have dp:0<q.den:=q.den_pos
 have m0:0<m:=by
  apply Classical.byContradiction
  intro hn
  have:(q.den:Int)*m≤0:=Int.mul_nonpos_of_nonneg_of_nonpos (by omega) (by omega)
  omega
 obtain⟨k,rfl⟩:=Int.eq_ofNat_of_zero_le (Int.le_of_lt m0)
 exact⟨k,by omega,e1,by exact_mod_cast e2⟩
theorem IJ {ys:List Nat} (h : ∀y∈ys,y=0):ys.sum=0:=by
 induction ys with
 | nil=>rfl
 | cons a l ih=>rw[List.sum_cons,h a (by simp),ih fun y hy=>h y (by simp[hy])]
theorem Dh {ys:List Nat} (h0:0<ys.sum) (hb:ys.sum≤1000) (hy : ∀y∈ys,y≤1000):EF (ys.map fun y=>shq (Rat.divInt (y:Nat) (ys.sum:Nat))):=by
 have key : ∀y,y≤1000 → ∃m:Nat,0<m∧y=(shq (Rat.divInt (y:Nat) (ys.sum:Nat))).1*m∧ys.sum=(shq (Rat.divInt (y:Nat) (ys.sum:Nat))).2*m:=fun y hy1=>by
  obtain⟨m,m0,e1,e2⟩:=sP (y:=y) h0
  have n0:0≤(Rat.divInt (y:Nat) (ys.sum:Nat)).num:=Rat.num_nonneg.2 (Rat.divInt_nonneg (by omega) (by omega))
  obtain⟨k,hk⟩:=Int.eq_ofNat_of_zero_le n0
  refine⟨m,m0,?_,?_⟩
  ·show y=aU _*m
   rw[vM n0,hk,Int.toNat_natCast]
   rw[hk] at e1
   exact_mod_cast e1
  ·show ys.sum=aU ((Rat.divInt (y:Nat) (ys.sum:Nat)).den:Int)*m
   rw[vM (by omega),Int.toNat_natCast]
   exact e2
 refine⟨NR h0 hb hy,⟨ys.sum,h0,hb,fun p hp=>?_⟩,?_⟩
 ·obtain⟨y,hm,rfl⟩:=List.mem_map.1 hp
  have y1:=hy y hm
  obtain⟨m,m0,e1,e2⟩:=key y y1
  refine⟨?_,?_,⟨m,e2⟩⟩
  ·have:=Nat.le_mul_of_pos_right (shq (Rat.divInt (y:Nat) (ys.sum:Nat))).1 m0
   omega
  ·apply Nat.pos_of_ne_zero
   intro hz
   rw[hz,Nat.zero_mul] at e2
   omega
 ·have : ∃y∈ys,0<y:=by
   apply Classical.byContradiction
   intro hn
   have hz : ∀y∈ys,y=0:=fun y hy=>Nat.eq_zero_of_not_pos fun h=>hn ⟨y,hy,h⟩
   have:ys.sum=0:=IJ hz
   omega
  obtain⟨y,hm,y0⟩:=this
  refine⟨_,List.mem_map.2 ⟨y,hm,rfl⟩,?_⟩
  obtain⟨m,m0,e1,e2⟩:=key y (hy y hm)
  apply Nat.pos_of_ne_zero
  intro hz
  rw[hz,Nat.zero_mul] at e1
  omega
theorem Gb (ys:List Nat) (i:Nat) (hi:i<ys.length) (h0:ys.sum=0):(ys.set i 1).sum=1:=by
 induction ys generalizing i with
 | nil=>simp at hi
 | cons a l ih =>
  rw[List.sum_cons] at h0
  cases i with
  | zero=>rw[List.set_cons_zero,List.sum_cons];omega
  | succ i =>
   rw[List.set_cons_succ,List.sum_cons,ih i (by simpa using hi) (by omega)];omega
theorem Dk (l:List Int) (i:Nat) (x:Int) (hi:i<l.length):IH.aD (l.map KI) (i*1) [KI x]=(l.set i x).map KI:=by
 rw[Nat.mul_one]
 simp only[IH.aD,List.map_set,List.length_singleton]
 rw[List.set_eq_take_append_cons_drop,if_pos (by simpa using hi)]
 rfl
theorem FC {h:IH} {sz:Nat} {v:Value} {lN:List Nat} (hv:jF h v lN) (hsz:sz<256) :
  WV prog (.func (.func 11) #[] #[]) [.agg #[B8 sz,v]] h fun r h'=>Ext h h' ∧ ∃ll,je h' r ll∧ll.length=1+sz % 4 ∧ ∀x∈ll,x.length=1+sz % 4∧EF x:=by
 have cv:=hv.1.cells
 have co:=hv.1.cok
 have lv:=hv.2.1
 obtain⟨n,hn⟩ : ∃n,n=1+sz % 4:=⟨_,rfl⟩
 have nb4:1≤n∧n≤4:=by omega
 rw[←hn]
 have g0:(h.new (.cells [B8 sz,v] 0 none)).ext.get h.n=some (.cells [B8 sz,v] 0 none):=by simp (disch:=try exact dx) only[aa]
 have E0:Ext h (h.new (.cells [B8 sz,v] 0 none)):=(Ext.refl h).new _
 obtain⟨Hb,hHb⟩ : ∃H,H=h.new (.cells [B8 sz,v] 0 none):=⟨_,rfl⟩
 have nb:Hb.n=h.n+1:=by rw[hHb];rfl
 have hr : ∀ox oy,binop prog .rem 5 ox oy (B8 sz) (.int .u8 4)=some (.int .u8 ((sz % 4:Nat):Int)):=fun ox oy=>my _ _ .u8 ox oy sz 4 (by omega)
 have en:(1:Int)+((sz % 4:Nat):Int)=(n:Int):=by omega
 refine enter (nt:=84) (rs:=[.tmp 2]) Proofs.Tryz.func11 rfl rfl rfl (by simp) ?_
 rw[←hHb] at g0 E0
 simp -dsimp (disch:=try exact dx) only[wpS,zE,QF,ld5,xY,hr,en]
 rw[←hHb]
 clear hHb
 refine loop (fun m fr hh => ∃(i:Nat) (out:Value) (vs:List Value) (ll:List (List (Nat×Nat))),i+m=n∧ll.length=i∧vs.length=i∧Ext Hb hh∧Acc hh Hb.n 1 out i vs∧(∀(k:Nat) x,ll[k]?=some x → ∃w,vs[k]?=some w∧iM hh w x)∧(∀x∈ll,x.length=n∧EF x)∧ah fr 1=some (ptr (2*h.n) 0)∧ah fr 3=some (KN n)∧ah fr 4=some out∧ah fr 5=some (KN i)) n
  ⟨0,.slice none 0 0,[],[],by omega,rfl,rfl,Ext.refl _,Acc.nil _ _ (by omega),fun k x hx=>by simp at hx,fun x hx=>by simp at hx,by simp,by simp,by simp,by simp⟩ ?_
 rintro m fr hh ⟨i,out,vs,ll,him,hil,hvl,hE,hA,hll,hro,f1,f3,f4,f5⟩
 have hg:=hE.kept (by omega) g0
 have hnn:=hE.n
 have hEh:=E0.trans hE
 simp -dsimp (disch:=try exact dx) only[wpS,zE,f3,f5]
 refine ax ?_ ?_<;>intro hc<;>simp only[decide_eq_true_eq,decide_eq_false_iff_not] at hc
 ·have hin:i<n:=by omega
  simp -dsimp (disch:=try exact dx) only[wpS,wpT]
  refine loop (fun m2 fr h2 => ∃(j:Nat) (o2:Value) (xs:List Nat),j+m2=n∧xs.length=j∧(∀x∈xs,x<6)∧Ext hh h2∧Acc h2 hh.n 1 o2 xs.length (xs.map KN)∧ah fr 1=some (ptr (2*h.n) 0)∧ah fr 3=some (KN n)∧ah fr 4=some out∧ah fr 5=some (KN i)∧ah fr 6=some o2∧ah fr 7=some (KN xs.sum)∧ah fr 8=some (KN j)) n
   ⟨0,.slice none 0 0,[],by omega,rfl,(fun x hx=>by cases hx),Ext.refl _,Acc.nil _ _ (by omega),by simp[f1],by simp[f3],by simp[f4],by simp[f5],by simp,by simp,by simp⟩ ?_
  clear f1 f3 f4 f5
  rintro m2 fr h2 ⟨j,o2,xs,hjm,hjl,hx6,hE2,hA2,f1,f3,f4,f5,f6,f7,f8⟩
  have hg2:=hE2.kept (by omega) hg
  have hn2:=hE2.n
  have Od:=hEh.trans hE2
  have Ds:xs.sum≤6*xs.length:=by
   clear hA2 f7 hjl hjm
   induction xs with
   | nil=>simp
   | cons a l ih =>
    rw[List.sum_cons,List.length_cons]
    have:=hx6 a (by simp)
    have:=ih fun x hx=>hx6 x (by simp[hx])
    omega
  simp -dsimp (disch:=try exact dx) only[wpS,zE,f3,f8]
  refine ax ?_ ?_<;>intro hc2<;>simp only[decide_eq_true_eq,decide_eq_false_iff_not] at hc2
  ·have hjn:j<n:=by omega
   have enm:(n:Int)*(i:Int)=((n*i:Nat):Int):=(Int.natCast_mul _ _).symm
   have hni:n*i≤4*4:=Nat.mul_le_mul nb4.2 (by omega)
   obtain⟨t,ht⟩ : ∃t,t=n*i+j:=⟨_,rfl⟩
   have et:((n*i:Nat):Int)+(j:Int)=(t:Int):=by omega
   have fin : ∀y:Nat,y<6 → ∀fr':Fr,ah fr' 1=some (ptr (2*h.n) 0)→True:=fun _ _ _ _=>trivial
   by_cases c:t<lN.length
   ·obtain⟨x,hx⟩ : ∃x,lN[t]?=some x:=⟨_,List.getElem?_eq_getElem c⟩
    have xb:=hv.2.2 x (List.mem_of_getElem? hx)
    have hr6 : ∀ox oy,binop prog .rem 5 ox oy (B8 x) (.int .u8 6)=some (.int .u8 ((x % 6:Nat):Int)):=fun ox oy=>my _ _ .u8 ox oy x 6 (by omega)
    obtain⟨y,hy⟩ : ∃y,y=x % 6:=⟨_,rfl⟩
    have yb:y<6:=by omega
    rw[←hy] at hr6
    obtain⟨bR,h8,hap,hA8,hG8,hE8⟩:=hA2.tj (P:=prog) (t:=25) pV (x:=KN y) rfl (by omega) (by omega) hE2 (by omega)
    simp -dsimp (disch:=try exact dx) only[wpS,wpT,zE,zL,zA,xY,BD,Bh,gO,fj,f1,f3,f5,f6,f7,f8,enm,et,ai hg2,hv.1.len yC,hv.1.idx LF c,hv.ld Od.ab hx,hr6,hap]
    refine⟨m2 - 1,by omega,j+1,bR,xs ++ [y],by omega,by simp[hjl],?_,hE8,?_,by simp[f1],by simp[f3],by simp[f4],by simp[f5],by simp,?_,by simp⟩
    ·intro q hq
     rcases List.mem_append.1 hq with hq|hq
     ·exact hx6 q hq
     ·rw[List.mem_singleton.1 hq];exact yb
    ·rw[List.map_append,List.length_append];exact hA8
    ·simp[List.sum_append]
   ·obtain⟨bR,h8,hap,hA8,hG8,hE8⟩:=hA2.tj (P:=prog) (t:=25) pV (x:=KI 0) rfl (by omega) (by omega) hE2 (by omega)
    simp -dsimp (disch:=try exact dx) only[wpS,wpT,zE,zL,zA,BD,Bh,gO,fj,f1,f3,f5,f6,f7,f8,enm,et,ai hg2,hv.1.len yC,hap]
    refine⟨m2 - 1,by omega,j+1,bR,xs ++ [0],by omega,by simp[hjl],?_,hE8,?_,by simp[f1],by simp[f3],by simp[f4],by simp[f5],by simp,?_,by simp⟩
    ·intro q hq
     rcases List.mem_append.1 hq with hq|hq
     ·exact hx6 q hq
     ·rw[List.mem_singleton.1 hq];decide
    ·rw[List.map_append,List.length_append];exact hA8
    ·simp[List.sum_append]
  ·have hxn:xs.length=n:=by omega
   clear hc2
   by_cases c0:xs.sum=0
   ·have dz:(((xs.sum:Nat):Int) == 0)=true:=by simp[c0]
    have hix:i<xs.length:=by omega
    obtain⟨h3,st0,A3,e3,n3⟩:=hA2.TZ (P:=prog) (t:=3) sz3 hix (x:=KI 1) (xs:=[KI 1]) rfl rfl rfl hE2 (Nat.le_refl _)
    have st:store prog h2 3 (aK o2 i) (.int .i64 1)=some h3:=by rw[Nat.mul_one] at st0;exact st0
    have ix:=hA2.sl.idx (P:=prog) (k:=.i64) fc hix
    have A3':Acc h3 hh.n 1 o2 n ((xs.set i 1).map KN):=by
     have e:IH.aD (xs.map KN) (i*1) [KI 1]=(xs.set i 1).map KN:=by
      have:=Dk (xs.map fun y:Nat=>(y:Int)) i 1 (by simpa using hix)
      rw[List.map_map] at this
      rw[show(xs.map KN)=xs.map (KI ∘ fun y:Nat=>(y:Int)) from rfl,this,List.map_set,List.map_map,List.map_set]
      rfl
     rw[←e,←hxn];exact A3
    have hsv:(xs.set i 1).sum=1:=Gb xs i hix c0
    have hy6 : ∀y∈xs.set i 1,y≤1000:=fun y hy=>(List.mem_or_eq_of_mem_set hy).elim (fun h=>by have:=hx6 y h;omega) (fun h=>by omega)
    have hyl:(xs.set i 1).length=n:=by rw[List.length_set];exact hxn
    obtain⟨s,hs⟩ : ∃s,s=(xs.set i 1).sum:=⟨_,rfl⟩
    have hs1:(s:Int)=1:=by rw[hs,hsv];rfl
    have hsb:0<s∧s≤100:=by rw[hs,Gb xs i (by omega) c0];exact⟨by omega,by omega⟩
    have A3:Acc h3 hh.n 1 o2 n ((xs.set i 1).map KN):=A3'
    have E3:Ext hh h3:=e3
    have hn3:=E3.n
    have sO:fI h3 o2 ((xs.set i 1).map fun y:Nat=>(y:Int)):=⟨by rw[List.length_map,hyl,List.map_map];exact A3.sl,by rw[List.length_map];omega,fun x hx=>by
     obtain⟨y,hy,rfl⟩:=List.mem_map.1 hx
     have:=hy6 y hy
     constructor<;>omega⟩
    obtain⟨ys,hys⟩ : ∃ys,ys=xs.set i 1:=⟨_,rfl⟩
    rw[←hys] at hy6 hyl hs sO
    simp -dsimp (disch:=try exact dx) only[wpS,wpT,zE,f5,f6,f7,ix,st,dz]
    refine loop (fun m4 fr h4 => ∃(j:Nat) (o3:Value),j+m4=n∧Ext h3 h4∧Acc h4 h3.n 16 o3 j (shL ((ys.take j).map fun y=>shq (Rat.divInt (y:Nat) (s:Nat))))∧ah fr 1=some (ptr (2*h.n) 0)∧ah fr 3=some (KN n)∧ah fr 4=some out∧ah fr 5=some (KN i)∧ah fr 6=some o2∧ah fr 7=some (KN s)∧ah fr 10=some o3∧ah fr 11=some (KN j)) n
     ⟨0,.slice none 0 0,by omega,Ext.refl _,Acc.nil _ _ (by omega),by simp[f1],by simp[f3],by simp[f4],by simp[f5],by simp[f6],by simp[hs1],by simp,by simp⟩ ?_
    clear f1 f3 f4 f5 f6 f7 f8
    rintro m4 fr h4 ⟨j,o3,UC,hE4,hA4,f1,f3,f4,f5,f6,f7,f10,f11⟩
    have hn4:=hE4.n
    have qwy : ∀y∈ys,QW (Rat.divInt (y:Nat) (s:Nat)):=fun y hy=>by
     have:=hy6 y hy
     exact wR ⟨by omega,by omega⟩ ⟨by omega,by omega⟩ (by omega)
    simp -dsimp (disch:=try exact dx) only[wpS,zE,f3,f11]
    refine ax ?_ ?_<;>intro hc4<;>simp only[decide_eq_true_eq,decide_eq_false_iff_not] at hc4
    ·have hj:j<ys.length:=by omega
     obtain⟨y,hy⟩ : ∃y,ys[j]?=some y:=⟨_,List.getElem?_eq_getElem hj⟩
     have hym:=List.mem_of_getElem? hy
     have yb:=hy6 y hym
     have hyi:(ys.map fun y:Nat=>(y:Int))[j]?=some (y:Int):=by rw[List.getElem?_map,hy];rfl
     have ixo:=sO.1.idx (P:=prog) (k:=.i64) fc (j:=j) (by rw[List.length_map];exact hj)
     simp -dsimp (disch:=try exact dx) only[wpS,wpT,zE,f6,f7,f11,ixo,fS sO hE4.ab hyi]
     refine call (wQ (y:Int) (s:Int) ⟨by omega,by omega⟩ ⟨by omega,by omega⟩ (by omega)) ?_
     rintro _ h5 ⟨X5,rfl⟩
     rw[ij]
     have pw:=oq (qwy y hym)
     obtain⟨p,hp⟩ : ∃p,p=shq (Rat.divInt (y:Nat) (s:Nat)):=⟨_,rfl⟩
     have etk:shL ((ys.take (j+1)).map fun y=>shq (Rat.divInt (y:Nat) (s:Nat)))=shL ((ys.take j).map fun y=>shq (Rat.divInt (y:Nat) (s:Nat))) ++ shC p.1 p.2:=by
      rw[gF hy,List.map_append,List.map_cons,List.map_nil,zQ,hp]
     rw[←hp] at pw ⊢
     obtain⟨H6,hH6⟩ : ∃H,H=(h5.new (.cells Z16 0 none)).put h5.n (.cells (shC p.1 p.2) 0 none):=⟨_,rfl⟩
     have E6:Ext h5 H6:=by rw[hH6];exact((Ext.refl h5).new _).put (Nat.le_refl _) _
     have n6:H6.n=h5.n+1:=by rw[hH6];rfl
     have k6:H6.ext.get h5.n=some (.cells (shC p.1 p.2) 0 none):=by rw[hH6];simp (disch:=try exact dx) only[ad]
     have m5:=X5.n
     simp -dsimp (disch:=try exact dx) only[wpS,wpT,zE,zL,zA,mi,jr,aV,aH,cU,dX]
     rw[←hH6]
     clear hH6
     have E56:=X5.trans E6
     obtain⟨bR,h8,hap,hA8,hG8,hE8⟩:=(hA4.ext E56).pU (P:=prog) (t:=60) Oz (m:=1) (new:=shC p.1 p.2) (by omega) (by rw[aH]) (cU _ _) (by omega) (by omega) (hE4.trans E56) (Nat.le_refl _)
     have jA:append prog (H6.new (.cells (shC p.1 p.2) 16 none)) 60 o3 (.slice (some ⟨2*H6.n,0,none⟩) 1 3)=some (bR,h8):=hap
     simp -dsimp (disch:=try exact dx) only[wpS,wpT,zE,zL,zA,fE,Mq,vF,f10,f11,ai k6,aH,bN,aV,dX,show(.agg (shC p.1 p.2).toArray:Value)=shV p.1 p.2 from rfl,jA]
     exact⟨m4 - 1,by omega,j+1,bR,by omega,hE8,by rw[etk];exact hA8,by simp[f1],by simp[f3],by simp[f4],by simp[f5],by simp[f6],by simp[f7],by simp,by simp⟩
    ·have hjn:j=n:=by omega
     subst hjn
     rw[List.take_of_length_le (by omega)] at hA4
     obtain⟨l,hl⟩ : ∃l,l=ys.map fun y=>shq (Rat.divInt (y:Nat) (s:Nat)):=⟨_,rfl⟩
     have Lc:l.length=j:=by rw[hl,List.length_map,hyl]
     rw[←hl] at hA4
     have rok:EF l:=by rw[hl,hs];exact Dh (by omega) (by omega) hy6
     have S4:iM h4 o3 l:=⟨by rw[Lc];exact hA4.sl,by omega,fun p hp=>by
      rw[hl] at hp
      obtain⟨y,hy,rfl⟩:=List.mem_map.1 hp
      exact oq (qwy y hy)⟩
     have E34:=E3.trans hE4
     obtain⟨bR,h8,hap,hA8,hG8,hE8⟩:=(hA.ext E34).tj (P:=prog) (t:=38) Q0 (x:=o3) S4.1.cok (by omega) (by omega) (hE.trans E34) (Nat.le_refl _)
     have jA:append prog (h4.new (.cells [o3] 1 none)) 38 out (.slice (some ⟨2*h4.n,0,none⟩) 1 3)=some (bR,h8):=hap
     simp -dsimp (disch:=try exact dx) only[wpS,wpT,zE,zL,zA,Mr,BQ,f4,f5,f10,S4.1.cells,jA]
     refine⟨m - 1,by omega,i+1,bR,vs ++ [o3],ll ++ [l],by omega,by simp[hil],by simp[hvl],hE8,hA8,?_,?_,by simp[f1],by simp[f3],by simp,by simp⟩
     ·intro k x hx
      by_cases hk:k<i
      ·rw[List.getElem?_append_left (by omega)] at hx
       obtain⟨w,c3,c4⟩:=hll k x hx
       exact⟨w,by rw[List.getElem?_append_left (by omega)];exact c3,c4.ab (E34.ab.trans hG8.ab)⟩
      ·have hki:k=i:=by
        have:=(List.getElem?_eq_some_iff.1 hx).1
        simp at this
        omega
       subst hki
       rw[List.getElem?_append_right (by omega),hil,Nat.sub_self] at hx
       simp at hx
       subst hx
       exact⟨o3,by rw[List.getElem?_append_right (by omega),hvl,Nat.sub_self];rfl,S4.ab hG8.ab⟩
     ·intro x hx
      rcases List.mem_append.1 hx with hx|hx
      ·exact hro x hx
      ·rw[List.mem_singleton.1 hx];exact⟨Lc,rok⟩

   ·have dz:(((xs.sum:Nat):Int) == 0)=false:=by simp;omega
    have hy6 : ∀y∈xs,y≤1000:=fun y hy=>by have:=hx6 y hy;omega
    have hyl:(xs).length=n:=hxn
    obtain⟨s,hs⟩ : ∃s,s=(xs).sum:=⟨_,rfl⟩
    have hsb:0<s∧s≤100:=⟨by omega,by omega⟩
    have A3:Acc h2 hh.n 1 o2 n ((xs).map KN):=by rw[←hxn];exact hA2
    have E3:Ext hh h2:=hE2
    have hn3:=E3.n
    have sO:fI h2 o2 ((xs).map fun y:Nat=>(y:Int)):=⟨by rw[List.length_map,hyl,List.map_map];exact A3.sl,by rw[List.length_map];omega,fun x hx=>by
     obtain⟨y,hy,rfl⟩:=List.mem_map.1 hx
     have:=hy6 y hy
     constructor<;>omega⟩
    obtain⟨ys,hys⟩ : ∃ys,ys=xs:=⟨_,rfl⟩
    rw[←hys] at hy6 hyl hs sO
    simp -dsimp (disch:=try exact dx) only[wpS,wpT,zE,f7,dz]
    refine loop (fun m4 fr h4 => ∃(j:Nat) (o3:Value),j+m4=n∧Ext h2 h4∧Acc h4 h2.n 16 o3 j (shL ((ys.take j).map fun y=>shq (Rat.divInt (y:Nat) (s:Nat))))∧ah fr 1=some (ptr (2*h.n) 0)∧ah fr 3=some (KN n)∧ah fr 4=some out∧ah fr 5=some (KN i)∧ah fr 6=some o2∧ah fr 7=some (KN s)∧ah fr 10=some o3∧ah fr 11=some (KN j)) n
     ⟨0,.slice none 0 0,by omega,Ext.refl _,Acc.nil _ _ (by omega),by simp[f1],by simp[f3],by simp[f4],by simp[f5],by simp[f6],by simp[f7,hs,hys],by simp,by simp⟩ ?_
    clear f1 f3 f4 f5 f6 f7 f8
    rintro m4 fr h4 ⟨j,o3,UC,hE4,hA4,f1,f3,f4,f5,f6,f7,f10,f11⟩
    have hn4:=hE4.n
    have qwy : ∀y∈ys,QW (Rat.divInt (y:Nat) (s:Nat)):=fun y hy=>by
     have:=hy6 y hy
     exact wR ⟨by omega,by omega⟩ ⟨by omega,by omega⟩ (by omega)
    simp -dsimp (disch:=try exact dx) only[wpS,zE,f3,f11]
    refine ax ?_ ?_<;>intro hc4<;>simp only[decide_eq_true_eq,decide_eq_false_iff_not] at hc4
    ·have hj:j<ys.length:=by omega
     obtain⟨y,hy⟩ : ∃y,ys[j]?=some y:=⟨_,List.getElem?_eq_getElem hj⟩
     have hym:=List.mem_of_getElem? hy
     have yb:=hy6 y hym
     have hyi:(ys.map fun y:Nat=>(y:Int))[j]?=some (y:Int):=by rw[List.getElem?_map,hy];rfl
     have ixo:=sO.1.idx (P:=prog) (k:=.i64) fc (j:=j) (by rw[List.length_map];exact hj)
     simp -dsimp (disch:=try exact dx) only[wpS,wpT,zE,f6,f7,f11,ixo,fS sO hE4.ab hyi]
     refine call (wQ (y:Int) (s:Int) ⟨by omega,by omega⟩ ⟨by omega,by omega⟩ (by omega)) ?_
     rintro _ h5 ⟨X5,rfl⟩
     rw[ij]
     have pw:=oq (qwy y hym)
     obtain⟨p,hp⟩ : ∃p,p=shq (Rat.divInt (y:Nat) (s:Nat)):=⟨_,rfl⟩
     have etk:shL ((ys.take (j+1)).map fun y=>shq (Rat.divInt (y:Nat) (s:Nat)))=shL ((ys.take j).map fun y=>shq (Rat.divInt (y:Nat) (s:Nat))) ++ shC p.1 p.2:=by
      rw[gF hy,List.map_append,List.map_cons,List.map_nil,zQ,hp]
     rw[←hp] at pw ⊢
     obtain⟨H6,hH6⟩ : ∃H,H=(h5.new (.cells Z16 0 none)).put h5.n (.cells (shC p.1 p.2) 0 none):=⟨_,rfl⟩
     have E6:Ext h5 H6:=by rw[hH6];exact((Ext.refl h5).new _).put (Nat.le_refl _) _
     have n6:H6.n=h5.n+1:=by rw[hH6];rfl
     have k6:H6.ext.get h5.n=some (.cells (shC p.1 p.2) 0 none):=by rw[hH6];simp (disch:=try exact dx) only[ad]
     have m5:=X5.n
     simp -dsimp (disch:=try exact dx) only[wpS,wpT,zE,zL,zA,mi,jr,aV,aH,cU,dX]
     rw[←hH6]
     clear hH6
     have E56:=X5.trans E6
     obtain⟨bR,h8,hap,hA8,hG8,hE8⟩:=(hA4.ext E56).pU (P:=prog) (t:=60) Oz (m:=1) (new:=shC p.1 p.2) (by omega) (by rw[aH]) (cU _ _) (by omega) (by omega) (hE4.trans E56) (Nat.le_refl _)
     have jA:append prog (H6.new (.cells (shC p.1 p.2) 16 none)) 60 o3 (.slice (some ⟨2*H6.n,0,none⟩) 1 3)=some (bR,h8):=hap
     simp -dsimp (disch:=try exact dx) only[wpS,wpT,zE,zL,zA,fE,Mq,vF,f10,f11,ai k6,aH,bN,aV,dX,show(.agg (shC p.1 p.2).toArray:Value)=shV p.1 p.2 from rfl,jA]
     exact⟨m4 - 1,by omega,j+1,bR,by omega,hE8,by rw[etk];exact hA8,by simp[f1],by simp[f3],by simp[f4],by simp[f5],by simp[f6],by simp[f7],by simp,by simp⟩
    ·have hjn:j=n:=by omega
     subst hjn
     rw[List.take_of_length_le (by omega)] at hA4
     obtain⟨l,hl⟩ : ∃l,l=ys.map fun y=>shq (Rat.divInt (y:Nat) (s:Nat)):=⟨_,rfl⟩
     have Lc:l.length=j:=by rw[hl,List.length_map,hyl]
     rw[←hl] at hA4
     have rok:EF l:=by rw[hl,hs];exact Dh (by omega) (by omega) hy6
     have S4:iM h4 o3 l:=⟨by rw[Lc];exact hA4.sl,by omega,fun p hp=>by
      rw[hl] at hp
      obtain⟨y,hy,rfl⟩:=List.mem_map.1 hp
      exact oq (qwy y hy)⟩
     have E34:=E3.trans hE4
     obtain⟨bR,h8,hap,hA8,hG8,hE8⟩:=(hA.ext E34).tj (P:=prog) (t:=38) Q0 (x:=o3) S4.1.cok (by omega) (by omega) (hE.trans E34) (Nat.le_refl _)
     have jA:append prog (h4.new (.cells [o3] 1 none)) 38 out (.slice (some ⟨2*h4.n,0,none⟩) 1 3)=some (bR,h8):=hap
     simp -dsimp (disch:=try exact dx) only[wpS,wpT,zE,zL,zA,Mr,BQ,f4,f5,f10,S4.1.cells,jA]
     refine⟨m - 1,by omega,i+1,bR,vs ++ [o3],ll ++ [l],by omega,by simp[hil],by simp[hvl],hE8,hA8,?_,?_,by simp[f1],by simp[f3],by simp,by simp⟩
     ·intro k x hx
      by_cases hk:k<i
      ·rw[List.getElem?_append_left (by omega)] at hx
       obtain⟨w,c3,c4⟩:=hll k x hx
       exact⟨w,by rw[List.getElem?_append_left (by omega)];exact c3,c4.ab (E34.ab.trans hG8.ab)⟩
      ·have hki:k=i:=by
        have:=(List.getElem?_eq_some_iff.1 hx).1
        simp at this
        omega
       subst hki
       rw[List.getElem?_append_right (by omega),hil,Nat.sub_self] at hx
       simp at hx
       subst hx
       exact⟨o3,by rw[List.getElem?_append_right (by omega),hvl,Nat.sub_self];rfl,S4.ab hG8.ab⟩
     ·intro x hx
      rcases List.mem_append.1 hx with hx|hx
      ·exact hro x hx
      ·rw[List.mem_singleton.1 hx];exact⟨Lc,rok⟩

 ·have hin:i=n:=by omega
  subst hin
  simp -dsimp (disch:=try exact dx) only[wpS,wpT,zE,f4]
  exact⟨hEh,ll,⟨vs,by rw[hil];exact hA.sl,by omega,hll⟩,hil,hro⟩
end Go.Id

namespace Go.Id
open Go
def jZ (l:List (Nat×Nat)):Nat→Nat
 | 0=>1
 | i+1=>Nat.lcm (jZ l i) (l.getD i (0,1)).2
theorem pG {l:List (Nat×Nat)} {i:Nat} {p:Nat×Nat} (h:l[i]?=some p):jZ l (i+1)=Nat.lcm (jZ l i) p.2:=by
 rw[jZ,List.getD_eq_getElem?_getD,h];rfl
theorem KR {l:List (Nat×Nat)} {i j:Nat} {p:Nat×Nat} (hj:j<i) (hp:l[j]?=some p) (hi:i≤l.length):p.2∣jZ l i:=by
 induction i with
 | zero=>omega
 | succ i ih =>
  obtain⟨q,hq⟩ : ∃p,l[i]?=some p:=⟨_,List.getElem?_eq_getElem hi⟩
  rw[pG hq]
  by_cases c:j=i
  ·subst c
   rw[hp] at hq
   cases hq
   exact Nat.dvd_lcm_right _ _
  ·exact Nat.dvd_trans (ih (by omega) (by omega)) (Nat.dvd_lcm_left _ _)
theorem NQ (a d:Nat):(a:Int)*((d:Int) / ((Int.gcd (a:Int) (d:Int):Nat):Int))=((Nat.lcm a d:Nat):Int):=by
 rw[Int.gcd_natCast_natCast,←Int.natCast_ediv,←Int.natCast_mul,Nat.lcm,Nat.mul_div_assoc _ (Nat.gcd_dvd_right a d)]
def wL (l:List (Nat×Nat)):List Nat:=l.map fun p=>p.1*(jZ l l.length / p.2)
theorem AQ (l:List (Nat×Nat)):(wL l).length=l.length:=by simp[wL]
theorem OJ {l:List (Nat×Nat)} {i:Nat} {p:Nat×Nat} (h:l[i]?=some p):(wL l)[i]?=some (p.1*(jZ l l.length / p.2)):=by simp[wL,h]
theorem PW {l:List Nat} {b:Nat} (h : ∀x∈l,x≤b) {i:Nat} (hi:i≤l.length):cE l i≤i*b:=by
 induction i with
 | zero=>simp[cE]
 | succ i ih =>
  obtain⟨p,hp⟩ : ∃p,l[i]?=some p:=⟨_,List.getElem?_eq_getElem hi⟩
  have:=h p (List.mem_of_getElem? hp)
  have:=ih (by omega)
  rw[AV l hp,Nat.add_mul,Nat.one_mul]
  omega
theorem HD:1000000000000<H8:=by unfold H8;decide +kernel
theorem PQ {n:Nat} (hn:n≤1000000000000):wdI n=(n:Int):=gX (Nat.lt_of_le_of_lt hn HD)
end Go.Id

namespace Go.Id
open Go
theorem Lk {n:Nat} (hn:n<W8):ku (n:Int):=by
 have hw:W8=2 ^ 512:=by decide +kernel
 exact JZ (k:=512) (by omega) (by omega)
end Go.Id

namespace Go.Id
open Go
def nnR (l:List (Nat×Nat)):Prop:=∀p∈l,p.1<H8∧0<p.2∧p.2<H8
theorem xj {l:List (Nat×Nat)} (h:nnR l) {i:Nat} (hi:i≤l.length):0<jZ l i∧jZ l i≤2 ^ (512*i):=by
 induction i with
 | zero=>exact⟨Nat.one_pos,Nat.one_le_two_pow⟩
 | succ i ih =>
  obtain⟨p,hp⟩ : ∃p,l[i]?=some p:=⟨_,List.getElem?_eq_getElem hi⟩
  obtain⟨a,b⟩:=ih (by omega)
  obtain⟨_,c,d⟩:=h p (List.mem_of_getElem? hp)
  rw[pG hp]
  refine⟨Nat.lcm_pos a c,Nat.le_trans (Nat.le_of_dvd (Nat.mul_pos a c) (Nat.lcm_dvd (Nat.dvd_mul_right _ _) (Nat.dvd_mul_left _ _))) ?_⟩
  rw[Nat.mul_succ,Nat.pow_add]
  refine Nat.mul_le_mul b (Nat.le_of_lt (Nat.lt_of_lt_of_le d ?_))
  rw[BT]
  exact Bb (a:=511) (b:=512) (by omega)
theorem xE {l:List (Nat×Nat)} (h:nnR l) {i:Nat} (hi:i≤l.length) (hl:l.length≤1000):ku ((jZ l i:Nat):Int):=aT (k:=512*i) (by rw[Int.natAbs_natCast];exact(xj h hi).2) (by omega)
def Ek (l:List (Nat×Nat)):Prop:=∀w∈wL l,w<H8
end Go.Id
