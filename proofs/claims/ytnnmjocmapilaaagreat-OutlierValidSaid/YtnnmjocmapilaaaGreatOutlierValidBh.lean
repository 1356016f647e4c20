/-
  Contracts: reference 33: drafted kernels.
-/
import Derived.Test.YtnnmjocmapilaaaGreatOutlierValidBg
set_option linter.unusedVariables false
set_option linter.unusedSimpArgs false
set_option linter.defProp false
set_option linter.deprecated false
namespace Go.Id
open Go
open Go.Proofs.Tryz (prog)
open Nat renaming reduceAdd→zA,reduceEqDiff→zE,reduceLeDiff→zL
set_option maxHeartbeats 16000000
theorem Cd (l:List (Nat×Nat)) (p:Nat×Nat):shL (l ++ [p])=shL l ++ shC p.1 p.2:=by simp[shL]
theorem Au (s:Nat) : ∀(l:List Nat) (a:Rat),(l.map fun y=>Rat.divInt (y:Nat) (s:Nat)).foldl (· + ·) a=a+Rat.divInt (l.sum:Nat) (s:Nat)
 | [],a=>by
  rw[List.map_nil,List.foldl_nil,List.sum_nil,show(((0:Nat):Int))=0 from rfl,Rat.zero_divInt,Rat.add_zero]
 | x :: l,a=>by
  rw[List.map_cons,List.foldl_cons,Au s l,List.sum_cons,Rat.divInt_eq_div,Rat.divInt_eq_div,Rat.divInt_eq_div]
  have e:(((x+l.sum:Nat):Int):Rat)=((x:Int):Rat)+((l.sum:Int):Rat):=by
   rw[←Rat.intCast_add];rfl
  rw[e]
  grind
theorem TO {ys:List Nat} (h0:0<ys.sum) (hb:ys.sum≤1000) (hy : ∀y∈ys,y≤1000):lZ (ys.map fun y=>shq (Rat.divInt (y:Nat) (ys.sum:Nat))):=by
 have hq : ∀y∈ys,QW (Rat.divInt (y:Nat) (ys.sum:Nat)):=fun y h=>by
  have:=hy y h
  exact kL ⟨by omega,by omega⟩ ⟨by omega,by omega⟩ (by omega)
 refine⟨fun p hp=>?_,?_⟩
 ·obtain⟨y,hm,rfl⟩:=List.mem_map.1 hp
  obtain⟨e1,e2⟩:=cK (hq y hm)
  rintro(hb|hb)
  ·exact hb e2
  ·have e3:wdI (shq (Rat.divInt (y:Nat) (ys.sum:Nat))).1=(Rat.divInt (y:Nat) (ys.sum:Nat)).num:=cm (hq y hm).1
   rw[e3] at hb
   have:0≤Rat.divInt (y:Nat) (ys.sum:Nat):=Rat.divInt_nonneg (by omega) (by omega)
   have:=Rat.num_nonneg.2 this
   omega
 ·have e:(ys.map fun y=>shq (Rat.divInt (y:Nat) (ys.sum:Nat))).map rOf=ys.map fun y=>Rat.divInt (y:Nat) (ys.sum:Nat):=by
   rw[List.map_map]
   exact List.map_congr_left fun y hm=>(cK (hq y hm)).1
  rw[e]
  unfold fU
  rw[Au,Rat.divInt_eq_div,Rat.zero_add]
  have hne:(((ys.sum:Nat):Int):Rat)≠0:=fun h=>by
   have:((ys.sum:Nat):Int)=0:=Rat.intCast_inj.1 h
   omega
  grind
def smR (S:Nat) (l:List (Nat×Nat)):Prop:=0<S∧S≤1000 ∧ ∀p∈l,p.1≤1000∧0<p.2∧p.2∣S
def Ih (l:List (Nat×Nat)):Prop:=lZ l∧(∃S,smR S l) ∧ ∃q∈l,0<q.1
theorem vk {y S:Nat} (hS:0<S) : ∃m:Nat,0<m∧(y:Int)=(Rat.divInt (y:Nat) (S:Nat)).num*m∧S=(Rat.divInt (y:Nat) (S:Nat)).den*m:=by
 obtain⟨q,hq⟩:=aP (Rat.divInt (y:Nat) (S:Nat))
 obtain⟨m,_,e1,e2⟩:=Rat.divInt_num_den (n:=(y:Int)) (d:=(S:Int)) (n':=q.num) (d':=q.den) (z':=q.den_nz) (c:=q.reduced) (by omega) (by rw[←hq])
 rw[←hq]
 have dp:0<q.den:=q.den_pos
 have m0:0<m:=by
  apply Classical.byContradiction
  intro hn
  have:(q.den:Int)*m≤0:=Int.mul_nonpos_of_nonneg_of_nonpos (by omega) (by omega)
  omega
 obtain⟨k,rfl⟩:=Int.eq_ofNat_of_zero_le (Int.le_of_lt m0)
 exact⟨k,by omega,e1,by exact_mod_cast e2⟩
theorem NJ {ys:List Nat} (h : ∀y∈ys,y=0):ys.sum=0:=by
 induction ys with
 | nil=>rfl
 | cons a l ih=>rw[List.sum_cons,h a (by simp),ih fun y hy=>h y (by simp[hy])]
theorem GH {ys:List Nat} (h0:0<ys.sum) (hb:ys.sum≤1000) (hy : ∀y∈ys,y≤1000):Ih (ys.map fun y=>shq (Rat.divInt (y:Nat) (ys.sum:Nat))):=by
 have key : ∀y,y≤1000 → ∃m:Nat,0<m∧y=(shq (Rat.divInt (y:Nat) (ys.sum:Nat))).1*m∧ys.sum=(shq (Rat.divInt (y:Nat) (ys.sum:Nat))).2*m:=fun y hy1=>by
  obtain⟨m,m0,e1,e2⟩:=vk (y:=y) h0
  have n0:0≤(Rat.divInt (y:Nat) (ys.sum:Nat)).num:=Rat.num_nonneg.2 (Rat.divInt_nonneg (by omega) (by omega))
  obtain⟨k,hk⟩:=Int.eq_ofNat_of_zero_le n0
  refine⟨m,m0,?_,?_⟩
  ·show y=aV _*m
   rw[EL n0,hk,Int.toNat_natCast]
   rw[hk] at e1
   exact_mod_cast e1
  ·show ys.sum=aV ((Rat.divInt (y:Nat) (ys.sum:Nat)).den:Int)*m
   rw[EL (by omega),Int.toNat_natCast]
   exact e2
 refine⟨TO h0 hb hy,⟨ys.sum,h0,hb,fun p hp=>?_⟩,?_⟩
 ·obtain⟨y,hm,rfl⟩:=List.mem_map.1 hp
  have y1:=hy y hm
  obtain⟨m,m0,e1,e2⟩:=key y y1
  refine⟨?_,?_,⟨m,e2⟩⟩
  ·have:=Nat.le_mul_of_pos_right (shq (Rat.divInt (y:Nat) (ys.sum:Nat))).1 m0
   omega
  ·apply Nat.pos_of_ne_zero
   intro hz
   rw[hz,Nat.zero_mul] at e2
   omega
 ·have : ∃y∈ys,0<y:=by
   apply Classical.byContradiction
   intro hn
   have hz : ∀y∈ys,y=0:=fun y hy=>Nat.eq_zero_of_not_pos fun h=>hn ⟨y,hy,h⟩
   have:ys.sum=0:=NJ hz
   omega
  obtain⟨y,hm,y0⟩:=this
  refine⟨_,List.mem_map.2 ⟨y,hm,rfl⟩,?_⟩
  obtain⟨m,m0,e1,e2⟩:=key y (hy y hm)
  apply Nat.pos_of_ne_zero
  intro hz
  rw[hz,Nat.zero_mul] at e1
  omega
theorem Kb (ys:List Nat) (i:Nat) (hi:i<ys.length) (h0:ys.sum=0):(ys.set i 1).sum=1:=by
 induction ys generalizing i with
 | nil=>simp at hi
 | cons a l ih =>
  rw[List.sum_cons] at h0
  cases i with
  | zero=>rw[List.set_cons_zero,List.sum_cons];omega
  | succ i =>
   rw[List.set_cons_succ,List.sum_cons,ih i (by simpa using hi) (by omega)];omega
theorem GK (l:List Int) (i:Nat) (x:Int) (hi:i<l.length):IH.aG (l.map KI) (i*1) [KI x]=(l.set i x).map KI:=by
 rw[Nat.mul_one]
 simp only[IH.aG,List.map_set,List.length_singleton]
 rw[List.set_eq_take_append_cons_drop,if_pos (by simpa using hi)]
 rfl
theorem Ju {h:IH} {sz:Nat} {v:Value} {lN:List Nat} (hv:w7 h v lN) (hsz:sz<256) :
  WV prog (.func (.func 8) #[] #[]) [.agg #[B8 sz,v]] h fun r h'=>Ext h h' ∧ ∃ll,jt h' r ll∧ll.length=1+sz % 4 ∧ ∀x∈ll,x.length=1+sz % 4∧Ih x:=by
 have cv:=hv.1.cells
 have co:=hv.1.cok
 have lv:=hv.2.1
 obtain⟨n,hn⟩:=aP (1+sz % 4)
 have nb4:1≤n∧n≤4:=by omega
 rw[←hn]
 have g0:(h.new (.cells [B8 sz,v] 0 none)).ext.get h.n=some (.cells [B8 sz,v] 0 none):=by simp (disch:=omega) only[ah]
 have E0:Ext h (h.new (.cells [B8 sz,v] 0 none)):=(Ext.refl h).new _
 obtain⟨Hb,hHb⟩:=aP (h.new (.cells [B8 sz,v] 0 none))
 have nb:Hb.n=h.n+1:=by rw[hHb];rfl
 have hr : ∀ox oy,binop prog .rem 5 ox oy (B8 sz) (.int .u8 4)=some (.int .u8 ((sz % 4:Nat):Int)):=fun ox oy=>zu _ _ .u8 ox oy sz 4 (by omega)
 have en:(1:Int)+((sz % 4:Nat):Int)=(n:Int):=by omega
 refine enter (nt:=84) (rs:=[.tmp 2]) Proofs.Tryz.func8 rfl rfl rfl (by simp) ?_
 rw[←hHb] at g0 E0
 simp -dsimp (disch:=omega) only[wpS,zE,Xj,ld5,G8,hr,en]
 rw[←hHb]
 clear hHb
 refine loop (fun m fr hh => ∃(i:Nat) (out:Value) (vs:List Value) (ll:List (List (Nat×Nat))),i+m=n∧ll.length=i∧vs.length=i∧Ext Hb hh∧Acc hh Hb.n 1 out i vs∧(∀(k:Nat) x,ll[k]?=some x → ∃w,vs[k]?=some w∧iT hh w x)∧(∀x∈ll,x.length=n∧Ih x)∧ab fr 1=some (ptr (2*h.n) 0)∧ab fr 3=some (KN n)∧ab fr 4=some out∧ab fr 5=some (KN i)) n
  ⟨0,.slice none 0 0,[],[],by omega,rfl,rfl,Ext.refl _,Acc.nil _ _ (by omega),fun k x hx=>by simp at hx,fun x hx=>by simp at hx,by simp⟩ ?_
 rintro m fr hh ⟨i,out,vs,ll,him,hil,hvl,hE,hA,hll,hro,f1,f3,f4,f5⟩
 have hg:=hE.kept (by omega) g0
 have hnn:=hE.n
 have hEh:=E0.trans hE
 simp -dsimp (disch:=omega) only[wpS,zE,f3,f5]
 refine aq ?_ ?_<;>intro hc<;>simp only[decide_eq_true_eq,decide_eq_false_iff_not] at hc
 ·have hin:i<n:=by omega
  simp -dsimp (disch:=omega) only[wpS,wpT]
  refine loop (fun m2 fr h2 => ∃(j:Nat) (o2:Value) (xs:List Nat),j+m2=n∧xs.length=j∧(∀x∈xs,x<6)∧Ext hh h2∧Acc h2 hh.n 1 o2 xs.length (xs.map KN)∧ab fr 1=some (ptr (2*h.n) 0)∧ab fr 3=some (KN n)∧ab fr 4=some out∧ab fr 5=some (KN i)∧ab fr 6=some o2∧ab fr 7=some (KN xs.sum)∧ab fr 8=some (KN j)) n
   ⟨0,.slice none 0 0,[],by omega,rfl,(fun x hx=>by cases hx),Ext.refl _,Acc.nil _ _ (by omega),by simp[f1,f3,f4,f5]⟩ ?_
  clear f1 f3 f4 f5
  rintro m2 fr h2 ⟨j,o2,xs,hjm,hjl,hx6,hE2,hA2,f1,f3,f4,f5,f6,f7,f8⟩
  have hg2:=hE2.kept (by omega) hg
  have hn2:=hE2.n
  have hEh2:=hEh.trans hE2
  have GQ:xs.sum≤6*xs.length:=by
   clear hA2 f7 hjl hjm
   induction xs with
   | nil=>simp
   | cons a l ih =>
    rw[List.sum_cons,List.length_cons]
    have:=hx6 a (by simp)
    have:=ih fun x hx=>hx6 x (by simp[hx])
    omega
  simp -dsimp (disch:=omega) only[wpS,zE,f3,f8]
  refine aq ?_ ?_<;>intro hc2<;>simp only[decide_eq_true_eq,decide_eq_false_iff_not] at hc2
  ·have hjn:j<n:=by omega
   have enm:(n:Int)*(i:Int)=((n*i:Nat):Int):=(Int.natCast_mul _ _).symm
   have hni:n*i≤4*4:=Nat.mul_le_mul nb4.2 (by omega)
   obtain⟨t,ht⟩:=aP (n*i+j)
   have et:((n*i:Nat):Int)+(j:Int)=(t:Int):=by omega
   have fin : ∀y:Nat,y<6 → ∀fr':Fr,ab fr' 1=some (ptr (2*h.n) 0)→True:=fun _ _ _ _=>trivial
   by_cases c:t<lN.length
   ·obtain⟨x,hx⟩:=il (l:=lN) (i:=t) c
    have xb:=hv.2.2 x (List.mem_of_getElem? hx)
    have hr6 : ∀ox oy,binop prog .rem 5 ox oy (B8 x) (.int .u8 6)=some (.int .u8 ((x % 6:Nat):Int)):=fun ox oy=>zu _ _ .u8 ox oy x 6 (by omega)
    obtain⟨y,hy⟩:=aP (x % 6)
    have yb:y<6:=by omega
    rw[←hy] at hr6
    obtain⟨dU,h8,hap,hA8,hG8,hE8⟩:=hA2.Et (P:=prog) (t:=25) Eu (x:=KN y) rfl (by omega) (by omega) hE2 (by omega)
    simp -dsimp (disch:=omega) only[wpS,wpT,zE,zL,zA,G8,D5,TN,Bf,lC,f1,f3,f5,f6,f7,f8,enm,et,aj hg2,hv.1.len SU,hv.1.idx Z8 c,hv.ld hEh2.aa hx,hr6,hap]
    refine⟨m2 - 1,by omega,j+1,dU,xs ++ [y],by omega,by simp[hjl],?_,hE8,?_,by simp[f1],by simp[f3],by simp[f4],by simp[f5],by simp,?_,by simp⟩
    ·intro q hq
     rcases List.mem_append.1 hq with hq|hq
     ·exact hx6 q hq
     ·rw[List.mem_singleton.1 hq];exact yb
    ·rw[List.map_append,List.length_append];exact hA8
    ·simp[List.sum_append]
   ·obtain⟨dU,h8,hap,hA8,hG8,hE8⟩:=hA2.Et (P:=prog) (t:=25) Eu (x:=KI 0) rfl (by omega) (by omega) hE2 (by omega)
    simp -dsimp (disch:=omega) only[wpS,wpT,zE,zL,zA,D5,TN,Bf,lC,f1,f3,f5,f6,f7,f8,enm,et,aj hg2,hv.1.len SU,hap]
    refine⟨m2 - 1,by omega,j+1,dU,xs ++ [0],by omega,by simp[hjl],?_,hE8,?_,by simp[f1],by simp[f3],by simp[f4],by simp[f5],by simp,?_,by simp⟩
    ·intro q hq
     rcases List.mem_append.1 hq with hq|hq
     ·exact hx6 q hq
     ·rw[List.mem_singleton.1 hq];decide
    ·rw[List.map_append,List.length_append];exact hA8
    ·simp[List.sum_append]
  ·have hxn:xs.length=n:=by omega
   clear hc2
   by_cases c0:xs.sum=0
   ·have dz:(((xs.sum:Nat):Int) == 0)=true:=by simp[c0]
    have hix:i<xs.length:=by omega
    obtain⟨h3,st0,A3,e3,n3⟩:=hA2.Wi (P:=prog) (t:=3) sz3 hix (x:=KI 1) (xs:=[KI 1]) rfl rfl rfl hE2 (Nat.le_refl _)
    have st:store prog h2 3 (aM o2 i) (.int .i64 1)=some h3:=by rw[Nat.mul_one] at st0;exact st0
    have ix:=hA2.sl.idx (P:=prog) (k:=.i64) jN hix
    have A3':Acc h3 hh.n 1 o2 n ((xs.set i 1).map KN):=by
     have e:IH.aG (xs.map KN) (i*1) [KI 1]=(xs.set i 1).map KN:=by
      have:=GK (xs.map fun y:Nat=>(y:Int)) i 1 (by simpa using hix)
      rw[List.map_map] at this
      rw[show(xs.map KN)=xs.map (KI ∘ fun y:Nat=>(y:Int)) from rfl,this,List.map_set,List.map_map,List.map_set]
      rfl
     rw[←e,←hxn];exact A3
    have hsv:(xs.set i 1).sum=1:=Kb xs i hix c0
    have hy6 : ∀y∈xs.set i 1,y≤1000:=fun y hy=>(List.mem_or_eq_of_mem_set hy).elim (fun h=>by have:=hx6 y h;omega) (fun h=>by omega)
    have hyl:(xs.set i 1).length=n:=by rw[List.length_set];exact hxn
    obtain⟨s,hs⟩:=aP ((xs.set i 1).sum)
    have hs1:(s:Int)=1:=by rw[hs,hsv];rfl
    have hsb:0<s∧s≤100:=by rw[hs,Kb xs i (by omega) c0];exact⟨by omega,by omega⟩
    have A3:Acc h3 hh.n 1 o2 n ((xs.set i 1).map KN):=A3'
    have E3:Ext hh h3:=e3
    have hn3:=E3.n
    have sO:XT h3 o2 ((xs.set i 1).map fun y:Nat=>(y:Int)):=⟨by rw[List.length_map,hyl,List.map_map];exact A3.sl,by rw[List.length_map];omega,fun x hx=>by
     obtain⟨y,hy,rfl⟩:=List.mem_map.1 hx
     have:=hy6 y hy
     constructor<;>omega⟩
    obtain⟨ys,hys⟩:=aP (xs.set i 1)
    rw[←hys] at hy6 hyl hs sO
    simp -dsimp (disch:=omega) only[wpS,wpT,zE,f5,f6,f7,ix,st,dz]
    refine loop (fun m4 fr h4 => ∃(j:Nat) (o3:Value),j+m4=n∧Ext h3 h4∧Acc h4 h3.n 16 o3 j (shL ((ys.take j).map fun y=>shq (Rat.divInt (y:Nat) (s:Nat))))∧ab fr 1=some (ptr (2*h.n) 0)∧ab fr 3=some (KN n)∧ab fr 4=some out∧ab fr 5=some (KN i)∧ab fr 6=some o2∧ab fr 7=some (KN s)∧ab fr 10=some o3∧ab fr 11=some (KN j)) n
     ⟨0,.slice none 0 0,by omega,Ext.refl _,Acc.nil _ _ (by omega),by simp[f1,f3,f4,f5,f6,hs1]⟩ ?_
    clear f1 f3 f4 f5 f6 f7 f8
    rintro m4 fr h4 ⟨j,o3,hjm4,hE4,hA4,f1,f3,f4,f5,f6,f7,f10,f11⟩
    have hn4:=hE4.n
    have qwy : ∀y∈ys,QW (Rat.divInt (y:Nat) (s:Nat)):=fun y hy=>by
     have:=hy6 y hy
     exact kL ⟨by omega,by omega⟩ ⟨by omega,by omega⟩ (by omega)
    simp -dsimp (disch:=omega) only[wpS,zE,f3,f11]
    refine aq ?_ ?_<;>intro hc4<;>simp only[decide_eq_true_eq,decide_eq_false_iff_not] at hc4
    ·have hj:j<ys.length:=by omega
     obtain⟨y,hy⟩:=il (l:=ys) (i:=j) hj
     have hym:=List.mem_of_getElem? hy
     have yb:=hy6 y hym
     have hyi:(ys.map fun y:Nat=>(y:Int))[j]?=some (y:Int):=by rw[List.getElem?_map,hy];rfl
     have ixo:=sO.1.idx (P:=prog) (k:=.i64) jN (j:=j) (by rw[List.length_map];exact hj)
     simp -dsimp (disch:=omega) only[wpS,wpT,zE,f6,f7,f11,ixo,Ln sO hE4.aa hyi]
     refine call (oU (y:Int) (s:Int) ⟨by omega,by omega⟩ ⟨by omega,by omega⟩ (by omega)) ?_
     rintro _ h5 ⟨X5,rfl⟩
     rw[fh]
     have pw:=nk (qwy y hym)
     obtain⟨p,hp⟩:=aP (shq (Rat.divInt (y:Nat) (s:Nat)))
     have etk:shL ((ys.take (j+1)).map fun y=>shq (Rat.divInt (y:Nat) (s:Nat)))=shL ((ys.take j).map fun y=>shq (Rat.divInt (y:Nat) (s:Nat))) ++ shC p.1 p.2:=by
      rw[fy hy,List.map_append,List.map_cons,List.map_nil,Cd,hp]
     rw[←hp] at pw ⊢
     obtain⟨H6,hH6⟩:=aP ((h5.new (.cells Z16 0 none)).put h5.n (.cells (shC p.1 p.2) 0 none))
     have E6:Ext h5 H6:=by rw[hH6];exact((Ext.refl h5).new _).put (Nat.le_refl _) _
     have n6:H6.n=h5.n+1:=by rw[hH6];rfl
     have k6:H6.ext.get h5.n=some (.cells (shC p.1 p.2) 0 none):=by rw[hH6];simp (disch:=omega) only[ae]
     have m5:=X5.n
     simp -dsimp (disch:=omega) only[wpS,wpT,zE,zL,zA,gC,ed,aB,au,aY,bC]
     rw[←hH6]
     clear hH6
     have E56:=X5.trans E6
     obtain⟨dU,h8,hap,hA8,hG8,hE8⟩:=(hA4.ext E56).se (P:=prog) (t:=61) OG (m:=1) (new:=shC p.1 p.2) (by omega) (by rw[au]) (aY _ _) (by omega) (by omega) (hE4.trans E56) (Nat.le_refl _)
     have wE:append prog (H6.new (.cells (shC p.1 p.2) 16 none)) 61 o3 (.slice (some ⟨2*H6.n,0,none⟩) 1 3)=some (dU,h8):=hap
     simp -dsimp (disch:=omega) only[wpS,wpT,zE,zL,zA,bY,Hm,rT,f10,f11,aj k6,au,aO,aB,bC,show(.agg (shC p.1 p.2).toArray:Value)=shV p.1 p.2 from rfl,wE]
     exact⟨m4 - 1,by omega,j+1,dU,by omega,hE8,by rw[etk];exact hA8,by simp[f1,f3,f4,f5,f6,f7]⟩
    ·have hjn:j=n:=by omega
     subst hjn
     rw[List.take_of_length_le (by omega)] at hA4
     obtain⟨l,hl⟩:=aP (ys.map fun y=>shq (Rat.divInt (y:Nat) (s:Nat)))
     have QP:l.length=j:=by rw[hl,List.length_map,hyl]
     rw[←hl] at hA4
     have rok:Ih l:=by rw[hl,hs];exact GH (by omega) (by omega) hy6
     have S4:iT h4 o3 l:=⟨by rw[QP];exact hA4.sl,by omega,fun p hp=>by
      rw[hl] at hp
      obtain⟨y,hy,rfl⟩:=List.mem_map.1 hp
      exact nk (qwy y hy)⟩
     have E34:=E3.trans hE4
     obtain⟨dU,h8,hap,hA8,hG8,hE8⟩:=(hA.ext E34).Et (P:=prog) (t:=38) XM (x:=o3) S4.1.cok (by omega) (by omega) (hE.trans E34) (Nat.le_refl _)
     have wE:append prog (h4.new (.cells [o3] 1 none)) 38 out (.slice (some ⟨2*h4.n,0,none⟩) 1 3)=some (dU,h8):=hap
     simp -dsimp (disch:=omega) only[wpS,wpT,zE,zL,zA,XD,Er,f4,f5,f10,S4.1.cells,wE]
     refine⟨m - 1,by omega,i+1,dU,vs ++ [o3],ll ++ [l],by omega,by simp[hil],by simp[hvl],hE8,hA8,?_,?_,by simp[f1,f3]⟩
     ·intro k x hx
      by_cases hk:k<i
      ·rw[List.getElem?_append_left (by omega)] at hx
       obtain⟨w,c3,c4⟩:=hll k x hx
       exact⟨w,by rw[List.getElem?_append_left (by omega)];exact c3,c4.aa (E34.aa.trans hG8.aa)⟩
      ·have hki:k=i:=by
        have:=(List.getElem?_eq_some_iff.1 hx).1
        simp at this
        omega
       subst hki
       rw[List.getElem?_append_right (by omega),hil,Nat.sub_self] at hx
       simp at hx
       subst hx
       exact⟨o3,by rw[List.getElem?_append_right (by omega),hvl,Nat.sub_self];rfl,S4.aa hG8.aa⟩
     ·intro x hx
      rcases List.mem_append.1 hx with hx|hx
      ·exact hro x hx
      ·rw[List.mem_singleton.1 hx];exact⟨QP,rok⟩

   ·have dz:(((xs.sum:Nat):Int) == 0)=false:=by simp;omega
    have hy6 : ∀y∈xs,y≤1000:=fun y hy=>by have:=hx6 y hy;omega
    have hyl:(xs).length=n:=hxn
    obtain⟨s,hs⟩:=aP ((xs).sum)
    have hsb:0<s∧s≤100:=⟨by omega,by omega⟩
    have A3:Acc h2 hh.n 1 o2 n ((xs).map KN):=by rw[←hxn];exact hA2
    have E3:Ext hh h2:=hE2
    have hn3:=E3.n
    have sO:XT h2 o2 ((xs).map fun y:Nat=>(y:Int)):=⟨by rw[List.length_map,hyl,List.map_map];exact A3.sl,by rw[List.length_map];omega,fun x hx=>by
     obtain⟨y,hy,rfl⟩:=List.mem_map.1 hx
     have:=hy6 y hy
     constructor<;>omega⟩
    obtain⟨ys,hys⟩:=aP (xs)
    rw[←hys] at hy6 hyl hs sO
    simp -dsimp (disch:=omega) only[wpS,wpT,zE,f7,dz]
    refine loop (fun m4 fr h4 => ∃(j:Nat) (o3:Value),j+m4=n∧Ext h2 h4∧Acc h4 h2.n 16 o3 j (shL ((ys.take j).map fun y=>shq (Rat.divInt (y:Nat) (s:Nat))))∧ab fr 1=some (ptr (2*h.n) 0)∧ab fr 3=some (KN n)∧ab fr 4=some out∧ab fr 5=some (KN i)∧ab fr 6=some o2∧ab fr 7=some (KN s)∧ab fr 10=some o3∧ab fr 11=some (KN j)) n
     ⟨0,.slice none 0 0,by omega,Ext.refl _,Acc.nil _ _ (by omega),by simp[f1,f3,f4,f5,f6,f7,hs,hys]⟩ ?_
    clear f1 f3 f4 f5 f6 f7 f8
    rintro m4 fr h4 ⟨j,o3,hjm4,hE4,hA4,f1,f3,f4,f5,f6,f7,f10,f11⟩
    have hn4:=hE4.n
    have qwy : ∀y∈ys,QW (Rat.divInt (y:Nat) (s:Nat)):=fun y hy=>by
     have:=hy6 y hy
     exact kL ⟨by omega,by omega⟩ ⟨by omega,by omega⟩ (by omega)
    simp -dsimp (disch:=omega) only[wpS,zE,f3,f11]
    refine aq ?_ ?_<;>intro hc4<;>simp only[decide_eq_true_eq,decide_eq_false_iff_not] at hc4
    ·have hj:j<ys.length:=by omega
     obtain⟨y,hy⟩:=il (l:=ys) (i:=j) hj
     have hym:=List.mem_of_getElem? hy
     have yb:=hy6 y hym
     have hyi:(ys.map fun y:Nat=>(y:Int))[j]?=some (y:Int):=by rw[List.getElem?_map,hy];rfl
     have ixo:=sO.1.idx (P:=prog) (k:=.i64) jN (j:=j) (by rw[List.length_map];exact hj)
     simp -dsimp (disch:=omega) only[wpS,wpT,zE,f6,f7,f11,ixo,Ln sO hE4.aa hyi]
     refine call (oU (y:Int) (s:Int) ⟨by omega,by omega⟩ ⟨by omega,by omega⟩ (by omega)) ?_
     rintro _ h5 ⟨X5,rfl⟩
     rw[fh]
     have pw:=nk (qwy y hym)
     obtain⟨p,hp⟩:=aP (shq (Rat.divInt (y:Nat) (s:Nat)))
     have etk:shL ((ys.take (j+1)).map fun y=>shq (Rat.divInt (y:Nat) (s:Nat)))=shL ((ys.take j).map fun y=>shq (Rat.divInt (y:Nat) (s:Nat))) ++ shC p.1 p.2:=by
      rw[fy hy,List.map_append,List.map_cons,List.map_nil,Cd,hp]
     rw[←hp] at pw ⊢
     obtain⟨H6,hH6⟩:=aP ((h5.new (.cells Z16 0 none)).put h5.n (.cells (shC p.1 p.2) 0 none))
     have E6:Ext h5 H6:=by rw[hH6];exact((Ext.refl h5).new _).put (Nat.le_refl _) _
     have n6:H6.n=h5.n+1:=by rw[hH6];rfl
     have k6:H6.ext.get h5.n=some (.cells (shC p.1 p.2) 0 none):=by rw[hH6];simp (disch:=omega) only[ae]
     have m5:=X5.n
     simp -dsimp (disch:=omega) only[wpS,wpT,zE,zL,zA,gC,ed,aB,au,aY,bC]
     rw[←hH6]
     clear hH6
     have E56:=X5.trans E6
     obtain⟨dU,h8,hap,hA8,hG8,hE8⟩:=(hA4.ext E56).se (P:=prog) (t:=61) OG (m:=1) (new:=shC p.1 p.2) (by omega) (by rw[au]) (aY _ _) (by omega) (by omega) (hE4.trans E56) (Nat.le_refl _)
     have wE:append prog (H6.new (.cells (shC p.1 p.2) 16 none)) 61 o3 (.slice (some ⟨2*H6.n,0,none⟩) 1 3)=some (dU,h8):=hap
     simp -dsimp (disch:=omega) only[wpS,wpT,zE,zL,zA,bY,Hm,rT,f10,f11,aj k6,au,aO,aB,bC,show(.agg (shC p.1 p.2).toArray:Value)=shV p.1 p.2 from rfl,wE]
     exact⟨m4 - 1,by omega,j+1,dU,by omega,hE8,by rw[etk];exact hA8,by simp[f1,f3,f4,f5,f6,f7]⟩
    ·have hjn:j=n:=by omega
     subst hjn
     rw[List.take_of_length_le (by omega)] at hA4
     obtain⟨l,hl⟩:=aP (ys.map fun y=>shq (Rat.divInt (y:Nat) (s:Nat)))
     have QP:l.length=j:=by rw[hl,List.length_map,hyl]
     rw[←hl] at hA4
     have rok:Ih l:=by rw[hl,hs];exact GH (by omega) (by omega) hy6
     have S4:iT h4 o3 l:=⟨by rw[QP];exact hA4.sl,by omega,fun p hp=>by
      rw[hl] at hp
      obtain⟨y,hy,rfl⟩:=List.mem_map.1 hp
      exact nk (qwy y hy)⟩
     have E34:=E3.trans hE4
     obtain⟨dU,h8,hap,hA8,hG8,hE8⟩:=(hA.ext E34).Et (P:=prog) (t:=38) XM (x:=o3) S4.1.cok (by omega) (by omega) (hE.trans E34) (Nat.le_refl _)
     have wE:append prog (h4.new (.cells [o3] 1 none)) 38 out (.slice (some ⟨2*h4.n,0,none⟩) 1 3)=some (dU,h8):=hap
     simp -dsimp (disch:=omega) only[wpS,wpT,zE,zL,zA,XD,Er,f4,f5,f10,S4.1.cells,wE]
     refine⟨m - 1,by omega,i+1,dU,vs ++ [o3],ll ++ [l],by omega,by simp[hil],by simp[hvl],hE8,hA8,?_,?_,by simp[f1,f3]⟩
     ·intro k x hx
      by_cases hk:k<i
      ·rw[List.getElem?_append_left (by omega)] at hx
       obtain⟨w,c3,c4⟩:=hll k x hx
       exact⟨w,by rw[List.getElem?_append_left (by omega)];exact c3,c4.aa (E34.aa.trans hG8.aa)⟩
      ·have hki:k=i:=by
        have:=(List.getElem?_eq_some_iff.1 hx).1
        simp at this
        omega
       subst hki
       rw[List.getElem?_append_right (by omega),hil,Nat.sub_self] at hx
       simp at hx
       subst hx
       exact⟨o3,by rw[List.getElem?_append_right (by omega),hvl,Nat.sub_self];rfl,S4.aa hG8.aa⟩
     ·intro x hx
      rcases List.mem_append.1 hx with hx|hx
      ·exact hro x hx
      ·rw[List.mem_singleton.1 hx];exact⟨QP,rok⟩

 ·have hin:i=n:=by omega
  subst hin
  simp -dsimp (disch:=omega) only[wpS,wpT,zE,f4]
  exact⟨hEh,ll,⟨vs,by rw[hil];exact hA.sl,by omega,hll⟩,hil,hro⟩
end Go.Id
namespace Go.Id
open Go
theorem UC:1000000000000<H8:=by unfold H8;decide +kernel
theorem VU {n:Nat} (hn:n≤1000000000000):wdI n=(n:Int):=Sz (Nat.lt_of_le_of_lt hn UC)
def Gro (h:IH) (n0 sz:Nat) (v:Value) (n:Nat) (cs:List Value):Prop:=Acc h n0 sz v n cs∨(0<sz∧cs.length=n*sz ∧ ∃k,v=.slice (some ⟨2*k,0,none⟩) n (2*n+1)∧0<n∧n0≤k∧k<h.n∧h.ext.get k=some (.cells cs sz none))
theorem Gro.sl {h:IH} {n0 sz:Nat} {v:Value} {n:Nat} {cs:List Value} (g:Gro h n0 sz v n cs):bJ h sz v n cs:=by
 rcases g with a|⟨hz,hl,k,rfl,hn,h1,h2,h3⟩
 ·exact a.sl
 ·exact cT h3 h2 hz hl (by omega) (by omega)
theorem Gro.ext {h h':IH} {n0 sz:Nat} {v:Value} {n:Nat} {cs:List Value} (g:Gro h n0 sz v n cs) (e:Ext h h'):Gro h' n0 sz v n cs:=by
 rcases g with a|⟨hz,hl,k,rfl,hn,h1,h2,h3⟩
 ·exact .inl (a.ext e)
 ·exact .inr ⟨hz,hl,k,rfl,hn,h1,by have:=e.n;omega,e.kept h2 h3⟩
theorem Gro.se {h:IH} {n0 sz:Nat} {v:Value} {n:Nat} {cs:List Value} (g:Gro h n0 sz v n cs) {P:Program} {t:TypeId} {bytes:Nat} (hT:kG P t=some (sz,bytes)) {m:Nat} {new:List Value} (hm:0<m) (hl:new.length=m*sz)
  (hc:new.all aA=true) (hsz:(n+m)*(bytes+1)≤1099511627776) (h0:n0≤h.n) {h0':IH} (e0:Ext h0' h) (hn0:h0'.n≤n0) :
  ∃v' h',append P (h.new (.cells new sz none)) t v (.slice (some ⟨2*h.n,0,none⟩) m (2*m+1))=some (v',h')∧Acc h' n0 sz v' (n+m) (cs ++ new)∧Grow h h'∧Ext h0' h':=by
 rcases g with a|⟨hz,hcl,k,rfl,hn,h1,h2,h3⟩
 ·exact a.se hT hm hl hc hsz h0 e0 hn0
 ·have e1:Ext h (h.new (.cells new sz none)):=(Ext.refl h).new _
  have sv:bJ h sz (.slice (some ⟨2*k,0,none⟩) n (2*n+1)) n cs:=cT h3 h2 hz hcl (by omega) (by omega)
  have sx:bJ (h.new (.cells new sz none)) sz (.slice (some ⟨2*h.n,0,none⟩) m (2*m+1)) m new:=cT (k:=h.n) (f:=none) (ah _ _ rfl) (by simp) hz hl (by omega) (by omega)
  refine⟨_,_,Hp hT (sv.ext e1).now sx.now hm hn hc hsz,?_,(e1.new _).grow,(e0.trans e1).new _⟩
  exact(yF hz (by rw[List.length_append,hcl,hl,Nat.add_mul]) (by omega)).from (by simp only[aI];omega)
theorem Gro.put {h:IH} {n0 sz:Nat} {v:Value} {n:Nat} {cs:List Value} (g:Gro h n0 sz v n cs) {k:Nat} {c:List Value} {f:Option Nat} (hk:h.ext.get k=some (.cells c 0 f)) (o:bz):Gro (h.put k o) n0 sz v n cs:=by
 rcases g with a|⟨hz,hl,j,rfl,hn,h1,h2,h3⟩
 ·exact .inl (a.put hk o)
 ·refine .inr ⟨hz,hl,j,rfl,hn,h1,h2,?_⟩
  rw[iF,if_neg]
  ·exact h3
  ·rintro rfl;rw[hk] at h3;cases h3;omega
theorem Ug {h:IH} {sz m:Nat} {cs:List Value} (hz:0<sz) (hl:cs.length=m*sz) (hm:0<m):Gro (h.new (.cells cs sz none)) h.n sz (.slice (some ⟨2*h.n,0,none⟩) m (2*m+1)) m cs :=
 .inr ⟨hz,hl,h.n,rfl,hm,Nat.le_refl _,by simp,ah _ _ rfl⟩
theorem Gro.from {h:IH} {n0 n1 sz:Nat} {v:Value} {n:Nat} {cs:List Value} (g:Gro h n1 sz v n cs) (hn:n0≤n1):Gro h n0 sz v n cs:=by
 rcases g with a|⟨hz,hl,k,rfl,hp,h1,h2,h3⟩
 ·exact .inl (a.from hn)
 ·exact .inr ⟨hz,hl,k,rfl,hp,by omega,h2,h3⟩
def kerS (ll:List (List (Nat×Nat))):Prop:=1≤ll.length∧ll.length≤60 ∧ ∀x∈ll,x.length=ll.length∧(∃S,smR S x) ∧ ∃q∈x,0<q.1
abbrev pI (p:List Nat):List Int:=p.map fun n:Nat=>((n:Nat):Int)
theorem TQ {ll:List (List (Nat×Nat))} (h1:1≤ll.length) (h2:ll.length≤60) (h : ∀x∈ll,x.length=ll.length∧Ih x):kerS ll∧df ll :=
 ⟨⟨h1,h2,fun x hx=>⟨(h x hx).1,(h x hx).2.2⟩⟩,h1,h2,fun x hx=>⟨(h x hx).1,(h x hx).2.1⟩⟩








def vH (P:Program) (f:FuncId) (nt:Nat) (run:Fr→IH→Out) (c:Code):Prop :=
 (∀fr h e fr' h',run fr h=some (e,fr',h')→h.n≤h'.n) ∧ ∀(b:Frame) (z B:Nat) (w0:World) (cs:List Frame),b.fn=f→rV (E0 P) run b none B w0 z nt cs c
theorem pe {E:Env} (S:Sound E) (n:Nat) (f:FuncId) (nt:Nat) (c:Code):vH E.P f nt (evC E (bU E n) f nt none n c) c:=by
 refine⟨fun fr h e fr' h' hr=>sN (gN S n) _ _ _ _ _ _ hr,fun b z B w0 cs hb=>?_⟩
 subst hb
 exact uy (E:=E) (ot S n) (gN S n) S.mixed n c
def MP (ra rb:Fr→IH→Out):Fr→IH→Out:=fun fr h=>match ra fr h with
 | some (.normal,fr,h)=>rb fr h
 | o=>o
theorem xE {P:Program} {f:FuncId} {nt:Nat} {ra rb:Fr→IH→Out} {x y:Code} (hx:vH P f nt ra x) (hy:vH P f nt rb y):vH P f nt (MP ra rb) (.seq x y):=by
 refine⟨fun fr h e fr' h' hr=>?_,fun b z B w0 cs hb=>?_⟩
 ·unfold MP at hr
  split at hr
  ·rename_i hx1
   exact Nat.le_trans (hx.1 _ _ _ _ _ hx1) (hy.1 _ _ _ _ _ hr)
  ·exact hx.1 _ _ _ _ _ hr
 ·intro fr h e fr' h' hr m w tmps k ds R hf ht hfr hfo hd hz
  unfold MP at hr
  split at hr
  ·rename_i fr1 h1 hx1
   have n1:=hx.1 _ _ _ _ _ hx1
   have n2:=hy.1 _ _ _ _ _ hr
   obtain⟨m1,w1,cE,ds1,k1,a1,a2,a3,a4,a5,a6,a7⟩:=hx.2 b z B w0 cs hb fr h .normal fr1 h1 hx1 m w tmps (.code y :: k) ds R hf ht (hfr.sub (Nat.le_refl _) n2) hfo hd hz
   obtain rfl:k1=_:=a2
   refine .first (.head qo a1) (.step a6 ?_)
   exact hy.2 b z B w0 cs hb fr1 h1 e fr' h' hr m1 w1 cE k ds1 a5 a3 a4 (a6.fresh hfr) (hfo.mono a6.le) a7 (Nat.le_trans hz a6.size)
  ·rename_i hne
   cases e with
   | normal=>exact absurd hr (hne _ _)
   | exit i=>exact .first (.one qo) ((hx.2 b z B w0 cs hb fr h _ _ _ hr m w tmps (.code y :: k) ds R hf ht hfr hfo hd hz).out (by simp) (fun i _=>rfl))
   | ret=>exact .first (.one qo) ((hx.2 b z B w0 cs hb fr h _ _ _ hr m w tmps (.code y :: k) ds R hf ht hfr hfo hd hz).out (by simp) (fun i hi=>by cases hi))
theorem Bd {P:Program} {f:FuncId} {fn:Func} {c:Code} {run:Fr→IH→Out} (hfn:P.funcs[f]?=some fn) (hc:fn.body=some c) (F:vH P f fn.ntmps run c) {args:List Value} {h h1:IH} {e:bf} {fr1:Fr} {vs:List Value}
  (Lo:args.length≤fn.ntmps) (hx:run (dD 0 args) h=some (e,fr1,h1)) (hne : ∀i,e≠.exit i) (hvs:bd P fr1 h1 fn.results.toList=some vs)
  {B:Nat} {w0:World} {m:Mp} {w:World} {args':Array Value} (R:Rel B w0 m h w) (fV:bm m args args'.toList) (hfr:eo m h.n h1.n):kh P f args' B w0 m h w (single vs) h1:=by
 have hsz:args'.size=args.length:=by rw[fV.1];simp
 intro cs
 let b:Frame:={ fn:=f,tmps:=#[],todo:=[],defers:=[],mode:=.run,kind:=.normal,roundOf:=none }
 let tmps:Array Value:=args' ++ Array.replicate (fn.ntmps - args'.size) undef
 have hen:Frame.enter P f args' .normal=on b tmps [.code c] []:=by
  simp[Frame.enter,hfn,hc,on,b,tmps]
 have QL:dG m (dD 0 args) tmps:=by
  intro t u hu
  rw[pg] at hu
  simp only[Nat.zero_le,if_true,Nat.sub_zero] at hu
  obtain⟨u',h2,h3⟩:=fV.get hu
  have h4:args'[t]?=some u':=by simpa using h2
  refine⟨u',?_,h3⟩
  have:=(Array.getElem?_eq_some_iff.1 h4).1
  rw[Array.getElem?_append_left this,h4]
 have WK:fn.ntmps≤tmps.size:=by simp[tmps];omega
 obtain⟨m1,w1,cE,ds1,k1,a1,a2,a3,a4,a5,a6,a7⟩:=F.2 b w.heap.size B w0 cs rfl _ _ _ _ _ hx m w tmps [] [] R QL WK hfr (.inl ⟨rfl,rfl⟩) (kJ.nil _ _ _ _) (Nat.le_refl _)
 obtain⟨rs,d1,d2,d3⟩:=a7
 have tM : ∃todo,step P (lone (on b cE k1 ds1) cs w1)=.next (lone { on b cE todo ds1 with mode:=.returning } cs w1):=by
  cases e with
  | normal=>obtain rfl:k1=_:=a2;exact⟨_,stepR_end (b:=b) (a:=⟨cE,ds1⟩) rfl⟩
  | exit i=>exact absurd rfl (hne i)
  | ret=>obtain⟨k2,rfl⟩:=a2;exact⟨_,stepR_ret (b:=b) (a:=⟨cE,ds1⟩) rfl⟩
 obtain⟨todo,tM⟩:=tM
 obtain⟨w2,b1,b2,b3,b4⟩:=oI (P:=P) R.size rs { on b cE todo ds1 with mode:=.returning } cs w1 rfl d1 d2 d3 a5
 obtain⟨v',r1,r2⟩:=xl b2 a3 hvs
 refine⟨.returned v',w2,{ on b cE todo ds1 with mode:=.returning,defers:=[] },⟨v',m1,rfl,r2,b2,?_⟩,?_,?_,?_⟩
 ·refine⟨a6.le,a6.new,a6.n,a6.base,fun r hr hk=>?_,a6.idle,by rw[b3];exact a6.size,a6.img,a6.mT⟩
  rw[b4 r (fun hm=>by have:=(d3 r hm).1;omega)]
  exact a6.frame r hr hk
 ·exact(by rw[hen];exact a1.trans (.head tM b1):Steps P (lone (Frame.enter P f args' .normal) cs w) _)
 ·rfl
 ·exact⟨rfl,rfl,rfl,fn,hfn,r1⟩
end Go.Id
namespace Go.Id
open Go Go.RowKit
def partAt:Code→Nat→Code
 | .seq a _,0=>a
 | .seq _ b,n+1=>partAt b n
 | c,_=>c
def Il:Code→Nat→Code
 | c,0=>c
 | .seq _ b,n+1=>Il b n
 | c,_=>c
theorem Ix {P:Program} {tb:FuncId→Option (List Value→Option Value)} (S0:Sound (E0 P)) (S1:Sound (E1 P tb)) {f:FuncId} {fn:Func} {a b rest:Code} {rs:List ResultVar} {nt:Nat} (hfn:P.funcs[f]?=some fn) (hc:fn.body=some (.seq a (.seq b rest))) (hrs:fn.results.toList=rs) (hnt:fn.ntmps=nt)
  {args:List Value} {base:Nat→Option (List Value)} {A:Nat→Nat×Nat} (hlen:args.length≤nt) {fra fr1:Fr} {ha h1:IH} {n:Nat}
  (ea:evC (E1 P tb) (bU (E1 P tb) n) f nt none n a (dD 0 args) (IH.start base)=some (.normal,fra,ha))
  (eb:evC (E1 P tb) (bU (E1 P tb) n) f nt none n b fra ha=some (.normal,fr1,h1))
  (w:Do (wpC P f nt none rest fr1 h1) (MW P rs fun r _=>r=.bool true) nx)
  {W:World} {args':Array Value} (hb:JQ A base W) (fV:bm (Mp.lg A) args args'.toList):Calls P f args' W fun e W'=>e=.returned (.bool true)∧Below W.heap.size W W':=by
 subst hrs hnt
 obtain⟨⟨e,fr2,h2⟩,⟨N,hN⟩,hq⟩:=fw w
 have hn:=hN N (Nat.le_refl _)
 have key : ∀(K:Prop),MW P fn.results.toList (fun r _=>r=.bool true) e fr2 h2→(∀vs,(∀i,e≠.exit i)→bd P fr2 h2 fn.results.toList=some vs→single vs=.bool true→K)→K:=by
  intro K hr k
  cases e with
  | exit i=>exact hr.elim
  | normal=>obtain⟨l,h3,h4⟩:=(hr:Ex _ _);exact k l (fun i h=>by cases h) h3 h4
  | ret=>obtain⟨l,h3,h4⟩:=(hr:Ex _ _);exact k l (fun i h=>by cases h) h3 h4
 refine key _ hq fun vs hne hvs hs=>?_
 have F:=xE (pe S1 n f fn.ntmps a) (xE (pe S1 n f fn.ntmps b) (pe S0 N f fn.ntmps rest))
 have hx:MP (evC (E1 P tb) (bU (E1 P tb) n) f fn.ntmps none n a) (MP (evC (E1 P tb) (bU (E1 P tb) n) f fn.ntmps none n b) (evC (E0 P) (bU (E0 P) N) f fn.ntmps none N rest)) (dD 0 args) (IH.start base)=some (e,fr2,h2):=by
  unfold MP
  rw[ea]
  show(match evC (E1 P tb) (bU (E1 P tb) n) f fn.ntmps none n b fra ha with|some (.normal,fr,h)=>_|o=>o)=_
  rw[eb]
  exact hn
 refine(Bd hfn hc F hlen hx hne hvs (Rel.start hb) fV (fun k _ _=>Mp.um A k)).mono fun e w' ⟨v',m',he,hv,R,_⟩=>?_
 rw[hs] at hv
 rw[he,hv.cj rfl]
 exact⟨rfl,R.below⟩
end Go.Id
namespace Go.Id
open Go
section
variable {h:IH} {fr:Fr} {vN:Value} {lN:List Nat} {sz bx cx s:Nat} {from_ steps:Nat}
end

section
variable {h:IH} {fr:Fr} {m k e3 v18:Value} {X N:Nat}
structure WX (hh:IH) (fr:Fr) (m v12 v18:Value) (ll:List (List (Nat×Nat))) (N kn:Nat) (p t:List Nat):Prop where
 f9:ab fr 9=some m
 f11:ab fr 11=some (KN N)
 f12:ab fr 12=some v12
 f18:ab fr 18=some v18
 f19:ab fr 19=some (KN kn)
 hm:jt hh m ll
 sp:bJ hh 1 v12 (N+1) ((pI p).map KI)
 st:bJ hh 1 v18 (N+1) ((pI t).map KI)
end
theorem Wu {h:IH} (n d:Int) (hn:fR n) (hd:fR d) (d0:d≠0):WV Proofs.Tryz.prog (.func (.func 25) #[] #[]) [KI n,KI d] h fun r h'=>Ext h h'∧r=hZ (Rat.divInt n d):=by
 refine enter (nt:=14) (rs:=[.cell 4 32]) Proofs.Tryz.func25 rfl rfl rfl (by simp) ?_
 simp -dsimp (disch:=omega) only[wpS,Nat.reduceEqDiff,Nat.reduceAdd,gC]
 have E1:Ext h (h.new (.cells Z16 0 none)):=(Ext.refl h).new _
 have g1:(h.new (.cells Z16 0 none)).ext.get h.n=some (.cells Z16 0 none):=by simp (disch:=omega) only[ah]
 refine call (Kh n d hn hd d0) ?_
 rintro _ h1 ⟨X1,rfl⟩
 have m1:=X1.n
 simp only[aI] at m1
 have k1:=X1.kept (by simp) g1
 simp -dsimp (disch:=omega) only[wpS,wpT,Nat.reduceEqDiff,Nat.reduceLeDiff,Nat.reduceAdd,gC,ed,bY,k1,aB,au,aY,bC,aO]
 exact⟨(((E1.trans X1).new _).put (by omega) _).put (by omega) _,rfl⟩
theorem jt.nc {h:IH} {v:Value} {ll:List (List (Nat×Nat))} (s:jt h v ll) {i:Nat} {x:List (Nat×Nat)} (hx:ll[i]?=some x) :
  ∃w,(∀h',aJ h h'→load Proofs.Tryz.prog h' 61 (aM v i)=some w)∧iT h w x ∧ ∀k:IntKind,indexAddr Proofs.Tryz.prog 38 v (.int k (i:Int))=some (aM v i):=by
 obtain⟨vs,a,b,c⟩:=s
 obtain⟨w,h1,h2⟩:=c i x hx
 have hi:=(List.getElem?_eq_some_iff.1 hx).1
 refine⟨w,fun h' e=>?_,h2,fun k=>by rw[a.idx Z7 hi,Nat.mul_one]⟩
 rw[a.ld e (by rw[a.2.1];omega) XP]
 exact h1
section
variable {h:IH} {fr:Fr} {m v12 v18:Value} {X N kn:Nat} {ll:List (List (Nat×Nat))} {p t:List Nat}
end
structure FJ (hh H:IH) (fr:Fr) (v v7 out v10:Value) (n i d e b11:Nat) (g:Nat→Rat) (cs:List Value):Prop where
 E:Ext hh H
 rb:rh H 4 hh.n v10 n cs
 done : ∀k,k<e→kU bg H cs k (g k)
 b1:hh.n<b11
 b2:b11<H.n
 box : ∃a s b u,H.ext.get b11=some (.cells [a,s,b,u] 0 none)∧bg H (.agg #[a,s,b,u]) (nw g i d)
 f0:ab fr 0=some v
 f7:ab fr 7=some v7
 f8:ab fr 8=some out
 f9:ab fr 9=some (KN i)
 f10:ab fr 10=some v10
 f11:ab fr 11=some (ptr (2*b11) 0)
 f35:ab fr 35=some (KN n)
 f36:ab fr 36=some (KN i)
 f44:ab fr 44=some (KN n)
theorem RR (x y:Rat):(if x<y then (-1:Int) else if x=y then 0 else 1)<0↔x<y:=by
 by_cases h:x<y
 ·rw[if_pos h];exact⟨fun _=>h,fun _=>by omega⟩
 ·rw[if_neg h]
  refine⟨fun k=>?_,fun k=>absurd k h⟩
  split at k<;>omega
end Go.Id
