/-
  Contracts: reference 33: drafted kernels.
-/
import Derived.Test.YtnnmjocmapilaaaGreatOutlierRisesAv
set_option linter.unusedVariables false
set_option linter.unusedSimpArgs false
set_option linter.defProp false
set_option linter.deprecated false
namespace Go.Id
open Go
open Go.Proofs.Tryz (prog)
open Nat renaming reduceAdd→zA,reduceEqDiff→zE,reduceLeDiff→zL
set_option maxHeartbeats 16000000
theorem C8 (l:List (Nat×Nat)) (p:Nat×Nat):shL (l ++ [p])=shL l ++ shC p.1 p.2:=by simp[shL]
theorem Bn (s:Nat) : ∀(l:List Nat) (a:Rat),(l.map fun y=>Rat.divInt (y:Nat) (s:Nat)).foldl (· + ·) a=a+Rat.divInt (l.sum:Nat) (s:Nat)
 | [],a=>by
  rw[List.map_nil,List.foldl_nil,List.sum_nil,show(((0:Nat):Int))=0 from rfl,Rat.zero_divInt,Rat.add_zero]
 | x :: l,a=>by
  rw[List.map_cons,List.foldl_cons,Bn s l,List.sum_cons,Rat.divInt_eq_div,Rat.divInt_eq_div,Rat.divInt_eq_div]
  have e:(((x+l.sum:Nat):Int):Rat)=((x:Int):Rat)+((l.sum:Int):Rat):=by
   rw[←Rat.intCast_add];rfl
  rw[e]
  grind
variable {ys:List Nat}
theorem Vg (h0:0<ys.sum) (hb:ys.sum≤1000) (hy : ∀y∈ys,y≤1000):mB (ys.map fun y=>shq (Rat.divInt (y:Nat) (ys.sum:Nat))):=by
 have hq : ∀y∈ys,QW (Rat.divInt (y:Nat) (ys.sum:Nat)):=fun y h=>by
  have:=hy y h
  exact gX ⟨by omega,by omega⟩ ⟨by omega,by omega⟩ (by omega)
 refine⟨fun p hp=>?_,?_⟩
 ·obtain⟨y,hm,rfl⟩:=List.mem_map.1 hp
  obtain⟨e1,e2⟩:=bX (hq y hm)
  rintro(hb|hb)
  ·exact hb e2
  ·have e3:wdI (shq (Rat.divInt (y:Nat) (ys.sum:Nat))).1=(Rat.divInt (y:Nat) (ys.sum:Nat)).num:=cB (hq y hm).1
   rw[e3] at hb
   have:0≤Rat.divInt (y:Nat) (ys.sum:Nat):=Rat.divInt_nonneg (by omega) (by omega)
   have:=Rat.num_nonneg.2 this
   omega
 ·have e:(ys.map fun y=>shq (Rat.divInt (y:Nat) (ys.sum:Nat))).map rOf=ys.map fun y=>Rat.divInt (y:Nat) (ys.sum:Nat):=by
   rw[List.map_map]
   exact List.map_congr_left fun y hm=>(bX (hq y hm)).1
  rw[e]
  unfold gi
  rw[Bn,Rat.divInt_eq_div,Rat.zero_add]
  have hne:(((ys.sum:Nat):Int):Rat)≠0:=fun h=>by
   have:((ys.sum:Nat):Int)=0:=Rat.intCast_inj.1 h
   omega
  grind
def smR (S:Nat) (l:List (Nat×Nat)):Prop:=0<S∧S≤1000 ∧ ∀p∈l,p.1≤1000∧0<p.2∧p.2∣S
def Jt (l:List (Nat×Nat)):Prop:=mB l∧(∃S,smR S l) ∧ ∃q∈l,0<q.1
theorem v9 {y S:Nat} (hS:0<S) : ∃m:Nat,0<m∧(y:Int)=(Rat.divInt (y:Nat) (S:Nat)).num*m∧S=(Rat.divInt (y:Nat) (S:Nat)).den*m:=by
 obtain⟨q,hq⟩:=aT (Rat.divInt (y:Nat) (S:Nat))
 obtain⟨m,_,e1,e2⟩:=Rat.divInt_num_den (n:=(y:Int)) (d:=(S:Int)) (n':=q.num) (d':=q.den) (z':=q.den_nz) (c:=q.reduced) (by omega) (by rw[←hq])
 rw[←hq]
 have dp:0<q.den:=q.den_pos
 have m0:0<m:=by
  apply Classical.byContradiction
  intro hn
  have:(q.den:Int)*m≤0:=Int.mul_nonpos_of_nonneg_of_nonpos (by omega) (by omega)
  omega
 obtain⟨k,rfl⟩:=Int.eq_ofNat_of_zero_le (Int.le_of_lt m0)
 exact⟨k,by omega,e1,by exact_mod_cast e2⟩
theorem O6 (h : ∀y∈ys,y=0):ys.sum=0:=by
 induction ys with
 | nil=>rfl
 | cons a l ih=>rw[List.sum_cons,h a (by simp),ih fun y hy=>h y (by simp[hy])]
theorem HW (h0:0<ys.sum) (hb:ys.sum≤1000) (hy : ∀y∈ys,y≤1000):Jt (ys.map fun y=>shq (Rat.divInt (y:Nat) (ys.sum:Nat))):=by
 have key : ∀y,y≤1000 → ∃m:Nat,0<m∧y=(shq (Rat.divInt (y:Nat) (ys.sum:Nat))).1*m∧ys.sum=(shq (Rat.divInt (y:Nat) (ys.sum:Nat))).2*m:=fun y hy1=>by
  obtain⟨m,m0,e1,e2⟩:=v9 (y:=y) h0
  have n0:0≤(Rat.divInt (y:Nat) (ys.sum:Nat)).num:=Rat.num_nonneg.2 (Rat.divInt_nonneg (by omega) (by omega))
  obtain⟨k,hk⟩:=Int.eq_ofNat_of_zero_le n0
  refine⟨m,m0,?_,?_⟩
  ·show y=aY _*m
   rw[Gn n0,hk,Int.toNat_natCast]
   rw[hk] at e1
   exact_mod_cast e1
  ·show ys.sum=aY ((Rat.divInt (y:Nat) (ys.sum:Nat)).den:Int)*m
   rw[Gn (by omega),Int.toNat_natCast]
   exact e2
 refine⟨Vg h0 hb hy,⟨ys.sum,h0,hb,fun p hp=>?_⟩,?_⟩
 ·obtain⟨y,hm,rfl⟩:=List.mem_map.1 hp
  have y1:=hy y hm
  obtain⟨m,m0,e1,e2⟩:=key y y1
  refine⟨?_,?_,⟨m,e2⟩⟩
  ·have:=Nat.le_mul_of_pos_right (shq (Rat.divInt (y:Nat) (ys.sum:Nat))).1 m0
   omega
  ·apply Nat.pos_of_ne_zero
   intro hz
   rw[hz,Nat.zero_mul] at e2
   omega
 ·have : ∃y∈ys,0<y:=by
   apply Classical.byContradiction
   intro hn
   have hz : ∀y∈ys,y=0:=fun y hy=>Nat.eq_zero_of_not_pos fun h=>hn ⟨y,hy,h⟩
   have:ys.sum=0:=O6 hz
   omega
  obtain⟨y,hm,y0⟩:=this
  refine⟨_,List.mem_map.2 ⟨y,hm,rfl⟩,?_⟩
  obtain⟨m,m0,e1,e2⟩:=key y (hy y hm)
  apply Nat.pos_of_ne_zero
  intro hz
  rw[hz,Nat.zero_mul] at e1
  omega
theorem LD (ys:List Nat) (i:Nat) (hi:i<ys.length) (h0:ys.sum=0):(ys.set i 1).sum=1:=by
 induction ys generalizing i with
 | nil=>simp at hi
 | cons a l ih =>
  rw[List.sum_cons] at h0
  cases i with
  | zero=>rw[List.set_cons_zero,List.sum_cons];omega
  | succ i =>
   rw[List.set_cons_succ,List.sum_cons,ih i (by simpa using hi) (by omega)];omega
theorem HZ (l:List Int) (i:Nat) (x:Int) (hi:i<l.length):IH.aJ (l.map KI) (i*1) [KI x]=(l.set i x).map KI:=by
 rw[Nat.mul_one]
 simp only[IH.aJ,List.map_set,List.length_singleton]
 rw[List.set_eq_take_append_cons_drop,if_pos (by simpa using hi)]
 rfl
theorem KD {h:IH} {sz:Nat} {v:Value} {lN:List Nat} (hv:xK h v lN) (hsz:sz<256) :
  WV prog (.func (.func 8) #[] #[]) [.agg #[B8 sz,v]] h fun r h'=>Ext h h' ∧ ∃ll,ji h' r ll∧ll.length=1+sz % 4 ∧ ∀x∈ll,x.length=1+sz % 4∧Jt x:=by
 have cv:=hv.1.cells
 have co:=hv.1.cok
 have lv:=hv.2.1
 obtain⟨n,hn⟩:=aT (1+sz % 4)
 have nb4:1≤n∧n≤4:=by omega
 rw[←hn]
 have g0:(h.new (.cells [B8 sz,v] 0 none)).ext.get h.n=some (.cells [B8 sz,v] 0 none):=by simp (disch:=omega) only[ah]
 have E0:Ext h (h.new (.cells [B8 sz,v] 0 none)):=(Ext.refl h).new _
 obtain⟨Hb,hHb⟩:=aT (h.new (.cells [B8 sz,v] 0 none))
 have nb:Hb.n=h.n+1:=by rw[hHb];rfl
 have hr : ∀ox oy,binop prog .rem 5 ox oy (B8 sz) (.int .u8 4)=some (.int .u8 ((sz % 4:Nat):Int)):=fun ox oy=>Am _ _ .u8 ox oy sz 4 (by omega)
 have en:(1:Int)+((sz % 4:Nat):Int)=(n:Int):=by omega
 refine enter (nt:=84) (rs:=[.tmp 2]) Proofs.Tryz.func8 rfl rfl rfl (by simp) ?_
 rw[←hHb] at g0 E0
 simp -dsimp (disch:=omega) only[wpS,zE,Y8,ld5,Iu,hr,en]
 rw[←hHb]
 clear hHb
 refine loop (fun m fr hh => ∃(i:Nat) (out:Value) (vs:List Value) (ll:List (List (Nat×Nat))),i+m=n∧ll.length=i∧vs.length=i∧Ext Hb hh∧Acc hh Hb.n 1 out i vs∧(∀(k:Nat) x,ll[k]?=some x → ∃w,vs[k]?=some w∧gw hh w x)∧(∀x∈ll,x.length=n∧Jt x)∧ab fr 1=some (ptr (2*h.n) 0)∧ab fr 3=some (KN n)∧ab fr 4=some out∧ab fr 5=some (KN i)) n
  ⟨0,.slice none 0 0,[],[],by omega,rfl,rfl,Ext.refl _,Acc.nil _ _ (by omega),fun k x hx=>by simp at hx,fun x hx=>by simp at hx,by simp⟩ ?_
 rintro m fr hh ⟨i,out,vs,ll,him,hil,hvl,hE,hA,hll,hro,f1,f3,f4,f5⟩
 have hg:=hE.kept (by omega) g0
 have hnn:=hE.n
 have hEh:=E0.trans hE
 simp -dsimp (disch:=omega) only[wpS,zE,f3,f5]
 refine au ?_ ?_<;>intro hc<;>simp only[decide_eq_true_eq,decide_eq_false_iff_not] at hc
 ·have hin:i<n:=by omega
  simp -dsimp (disch:=omega) only[wpS,wpT]
  refine loop (fun m2 fr h2 => ∃(j:Nat) (o2:Value) (xs:List Nat),j+m2=n∧xs.length=j∧(∀x∈xs,x<6)∧Ext hh h2∧Acc h2 hh.n 1 o2 xs.length (xs.map KN)∧ab fr 1=some (ptr (2*h.n) 0)∧ab fr 3=some (KN n)∧ab fr 4=some out∧ab fr 5=some (KN i)∧ab fr 6=some o2∧ab fr 7=some (KN xs.sum)∧ab fr 8=some (KN j)) n
   ⟨0,.slice none 0 0,[],by omega,rfl,(fun x hx=>by cases hx),Ext.refl _,Acc.nil _ _ (by omega),by simp[f1,f3,f4,f5]⟩ ?_
  clear f1 f3 f4 f5
  rintro m2 fr h2 ⟨j,o2,xs,hjm,hjl,hx6,hE2,hA2,f1,f3,f4,f5,f6,f7,f8⟩
  have hg2:=hE2.kept (by omega) hg
  have hn2:=hE2.n
  have hEh2:=hEh.trans hE2
  have Ig:xs.sum≤6*xs.length:=by
   clear hA2 f7 hjl hjm
   induction xs with
   | nil=>simp
   | cons a l ih =>
    rw[List.sum_cons,List.length_cons]
    have:=hx6 a (by simp)
    have:=ih fun x hx=>hx6 x (by simp[hx])
    omega
  simp -dsimp (disch:=omega) only[wpS,zE,f3,f8]
  refine au ?_ ?_<;>intro hc2<;>simp only[decide_eq_true_eq,decide_eq_false_iff_not] at hc2
  ·have hjn:j<n:=by omega
   have enm:(n:Int)*(i:Int)=((n*i:Nat):Int):=(Int.natCast_mul _ _).symm
   have hni:n*i≤4*4:=Nat.mul_le_mul nb4.2 (by omega)
   obtain⟨t,ht⟩:=aT (n*i+j)
   have et:((n*i:Nat):Int)+(j:Int)=(t:Int):=by omega
   have fin : ∀y:Nat,y<6 → ∀fr':Fr,ab fr' 1=some (ptr (2*h.n) 0)→True:=fun _ _ _ _=>trivial
   by_cases c:t<lN.length
   ·obtain⟨x,hx⟩:=iC (l:=lN) (i:=t) c
    have xb:=hv.2.2 x (List.mem_of_getElem? hx)
    have hr6 : ∀ox oy,binop prog .rem 5 ox oy (B8 x) (.int .u8 6)=some (.int .u8 ((x % 6:Nat):Int)):=fun ox oy=>Am _ _ .u8 ox oy x 6 (by omega)
    obtain⟨y,hy⟩:=aT (x % 6)
    have yb:y<6:=by omega
    rw[←hy] at hr6
    obtain⟨ef,h8,hap,hA8,hG8,hE8⟩:=hA2.FU (P:=prog) (t:=25) FV (x:=KN y) rfl (by omega) (by omega) hE2 (by omega)
    simp -dsimp (disch:=omega) only[wpS,wpT,zE,zL,zA,Iu,Fv,Vf,Ca,l6,f1,f3,f5,f6,f7,f8,enm,et,aj hg2,hv.1.len Us,hv.1.idx es22 c,hv.ld hEh2.aa hx,hr6,hap]
    refine⟨m2 - 1,by omega,j+1,ef,xs ++ [y],by omega,by simp[hjl],?_,hE8,?_,by simp[f1],by simp[f3],by simp[f4],by simp[f5],by simp,?_,by simp⟩
    ·intro q hq
     rcases List.mem_append.1 hq with hq|hq
     ·exact hx6 q hq
     ·rw[List.mem_singleton.1 hq];exact yb
    ·rw[List.map_append,List.length_append];exact hA8
    ·simp[List.sum_append]
   ·obtain⟨ef,h8,hap,hA8,hG8,hE8⟩:=hA2.FU (P:=prog) (t:=25) FV (x:=KI 0) rfl (by omega) (by omega) hE2 (by omega)
    simp -dsimp (disch:=omega) only[wpS,wpT,zE,zL,zA,Fv,Vf,Ca,l6,f1,f3,f5,f6,f7,f8,enm,et,aj hg2,hv.1.len Us,hap]
    refine⟨m2 - 1,by omega,j+1,ef,xs ++ [0],by omega,by simp[hjl],?_,hE8,?_,by simp[f1],by simp[f3],by simp[f4],by simp[f5],by simp,?_,by simp⟩
    ·intro q hq
     rcases List.mem_append.1 hq with hq|hq
     ·exact hx6 q hq
     ·rw[List.mem_singleton.1 hq];decide
    ·rw[List.map_append,List.length_append];exact hA8
    ·simp[List.sum_append]
  ·have hxn:xs.length=n:=by omega
   clear hc2
   by_cases c0:xs.sum=0
   ·have dz:(((xs.sum:Nat):Int) == 0)=true:=by simp[c0]
    have hix:i<xs.length:=by omega
    obtain⟨h3,st0,A3,e3,n3⟩:=hA2.XT (P:=prog) (t:=3) sz3 hix (x:=KI 1) (xs:=[KI 1]) rfl rfl rfl hE2 (Nat.le_refl _)
    have st:store prog h2 3 (aP o2 i) (.int .i64 1)=some h3:=by rw[Nat.mul_one] at st0;exact st0
    have ix:=hA2.sl.idx (P:=prog) (k:=.i64) j6 hix
    have A3':Acc h3 hh.n 1 o2 n ((xs.set i 1).map KN):=by
     have e:IH.aJ (xs.map KN) (i*1) [KI 1]=(xs.set i 1).map KN:=by
      have:=HZ (xs.map fun y:Nat=>(y:Int)) i 1 (by simpa using hix)
      rw[List.map_map] at this
      rw[show(xs.map KN)=xs.map (KI ∘ fun y:Nat=>(y:Int)) from rfl,this,List.map_set,List.map_map,List.map_set]
      rfl
     rw[←e,←hxn];exact A3
    have hsv:(xs.set i 1).sum=1:=LD xs i hix c0
    have hy6 : ∀y∈xs.set i 1,y≤1000:=fun y hy=>(List.mem_or_eq_of_mem_set hy).elim (fun h=>by have:=hx6 y h;omega) (fun h=>by omega)
    have hyl:(xs.set i 1).length=n:=by rw[List.length_set];exact hxn
    obtain⟨s,hs⟩:=aT ((xs.set i 1).sum)
    have hs1:(s:Int)=1:=by rw[hs,hsv];rfl
    have hsb:0<s∧s≤100:=by rw[hs,LD xs i (by omega) c0];exact⟨by omega,by omega⟩
    have A3:Acc h3 hh.n 1 o2 n ((xs.set i 1).map KN):=A3'
    have E3:Ext hh h3:=e3
    have hn3:=E3.n
    have sO:ZO h3 o2 ((xs.set i 1).map fun y:Nat=>(y:Int)):=⟨by rw[List.length_map,hyl,List.map_map];exact A3.sl,by rw[List.length_map];omega,fun x hx=>by
     obtain⟨y,hy,rfl⟩:=List.mem_map.1 hx
     have:=hy6 y hy
     constructor<;>omega⟩
    obtain⟨ys,hys⟩:=aT (xs.set i 1)
    rw[←hys] at hy6 hyl hs sO
    simp -dsimp (disch:=omega) only[wpS,wpT,zE,f5,f6,f7,ix,st,dz]
    refine loop (fun m4 fr h4 => ∃(j:Nat) (o3:Value),j+m4=n∧Ext h3 h4∧Acc h4 h3.n 16 o3 j (shL ((ys.take j).map fun y=>shq (Rat.divInt (y:Nat) (s:Nat))))∧ab fr 1=some (ptr (2*h.n) 0)∧ab fr 3=some (KN n)∧ab fr 4=some out∧ab fr 5=some (KN i)∧ab fr 6=some o2∧ab fr 7=some (KN s)∧ab fr 10=some o3∧ab fr 11=some (KN j)) n
     ⟨0,.slice none 0 0,by omega,Ext.refl _,Acc.nil _ _ (by omega),by simp[f1,f3,f4,f5,f6,hs1]⟩ ?_
    clear f1 f3 f4 f5 f6 f7 f8
    rintro m4 fr h4 ⟨j,o3,hjm4,hE4,hA4,f1,f3,f4,f5,f6,f7,f10,f11⟩
    have hn4:=hE4.n
    have qwy : ∀y∈ys,QW (Rat.divInt (y:Nat) (s:Nat)):=fun y hy=>by
     have:=hy6 y hy
     exact gX ⟨by omega,by omega⟩ ⟨by omega,by omega⟩ (by omega)
    simp -dsimp (disch:=omega) only[wpS,zE,f3,f11]
    refine au ?_ ?_<;>intro hc4<;>simp only[decide_eq_true_eq,decide_eq_false_iff_not] at hc4
    ·have hj:j<ys.length:=by omega
     obtain⟨y,hy⟩:=iC (l:=ys) (i:=j) hj
     have hym:=List.mem_of_getElem? hy
     have yb:=hy6 y hym
     have hyi:(ys.map fun y:Nat=>(y:Int))[j]?=some (y:Int):=by rw[List.getElem?_map,hy];rfl
     have ixo:=sO.1.idx (P:=prog) (k:=.i64) j6 (j:=j) (by rw[List.length_map];exact hj)
     simp -dsimp (disch:=omega) only[wpS,wpT,zE,f6,f7,f11,ixo,MV sO hE4.aa hyi]
     refine call (pJ (y:Int) (s:Int) ⟨by omega,by omega⟩ ⟨by omega,by omega⟩ (by omega)) ?_
     rintro _ h5 ⟨X5,rfl⟩
     rw[bK]
     have pw:=gT (qwy y hym)
     obtain⟨p,hp⟩:=aT (shq (Rat.divInt (y:Nat) (s:Nat)))
     have etk:shL ((ys.take (j+1)).map fun y=>shq (Rat.divInt (y:Nat) (s:Nat)))=shL ((ys.take j).map fun y=>shq (Rat.divInt (y:Nat) (s:Nat))) ++ shC p.1 p.2:=by
      rw[eV hy,List.map_append,List.map_cons,List.map_nil,C8,hp]
     rw[←hp] at pw ⊢
     obtain⟨H6,hH6⟩:=aT ((h5.new (.cells Z16 0 none)).put h5.n (.cells (shC p.1 p.2) 0 none))
     have E6:Ext h5 H6:=by rw[hH6];exact((Ext.refl h5).new _).put (Nat.le_refl _) _
     have n6:H6.n=h5.n+1:=by rw[hH6];rfl
     have k6:H6.ext.get h5.n=some (.cells (shC p.1 p.2) 0 none):=by rw[hH6];simp (disch:=omega) only[ae]
     have m5:=X5.n
     simp -dsimp (disch:=omega) only[wpS,wpT,zE,zL,zA,fR,dF,aD,ax,aV,bg]
     rw[←hH6]
     clear hH6
     have E56:=X5.trans E6
     obtain⟨ef,h8,hap,hA8,hG8,hE8⟩:=(hA4.ext E56).tq (P:=prog) (t:=61) KX (m:=1) (new:=shC p.1 p.2) (by omega) (by rw[ax]) (aV _ _) (by omega) (by omega) (hE4.trans E56) (Nat.le_refl _)
     have xj:append prog (H6.new (.cells (shC p.1 p.2) 16 none)) 61 o3 (.slice (some ⟨2*H6.n,0,none⟩) 1 3)=some (ef,h8):=hap
     simp -dsimp (disch:=omega) only[wpS,wpT,zE,zL,zA,cq,B9,nR,f10,f11,aj k6,ax,aS,aD,bg,show(.agg (shC p.1 p.2).toArray:Value)=shV p.1 p.2 from rfl,xj]
     exact⟨m4 - 1,by omega,j+1,ef,by omega,hE8,by rw[etk];exact hA8,by simp[f1,f3,f4,f5,f6,f7]⟩
    ·have hjn:j=n:=by omega
     subst hjn
     rw[List.take_of_length_le (by omega)] at hA4
     obtain⟨l,hl⟩:=aT (ys.map fun y=>shq (Rat.divInt (y:Nat) (s:Nat)))
     have Sc:l.length=j:=by rw[hl,List.length_map,hyl]
     rw[←hl] at hA4
     have rok:Jt l:=by rw[hl,hs];exact HW (by omega) (by omega) hy6
     have S4:gw h4 o3 l:=⟨by rw[Sc];exact hA4.sl,by omega,fun p hp=>by
      rw[hl] at hp
      obtain⟨y,hy,rfl⟩:=List.mem_map.1 hp
      exact gT (qwy y hy)⟩
     have E34:=E3.trans hE4
     obtain⟨ef,h8,hap,hA8,hG8,hE8⟩:=(hA.ext E34).FU (P:=prog) (t:=38) ZD (x:=o3) S4.1.cok (by omega) (by omega) (hE.trans E34) (Nat.le_refl _)
     have xj:append prog (h4.new (.cells [o3] 1 none)) 38 out (.slice (some ⟨2*h4.n,0,none⟩) 1 3)=some (ef,h8):=hap
     simp -dsimp (disch:=omega) only[wpS,wpT,zE,zL,zA,Zx,FQ,f4,f5,f10,S4.1.cells,xj]
     refine⟨m - 1,by omega,i+1,ef,vs ++ [o3],ll ++ [l],by omega,by simp[hil],by simp[hvl],hE8,hA8,?_,?_,by simp[f1,f3]⟩
     ·intro k x hx
      by_cases hk:k<i
      ·rw[List.getElem?_append_left (by omega)] at hx
       obtain⟨w,c3,c4⟩:=hll k x hx
       exact⟨w,by rw[List.getElem?_append_left (by omega)];exact c3,c4.aa (E34.aa.trans hG8.aa)⟩
      ·have hki:k=i:=by
        have:=(List.getElem?_eq_some_iff.1 hx).1
        simp at this
        omega
       subst hki
       rw[List.getElem?_append_right (by omega),hil,Nat.sub_self] at hx
       simp at hx
       subst hx
       exact⟨o3,by rw[List.getElem?_append_right (by omega),hvl,Nat.sub_self];rfl,S4.aa hG8.aa⟩
     ·intro x hx
      rcases List.mem_append.1 hx with hx|hx
      ·exact hro x hx
      ·rw[List.mem_singleton.1 hx];exact⟨Sc,rok⟩

   ·have dz:(((xs.sum:Nat):Int) == 0)=false:=by simp;omega
    have hy6 : ∀y∈xs,y≤1000:=fun y hy=>by have:=hx6 y hy;omega
    have hyl:(xs).length=n:=hxn
    obtain⟨s,hs⟩:=aT ((xs).sum)
    have hsb:0<s∧s≤100:=⟨by omega,by omega⟩
    have A3:Acc h2 hh.n 1 o2 n ((xs).map KN):=by rw[←hxn];exact hA2
    have E3:Ext hh h2:=hE2
    have hn3:=E3.n
    have sO:ZO h2 o2 ((xs).map fun y:Nat=>(y:Int)):=⟨by rw[List.length_map,hyl,List.map_map];exact A3.sl,by rw[List.length_map];omega,fun x hx=>by
     obtain⟨y,hy,rfl⟩:=List.mem_map.1 hx
     have:=hy6 y hy
     constructor<;>omega⟩
    obtain⟨ys,hys⟩:=aT (xs)
    rw[←hys] at hy6 hyl hs sO
    simp -dsimp (disch:=omega) only[wpS,wpT,zE,f7,dz]
    refine loop (fun m4 fr h4 => ∃(j:Nat) (o3:Value),j+m4=n∧Ext h2 h4∧Acc h4 h2.n 16 o3 j (shL ((ys.take j).map fun y=>shq (Rat.divInt (y:Nat) (s:Nat))))∧ab fr 1=some (ptr (2*h.n) 0)∧ab fr 3=some (KN n)∧ab fr 4=some out∧ab fr 5=some (KN i)∧ab fr 6=some o2∧ab fr 7=some (KN s)∧ab fr 10=some o3∧ab fr 11=some (KN j)) n
     ⟨0,.slice none 0 0,by omega,Ext.refl _,Acc.nil _ _ (by omega),by simp[f1,f3,f4,f5,f6,f7,hs,hys]⟩ ?_
    clear f1 f3 f4 f5 f6 f7 f8
    rintro m4 fr h4 ⟨j,o3,hjm4,hE4,hA4,f1,f3,f4,f5,f6,f7,f10,f11⟩
    have hn4:=hE4.n
    have qwy : ∀y∈ys,QW (Rat.divInt (y:Nat) (s:Nat)):=fun y hy=>by
     have:=hy6 y hy
     exact gX ⟨by omega,by omega⟩ ⟨by omega,by omega⟩ (by omega)
    simp -dsimp (disch:=omega) only[wpS,zE,f3,f11]
    refine au ?_ ?_<;>intro hc4<;>simp only[decide_eq_true_eq,decide_eq_false_iff_not] at hc4
    ·have hj:j<ys.length:=by omega
     obtain⟨y,hy⟩:=iC (l:=ys) (i:=j) hj
     have hym:=List.mem_of_getElem? hy
     have yb:=hy6 y hym
     have hyi:(ys.map fun y:Nat=>(y:Int))[j]?=some (y:Int):=by rw[List.getElem?_map,hy];rfl
     have ixo:=sO.1.idx (P:=prog) (k:=.i64) j6 (j:=j) (by rw[List.length_map];exact hj)
     simp -dsimp (disch:=omega) only[wpS,wpT,zE,f6,f7,f11,ixo,MV sO hE4.aa hyi]
     refine call (pJ (y:Int) (s:Int) ⟨by omega,by omega⟩ ⟨by omega,by omega⟩ (by omega)) ?_
     rintro _ h5 ⟨X5,rfl⟩
     rw[bK]
     have pw:=gT (qwy y hym)
     obtain⟨p,hp⟩:=aT (shq (Rat.divInt (y:Nat) (s:Nat)))
     have etk:shL ((ys.take (j+1)).map fun y=>shq (Rat.divInt (y:Nat) (s:Nat)))=shL ((ys.take j).map fun y=>shq (Rat.divInt (y:Nat) (s:Nat))) ++ shC p.1 p.2:=by
      rw[eV hy,List.map_append,List.map_cons,List.map_nil,C8,hp]
     rw[←hp] at pw ⊢
     obtain⟨H6,hH6⟩:=aT ((h5.new (.cells Z16 0 none)).put h5.n (.cells (shC p.1 p.2) 0 none))
     have E6:Ext h5 H6:=by rw[hH6];exact((Ext.refl h5).new _).put (Nat.le_refl _) _
     have n6:H6.n=h5.n+1:=by rw[hH6];rfl
     have k6:H6.ext.get h5.n=some (.cells (shC p.1 p.2) 0 none):=by rw[hH6];simp (disch:=omega) only[ae]
     have m5:=X5.n
     simp -dsimp (disch:=omega) only[wpS,wpT,zE,zL,zA,fR,dF,aD,ax,aV,bg]
     rw[←hH6]
     clear hH6
     have E56:=X5.trans E6
     obtain⟨ef,h8,hap,hA8,hG8,hE8⟩:=(hA4.ext E56).tq (P:=prog) (t:=61) KX (m:=1) (new:=shC p.1 p.2) (by omega) (by rw[ax]) (aV _ _) (by omega) (by omega) (hE4.trans E56) (Nat.le_refl _)
     have xj:append prog (H6.new (.cells (shC p.1 p.2) 16 none)) 61 o3 (.slice (some ⟨2*H6.n,0,none⟩) 1 3)=some (ef,h8):=hap
     simp -dsimp (disch:=omega) only[wpS,wpT,zE,zL,zA,cq,B9,nR,f10,f11,aj k6,ax,aS,aD,bg,show(.agg (shC p.1 p.2).toArray:Value)=shV p.1 p.2 from rfl,xj]
     exact⟨m4 - 1,by omega,j+1,ef,by omega,hE8,by rw[etk];exact hA8,by simp[f1,f3,f4,f5,f6,f7]⟩
    ·have hjn:j=n:=by omega
     subst hjn
     rw[List.take_of_length_le (by omega)] at hA4
     obtain⟨l,hl⟩:=aT (ys.map fun y=>shq (Rat.divInt (y:Nat) (s:Nat)))
     have Sc:l.length=j:=by rw[hl,List.length_map,hyl]
     rw[←hl] at hA4
     have rok:Jt l:=by rw[hl,hs];exact HW (by omega) (by omega) hy6
     have S4:gw h4 o3 l:=⟨by rw[Sc];exact hA4.sl,by omega,fun p hp=>by
      rw[hl] at hp
      obtain⟨y,hy,rfl⟩:=List.mem_map.1 hp
      exact gT (qwy y hy)⟩
     have E34:=E3.trans hE4
     obtain⟨ef,h8,hap,hA8,hG8,hE8⟩:=(hA.ext E34).FU (P:=prog) (t:=38) ZD (x:=o3) S4.1.cok (by omega) (by omega) (hE.trans E34) (Nat.le_refl _)
     have xj:append prog (h4.new (.cells [o3] 1 none)) 38 out (.slice (some ⟨2*h4.n,0,none⟩) 1 3)=some (ef,h8):=hap
     simp -dsimp (disch:=omega) only[wpS,wpT,zE,zL,zA,Zx,FQ,f4,f5,f10,S4.1.cells,xj]
     refine⟨m - 1,by omega,i+1,ef,vs ++ [o3],ll ++ [l],by omega,by simp[hil],by simp[hvl],hE8,hA8,?_,?_,by simp[f1,f3]⟩
     ·intro k x hx
      by_cases hk:k<i
      ·rw[List.getElem?_append_left (by omega)] at hx
       obtain⟨w,c3,c4⟩:=hll k x hx
       exact⟨w,by rw[List.getElem?_append_left (by omega)];exact c3,c4.aa (E34.aa.trans hG8.aa)⟩
      ·have hki:k=i:=by
        have:=(List.getElem?_eq_some_iff.1 hx).1
        simp at this
        omega
       subst hki
       rw[List.getElem?_append_right (by omega),hil,Nat.sub_self] at hx
       simp at hx
       subst hx
       exact⟨o3,by rw[List.getElem?_append_right (by omega),hvl,Nat.sub_self];rfl,S4.aa hG8.aa⟩
     ·intro x hx
      rcases List.mem_append.1 hx with hx|hx
      ·exact hro x hx
      ·rw[List.mem_singleton.1 hx];exact⟨Sc,rok⟩

 ·have hin:i=n:=by omega
  subst hin
  simp -dsimp (disch:=omega) only[wpS,wpT,zE,f4]
  exact⟨hEh,ll,⟨vs,by rw[hil];exact hA.sl,by omega,hll⟩,hil,hro⟩
end Go.Id
namespace Go.Id
open Go
theorem VX:1000000000000<H8:=by unfold H8;decide +kernel
theorem XA {n:Nat} (hn:n≤1000000000000):wdI n=(n:Int):=T0 (Nat.lt_of_le_of_lt hn VX)
def Gro (h:IH) (n0 sz:Nat) (v:Value) (n:Nat) (cs:List Value):Prop:=Acc h n0 sz v n cs∨(0<sz∧cs.length=n*sz ∧ ∃k,v=.slice (some ⟨2*k,0,none⟩) n (2*n+1)∧0<n∧n0≤k∧k<h.n∧h.ext.get k=some (.cells cs sz none))
variable {v:Value}{h:IH}{sz n0:Nat}{cs:List Value}{n:Nat}
theorem Gro.sl (g:Gro h n0 sz v n cs):bH h sz v n cs:=by
 rcases g with a|⟨hz,hl,k,rfl,hn,h1,h2,h3⟩
 ·exact a.sl
 ·exact cI h3 h2 hz hl (by omega) (by omega)
theorem Gro.ext {h':IH} (g:Gro h n0 sz v n cs) (e:Ext h h'):Gro h' n0 sz v n cs:=by
 rcases g with a|⟨hz,hl,k,rfl,hn,h1,h2,h3⟩
 ·exact .inl (a.ext e)
 ·exact .inr ⟨hz,hl,k,rfl,hn,h1,by have:=e.n;omega,e.kept h2 h3⟩
variable {m:Nat}
theorem Gro.tq (g:Gro h n0 sz v n cs) {P:Program} {t:TypeId} {bytes:Nat} (hT:jh P t=some (sz,bytes)) {new:List Value} (hm:0<m) (hl:new.length=m*sz)
  (hc:new.all aB=true) (hsz:(n+m)*(bytes+1)≤1099511627776) (h0:n0≤h.n) {h0':IH} (e0:Ext h0' h) (hn0:h0'.n≤n0) :
  ∃v' h',append P (h.new (.cells new sz none)) t v (.slice (some ⟨2*h.n,0,none⟩) m (2*m+1))=some (v',h')∧Acc h' n0 sz v' (n+m) (cs ++ new)∧Grow h h'∧Ext h0' h':=by
 rcases g with a|⟨hz,hcl,k,rfl,hn,h1,h2,h3⟩
 ·exact a.tq hT hm hl hc hsz h0 e0 hn0
 ·have e1:Ext h (h.new (.cells new sz none)):=(Ext.refl h).new _
  have sv:bH h sz (.slice (some ⟨2*k,0,none⟩) n (2*n+1)) n cs:=cI h3 h2 hz hcl (by omega) (by omega)
  have sx:bH (h.new (.cells new sz none)) sz (.slice (some ⟨2*h.n,0,none⟩) m (2*m+1)) m new:=cI (k:=h.n) (f:=none) (ah _ _ rfl) (by simp) hz hl (by omega) (by omega)
  refine⟨_,_,IL hT (sv.ext e1).now sx.now hm hn hc hsz,?_,(e1.new _).grow,(e0.trans e1).new _⟩
  exact(zo hz (by rw[List.length_append,hcl,hl,Nat.add_mul]) (by omega)).from (by simp only[aH];omega)
theorem Gro.put (g:Gro h n0 sz v n cs) {k:Nat} {c:List Value} {f:Option Nat} (hk:h.ext.get k=some (.cells c 0 f)) (o:bI):Gro (h.put k o) n0 sz v n cs:=by
 rcases g with a|⟨hz,hl,j,rfl,hn,h1,h2,h3⟩
 ·exact .inl (a.put hk o)
 ·refine .inr ⟨hz,hl,j,rfl,hn,h1,h2,?_⟩
  rw[iT,if_neg]
  ·exact h3
  ·rintro rfl;rw[hk] at h3;cases h3;omega
theorem VB (hz:0<sz) (hl:cs.length=m*sz) (hm:0<m):Gro (h.new (.cells cs sz none)) h.n sz (.slice (some ⟨2*h.n,0,none⟩) m (2*m+1)) m cs :=
 .inr ⟨hz,hl,h.n,rfl,hm,Nat.le_refl _,by simp,ah _ _ rfl⟩
theorem Gro.from {n1:Nat} (g:Gro h n1 sz v n cs) (hn:n0≤n1):Gro h n0 sz v n cs:=by
 rcases g with a|⟨hz,hl,k,rfl,hp,h1,h2,h3⟩
 ·exact .inl (a.from hn)
 ·exact .inr ⟨hz,hl,k,rfl,hp,by omega,h2,h3⟩
def kerS (ll:List (List (Nat×Nat))):Prop:=1≤ll.length∧ll.length≤60 ∧ ∀x∈ll,x.length=ll.length∧(∃S,smR S x) ∧ ∃q∈x,0<q.1
abbrev pI (p:List Nat):List Int:=p.map fun n:Nat=>((n:Nat):Int)
theorem Vi {ll:List (List (Nat×Nat))} (h1:1≤ll.length) (h2:ll.length≤60) (h : ∀x∈ll,x.length=ll.length∧Jt x):kerS ll∧dK ll :=
 ⟨⟨h1,h2,fun x hx=>⟨(h x hx).1,(h x hx).2.2⟩⟩,h1,h2,fun x hx=>⟨(h x hx).1,(h x hx).2.1⟩⟩








def wH (P:Program) (f:FuncId) (nt:Nat) (run:Fr→IH→Out) (c:Code):Prop :=
 (∀fr h e fr' h',run fr h=some (e,fr',h')→h.n≤h'.n) ∧ ∀(b:Frame) (z B:Nat) (w0:World) (cs:List Frame),b.fn=f→sY (E0 P) run b none B w0 z nt cs c
theorem pS {E:Env} (S:Sound E) (n:Nat) (f:FuncId) (nt:Nat) (c:Code):wH E.P f nt (evC E (cc E n) f nt none n c) c:=by
 refine⟨fun fr h e fr' h' hr=>tM (ig S n) _ _ _ _ _ _ hr,fun b z B w0 cs hb=>?_⟩
 subst hb
 exact vd (E:=E) (oX S n) (ig S n) S.mixed n c
def Og (ra rb:Fr→IH→Out):Fr→IH→Out:=fun fr h=>match ra fr h with
 | some (.normal,fr,h)=>rb fr h
 | o=>o
variable {f:FuncId}{P:Program}
theorem yh {nt:Nat} {ra rb:Fr→IH→Out} {x y:Code} (hx:wH P f nt ra x) (hy:wH P f nt rb y):wH P f nt (Og ra rb) (.seq x y):=by
 refine⟨fun fr h e fr' h' hr=>?_,fun b z B w0 cs hb=>?_⟩
 ·unfold Og at hr
  split at hr
  ·rename_i hx1
   exact Nat.le_trans (hx.1 _ _ _ _ _ hx1) (hy.1 _ _ _ _ _ hr)
  ·exact hx.1 _ _ _ _ _ hr
 ·intro fr h e fr' h' hr m w tmps k ds R hf ht hfr hfo hd hz
  unfold Og at hr
  split at hr
  ·rename_i fr1 h1 hx1
   have n1:=hx.1 _ _ _ _ _ hx1
   have n2:=hy.1 _ _ _ _ _ hr
   obtain⟨m1,w1,cN,ds1,k1,a1,a2,a3,a4,a5,a6,a7⟩:=hx.2 b z B w0 cs hb fr h .normal fr1 h1 hx1 m w tmps (.code y :: k) ds R hf ht (hfr.sub (Nat.le_refl _) n2) hfo hd hz
   obtain rfl:k1=_:=a2
   refine .first (.head qP a1) (.step a6 ?_)
   exact hy.2 b z B w0 cs hb fr1 h1 e fr' h' hr m1 w1 cN k ds1 a5 a3 a4 (a6.fresh hfr) (hfo.mono a6.le) a7 (Nat.le_trans hz a6.size)
  ·rename_i hne
   cases e with
   | normal=>exact absurd hr (hne _ _)
   | exit i=>exact .first (.one qP) ((hx.2 b z B w0 cs hb fr h _ _ _ hr m w tmps (.code y :: k) ds R hf ht hfr hfo hd hz).out (by simp) (fun i _=>rfl))
   | ret=>exact .first (.one qP) ((hx.2 b z B w0 cs hb fr h _ _ _ hr m w tmps (.code y :: k) ds R hf ht hfr hfo hd hz).out (by simp) (fun i hi=>by cases hi))
theorem B6 {fn:Func} {c:Code} {run:Fr→IH→Out} (hfn:P.funcs[f]?=some fn) (hc:fn.body=some c) (F:wH P f fn.ntmps run c) {args:List Value} {h h1:IH} {e:bN} {fr1:Fr} {vs:List Value}
  (MW:args.length≤fn.ntmps) (hx:run (dL 0 args) h=some (e,fr1,h1)) (hne : ∀i,e≠.exit i) (hvs:bf P fr1 h1 fn.results.toList=some vs)
  {B:Nat} {w0:World} {m:Mp} {w:World} {args':Array Value} (R:Rel B w0 m h w) (gj:bw m args args'.toList) (hfr:eH m h.n h1.n):kO P f args' B w0 m h w (single vs) h1:=by
 have hsz:args'.size=args.length:=by rw[gj.1];simp
 intro cs
 let b:Frame:={ fn:=f,tmps:=#[],todo:=[],defers:=[],mode:=.run,kind:=.normal,roundOf:=none }
 let tmps:Array Value:=args' ++ Array.replicate (fn.ntmps - args'.size) undef
 have hen:Frame.enter P f args' .normal=on b tmps [.code c] []:=by
  simp[Frame.enter,hfn,hc,on,b,tmps]
 have R7:dP m (dL 0 args) tmps:=by
  intro t u hu
  rw[pU] at hu
  simp only[Nat.zero_le,if_true,Nat.sub_zero] at hu
  obtain⟨u',h2,h3⟩:=gj.get hu
  have h4:args'[t]?=some u':=by simpa using h2
  refine⟨u',?_,h3⟩
  have:=(Array.getElem?_eq_some_iff.1 h4).1
  rw[Array.getElem?_append_left this,h4]
 have YB:fn.ntmps≤tmps.size:=by simp[tmps];omega
 obtain⟨m1,w1,cN,ds1,k1,a1,a2,a3,a4,a5,a6,a7⟩:=F.2 b w.heap.size B w0 cs rfl _ _ _ _ _ hx m w tmps [] [] R R7 YB hfr (.inl ⟨rfl,rfl⟩) (lg.nil _ _ _ _) (Nat.le_refl _)
 obtain⟨rs,d1,d2,d3⟩:=a7
 have uy : ∃todo,step P (lone (on b cN k1 ds1) cs w1)=.next (lone { on b cN todo ds1 with mode:=.returning } cs w1):=by
  cases e with
  | normal=>obtain rfl:k1=_:=a2;exact⟨_,stepR_end (b:=b) (a:=⟨cN,ds1⟩) rfl⟩
  | exit i=>exact absurd rfl (hne i)
  | ret=>obtain⟨k2,rfl⟩:=a2;exact⟨_,stepR_ret (b:=b) (a:=⟨cN,ds1⟩) rfl⟩
 obtain⟨todo,uy⟩:=uy
 obtain⟨w2,b1,b2,b3,b4⟩:=pf (P:=P) R.size rs { on b cN todo ds1 with mode:=.returning } cs w1 rfl d1 d2 d3 a5
 obtain⟨v',r1,r2⟩:=xV b2 a3 hvs
 refine⟨.returned v',w2,{ on b cN todo ds1 with mode:=.returning,defers:=[] },⟨v',m1,rfl,r2,b2,?_⟩,?_,?_,?_⟩
 ·refine⟨a6.le,a6.new,a6.n,a6.base,fun r hr hk=>?_,a6.idle,by rw[b3];exact a6.size,a6.img,a6.nJ⟩
  rw[b4 r (fun hm=>by have:=(d3 r hm).1;omega)]
  exact a6.frame r hr hk
 ·exact(by rw[hen];exact a1.trans (.head uy b1):Steps P (lone (Frame.enter P f args' .normal) cs w) _)
 ·rfl
 ·exact⟨rfl,rfl,rfl,fn,hfn,r1⟩
end Go.Id
namespace Go.Id
open Go Go.RowKit
def partAt:Code→Nat→Code
 | .seq a _,0=>a
 | .seq _ b,n+1=>partAt b n
 | c,_=>c
def Ey:Code→Nat→Code
 | c,0=>c
 | .seq _ b,n+1=>Ey b n
 | c,_=>c
theorem JI {P:Program} {tb:FuncId→Option (List Value→Option Value)} (S0:Sound (E0 P)) (S1:Sound (E1 P tb)) {f:FuncId} {fn:Func} {a b rest:Code} {rs:List ResultVar} {nt:Nat} (hfn:P.funcs[f]?=some fn) (hc:fn.body=some (.seq a (.seq b rest))) (hrs:fn.results.toList=rs) (hnt:fn.ntmps=nt)
  {args:List Value} {base:Nat→Option (List Value)} {A:Nat→Nat×Nat} (hlen:args.length≤nt) {fra fr1:Fr} {ha h1:IH} {n:Nat}
  (ea:evC (E1 P tb) (cc (E1 P tb) n) f nt none n a (dL 0 args) (IH.start base)=some (.normal,fra,ha))
  (eb:evC (E1 P tb) (cc (E1 P tb) n) f nt none n b fra ha=some (.normal,fr1,h1))
  (w:Do (wpC P f nt none rest fr1 h1) (On P rs fun r _=>r=.bool true) nx)
  {W:World} {args':Array Value} (hb:Lb A base W) (gj:bw (Mp.lT A) args args'.toList):Calls P f args' W fun e W'=>e=.returned (.bool true)∧Below W.heap.size W W':=by
 subst hrs hnt
 obtain⟨⟨e,fr2,h2⟩,⟨N,hN⟩,hq⟩:=fH w
 have hn:=hN N (Nat.le_refl _)
 have key : ∀(K:Prop),On P fn.results.toList (fun r _=>r=.bool true) e fr2 h2→(∀vs,(∀i,e≠.exit i)→bf P fr2 h2 fn.results.toList=some vs→single vs=.bool true→K)→K:=by
  intro K hr k
  cases e with
  | exit i=>exact hr.elim
  | normal=>obtain⟨l,h3,h4⟩:=(hr:Ex _ _);exact k l (fun i h=>by cases h) h3 h4
  | ret=>obtain⟨l,h3,h4⟩:=(hr:Ex _ _);exact k l (fun i h=>by cases h) h3 h4
 refine key _ hq fun vs hne hvs hs=>?_
 have F:=yh (pS S1 n f fn.ntmps a) (yh (pS S1 n f fn.ntmps b) (pS S0 N f fn.ntmps rest))
 have hx:Og (evC (E1 P tb) (cc (E1 P tb) n) f fn.ntmps none n a) (Og (evC (E1 P tb) (cc (E1 P tb) n) f fn.ntmps none n b) (evC (E0 P) (cc (E0 P) N) f fn.ntmps none N rest)) (dL 0 args) (IH.start base)=some (e,fr2,h2):=by
  unfold Og
  rw[ea]
  show(match evC (E1 P tb) (cc (E1 P tb) n) f fn.ntmps none n b fra ha with|some (.normal,fr,h)=>_|o=>o)=_
  rw[eb]
  exact hn
 refine(B6 hfn hc F hlen hx hne hvs (Rel.start hb) gj (fun k _ _=>Mp.uW A k)).mono fun e w' ⟨v',m',he,hv,R,_⟩=>?_
 rw[hs] at hv
 rw[he,hv.cu rfl]
 exact⟨rfl,R.below⟩
end Go.Id
namespace Go.Id
open Go
section
variable {h:IH} {fr:Fr} {vN:Value} {lN:List Nat} {sz bx cx s:Nat} {from_ steps:Nat}
end

section
variable {h:IH} {fr:Fr} {m k e3 v18:Value} {X N:Nat}
structure WX (hh:IH) (fr:Fr) (m v12 v18:Value) (ll:List (List (Nat×Nat))) (N kn:Nat) (p t:List Nat):Prop where
 f9:ab fr 9=some m
 f11:ab fr 11=some (KN N)
 f12:ab fr 12=some v12
 f18:ab fr 18=some v18
 f19:ab fr 19=some (KN kn)
 hm:ji hh m ll
 sp:bH hh 1 v12 (N+1) ((pI p).map KI)
 st:bH hh 1 v18 (N+1) ((pI t).map KI)
end
theorem pR {h:IH} (n d:Int) (hn:fZ n) (hd:fZ d) (d0:d≠0):WV Proofs.Tryz.prog (.func (.func 25) #[] #[]) [KI n,KI d] h fun r h'=>Ext h h'∧r=gU (Rat.divInt n d):=by
 refine enter (nt:=14) (rs:=[.cell 4 32]) Proofs.Tryz.func25 rfl rfl rfl (by simp) ?_
 simp -dsimp (disch:=omega) only[wpS,Nat.reduceEqDiff,Nat.reduceAdd,fR]
 have E1:Ext h (h.new (.cells Z16 0 none)):=(Ext.refl h).new _
 have g1:(h.new (.cells Z16 0 none)).ext.get h.n=some (.cells Z16 0 none):=by simp (disch:=omega) only[ah]
 refine call (LK n d hn hd d0) ?_
 rintro _ h1 ⟨X1,rfl⟩
 have m1:=X1.n
 simp only[aH] at m1
 have k1:=X1.kept (by simp) g1
 simp -dsimp (disch:=omega) only[wpS,wpT,Nat.reduceEqDiff,Nat.reduceLeDiff,Nat.reduceAdd,fR,dF,cq,k1,aD,ax,aV,bg,aS]
 exact⟨(((E1.trans X1).new _).put (by omega) _).put (by omega) _,rfl⟩
theorem ji.nT {h:IH} {v:Value} {ll:List (List (Nat×Nat))} (s:ji h v ll) {i:Nat} {x:List (Nat×Nat)} (hx:ll[i]?=some x) :
  ∃w,(∀h',aK h h'→load Proofs.Tryz.prog h' 61 (aP v i)=some w)∧gw h w x ∧ ∀k:IntKind,indexAddr Proofs.Tryz.prog 38 v (.int k (i:Int))=some (aP v i):=by
 obtain⟨vs,a,b,c⟩:=s
 obtain⟨w,h1,h2⟩:=c i x hx
 have hi:=(List.getElem?_eq_some_iff.1 hx).1
 refine⟨w,fun h' e=>?_,h2,fun k=>by rw[a.idx es38 hi,Nat.mul_one]⟩
 rw[a.ld e (by rw[a.2.1];omega) ZG]
 exact h1
section
variable {h:IH} {fr:Fr} {m v12 v18:Value} {X N kn:Nat} {ll:List (List (Nat×Nat))} {p t:List Nat}
end
structure FJ (hh H:IH) (fr:Fr) (v v7 out v10:Value) (n i d e b11:Nat) (g:Nat→Rat) (cs:List Value):Prop where
 E:Ext hh H
 rb:rU H 4 hh.n v10 n cs
 done : ∀k,k<e→lG bt H cs k (g k)
 b1:hh.n<b11
 b2:b11<H.n
 box : ∃a s b u,H.ext.get b11=some (.cells [a,s,b,u] 0 none)∧bt H (.agg #[a,s,b,u]) (oi g i d)
 f0:ab fr 0=some v
 f7:ab fr 7=some v7
 f8:ab fr 8=some out
 f9:ab fr 9=some (KN i)
 f10:ab fr 10=some v10
 f11:ab fr 11=some (ptr (2*b11) 0)
 f35:ab fr 35=some (KN n)
 f36:ab fr 36=some (KN i)
 f44:ab fr 44=some (KN n)
theorem Tj (x y:Rat):(if x<y then (-1:Int) else if x=y then 0 else 1)<0↔x<y:=by
 by_cases h:x<y
 ·rw[if_pos h];exact⟨fun _=>h,fun _=>by omega⟩
 ·rw[if_neg h]
  refine⟨fun k=>?_,fun k=>absurd k h⟩
  split at k<;>omega
open Go.Proofs.Tryz (prog)
open Nat renaming reduceAdd→zA,reduceEqDiff→zE,reduceLeDiff→zL
set_option maxHeartbeats 16000000
def vT (N:Nat) (hit:Nat→Bool):List Value:=(List.range N).map fun j=>.bool (hit j)
variable {N:Nat}{h:IH}{hit:Nat→Bool}{hv:Value}
theorem YR {h':IH} (s:bH h 1 hv N (vT N hit)) (K:aK h h') {j:Nat} (hj:j<N) {t:TypeId} (hT:bh prog t=some false):load prog h' t (aP hv j)=some (.bool (hit j)):=by
 rw[s.ld K (by simp[vT];exact hj) hT]
 unfold vT
 rw[List.getElem?_map,List.getElem?_range hj]
 rfl
theorem LJ (q:Rat) : ∃z:Int,(if q.num<0 then (-1:Int) else if q.num=0 then 0 else 1)=z∧(z=0↔q=0):=by
 refine⟨_,rfl,?_⟩
 rw[←Rat.num_eq_zero]
 by_cases h:q.num<0
 ·rw[if_pos h];omega
 ·rw[if_neg h]
  by_cases h2:q.num=0
  ·rw[if_pos h2];omega
  ·rw[if_neg h2];omega
theorem Td {b3 b5 b7 S L y D d:Nat} {kv v:Value} {ll:List (List (Nat×Nat))} {rv:Nat→Value} {x:Nat→Nat→Rat}
  (hk:ji h kv ll) (ko:dK ll) (hN:N=ll.length) (hh:bH h 1 hv N (vT N hit)) (hS:S≤20)
  (g3:h.ext.get b3=some (.cells [kv,hv] 0 none)) (g5:h.ext.get b5=some (.cells [KN S] 0 none)) (g7:h.ext.get b7=some (.cells [v] 0 none)) (l3:b3<h.n) (l5:b5<h.n) (l7:b7<h.n)
  (t:tv h v N (S+1) rv x) (hx : ∀i m,i<N→OvL L y (x i m)) (hp : ∀i j,i<N→j<N→OvL D d (kAt ll i j)) (hz : ∀i,i<N→x i S=0) (hb:2*(y+d)+1000<16000000) :
  WV prog (.func (.func 180) #[] #[ptr (2*b3) 0,ptr (2*b5) 0,ptr (2*b7) 0]) [] h fun _ h'=>Mem b7 h h' ∧ ∃b' r' n0',h.n≤n0'∧h'.ext.get b7=some (.cells [mkV b' N] 0 none)∧Tab h' n0' h'.n b' N (S+1) r' (nxQ (kAt ll) hit x N 0 0):=by
 obtain⟨c1,c2,hlen⟩:=hk.co
 rw[←hN] at hlen
 have k1:=ko.1
 have k2:=ko.2.1
 have tk0:List.take 1 (List.drop 0 [kv,hv]) = [kv]:=rfl
 refine enter (nt:=86) (rs:=[]) Proofs.Tryz.func180 rfl rfl rfl (by simp) ?_
 simp -dsimp (disch:=omega) only[wpS,zE,zA,Fw,Fx,Ve,ld3,aj g3,aj g5,hlen]
 refine call (Gg (M:=S+1) (by omega) (by omega) (by omega) (by omega)) ?_
 rintro _ h1 ⟨X1,b',r',lb',rfl,T⟩
 have m1:=X1.n
 simp -dsimp (disch:=omega) only[wpS,zE,Fw,Fx,Ve,aj (X1.kept l3 g3),hlen]
 have T:Tab h1 b' h1.n b' N (S+1) r' (nxQ (kAt ll) hit x 0 0 0):=T.congr fun j m _ _=>(UX (kAt ll) hit x j m).symm
 obtain⟨n1',hn1'⟩ : ∃n,n=h1.n:=⟨_,rfl⟩
 rw[←hn1'] at T
 have lr':=fun j hj=>(T.lr j hj)
 refine loop (fun m fr H => ∃i:Nat,i+m=N∧Ext h H∧n1'≤H.n∧Tab H b' n1' b' N (S+1) r' (nxQ (kAt ll) hit x i 0 0) ∧
   ab fr 0=some (ptr (2*b3) 0)∧ab fr 1=some (ptr (2*b5) 0)∧ab fr 2=some (ptr (2*b7) 0)∧ab fr 3=some (mkV b' N)∧ab fr 21=some kv∧ab fr 22=some (KN N)∧ab fr 23=some (KN i)) N
  ⟨0,by omega,X1,by omega,T,by simp⟩ ?_
 clear T
 rintro m fr H ⟨i,him,E,nH,T,f0,f1,f2,f3,f21,f22,f23⟩
 simp -dsimp (disch:=omega) only[wpS,f22,f23]
 refine au ?_ ?_<;>intro hc<;>simp only[decide_eq_true_eq,decide_eq_false_iff_not] at hc
 ·have hi:i<N:=by omega
  obtain⟨ri,p,e1,l1,e2,ok1,nn1,kk1⟩:=fi ko (i:=i) (j:=0) (by omega) (by omega)
  obtain⟨wi,A1,A2,A3⟩:=hk.nT e1
  have lenr:=A2.1.len (P:=prog) tZ
  rw[l1,←hN] at lenr
  simp -dsimp (disch:=omega) only[wpS,wpT,zE,f21,f23,A3,A1 H E.aa,lenr]
  refine loop (fun m2 fr H => ∃j:Nat,j+m2=N∧Ext h H∧n1'≤H.n∧Tab H b' n1' b' N (S+1) r' (nxQ (kAt ll) hit x i j 0) ∧
    ab fr 0=some (ptr (2*b3) 0)∧ab fr 1=some (ptr (2*b5) 0)∧ab fr 2=some (ptr (2*b7) 0)∧ab fr 3=some (mkV b' N)∧ab fr 4=some (KN i)∧ab fr 21=some kv∧ab fr 22=some (KN N)∧ab fr 23=some (KN i)∧ab fr 28=some wi∧ab fr 29=some (KN N)∧ab fr 30=some (KN j)) N
   ⟨0,by omega,E,nH,T,by simp[f0,f1,f2,f3,f21,f22,f23]⟩ ?_
  clear E nH T f0 f1 f2 f3 f21 f22 f23
  clear e2 ok1 nn1 kk1
  clear p
  rintro m2 fr H ⟨j,hjm,E,nH,T,f0,f1,f2,f3,f4,f21,f22,f23,f28,f29,f30⟩
  simp -dsimp (disch:=omega) only[wpS,f29,f30]
  refine au ?_ ?_<;>intro hc2<;>simp only[decide_eq_true_eq,decide_eq_false_iff_not] at hc2
  ·have hj:j<N:=by omega
   obtain⟨ri',p,e1',l1',e2,ok1,nn1,kk1⟩:=fi ko (i:=i) (j:=j) (by omega) (by omega)
   rw[e1] at e1'
   cases e1'
   have wp:=A2.2.2 p (List.mem_of_getElem? e2)
   have ip:=A2.1.idx xl (P:=prog) (k:=.i64) (j:=j) (by omega)
   simp -dsimp (disch:=omega) only[wpS,wpT,zE,zL,zA,cq,fR,dF,f28,f30,ip,A2.ld E.aa e2,aD,ax,aV,bg]
   obtain⟨H1,hH1⟩:=aT ((H.new (.cells Z16 0 none)).put H.n (.cells (shC p.1 p.2) 0 none))
   have F1:Ext H H1:=by rw[hH1];exact((Ext.refl H).new _).put (Nat.le_refl _) _
   have q1:H1.n=H.n+1:=by rw[hH1];rfl
   have gp:H1.ext.get H.n=some (.cells (shC p.1 p.2) 0 none):=by rw[hH1];simp (disch:=omega) only[ae]
   rw[←hH1]
   clear hH1
   rw[aS]
   refine call (dj p.1 p.2 wp.1 wp.2) ?_
   rintro r5 h5 ⟨X5,p5⟩
   have p5:=p5.rat ok1
   rw[←kk1] at p5
   have m5:=X5.n
   obtain⟨a1,a2,a3,a4,rfl,_,_,d1,o1,d2,o2,o3,o4⟩:=p5.parts
   have E5:=(E.trans F1).trans X5
   have T5:=(T.ext F1).ext X5
   obtain⟨u1,u2,g7u⟩:True∧True∧h5.ext.get b7=some (.cells [v] 0 none):=⟨trivial,trivial,E5.kept l7 g7⟩
   have ti:=t.idx hi
   have tl:=t.ldR (h':=(h5.new (.cells ZR 0 none)).put h5.n (.cells [a1,a2,a3,a4] 0 none)) ((E5.trans ((Ext.refl h5).new _)).put (by have:=E5.n;omega) _) hi
   have tn:=t.lenR hi
   obtain⟨H6,hH6⟩:=aT ((h5.new (.cells ZR 0 none)).put h5.n (.cells [a1,a2,a3,a4] 0 none))
   have F6:Ext h5 H6:=by rw[hH6];exact((Ext.refl h5).new _).put (Nat.le_refl _) _
   have q6:H6.n=h5.n+1:=by rw[hH6];rfl
   have g8:H6.ext.get h5.n=some (.cells [a1,a2,a3,a4] 0 none):=by rw[hH6];simp (disch:=omega) only[ae]
   have g76:=F6.kept (by omega) g7u
   simp -dsimp (disch:=omega) only[wpS,wpT,zE,zL,zA,dW,df,o1,o2,o3,o4]
   rw[←hH6] at tl ⊢
   clear hH6
   simp -dsimp (disch:=omega) only[wpS,zE,MI,f2,f4,aj g76,ti,tl,tn]
   have m6:=E5.n
   refine loop (fun m3 fr H => ∃n:Nat,n+m3=S+1∧Ext h H∧h5.n<H.n∧Tab H b' n1' b' N (S+1) r' (nxQ (kAt ll) hit x i j n)∧H.ext.get h5.n=some (.cells [a1,a2,a3,a4] 0 none)∧bt H (.agg #[a1,a2,a3,a4]) (kAt ll i j) ∧
     ab fr 0=some (ptr (2*b3) 0)∧ab fr 1=some (ptr (2*b5) 0)∧ab fr 2=some (ptr (2*b7) 0)∧ab fr 3=some (mkV b' N)∧ab fr 4=some (KN i)∧ab fr 6=some (KN j)∧ab fr 8=some (ptr (2*h5.n) 0)∧ab fr 21=some kv∧ab fr 22=some (KN N)∧ab fr 23=some (KN i)∧ab fr 28=some wi∧ab fr 29=some (KN N)∧ab fr 30=some (KN j)∧ab fr 40=some (rv i)∧ab fr 41=some (KN (S+1))∧ab fr 42=some (KN n)) (S+1)
    ⟨0,by omega,E5.trans F6,by omega,T5.ext F6,g8,p5.aa F6.aa,by simp[f0,f1,f2,f3,f4,f21,f22,f23,f28,f29,f30]⟩ ?_
   clear T T5 f0 f1 f2 f3 f4 f21 f22 f23 f28 f29 f30 g8 g76 F6 q6 tl tn g7u p5 E
   rintro m3 fr H ⟨n,hnm,E,nH,T,g8,p8,f0,f1,f2,f3,f4,f6,f8,f21,f22,f23,f28,f29,f30,f40,f41,f42⟩
   simp -dsimp (disch:=omega) only[wpS,f41,f42]
   refine au ?_ ?_<;>intro hc3<;>simp only[decide_eq_true_eq,decide_eq_false_iff_not] at hc3
   ·have hn:n<S+1:=by omega
    obtain⟨c1,c2,c3,c4,lx,px⟩:=t.ldK hi hn
    obtain⟨_,_,_,_,hhe,_,_,_,q1,_,q2,q3,q4⟩:=px.parts
    cases hhe
    simp -dsimp (disch:=omega) only[wpS,wpT,zE,zL,zA,dW,df,gI,bR,f40,f42,t.idxR hi hn,lx H E,q1,q2,q3,q4]
    obtain⟨H1,hH1⟩:=aT ((H.new (.cells ZR 0 none)).put H.n (.cells [c1,c2,c3,c4] 0 none))
    have F1:Ext H H1:=by rw[hH1];exact((Ext.refl H).new _).put (Nat.le_refl _) _
    have n1:H1.n=H.n+1:=by rw[hH1];rfl
    have g10:H1.ext.get H.n=some (.cells [c1,c2,c3,c4] 0 none):=by rw[hH1];simp (disch:=omega) only[ae]
    rw[←hH1]
    clear hH1
    have E1:=E.trans F1
    have px1:=px.aa E1.aa
    obtain⟨_,_,_,_,he,hn1,hd1,_⟩:=px1.parts
    cases he
    simp -dsimp (disch:=omega) only[tkA]
    refine call (mE hn1) ?_
    rintro _ h2 ⟨X2,rfl⟩
    obtain⟨z,hz1,hz2⟩:=LJ (x i n)
    rw[hz1]
    have E2:=E1.trans X2
    have n2:=X2.n
    have T2:=(T.ext F1).ext X2
    have g82:=X2.kept (by omega) (F1.kept nH g8)
    have p82:=(p8.aa F1.aa).aa X2.aa
    by_cases zc:z=0
    ·subst zc
     have x0:x i n=0:=hz2.1 rfl
     have T3:Tab h2 b' n1' b' N (S+1) r' (nxQ (kAt ll) hit x i j (n+1)):=T2.congr fun a m _ _=>(Mv (kAt ll) hit x (.inl x0) a m).symm
     simp -dsimp (disch:=omega) only[wpS,wpT,zE,f42]
     exact⟨m3 - 1,by omega,n+1,by omega,E2,by omega,T3,g82,p82,by simp[f0,f1,f2,f3,f4,f6,f8,f21,f22,f23,f28,f29,f30,f40,f41]⟩
    have dz:(z == 0)=false:=by simpa using zc
    have x0:x i n≠0:=fun h=>zc (hz2.2 h)
    clear hz1 hz2
    obtain⟨_,_,_,_,he,hn8,_,_⟩:=p82.parts
    cases he
    simp -dsimp (disch:=omega) only[wpS,wpT,zE,zL,zA,gI,bR,dz,f8,aj g82,tkA]
    refine call (mE hn8) ?_
    rintro _ h3 ⟨X3,rfl⟩
    obtain⟨w,hw1,hw2⟩:=LJ (kAt ll i j)
    rw[hw1]
    have E3:=E2.trans X3
    have n3:=X3.n
    have T3:=T2.ext X3
    have g83:=X3.kept (by omega) g82
    have p83:=p82.aa X3.aa
    obtain⟨hb,hhb⟩:=aT (H.n)
    have g103:=X3.kept (by omega) (X2.kept (by omega) g10)
    by_cases wc:w=0
    ·subst wc
     have k0:kAt ll i j=0:=hw2.1 rfl
     have T4:Tab h3 b' n1' b' N (S+1) r' (nxQ (kAt ll) hit x i j (n+1)):=T3.congr fun a m _ _=>(Mv (kAt ll) hit x (.inr k0) a m).symm
     simp -dsimp (disch:=omega) only[wpS,wpT,zE,f42]
     exact⟨m3 - 1,by omega,n+1,by omega,E3,by omega,T4,g83,p83,by simp[f0,f1,f2,f3,f4,f6,f8,f21,f22,f23,f28,f29,f30,f40,f41]⟩
    have dw:(w == 0)=false:=by simpa using wc
    clear hw1 hw2
    have nS:n<S:=by
     rcases Nat.lt_or_ge n S with h|h
     ·exact h
     ·obtain rfl:n=S:=by omega
      exact absurd (hz i hi) x0
    have tk1:List.take 1 (List.drop 1 [kv,hv]) = [hv]:=rfl
    have ih:=hh.idx Zch (P:=prog) (k:=.i64) hj
    rw[Nat.mul_one] at ih
    simp -dsimp (disch:=omega) only[wpS,wpT,zE,VD,Zbd,dw,f0,f6,aj (E3.kept l3 g3),ih,YR hh E3.aa hj ag4]
    obtain⟨tt,htt⟩:=aT (n+lq hit j)
    have tS:tt<S+1:=by rw[htt];unfold lq;split<;>omega
    refine fB (fun fr H=>h3=H∧ab fr 0=some (ptr (2*b3) 0)∧ab fr 1=some (ptr (2*b5) 0)∧ab fr 2=some (ptr (2*b7) 0)∧ab fr 3=some (mkV b' N)∧ab fr 4=some (KN i)∧ab fr 6=some (KN j)∧ab fr 8=some (ptr (2*h5.n) 0)∧ab fr 10=some (ptr (2*hb) 0)∧ab fr 11=some (KN tt)∧ab fr 21=some kv∧ab fr 22=some (KN N)∧ab fr 23=some (KN i)∧ab fr 28=some wi∧ab fr 29=some (KN N)∧ab fr 30=some (KN j)∧ab fr 40=some (rv i)∧ab fr 41=some (KN (S+1))∧ab fr 42=some (KN n)) (fun hc=>?_) (fun hc=>?_) ?_
    ·have te:n+1=tt:=by rw[htt];unfold lq;rw[if_pos hc]
     simp -dsimp (disch:=omega) only[wpS,zE]
     refine⟨rfl,by simp[f0],by simp[f1],by simp[f2],by simp[f3],by simp[f4],by simp[f6],by simp[f8],by simp[hhb],by simp[←te],by simp[f21,f22,f23,f28,f29,f30,f40,f41,f42]⟩
    ·have te:n=tt:=by rw[htt];unfold lq;rw[if_neg (by rw[hc];exact Bool.false_ne_true)];rfl
     simp -dsimp (disch:=omega) only[wpS]
     refine⟨rfl,by simp[f0],by simp[f1],by simp[f2],by simp[f3],by simp[f4],by simp[f6],by simp[f8],by simp[hhb],by simp[←te],by simp[f21,f22,f23,f28,f29,f30,f40,f41,f42]⟩
    clear f0 f1 f2 f3 f4 f6 f8 f21 f22 f23 f28 f29 f30 f40 f41 f42
    rintro fr _ ⟨rfl,f0,f1,f2,f3,f4,f6,f8,f10,f11,f21,f22,f23,f28,f29,f30,f40,f41,f42⟩
    rw[←hhb] at g103
    have X0:=Ext.refl h3
    have rl:=T3.ldR X0 hj
    obtain⟨y1,y2,y3,y4,ly,py⟩:=(T3.row j hj).ldK tS
    have ix:=T3.idx hj
    have iy:=(T3.row j hj).idx tS
    have iy':indexAddr prog 139 (mkV (r' j) (S+1)) (KN tt)=some (aP (mkV (r' j) (S+1)) (tt*4)):=iy
    refine drawn [(3,[15,17]),(8,[15]),(11,[15])] (by kernel_rfl) (by kernel_rfl) rfl ?_
    simp -dsimp (disch:=omega) only[wpS,wpT,zE,zL,zA,fO,f3,f6,f8,f10,f11,ix,rl,iy,ly h3 X0,aj g103,aj g83,fF]
    have qn:=Yp (hit:=hit) hx hp hi hj j n tt
    refine call (jq (px.aa E3.aa) p83 (hx i n hi).qb (hp i j hi hj).qb (by omega)) ?_
    rintro r6 h6 ⟨X6,p6⟩
    simp -dsimp (disch:=omega) only[wpS,zE]
    refine call (iM (py.aa X6.aa) p6 qn.qb ((hx i n hi).mul (hp i j hi hj)).qb (by omega)) ?_
    rintro r7 h7 ⟨X7,p7⟩
    have eT:nxQ (kAt ll) hit x i j n j tt+x i n*kAt ll i j=nxQ (kAt ll) hit x i j (n+1) j tt:=by rw[htt];exact Wy (kAt ll) hit x i j n
    rw[eT] at p7
    have X67:=X6.trans X7
    have T7:=T3.ext X67
    obtain⟨z1,z2,z3,z4,rfl,_,_,_,o1,_,o2,o3,o4⟩:=p7.parts
    obtain⟨cs',c,gr,st,T8⟩:=T7.set hj tS p7 (by simp[o1,o2,o3,o4])
    have lj:=T3.lr j hj
    simp -dsimp (disch:=omega) only[wpS,zE,iy,st]
    refine⟨aw (aC (ad rfl rfl rfl rfl (ai rfl rl (T3.ldR X6 hj))) (ad rfl rfl rfl rfl (ai rfl rl (T3.ldR X67 hj)))) (aw (ad rfl rfl rfl rfl (ai rfl rl (T3.ldR X6 hj))) (ad rfl rfl rfl rfl (ai rfl (ly h3 X0) (ly h6 X6)))),?_⟩
    simp -dsimp (disch:=omega) only[wpS,wpT,zE,zA,f42]
    have n7:=X67.n
    have g87:=X67.kept (by omega) g83
    have T9:Tab (h7.put (r' j) (.cells cs' 4 none)) b' n1' b' N (S+1) r' (nxQ (kAt ll) hit x i j (n+1)):=T8.congr fun a m _ _=>by
     by_cases e:a=j∧m=tt
     ·rw[if_pos e,e.1,e.2]
     ·rw[if_neg e]
      exact(Mw (kAt ll) hit x i j n (by rw[←htt];exact e)).symm
    exact⟨m3 - 1,by omega,n+1,by omega,(E3.trans X67).put (by omega) _,by simp only[aM];omega,T9,by rw[ak _ _ (by omega)];exact g87,(p83.aa X67.aa).BW gr (by decide) _,by simp[f0,f1,f2,f3,f4,f6,f8,f21,f22,f23,f28,f29,f30,f40,f41]⟩
   ·obtain rfl:n=S+1:=by omega
    have T2:Tab H b' n1' b' N (S+1) r' (nxQ (kAt ll) hit x i (j+1) 0):=T.congr fun a m _ hm=>(Yo (kAt ll) hit x i j hm).symm
    simp -dsimp (disch:=omega) only[wpS,wpT,zE,f30]
    exact⟨m2 - 1,by omega,j+1,by omega,E,by omega,T2,by simp[f0,f1,f2,f3,f4,f21,f22,f23,f28,f29]⟩
  ·obtain rfl:j=N:=by omega
   have T2:Tab H b' n1' b' j (S+1) r' (nxQ (kAt ll) hit x (i+1) 0 0):=T.congr fun a m ha _=>(Ym (kAt ll) hit x m ha).symm
   simp -dsimp (disch:=omega) only[wpS,wpT,zE,f23]
   exact⟨m - 1,by omega,i+1,by omega,E,nH,T2,by simp[f0,f1,f2,f3,f21,f22]⟩
 ·obtain rfl:i=N:=by omega
  have g7':=E.kept l7 g7
  obtain⟨o1,o2⟩:=RJ b' i
  simp -dsimp (disch:=omega) only[wpS,wpT,zE,zL,Wj,f2,f3,g7',o1,o2]
  have hb7:b7<b':=by omega
  exact⟨(E.mem b7).put (.inr rfl) _,b',r',b',lb',rfl,(T.put g7' (by decide) (.inl hb7) _).up nH⟩
end Go.Id
namespace Go.Id
open Go

theorem KJ (x y:Rat) : ∃z:Int,(if x<y then (-1:Int) else if x=y then 0 else 1)=z∧(z≤0↔x≤y):=by
 refine⟨_,rfl,?_⟩
 by_cases h1:x<y
 ·rw[if_pos h1];exact⟨fun _=>Rat.le_of_lt h1,fun _=>by decide⟩
 ·rw[if_neg h1]
  by_cases h2:x=y
  ·rw[if_pos h2];exact⟨fun _=>h2▸Rat.le_refl,fun _=>by decide⟩
  ·rw[if_neg h2];exact⟨fun h=>absurd h (by decide),fun h=>absurd (Rat.le_antisymm h (Rat.not_lt.1 h1)) h2⟩
theorem Hm {h:IH} {v:Value} {p:Nat×Nat} (ok:okS p.1 p.2) (q:rW h v (wdI p.1) (wdI p.2)):bt h v (rOf p):=by
 show rW h v (rOf p).num ((rOf p).den:Int)
 rw[(cZ ok).1,(cZ ok).2]
 exact q
open Go.Proofs.Tryz (prog)
open Nat renaming reduceAdd→zA,reduceEqDiff→zE,reduceLeDiff→zL
set_option maxHeartbeats 16000000
def ft (l:List (Nat×Nat)) (s:Nat):Rat:=rOf (l.getD s (0,0))
variable {kv:Value}{h:IH}{fv:Value}
theorem Iv (e1:kv.cells = #[kv]) (e2:fv.cells = #[fv]) :
  WV prog (.func (.func 177) #[] #[]) [kv,fv] h fun r h'=>r=.func (.func 229) #[] #[ptr (2*(h.n+1)) 0,ptr (2*h.n) 0]∧h'=(h.new (.cells [kv] 0 none)).new (.cells [fv] 0 none):=by
 refine enter (nt:=6) (rs:=[.tmp 4]) Proofs.Tryz.func177 rfl rfl rfl (by simp) ?_
 simp -dsimp (disch:=omega) only[wpS,wpT,zE,zA,e1,e2]
theorem Pd {N i:Nat} (hit:Nat→Bool) (h:i<N):(vT N hit).take (i+1)=(vT N hit).take i ++ [.bool (hit i)]:=by
 refine eV ?_
 unfold vT
 rw[List.getElem?_map,List.getElem?_range h]
 rfl
theorem FF {b:Nat} {y:Value} {l:List (Nat×Nat)} (J:Nat→IH→Prop) (ek:kv.cells = #[kv]∧aB kv=true)
  (hJ : ∀i hh,J i hh→hh.ext.get b=some (.cells [kv] 0 none)∧hh.ext.get (b+1)=some (.cells [fv] 0 none)∧b+1<hh.n∧gw hh fv l)
  (ok:TH l) (hl:l.length≤60) (h0:J 0 h)
  (hy : ∀i hh hh2 hv,i<l.length→J i hh→Ext hh hh2→bH hh2 1 hv l.length (vT l.length (leF (ft l) i))→WV prog y [KN i,.agg #[kv,hv]] hh2 fun r h'=>r=.bool true∧J (i+1) h') :
  WV prog (.func (.func 229) #[] #[ptr (2*(b+1)) 0,ptr (2*b) 0]) [y] h fun _ h'=>J l.length h':=by
 obtain⟨b0,b1,bn,sf⟩:=hJ 0 h h0
 refine enter (nt:=41) (rs:=[]) Proofs.Tryz.func229 rfl rfl rfl (by simp) ?_
 simp -dsimp (disch:=omega) only[wpS,zE,zA,ld61,aj b1,sf.1.len tZ]
 refine loop (fun m fr hh => ∃i:Nat,i+m=l.length∧J i hh∧ab fr 0=some y∧ab fr 1=some (ptr (2*(b+1)) 0)∧ab fr 2=some (ptr (2*b) 0)∧ab fr 9=some fv∧ab fr 10=some (KN l.length)∧ab fr 11=some (KN i)) l.length
  ⟨0,by omega,h0,by simp⟩ ?_
 clear b0 b1 bn sf
 rintro m fr hh ⟨i,him,hji,f0,f1,f2,f9,f10,f11⟩
 obtain⟨b0,b1,bn,sf⟩:=hJ i hh hji
 simp -dsimp (disch:=omega) only[wpS,f10,f11]
 refine au ?_ ?_<;>intro hc<;>simp only[decide_eq_true_eq,decide_eq_false_iff_not] at hc
 ·have hi:i<l.length:=by omega
  obtain⟨q,hq⟩:=iC (l:=l) (i:=i) hi
  have qm:=List.mem_of_getElem? hq
  obtain⟨w3,w4⟩:=sf.2.2 q qm
  have okq:=ok q qm
  have gq:ft l i=rOf q:=by unfold ft;rw[List.getD_eq_getElem?_getD,hq];rfl
  have O0:=sf.1.len (P:=prog) tZ
  simp -dsimp (disch:=omega) only[wpS,wpT,zE,zL,zA,ld61,fR,dF,f1,f9,f11,aj b1,O0,sf.1.idx xl hi,sf.ld (aK.refl hh) hq,aD,ax,aV,bg]
  obtain⟨H0,hH0⟩:=aT ((hh.new (.cells Z16 0 none)).put hh.n (.cells (shC q.1 q.2) 0 none))
  have e0:Ext hh H0:=by rw[hH0];exact((Ext.refl hh).new _).put (Nat.le_refl _) _
  have n0:H0.n=hh.n+1:=by rw[hH0];rfl
  have g5:H0.ext.get hh.n=some (.cells (shC q.1 q.2) 0 none):=by rw[hH0];simp (disch:=omega) only[ae]
  have nbn:b+1<H0.n:=by omega
  have b00:=e0.kept (by omega) b0
  have b10:=e0.kept bn b1
  refine loop (fun m2 fr H => ∃(j:Nat) (out:Value),j+m2=l.length∧Ext H0 H∧Acc H H0.n 1 out j ((vT l.length (leF (ft l) i)).take j)∧ab fr 0=some y∧ab fr 1=some (ptr (2*(b+1)) 0)∧ab fr 2=some (ptr (2*b) 0)∧ab fr 4=some (KN i)∧ab fr 5=some (ptr (2*hh.n) 0)∧ab fr 6=some out∧ab fr 9=some fv∧ab fr 10=some (KN l.length)∧ab fr 11=some (KN i)∧ab fr 16=some fv∧ab fr 17=some (KN l.length)∧ab fr 18=some (KN j)) l.length
   ⟨0,.slice none 0 0,by omega,by rw[hH0];exact Ext.refl _,Acc.nil _ _ (by omega),by simp[f0,f1,f2,f9,f10,f11]⟩ ?_
  clear hH0 f0 f1 f2 f9 f10 f11
  rintro m2 fr H ⟨j,out,hjm,E,A,f0,f1,f2,f4,f5,f6,f9,f10,f11,f16,f17,f18⟩
  have nE:=E.n
  simp -dsimp (disch:=omega) only[wpS,f17,f18]
  refine au ?_ ?_<;>intro hc2<;>simp only[decide_eq_true_eq,decide_eq_false_iff_not] at hc2
  ·have hj:j<l.length:=by omega
   obtain⟨p,hp⟩:=iC (l:=l) (i:=j) hj
   have pm:=List.mem_of_getElem? hp
   obtain⟨w1,w2⟩:=sf.2.2 p pm
   have okp:=ok p pm
   have gp:ft l j=rOf p:=by unfold ft;rw[List.getD_eq_getElem?_getD,hp];rfl
   simp -dsimp (disch:=omega) only[wpS,wpT,zE,zL,zA,fR,dF,f16,f18,sf.1.idx xl hj,sf.ld (e0.trans E).aa hp,aD,ax,aV,bg]
   obtain⟨H1,hH1⟩:=aT ((H.new (.cells Z16 0 none)).put H.n (.cells (shC p.1 p.2) 0 none))
   have e1:Ext H H1:=by rw[hH1];exact((Ext.refl H).new _).put (Nat.le_refl _) _
   have n1:H1.n=H.n+1:=by rw[hH1];rfl
   have g8:H1.ext.get H.n=some (.cells (shC p.1 p.2) 0 none):=by rw[hH1];simp (disch:=omega) only[ae]
   rw[←hH1]
   clear hH1
   have g51:=(E.trans e1).kept (by omega) g5
   have X0:=Ext.refl H1
   obtain⟨_,_,L8⟩:=psh g8
   obtain⟨_,_,L5⟩:=psh g51
   refine drawn [(3,[2])] (by kernel_rfl) (by kernel_rfl) rfl ?_
   simp -dsimp (disch:=omega) only[wpS,zE,f6,L8]
   refine call (dj p.1 p.2 w1 w2) ?_
   rintro a1 h1 ⟨X1,p1⟩
   have g52:=X1.kept (by have:=E.n;omega) g51
   obtain⟨_,_,L52⟩:=psh g52
   simp -dsimp (disch:=omega) only[wpS,zE,f5,L52]
   refine call (dj q.1 q.2 w3 w4) ?_
   rintro a2 h2 ⟨X2,p2⟩
   simp -dsimp (disch:=omega) only[wpS,zE]
   refine call (sG ((Hm okp p1).aa X2.aa) (Hm okq p2) (iO w1 w2 okp) (iO w3 w4 okq) (by omega)) ?_
   rintro _ h3 ⟨X3,rfl⟩
   obtain⟨z,hz,hzl⟩:=KJ (rOf p) (rOf q)
   rw[hz]
   have dz:decide (z≤0)=leF (ft l) i j:=by
    unfold leF
    rw[gp,gq]
    exact decide_eq_decide.2 hzl
   have X13:=(e1.trans X1).trans (X2.trans X3)
   have nX:=X13.n
   obtain⟨ef,h4,hap,A4,G4,E4⟩:=(A.ext X13).tq (P:=prog) (t:=143) ZcL (m:=1) (new:=[.bool (leF (ft l) i j)]) (by omega) rfl (by simp[aB]) (by omega) (by omega) (E.trans X13) (Nat.le_refl _)
   rw[←Pd _ hj] at A4
   simp -dsimp (disch:=omega) only[wpS,wpT,zE,zL,zA,Zcv,PR,dz,hap]
   refine⟨ad rfl rfl rfl rfl (ai f5 L52 L5),?_⟩
   simp -dsimp (disch:=omega) only[wpS,wpT,zE,zA,f18]
   exact⟨m2 - 1,by omega,j+1,ef,by omega,E4,A4,by simp[f0,f1,f2,f4,f5,f9,f10,f11,f16,f17]⟩
  ·obtain rfl:j=l.length:=by omega
   rw[List.take_of_length_le (by simp[vT])] at A
   have o1:=A.sl.cells
   have o2:=A.sl.cok
   have E2:=e0.trans E
   simp -dsimp (disch:=omega) only[wpS,wpT,zE,zL,zA,Ve,Zct,UN,Zcs,UM,UL,f0,f2,f4,f6,aj (E2.kept (by omega) b0),ek.1,o1]
   refine call (hy i hh H out hi hji E2 A.sl) ?_
   rintro _ h3 ⟨rfl,j3⟩
   simp -dsimp (disch:=omega) only[wpS,wpT,zE,f11]
   exact⟨m - 1,by omega,i+1,by omega,j3,by simp[f0,f1,f2,f9,f10]⟩
 ·obtain rfl:i=l.length:=by omega
  simp -dsimp (disch:=omega) only[wpS,wpT]
  exact hji
end Go.Id
