/-
  Contracts: reference 33: drafted kernels. Contracts: package outlier: whole.
-/
import Derived.Test.YtnanhedgenokpaaGreatTemperFlatAt
import Derived.Test.YtnanhedgenokpaaGreatTemperFlatBp
import Derived.Test.YtnanhedgenokpaaGreatTemperFlatBl
import Derived.Test.YtnanhedgenokpaaGreatTemperFlatBo
import Derived.Test.YtnanhedgenokpaaGreatTemperFlatBk
import Derived.Test.YtnanhedgenokpaaGreatTemperFlatAs
set_option linter.unusedVariables false
set_option linter.unusedSimpArgs false
set_option linter.defProp false
set_option linter.deprecated false
namespace Go.Id
open Go
open Go.Proofs.Tryz (prog)
open Nat renaming reduceAdd→zA,reduceEqDiff→zE,reduceLeDiff→zL
set_option maxHeartbeats 16000000
theorem kShL_snoc (l:List (Nat×Nat)) (p:Nat×Nat):shL (l ++ [p])=shL l ++ shC p.1 p.2:=by simp[shL]
theorem divInt_sum (s:Nat) : ∀(l:List Nat) (a:Rat),(l.map fun y=>Rat.divInt (y:Nat) (s:Nat)).foldl (· + ·) a=a+Rat.divInt (l.sum:Nat) (s:Nat)
 | [],a=>by
  rw[List.map_nil,List.foldl_nil,List.sum_nil,show(((0:Nat):Int))=0 from rfl,Rat.zero_divInt,Rat.add_zero]
 | x :: l,a=>by
  rw[List.map_cons,List.foldl_cons,divInt_sum s l,List.sum_cons,Rat.divInt_eq_div,Rat.divInt_eq_div,Rat.divInt_eq_div]
  have e:(((x+l.sum:Nat):Int):Rat)=((x:Int):Rat)+((l.sum:Int):Rat):=by
   rw[←Rat.intCast_add];rfl
  rw[e]
  grind
theorem krow_ok {ys:List Nat} (h0:0<ys.sum) (hb:ys.sum≤1000) (hy : ∀y∈ys,y≤1000):rowOk (ys.map fun y=>shq (Rat.divInt (y:Nat) (ys.sum:Nat))):=by
 have hq : ∀y∈ys,QW (Rat.divInt (y:Nat) (ys.sum:Nat)):=fun y h=>by
  have:=hy y h
  exact qw_div ⟨by omega,by omega⟩ ⟨by omega,by omega⟩ (by omega)
 refine⟨fun p hp=>?_,?_⟩
 ·obtain⟨y,hm,rfl⟩:=List.mem_map.1 hp
  obtain⟨e1,e2⟩:=shq_rOf (hq y hm)
  rintro(hb|hb)
  ·exact hb e2
  ·have e3:wdI (shq (Rat.divInt (y:Nat) (ys.sum:Nat))).1=(Rat.divInt (y:Nat) (ys.sum:Nat)).num:=wdI_wideN (hq y hm).1
   rw[e3] at hb
   have:0≤Rat.divInt (y:Nat) (ys.sum:Nat):=Rat.divInt_nonneg (by omega) (by omega)
   have:=Rat.num_nonneg.2 this
   omega
 ·have e:(ys.map fun y=>shq (Rat.divInt (y:Nat) (ys.sum:Nat))).map rOf=ys.map fun y=>Rat.divInt (y:Nat) (ys.sum:Nat):=by
   rw[List.map_map]
   exact List.map_congr_left fun y hm=>(shq_rOf (hq y hm)).1
  rw[e]
  unfold qsum
  rw[divInt_sum,Rat.divInt_eq_div,Rat.zero_add]
  have hne:(((ys.sum:Nat):Int):Rat)≠0:=fun h=>by
   have:((ys.sum:Nat):Int)=0:=Rat.intCast_inj.1 h
   omega
  grind
def smR (S:Nat) (l:List (Nat×Nat)):Prop:=0<S∧S≤1000 ∧ ∀p∈l,p.1≤1000∧0<p.2∧p.2∣S
def rowS (l:List (Nat×Nat)):Prop:=rowOk l∧(∃S,smR S l) ∧ ∃q∈l,0<q.1
theorem divInt_parts {y S:Nat} (hS:0<S) : ∃m:Nat,0<m∧(y:Int)=(Rat.divInt (y:Nat) (S:Nat)).num*m∧S=(Rat.divInt (y:Nat) (S:Nat)).den*m:=by
 obtain⟨q,hq⟩ : ∃q,q=Rat.divInt (y:Nat) (S:Nat):=⟨_,rfl⟩
 obtain⟨m,_,e1,e2⟩:=Rat.divInt_num_den (n:=(y:Int)) (d:=(S:Int)) (n':=q.num) (d':=q.den) (z':=q.den_nz) (c:=q.reduced) (by omega) (by rw[←hq])
 rw[←hq]
 have dp:0<q.den:=q.den_pos
 have m0:0<m:=by
  apply Classical.byContradiction
  intro hn
  have:(q.den:Int)*m≤0:=Int.mul_nonpos_of_nonneg_of_nonpos (by omega) (by omega)
  omega
 obtain⟨k,rfl⟩:=Int.eq_ofNat_of_zero_le (Int.le_of_lt m0)
 exact⟨k,by omega,e1,by exact_mod_cast e2⟩
theorem ksum_zero {ys:List Nat} (h : ∀y∈ys,y=0):ys.sum=0:=by
 induction ys with
 | nil=>rfl
 | cons a l ih=>rw[List.sum_cons,h a (by simp),ih fun y hy=>h y (by simp[hy])]
theorem krowS_ok {ys:List Nat} (h0:0<ys.sum) (hb:ys.sum≤1000) (hy : ∀y∈ys,y≤1000):rowS (ys.map fun y=>shq (Rat.divInt (y:Nat) (ys.sum:Nat))):=by
 have key : ∀y,y≤1000 → ∃m:Nat,0<m∧y=(shq (Rat.divInt (y:Nat) (ys.sum:Nat))).1*m∧ys.sum=(shq (Rat.divInt (y:Nat) (ys.sum:Nat))).2*m:=fun y hy1=>by
  obtain⟨m,m0,e1,e2⟩:=divInt_parts (y:=y) h0
  have n0:0≤(Rat.divInt (y:Nat) (ys.sum:Nat)).num:=Rat.num_nonneg.2 (Rat.divInt_nonneg (by omega) (by omega))
  obtain⟨k,hk⟩:=Int.eq_ofNat_of_zero_le n0
  refine⟨m,m0,?_,?_⟩
  ·show y=wideN _*m
   rw[wideN_nn n0,hk,Int.toNat_natCast]
   rw[hk] at e1
   exact_mod_cast e1
  ·show ys.sum=wideN ((Rat.divInt (y:Nat) (ys.sum:Nat)).den:Int)*m
   rw[wideN_nn (by omega),Int.toNat_natCast]
   exact e2
 refine⟨krow_ok h0 hb hy,⟨ys.sum,h0,hb,fun p hp=>?_⟩,?_⟩
 ·obtain⟨y,hm,rfl⟩:=List.mem_map.1 hp
  have y1:=hy y hm
  obtain⟨m,m0,e1,e2⟩:=key y y1
  refine⟨?_,?_,⟨m,e2⟩⟩
  ·have:=Nat.le_mul_of_pos_right (shq (Rat.divInt (y:Nat) (ys.sum:Nat))).1 m0
   omega
  ·apply Nat.pos_of_ne_zero
   intro hz
   rw[hz,Nat.zero_mul] at e2
   omega
 ·have : ∃y∈ys,0<y:=by
   apply Classical.byContradiction
   intro hn
   have hz : ∀y∈ys,y=0:=fun y hy=>Nat.eq_zero_of_not_pos fun h=>hn ⟨y,hy,h⟩
   have:ys.sum=0:=ksum_zero hz
   omega
  obtain⟨y,hm,y0⟩:=this
  refine⟨_,List.mem_map.2 ⟨y,hm,rfl⟩,?_⟩
  obtain⟨m,m0,e1,e2⟩:=key y (hy y hm)
  apply Nat.pos_of_ne_zero
  intro hz
  rw[hz,Nat.zero_mul] at e1
  omega
theorem sum_set (ys:List Nat) (i:Nat) (hi:i<ys.length) (h0:ys.sum=0):(ys.set i 1).sum=1:=by
 induction ys generalizing i with
 | nil=>simp at hi
 | cons a l ih =>
  rw[List.sum_cons] at h0
  cases i with
  | zero=>rw[List.set_cons_zero,List.sum_cons];omega
  | succ i =>
   rw[List.set_cons_succ,List.sum_cons,ih i (by simpa using hi) (by omega)];omega
theorem kSplice_set (l:List Int) (i:Nat) (x:Int) (hi:i<l.length):IH.splice (l.map KI) (i*1) [KI x]=(l.set i x).map KI:=by
 rw[Nat.mul_one]
 simp only[IH.splice,List.map_set,List.length_singleton]
 rw[List.set_eq_take_append_cons_drop,if_pos (by simpa using hi)]
 rfl
theorem dkernel_ok {h:IH} {sz:Nat} {v:Value} {lN:List Nat} (hv:BySl h v lN) (hsz:sz<256) :
  WV prog (.func (.func 11) #[] #[]) [.agg #[B8 sz,v]] h fun r h'=>Ext h h' ∧ ∃ll,ShLs h' r ll∧ll.length=1+sz % 4 ∧ ∀x∈ll,x.length=1+sz % 4∧rowS x:=by
 have cv:=hv.1.cells
 have co:=hv.1.cok
 have lv:=hv.2.1
 obtain⟨n,hn⟩ : ∃n,n=1+sz % 4:=⟨_,rfl⟩
 have nb4:1≤n∧n≤4:=by omega
 rw[←hn]
 have g0:(h.new (.cells [B8 sz,v] 0 none)).ext.get h.n=some (.cells [B8 sz,v] 0 none):=by simp (disch:=try exact dx) only[get_new_same]
 have E0:Ext h (h.new (.cells [B8 sz,v] 0 none)):=(Ext.refl h).new _
 obtain⟨Hb,hHb⟩ : ∃H,H=h.new (.cells [B8 sz,v] 0 none):=⟨_,rfl⟩
 have nb:Hb.n=h.n+1:=by rw[hHb];rfl
 have hr : ∀ox oy,binop prog .rem 5 ox oy (B8 sz) (.int .u8 4)=some (.int .u8 ((sz % 4:Nat):Int)):=fun ox oy=>rem_natk _ _ .u8 ox oy sz 4 (by omega)
 have en:(1:Int)+((sz % 4:Nat):Int)=(n:Int):=by omega
 refine enter (nt:=84) (rs:=[.tmp 2]) Proofs.Tryz.func11 rfl rfl rfl (by simp) ?_
 rw[←hHb] at g0 E0
 simp -dsimp (disch:=try exact dx) only[wpS,zE,fa24_0,ld5,cv5_3,hr,en]
 rw[←hHb]
 clear hHb
 refine loop (fun m fr hh => ∃(i:Nat) (out:Value) (vs:List Value) (ll:List (List (Nat×Nat))),i+m=n∧ll.length=i∧vs.length=i∧Ext Hb hh∧Acc hh Hb.n 1 out i vs∧(∀(k:Nat) x,ll[k]?=some x → ∃w,vs[k]?=some w∧ShSl hh w x)∧(∀x∈ll,x.length=n∧rowS x)∧fget fr 1=some (ptr (2*h.n) 0)∧fget fr 3=some (KN n)∧fget fr 4=some out∧fget fr 5=some (KN i)) n
  ⟨0,.slice none 0 0,[],[],by omega,rfl,rfl,Ext.refl _,Acc.nil _ _ (by omega),fun k x hx=>by simp at hx,fun x hx=>by simp at hx,by simp,by simp,by simp,by simp⟩ ?_
 rintro m fr hh ⟨i,out,vs,ll,him,hil,hvl,hE,hA,hll,hro,f1,f3,f4,f5⟩
 have hg:=hE.kept (by omega) g0
 have hnn:=hE.n
 have hEh:=E0.trans hE
 simp -dsimp (disch:=try exact dx) only[wpS,zE,f3,f5]
 refine bq_intro ?_ ?_<;>intro hc<;>simp only[decide_eq_true_eq,decide_eq_false_iff_not] at hc
 ·have hin:i<n:=by omega
  simp -dsimp (disch:=try exact dx) only[wpS,wpT]
  refine loop (fun m2 fr h2 => ∃(j:Nat) (o2:Value) (xs:List Nat),j+m2=n∧xs.length=j∧(∀x∈xs,x<6)∧Ext hh h2∧Acc h2 hh.n 1 o2 xs.length (xs.map KN)∧fget fr 1=some (ptr (2*h.n) 0)∧fget fr 3=some (KN n)∧fget fr 4=some out∧fget fr 5=some (KN i)∧fget fr 6=some o2∧fget fr 7=some (KN xs.sum)∧fget fr 8=some (KN j)) n
   ⟨0,.slice none 0 0,[],by omega,rfl,(fun x hx=>by cases hx),Ext.refl _,Acc.nil _ _ (by omega),by simp[f1],by simp[f3],by simp[f4],by simp[f5],by simp,by simp,by simp⟩ ?_
  clear f1 f3 f4 f5
  rintro m2 fr h2 ⟨j,o2,xs,hjm,hjl,hx6,hE2,hA2,f1,f3,f4,f5,f6,f7,f8⟩
  have hg2:=hE2.kept (by omega) hg
  have hn2:=hE2.n
  have hEh2:=hEh.trans hE2
  have hsum:xs.sum≤6*xs.length:=by
   clear hA2 f7 hjl hjm
   induction xs with
   | nil=>simp
   | cons a l ih =>
    rw[List.sum_cons,List.length_cons]
    have:=hx6 a (by simp)
    have:=ih fun x hx=>hx6 x (by simp[hx])
    omega
  simp -dsimp (disch:=try exact dx) only[wpS,zE,f3,f8]
  refine bq_intro ?_ ?_<;>intro hc2<;>simp only[decide_eq_true_eq,decide_eq_false_iff_not] at hc2
  ·have hjn:j<n:=by omega
   have enm:(n:Int)*(i:Int)=((n*i:Nat):Int):=(Int.natCast_mul _ _).symm
   have hni:n*i≤4*4:=Nat.mul_le_mul nb4.2 (by omega)
   obtain⟨t,ht⟩ : ∃t,t=n*i+j:=⟨_,rfl⟩
   have et:((n*i:Nat):Int)+(j:Int)=(t:Int):=by omega
   have fin : ∀y:Nat,y<6 → ∀fr':Fr,fget fr' 1=some (ptr (2*h.n) 0)→True:=fun _ _ _ _=>trivial
   by_cases c:t<lN.length
   ·obtain⟨x,hx⟩ : ∃x,lN[t]?=some x:=⟨_,List.getElem?_eq_getElem c⟩
    have xb:=hv.2.2 x (List.mem_of_getElem? hx)
    have hr6 : ∀ox oy,binop prog .rem 5 ox oy (B8 x) (.int .u8 6)=some (.int .u8 ((x % 6:Nat):Int)):=fun ox oy=>rem_natk _ _ .u8 ox oy x 6 (by omega)
    obtain⟨y,hy⟩ : ∃y,y=x % 6:=⟨_,rfl⟩
    have yb:y<6:=by omega
    rw[←hy] at hr6
    obtain⟨out',h8,hap,hA8,hG8,hE8⟩:=hA2.app1 (P:=prog) (t:=25) ap25 (x:=KN y) rfl (by omega) (by omega) hE2 (by omega)
    simp -dsimp (disch:=try exact dx) only[wpS,wpT,zE,zL,zA,cv5_3,fa24_1,ld22,bs25,ba25_25,f1,f3,f5,f6,f7,f8,enm,et,row_of hg2,hv.1.len sl22,hv.1.idx es22 c,hv.ld hEh2.keep hx,hr6,hap]
    refine⟨m2 - 1,by omega,j+1,out',xs ++ [y],by omega,by simp[hjl],?_,hE8,?_,by simp[f1],by simp[f3],by simp[f4],by simp[f5],by simp,?_,by simp⟩
    ·intro q hq
     rcases List.mem_append.1 hq with hq|hq
     ·exact hx6 q hq
     ·rw[List.mem_singleton.1 hq];exact yb
    ·rw[List.map_append,List.length_append];exact hA8
    ·simp[List.sum_append]
   ·obtain⟨out',h8,hap,hA8,hG8,hE8⟩:=hA2.app1 (P:=prog) (t:=25) ap25 (x:=KI 0) rfl (by omega) (by omega) hE2 (by omega)
    simp -dsimp (disch:=try exact dx) only[wpS,wpT,zE,zL,zA,fa24_1,ld22,bs25,ba25_25,f1,f3,f5,f6,f7,f8,enm,et,row_of hg2,hv.1.len sl22,hap]
    refine⟨m2 - 1,by omega,j+1,out',xs ++ [0],by omega,by simp[hjl],?_,hE8,?_,by simp[f1],by simp[f3],by simp[f4],by simp[f5],by simp,?_,by simp⟩
    ·intro q hq
     rcases List.mem_append.1 hq with hq|hq
     ·exact hx6 q hq
     ·rw[List.mem_singleton.1 hq];decide
    ·rw[List.map_append,List.length_append];exact hA8
    ·simp[List.sum_append]
  ·have hxn:xs.length=n:=by omega
   clear hc2
   by_cases c0:xs.sum=0
   ·have dz:(((xs.sum:Nat):Int) == 0)=true:=by simp[c0]
    have hix:i<xs.length:=by omega
    obtain⟨h3,st0,A3,e3,n3⟩:=hA2.setN (P:=prog) (t:=3) sz3 hix (x:=KI 1) (xs:=[KI 1]) rfl rfl rfl hE2 (Nat.le_refl _)
    have st:store prog h2 3 (elemAddr o2 i) (.int .i64 1)=some h3:=by rw[Nat.mul_one] at st0;exact st0
    have ix:=hA2.sl.idx (P:=prog) (k:=.i64) es25 hix
    have A3':Acc h3 hh.n 1 o2 n ((xs.set i 1).map KN):=by
     have e:IH.splice (xs.map KN) (i*1) [KI 1]=(xs.set i 1).map KN:=by
      have:=kSplice_set (xs.map fun y:Nat=>(y:Int)) i 1 (by simpa using hix)
      rw[List.map_map] at this
      rw[show(xs.map KN)=xs.map (KI ∘ fun y:Nat=>(y:Int)) from rfl,this,List.map_set,List.map_map,List.map_set]
      rfl
     rw[←e,←hxn];exact A3
    have hsv:(xs.set i 1).sum=1:=sum_set xs i hix c0
    have hy6 : ∀y∈xs.set i 1,y≤1000:=fun y hy=>(List.mem_or_eq_of_mem_set hy).elim (fun h=>by have:=hx6 y h;omega) (fun h=>by omega)
    have hyl:(xs.set i 1).length=n:=by rw[List.length_set];exact hxn
    obtain⟨s,hs⟩ : ∃s,s=(xs.set i 1).sum:=⟨_,rfl⟩
    have hs1:(s:Int)=1:=by rw[hs,hsv];rfl
    have hsb:0<s∧s≤100:=by rw[hs,sum_set xs i (by omega) c0];exact⟨by omega,by omega⟩
    have A3:Acc h3 hh.n 1 o2 n ((xs.set i 1).map KN):=A3'
    have E3:Ext hh h3:=e3
    have hn3:=E3.n
    have sO:InSl h3 o2 ((xs.set i 1).map fun y:Nat=>(y:Int)):=⟨by rw[List.length_map,hyl,List.map_map];exact A3.sl,by rw[List.length_map];omega,fun x hx=>by
     obtain⟨y,hy,rfl⟩:=List.mem_map.1 hx
     have:=hy6 y hy
     constructor<;>omega⟩
    obtain⟨ys,hys⟩ : ∃ys,ys=xs.set i 1:=⟨_,rfl⟩
    rw[←hys] at hy6 hyl hs sO
    simp -dsimp (disch:=try exact dx) only[wpS,wpT,zE,f5,f6,f7,ix,st,dz]
    refine loop (fun m4 fr h4 => ∃(j:Nat) (o3:Value),j+m4=n∧Ext h3 h4∧Acc h4 h3.n 16 o3 j (shL ((ys.take j).map fun y=>shq (Rat.divInt (y:Nat) (s:Nat))))∧fget fr 1=some (ptr (2*h.n) 0)∧fget fr 3=some (KN n)∧fget fr 4=some out∧fget fr 5=some (KN i)∧fget fr 6=some o2∧fget fr 7=some (KN s)∧fget fr 10=some o3∧fget fr 11=some (KN j)) n
     ⟨0,.slice none 0 0,by omega,Ext.refl _,Acc.nil _ _ (by omega),by simp[f1],by simp[f3],by simp[f4],by simp[f5],by simp[f6],by simp[hs1],by simp,by simp⟩ ?_
    clear f1 f3 f4 f5 f6 f7 f8
    rintro m4 fr h4 ⟨j,o3,hjm4,hE4,hA4,f1,f3,f4,f5,f6,f7,f10,f11⟩
    have hn4:=hE4.n
    have qwy : ∀y∈ys,QW (Rat.divInt (y:Nat) (s:Nat)):=fun y hy=>by
     have:=hy6 y hy
     exact qw_div ⟨by omega,by omega⟩ ⟨by omega,by omega⟩ (by omega)
    simp -dsimp (disch:=try exact dx) only[wpS,zE,f3,f11]
    refine bq_intro ?_ ?_<;>intro hc4<;>simp only[decide_eq_true_eq,decide_eq_false_iff_not] at hc4
    ·have hj:j<ys.length:=by omega
     obtain⟨y,hy⟩ : ∃y,ys[j]?=some y:=⟨_,List.getElem?_eq_getElem hj⟩
     have hym:=List.mem_of_getElem? hy
     have yb:=hy6 y hym
     have hyi:(ys.map fun y:Nat=>(y:Int))[j]?=some (y:Int):=by rw[List.getElem?_map,hy];rfl
     have ixo:=sO.1.idx (P:=prog) (k:=.i64) es25 (j:=j) (by rw[List.length_map];exact hj)
     simp -dsimp (disch:=try exact dx) only[wpS,wpT,zE,f6,f7,f11,ixo,inSl_ld sO hE4.keep hyi]
     refine call (ref02Of_ok (y:Int) (s:Int) ⟨by omega,by omega⟩ ⟨by omega,by omega⟩ (by omega)) ?_
     rintro _ h5 ⟨X5,rfl⟩
     rw[shareV_shq]
     have pw:=shq_lt (qwy y hym)
     obtain⟨p,hp⟩ : ∃p,p=shq (Rat.divInt (y:Nat) (s:Nat)):=⟨_,rfl⟩
     have etk:shL ((ys.take (j+1)).map fun y=>shq (Rat.divInt (y:Nat) (s:Nat)))=shL ((ys.take j).map fun y=>shq (Rat.divInt (y:Nat) (s:Nat))) ++ shC p.1 p.2:=by
      rw[take_snoc hy,List.map_append,List.map_cons,List.map_nil,kShL_snoc,hp]
     rw[←hp] at pw ⊢
     obtain⟨H6,hH6⟩ : ∃H,H=(h5.new (.cells Z16 0 none)).put h5.n (.cells (shC p.1 p.2) 0 none):=⟨_,rfl⟩
     have E6:Ext h5 H6:=by rw[hH6];exact((Ext.refl h5).new _).put (Nat.le_refl _) _
     have n6:H6.n=h5.n+1:=by rw[hH6];rfl
     have k6:H6.ext.get h5.n=some (.cells (shC p.1 p.2) 0 none):=by rw[hH6];simp (disch:=try exact dx) only[get_put_same]
     have m5:=X5.n
     simp -dsimp (disch:=try exact dx) only[wpS,wpT,zE,zL,zA,zc32,st32,shV_cells,shC_len,shC_all,sh_sp3]
     rw[←hH6]
     clear hH6
     have E56:=X5.trans E6
     obtain⟨out',h8,hap,hA8,hG8,hE8⟩:=(hA4.ext E56).appN (P:=prog) (t:=60) ap60 (m:=1) (new:=shC p.1 p.2) (by omega) (by rw[shC_len]) (shC_all _ _) (by omega) (by omega) (hE4.trans E56) (Nat.le_refl _)
     have hap':append prog (H6.new (.cells (shC p.1 p.2) 16 none)) 60 o3 (.slice (some ⟨2*H6.n,0,none⟩) 1 3)=some (out',h8):=hap
     simp -dsimp (disch:=try exact dx) only[wpS,wpT,zE,zL,zA,ld32,bs60,ba60_60,f10,f11,row_of k6,shC_len,sh_take,shV_cells,sh_sp3,show(.agg (shC p.1 p.2).toArray:Value)=shV p.1 p.2 from rfl,hap']
     exact⟨m4 - 1,by omega,j+1,out',by omega,hE8,by rw[etk];exact hA8,by simp[f1],by simp[f3],by simp[f4],by simp[f5],by simp[f6],by simp[f7],by simp,by simp⟩
    ·have hjn:j=n:=by omega
     subst hjn
     rw[List.take_of_length_le (by omega)] at hA4
     obtain⟨l,hl⟩ : ∃l,l=ys.map fun y=>shq (Rat.divInt (y:Nat) (s:Nat)):=⟨_,rfl⟩
     have hll4:l.length=j:=by rw[hl,List.length_map,hyl]
     rw[←hl] at hA4
     have rok:rowS l:=by rw[hl,hs];exact krowS_ok (by omega) (by omega) hy6
     have S4:ShSl h4 o3 l:=⟨by rw[hll4];exact hA4.sl,by omega,fun p hp=>by
      rw[hl] at hp
      obtain⟨y,hy,rfl⟩:=List.mem_map.1 hp
      exact shq_lt (qwy y hy)⟩
     have E34:=E3.trans hE4
     obtain⟨out',h8,hap,hA8,hG8,hE8⟩:=(hA.ext E34).app1 (P:=prog) (t:=38) ap38 (x:=o3) S4.1.cok (by omega) (by omega) (hE.trans E34) (Nat.le_refl _)
     have hap':append prog (h4.new (.cells [o3] 1 none)) 38 out (.slice (some ⟨2*h4.n,0,none⟩) 1 3)=some (out',h8):=hap
     simp -dsimp (disch:=try exact dx) only[wpS,wpT,zE,zL,zA,bs38,ba38_38,f4,f5,f10,S4.1.cells,hap']
     refine⟨m - 1,by omega,i+1,out',vs ++ [o3],ll ++ [l],by omega,by simp[hil],by simp[hvl],hE8,hA8,?_,?_,by simp[f1],by simp[f3],by simp,by simp⟩
     ·intro k x hx
      by_cases hk:k<i
      ·rw[List.getElem?_append_left (by omega)] at hx
       obtain⟨w,c3,c4⟩:=hll k x hx
       exact⟨w,by rw[List.getElem?_append_left (by omega)];exact c3,c4.keep (E34.keep.trans hG8.keep)⟩
      ·have hki:k=i:=by
        have:=(List.getElem?_eq_some_iff.1 hx).1
        simp at this
        omega
       subst hki
       rw[List.getElem?_append_right (by omega),hil,Nat.sub_self] at hx
       simp at hx
       subst hx
       exact⟨o3,by rw[List.getElem?_append_right (by omega),hvl,Nat.sub_self];rfl,S4.keep hG8.keep⟩
     ·intro x hx
      rcases List.mem_append.1 hx with hx|hx
      ·exact hro x hx
      ·rw[List.mem_singleton.1 hx];exact⟨hll4,rok⟩

   ·have dz:(((xs.sum:Nat):Int) == 0)=false:=by simp;omega
    have hy6 : ∀y∈xs,y≤1000:=fun y hy=>by have:=hx6 y hy;omega
    have hyl:(xs).length=n:=hxn
    obtain⟨s,hs⟩ : ∃s,s=(xs).sum:=⟨_,rfl⟩
    have hsb:0<s∧s≤100:=⟨by omega,by omega⟩
    have A3:Acc h2 hh.n 1 o2 n ((xs).map KN):=by rw[←hxn];exact hA2
    have E3:Ext hh h2:=hE2
    have hn3:=E3.n
    have sO:InSl h2 o2 ((xs).map fun y:Nat=>(y:Int)):=⟨by rw[List.length_map,hyl,List.map_map];exact A3.sl,by rw[List.length_map];omega,fun x hx=>by
     obtain⟨y,hy,rfl⟩:=List.mem_map.1 hx
     have:=hy6 y hy
     constructor<;>omega⟩
    obtain⟨ys,hys⟩ : ∃ys,ys=xs:=⟨_,rfl⟩
    rw[←hys] at hy6 hyl hs sO
    simp -dsimp (disch:=try exact dx) only[wpS,wpT,zE,f7,dz]
    refine loop (fun m4 fr h4 => ∃(j:Nat) (o3:Value),j+m4=n∧Ext h2 h4∧Acc h4 h2.n 16 o3 j (shL ((ys.take j).map fun y=>shq (Rat.divInt (y:Nat) (s:Nat))))∧fget fr 1=some (ptr (2*h.n) 0)∧fget fr 3=some (KN n)∧fget fr 4=some out∧fget fr 5=some (KN i)∧fget fr 6=some o2∧fget fr 7=some (KN s)∧fget fr 10=some o3∧fget fr 11=some (KN j)) n
     ⟨0,.slice none 0 0,by omega,Ext.refl _,Acc.nil _ _ (by omega),by simp[f1],by simp[f3],by simp[f4],by simp[f5],by simp[f6],by simp[f7,hs,hys],by simp,by simp⟩ ?_
    clear f1 f3 f4 f5 f6 f7 f8
    rintro m4 fr h4 ⟨j,o3,hjm4,hE4,hA4,f1,f3,f4,f5,f6,f7,f10,f11⟩
    have hn4:=hE4.n
    have qwy : ∀y∈ys,QW (Rat.divInt (y:Nat) (s:Nat)):=fun y hy=>by
     have:=hy6 y hy
     exact qw_div ⟨by omega,by omega⟩ ⟨by omega,by omega⟩ (by omega)
    simp -dsimp (disch:=try exact dx) only[wpS,zE,f3,f11]
    refine bq_intro ?_ ?_<;>intro hc4<;>simp only[decide_eq_true_eq,decide_eq_false_iff_not] at hc4
    ·have hj:j<ys.length:=by omega
     obtain⟨y,hy⟩ : ∃y,ys[j]?=some y:=⟨_,List.getElem?_eq_getElem hj⟩
     have hym:=List.mem_of_getElem? hy
     have yb:=hy6 y hym
     have hyi:(ys.map fun y:Nat=>(y:Int))[j]?=some (y:Int):=by rw[List.getElem?_map,hy];rfl
     have ixo:=sO.1.idx (P:=prog) (k:=.i64) es25 (j:=j) (by rw[List.length_map];exact hj)
     simp -dsimp (disch:=try exact dx) only[wpS,wpT,zE,f6,f7,f11,ixo,inSl_ld sO hE4.keep hyi]
     refine call (ref02Of_ok (y:Int) (s:Int) ⟨by omega,by omega⟩ ⟨by omega,by omega⟩ (by omega)) ?_
     rintro _ h5 ⟨X5,rfl⟩
     rw[shareV_shq]
     have pw:=shq_lt (qwy y hym)
     obtain⟨p,hp⟩ : ∃p,p=shq (Rat.divInt (y:Nat) (s:Nat)):=⟨_,rfl⟩
     have etk:shL ((ys.take (j+1)).map fun y=>shq (Rat.divInt (y:Nat) (s:Nat)))=shL ((ys.take j).map fun y=>shq (Rat.divInt (y:Nat) (s:Nat))) ++ shC p.1 p.2:=by
      rw[take_snoc hy,List.map_append,List.map_cons,List.map_nil,kShL_snoc,hp]
     rw[←hp] at pw ⊢
     obtain⟨H6,hH6⟩ : ∃H,H=(h5.new (.cells Z16 0 none)).put h5.n (.cells (shC p.1 p.2) 0 none):=⟨_,rfl⟩
     have E6:Ext h5 H6:=by rw[hH6];exact((Ext.refl h5).new _).put (Nat.le_refl _) _
     have n6:H6.n=h5.n+1:=by rw[hH6];rfl
     have k6:H6.ext.get h5.n=some (.cells (shC p.1 p.2) 0 none):=by rw[hH6];simp (disch:=try exact dx) only[get_put_same]
     have m5:=X5.n
     simp -dsimp (disch:=try exact dx) only[wpS,wpT,zE,zL,zA,zc32,st32,shV_cells,shC_len,shC_all,sh_sp3]
     rw[←hH6]
     clear hH6
     have E56:=X5.trans E6
     obtain⟨out',h8,hap,hA8,hG8,hE8⟩:=(hA4.ext E56).appN (P:=prog) (t:=60) ap60 (m:=1) (new:=shC p.1 p.2) (by omega) (by rw[shC_len]) (shC_all _ _) (by omega) (by omega) (hE4.trans E56) (Nat.le_refl _)
     have hap':append prog (H6.new (.cells (shC p.1 p.2) 16 none)) 60 o3 (.slice (some ⟨2*H6.n,0,none⟩) 1 3)=some (out',h8):=hap
     simp -dsimp (disch:=try exact dx) only[wpS,wpT,zE,zL,zA,ld32,bs60,ba60_60,f10,f11,row_of k6,shC_len,sh_take,shV_cells,sh_sp3,show(.agg (shC p.1 p.2).toArray:Value)=shV p.1 p.2 from rfl,hap']
     exact⟨m4 - 1,by omega,j+1,out',by omega,hE8,by rw[etk];exact hA8,by simp[f1],by simp[f3],by simp[f4],by simp[f5],by simp[f6],by simp[f7],by simp,by simp⟩
    ·have hjn:j=n:=by omega
     subst hjn
     rw[List.take_of_length_le (by omega)] at hA4
     obtain⟨l,hl⟩ : ∃l,l=ys.map fun y=>shq (Rat.divInt (y:Nat) (s:Nat)):=⟨_,rfl⟩
     have hll4:l.length=j:=by rw[hl,List.length_map,hyl]
     rw[←hl] at hA4
     have rok:rowS l:=by rw[hl,hs];exact krowS_ok (by omega) (by omega) hy6
     have S4:ShSl h4 o3 l:=⟨by rw[hll4];exact hA4.sl,by omega,fun p hp=>by
      rw[hl] at hp
      obtain⟨y,hy,rfl⟩:=List.mem_map.1 hp
      exact shq_lt (qwy y hy)⟩
     have E34:=E3.trans hE4
     obtain⟨out',h8,hap,hA8,hG8,hE8⟩:=(hA.ext E34).app1 (P:=prog) (t:=38) ap38 (x:=o3) S4.1.cok (by omega) (by omega) (hE.trans E34) (Nat.le_refl _)
     have hap':append prog (h4.new (.cells [o3] 1 none)) 38 out (.slice (some ⟨2*h4.n,0,none⟩) 1 3)=some (out',h8):=hap
     simp -dsimp (disch:=try exact dx) only[wpS,wpT,zE,zL,zA,bs38,ba38_38,f4,f5,f10,S4.1.cells,hap']
     refine⟨m - 1,by omega,i+1,out',vs ++ [o3],ll ++ [l],by omega,by simp[hil],by simp[hvl],hE8,hA8,?_,?_,by simp[f1],by simp[f3],by simp,by simp⟩
     ·intro k x hx
      by_cases hk:k<i
      ·rw[List.getElem?_append_left (by omega)] at hx
       obtain⟨w,c3,c4⟩:=hll k x hx
       exact⟨w,by rw[List.getElem?_append_left (by omega)];exact c3,c4.keep (E34.keep.trans hG8.keep)⟩
      ·have hki:k=i:=by
        have:=(List.getElem?_eq_some_iff.1 hx).1
        simp at this
        omega
       subst hki
       rw[List.getElem?_append_right (by omega),hil,Nat.sub_self] at hx
       simp at hx
       subst hx
       exact⟨o3,by rw[List.getElem?_append_right (by omega),hvl,Nat.sub_self];rfl,S4.keep hG8.keep⟩
     ·intro x hx
      rcases List.mem_append.1 hx with hx|hx
      ·exact hro x hx
      ·rw[List.mem_singleton.1 hx];exact⟨hll4,rok⟩

 ·have hin:i=n:=by omega
  subst hin
  simp -dsimp (disch:=try exact dx) only[wpS,wpT,zE,f4]
  exact⟨hEh,ll,⟨vs,by rw[hil];exact hA.sl,by omega,hll⟩,hil,hro⟩
end Go.Id

namespace Go.Id
open Go
theorem H8_1e12:1000000000000<H8:=by unfold H8;decide +kernel
theorem wdI_sm {n:Nat} (hn:n≤1000000000000):wdI n=(n:Int):=wdI_nat (Nat.lt_of_le_of_lt hn H8_1e12)
end Go.Id

namespace Go.Id
open Go
end Go.Id

namespace Go.Id
open Go
end Go.Id

namespace Go.Id
open Go
end Go.Id

namespace Go.Id
open Go
structure KeepZ (z:Nat) (h h':IH):Prop where
 n:h.n≤h'.n
 base:h'.base=h.base
 get : ∀k c f,k<h.n→h.ext.get k=some (.cells c z f) → ∃f',h'.ext.get k=some (.cells c z f')
theorem KeepZ.refl (z:Nat) (h:IH):KeepZ z h h:=⟨Nat.le_refl _,rfl,fun _ _ f _ hg=>⟨f,hg⟩⟩
theorem KeepZ.put {z:Nat} {a b:IH} (g:KeepZ z a b) {k e:Nat} {cs:List Value} {f:Option Nat} (hk:b.ext.get k=some (.cells cs e f)) (he:e≠z) (o:IObj):KeepZ z a (b.put k o):=⟨g.n,g.base,fun j c f1 hj hg=>by
 obtain⟨f2,h2⟩:=g.get j c f1 hj hg
 refine⟨f2,?_⟩
 rw[get_put,if_neg]
 ·exact h2
 ·rintro rfl;rw[hk] at h2;cases h2;exact he rfl⟩
theorem SlOf.keepZ {h h':IH} {sz:Nat} {v:Value} {n:Nat} {cs:List Value} (s:SlOf h sz v n cs) (e:KeepZ sz h h'):SlOf h' sz v n cs:=by
 obtain⟨hz,hl,s|⟨b,o,k,rfl,s⟩⟩:=s
 ·exact⟨hz,hl,.inl s⟩
 ·refine⟨hz,hl,.inr ⟨b,o,k,rfl,s.imp id fun⟨a1,a2,row,a3,h1,h2,h3⟩=>?_⟩⟩
  rcases a3 with a3|⟨a4,a5,f,a6⟩
  ·refine⟨a1,a2,row,.inl a3,?_,h2,h3⟩
   rw[←h1];simp[IH.row,a3.1,e.base]
  ·obtain⟨f',h4⟩:=e.get (b / 2) row f (by omega) a6
   refine⟨a1,a2,row,.inr ⟨a4,by have:=e.n;omega,f',h4⟩,?_,h2,h3⟩
   simp only[IH.row,cond_eq_ite,beq_iff_eq]
   rw[if_neg (by omega)]
   simp only[h4]
structure RowB (h:IH) (z k:Nat) (v:Value) (n:Nat) (cs:List Value):Prop where
 form:v=.slice (some ⟨2*k,0,none⟩) n (2*n+1)
 len:cs.length=n*z
 size:0<z
 some_:0<n
 old:k<h.n
 got:h.ext.get k=some (.cells cs z none)
theorem RowB.sl {h:IH} {z k:Nat} {v:Value} {n:Nat} {cs:List Value} (r:RowB h z k v n cs):SlOf h z v n cs:=by
 obtain⟨rfl,l,hz,hn,hk,hg⟩:=r
 exact sl_block hg hk hz l (by omega) (by omega)
theorem RowB.ext {h h':IH} {z k:Nat} {v:Value} {n:Nat} {cs:List Value} (r:RowB h z k v n cs) (e:Ext h h'):RowB h' z k v n cs :=
 ⟨r.form,r.len,r.size,r.some_,Nat.lt_of_lt_of_le r.old e.n,(e.get k r.old).trans r.got⟩
theorem RowB.put {h:IH} {z k:Nat} {v:Value} {n:Nat} {cs:List Value} (r:RowB h z k v n cs) {j:Nat} {c:List Value} {f:Option Nat} (hj:h.ext.get j=some (.cells c 0 f)) (o:IObj):RowB (h.put j o) z k v n cs :=
 ⟨r.form,r.len,r.size,r.some_,r.old,by
  rw[get_put,if_neg]
  ·exact r.got
  ·rintro rfl;have h1:=r.got;have h2:=r.size;rw[hj] at h1;cases h1;omega⟩
theorem spl_len {cs xs:List Value} {i:Nat} (h:i+xs.length≤cs.length):(IH.splice cs i xs).length=cs.length:=by
 simp only[IH.splice,List.length_append,List.length_take,List.length_drop];omega
theorem RowB.set {h:IH} {z k:Nat} {v:Value} {n:Nat} {cs:List Value} (r:RowB h z k v n cs) {P:Program} {t:TypeId} (hT:sizeT P t=some z) {i:Nat} (hi:i<n) {x:Value} {xs:List Value} (hx:x.cells.toList=xs) (hxl:xs.length=z) (hc:xs.all cellOK=true) :
  store P h t (elemAddr v (i*z)) x=some (h.put k (.cells (IH.splice cs (i*z) xs) z none))∧RowB (h.put k (.cells (IH.splice cs (i*z) xs) z none)) z k v n (IH.splice cs (i*z) xs):=by
 obtain⟨rfl,hl,hz,hn,hk,hg⟩:=r
 have hle:i*z+z≤cs.length:=by
  rw[hl,←Nat.succ_mul];exact Nat.mul_le_mul_right _ hi
 have k2:2*k / 2=k:=by omega
 have k1:(2*k % 2 == 1)=false:=by simp
 have hsx:x.cells.size=z:=by rw[←Array.length_toList,hx,hxl]
 have hst:store P h t (elemAddr (.slice (some ⟨2*k,0,none⟩) n (2*n+1)) (i*z)) x=h.wr (2*k) (i*z) xs:=by
  simp only[elemAddr,Nat.zero_add,store,asAddr,ptr,hT,hx,hsx,hc,beq_self_eq_true,Bool.and_self,cond_true]
 have hle2:Nat.ble (i*z+xs.length) cs.length=true:=by rw[Nat.ble_eq,hxl];exact hle
 refine⟨?_,rfl,by rw[spl_len (by omega)];exact hl,hz,hn,hk,get_put_same _ _ rfl⟩
 rw[hst]
 simp only[IH.wr,k1,k2,hg,hle2,cond_true,cond_false];rfl
theorem spl_here {cs xs:List Value} {i z:Nat} (hx:xs.length=z) (h:i*z+z≤cs.length):((IH.splice cs (i*z) xs).drop (i*z)).take z=xs:=by
 simp only[IH.splice]
 rw[List.drop_append,List.drop_of_length_le (by rw[List.length_take];omega),List.nil_append,List.length_take,Nat.min_eq_left (by omega),Nat.sub_self,List.drop_zero,List.take_append_of_le_length (by omega),List.take_of_length_le (by omega)]
theorem spl_there {cs xs:List Value} {i j z:Nat} (hx:xs.length=z) (h:i*z+z≤cs.length) (hj:j≠i):((IH.splice cs (i*z) xs).drop (j*z)).take z=(cs.drop (j*z)).take z:=by
 rcases Nat.lt_or_gt_of_ne hj with hlt|hgt
 ·have e:j*z+z≤i*z:=by rw[←Nat.succ_mul];exact Nat.mul_le_mul_right _ hlt
  simp only[IH.splice]
  apply List.ext_getElem?
  intro q
  rw[List.getElem?_take,List.getElem?_take]
  split
  ·rw[List.getElem?_drop,List.getElem?_drop,List.getElem?_append_left (by rw[List.length_take];omega),List.getElem?_take,if_pos (by omega)]
  ·rfl
 ·have e:i*z+z≤j*z:=by rw[←Nat.succ_mul];exact Nat.mul_le_mul_right _ hgt
  simp only[IH.splice]
  apply List.ext_getElem?
  intro q
  rw[List.getElem?_take,List.getElem?_take]
  split
  ·rw[List.getElem?_drop,List.getElem?_drop,List.getElem?_append_right (by rw[List.length_take];omega),List.getElem?_append_right (by rw[List.length_take];omega),List.getElem?_drop,List.length_take,Nat.min_eq_left (by omega)]
   congr 1;omega
  ·rfl
def RatAt (R:IH→Value→Rat→Prop) (h:IH) (cs:List Value) (j:Nat) (q:Rat):Prop:=∃a s b t,(cs.drop (j*4)).take 4 = [a,s,b,t]∧R h (.agg #[a,s,b,t]) q
theorem RatAt.mono {R:IH→Value→Rat→Prop} {h h':IH} {cs:List Value} {j:Nat} {q:Rat} (x:RatAt R h cs j q) (k : ∀v,R h v q→R h' v q):RatAt R h' cs j q:=let ⟨a,s,b,t,h1,h2⟩:=x;⟨a,s,b,t,h1,k _ h2⟩
theorem RatAt.set {R:IH→Value→Rat→Prop} {h:IH} {cs:List Value} {i:Nat} {q:Rat} {a s b t:Value} (hi:i*4+4≤cs.length) (r:R h (.agg #[a,s,b,t]) q):RatAt R h (IH.splice cs (i*4) [a,s,b,t]) i q:=⟨a,s,b,t,spl_here rfl hi,r⟩
theorem RatAt.other {R:IH→Value→Rat→Prop} {h:IH} {cs:List Value} {i j:Nat} {q:Rat} {a s b t:Value} (x:RatAt R h cs j q) (hi:i*4+4≤cs.length) (hj:j≠i):RatAt R h (IH.splice cs (i*4) [a,s,b,t]) j q:=by
 obtain⟨a',s',b',t',h1,h2⟩:=x
 exact⟨a',s',b',t',by rw[spl_there (z:=4) rfl hi hj];exact h1,h2⟩
theorem ElCs_of {R:IH→Value→Rat→Prop} {h:IH} : ∀{l:List Rat} {cs:List Value},cs.length=l.length*4→(∀j q,l[j]?=some q→RatAt R h cs j q)→ElCs R h l cs
 | [],cs,hl,_=>List.length_eq_zero_iff.1 (by simpa using hl)
 | q :: l,cs,hl,H=>by
  obtain⟨a,s,b,t,h1,h2⟩:=H 0 q rfl
  rw[Nat.zero_mul,List.drop_zero] at h1
  refine⟨a,s,b,t,cs.drop 4,?_,h2,ElCs_of (by rw[List.length_drop,hl,List.length_cons];omega) fun j p hj=>?_⟩
  ·have:=List.take_append_drop 4 cs
   rw[h1] at this
   exact this.symm
  ·obtain⟨a',s',b',t',h3,h4⟩:=H (j+1) p hj
   refine⟨a',s',b',t',?_,h4⟩
   rw[List.drop_drop,←h3]
   congr 2;omega
theorem ElSl.atAll {R:IH→Value→Rat→Prop} (k:Kept R) {h:IH} {v:Value} {l:List Rat} (s:ElSl R h v l) {i:Nat} {q:Rat} (hi:l[i]?=some q) {P:Program} {t:TypeId} (hT:isAggT P t=some true) (hS:sizeT P t=some 4) :
  ∃a s b u,(∀h',Keep h h'→load P h' t (elemAddr v (i*4))=some (.agg #[a,s,b,u]))∧R h (.agg #[a,s,b,u]) q:=by
 obtain⟨cs,hs,hc,hl⟩:=s
 have hil:=(List.getElem?_eq_some_iff.1 hi).1
 have hcl:=hc.len
 obtain⟨a,s,b,u,e1,r⟩:=hc.at hi
 exact⟨a,s,b,u,fun h' e=>by rw[hs.ldAgg e (by omega) (by omega) hT hS,e1],r⟩
end Go.Id
