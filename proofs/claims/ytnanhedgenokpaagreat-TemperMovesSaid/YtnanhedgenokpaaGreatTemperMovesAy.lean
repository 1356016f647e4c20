/-
  Contracts: the program's long integers: sums, differences and products of words. Contracts: the length of a number.
-/
import Derived.Test.YtnanhedgenokpaaGreatTemperMovesAt
import Derived.Test.YtnanhedgenokpaaGreatTemperMovesAx
import Derived.Test.YtnanhedgenokpaaGreatTemperMovesAw
import Derived.Test.YtnanhedgenokpaaGreatTemperMovesAv
import Derived.Test.YtnanhedgenokpaaGreatTemperMovesAs
set_option linter.unusedVariables false
set_option linter.unusedSimpArgs false
set_option linter.defProp false
set_option linter.deprecated false
namespace Go.Id
open Go
open Go.Proofs.Tryz (prog)
open Nat renaming reduceAdd→zA,reduceEqDiff→zE,reduceLeDiff→zL
theorem AR {os:List Nat} {k x i:Nat} (h:i≤k) (hk:k<os.length):B.az (os.set k x) i=B.az os i :=
 B.fb fun j hj=>by rw[B.cY hk,if_neg (by omega)]
theorem gR {os:List Nat} {k x:Nat} (hk:k<os.length):B.az (os.set k x) (k+1)=B.az os k+x*18446744073709551616 ^ k:=by
 rw[B.az,AR (Nat.le_refl _) hk,B.cY hk,if_pos rfl]
theorem Cm {h:IH} {v w:Value} {a b:List Nat} (ha:gu h v a) (hb:gu h w b) (nb:B.Norm b) (hle:B.au b≤B.au a) :
  WV prog (.func (.func 261) #[] #[]) [v,w] h fun r h'=>Ext h h' ∧ ∃os,r=.slice (some ⟨2*h.n,0,none⟩) a.length (2*a.length+1)∧gu h' r os∧B.au os=B.au a - B.au b:=by
 have la:=ha.2.2
 have lb:=hb.2.2
 refine enter (nt:=40) (rs:=[.tmp 4]) Proofs.Tryz.func261 rfl rfl rfl (by simp) ?_
 simp -dsimp (disch:=try exact dx) only[wpS,zE,zA,C4,ha.1.len ff]
 refine loop (fun m fr h1 => ∃(i bor:Nat) (os:List Nat),i+m=a.length∧ah fr 1=some w∧ah fr 5=some (.slice (some ⟨2*h.n,0,none⟩) a.length (2*a.length+1))∧ah fr 6=some (K64 bor)∧ah fr 13=some v∧ah fr 14=some (KN a.length)∧ah fr 15=some (KN i)∧bor≤1∧os.length=a.length∧B.bz os ∧
  B.az a i+bor*18446744073709551616 ^ i=B.az b i+B.az os i∧h.n<h1.n∧h1.ext.get h.n=some (.cells (os.map K64) 1 none)∧Ext h h1) a.length
  ⟨0,0,List.replicate a.length 0,by simp,by simp,by simp,by simp,by simp,by simp,by simp,by omega,by simp,B.bz.bA _,by simp[B.az],by simp,by rw[aa _ _ rfl,mw],(Ext.refl h).new _⟩ ?_
 rintro m fr h1 ⟨i,bor,os,him,f1,f5,f6,f13,f14,f15,Dv,hos,hd,hv,hn,hg,hE⟩
 simp -dsimp (disch:=try exact dx) only[wpS,f14,f15]
 refine ax ?_ ?_<;>intro hc<;>simp only[decide_eq_true_eq,decide_eq_false_iff_not] at hc
 ·have hi:i<a.length:=by omega
  have da:=B.bj ha.2.1 i
  have db:=B.bj hb.2.1 i
  have gx:=get_some hi
  generalize hx:a.getD i 0=x at *
  generalize hy:b.getD i 0=y at *
  simp -dsimp (disch:=try exact dx) only[wpS,wpT,zE,f1,f13,f15,ha.1.idx fM hi,ha.1.ld hE.ab (P:=prog) (t:=28) (c:=i) (by simpa using hi) nV,bD,gx,hb.1.len ff]
  refine fR (fun fr2 h2=>h2=h1∧ah fr2 1=some w∧ah fr2 5=some (.slice (some ⟨2*h.n,0,none⟩) a.length (2*a.length+1))∧ah fr2 6=some (K64 bor)∧ah fr2 7=some (KN i)∧ah fr2 8=some (K64 x)∧ah fr2 9=some (K64 y)∧ah fr2 13=some v∧ah fr2 14=some (KN a.length)∧ah fr2 15=some (KN i)) (fun hc=>?_) (fun hc=>?_) ?_
  ·simp only[decide_eq_true_eq] at hc
   have hi2:i<b.length:=by omega
   have gy:=get_some hi2
   rw[hy] at gy
   simp -dsimp (disch:=try exact dx) only[wpS,wpT,zE,f1,hb.1.idx fM hi2,hb.1.ld hE.ab (P:=prog) (t:=28) (c:=i) (by simpa using hi2) nV,bD,gy]
   exact⟨rfl,by simp[f1],by simp[f5],by simp[f6],by simp,by simp,by simp,by simp[f13],by simp[f14],by simp[f15]⟩
  ·simp only[decide_eq_false_iff_not] at hc
   have hy0:y=0:=by rw[←hy];exact B.cH (by omega)
   subst hy0
   simp -dsimp (disch:=try exact dx) only[wpS,wpT]
   exact⟨rfl,by simp[f1],by simp[f5],by simp[f6],by simp,by simp,by simp,by simp[f13],by simp[f14],by simp[f15]⟩
  ·rintro fr2 h2 ⟨rfl,f1,f5,f6,f7,f8,f9,f13,f14,f15⟩
   simp -dsimp (disch:=try exact dx) only[wpS,zE,f5,f6,f7,f8,f9]
   refine call (Cp x y bor Dv) ?_
   rintro _ _ ⟨rfl,rfl⟩
   have hi3:i<os.length:=by omega
   generalize hdd:(x+18446744073709551616 - y - bor) % 18446744073709551616=d
   obtain⟨b2,hb2,hb1,iz⟩ : ∃b2:Nat,(bif Nat.blt x (y+bor) then 1 else 0)=b2∧b2≤1∧x+b2*18446744073709551616=y+bor+d:=by
    by_cases hlt:x<y+bor
    ·have e:Nat.blt x (y+bor)=true:=by simp only[Nat.blt,Nat.ble_eq];exact hlt
     refine⟨1,by rw[e];rfl,by omega,by omega⟩
    ·have e:Nat.blt x (y+bor)=false:=by rw[Bool.eq_false_iff];intro h;simp[Nat.blt] at h;omega
     refine⟨0,by rw[e];rfl,by omega,by omega⟩
   rw[hb2]
   have hd2:d<18446744073709551616:=by omega
   have spl:=iQ d hi3
   rename_i h3
   simp -dsimp (disch:=try exact dx) only[wpS,wpT,zE,fM,mb,f15,hg,spl,List.length_map,hos]
   refine⟨m - 1,by omega,i+1,b2,os.set i d,by omega,by simp[f1],by simp[f5],by simp,by simp[f13],by simp[f14],by simp,hb1,by rw[List.length_set,hos],hd.set _ hd2,?_,hn,ad _ _ rfl,hE.put (Nat.le_refl _) _⟩
   rw[gR hi3,B.az,B.az,hx,hy,Nat.pow_succ]
   have e3:x*18446744073709551616 ^ i+b2*(18446744073709551616 ^ i*18446744073709551616)=(y+bor+d)*18446744073709551616 ^ i:=by rw[←iz];grind
   have e4:(y+bor+d)*18446744073709551616 ^ i=y*18446744073709551616 ^ i+bor*18446744073709551616 ^ i+d*18446744073709551616 ^ i:=by grind
   omega
 ·obtain rfl:i=a.length:=by omega
  have hbl:=nb.lH ha.2.1 hle
  rw[B.gY hbl,B.gY (Nat.le_refl _),B.gY (show os.length≤a.length by omega)] at hv
  have hlt:=B.jH hd
  rw[hos] at hlt
  have hb0:bor=0:=by
   apply Classical.byContradiction;intro hne
   have:bor=1:=by omega
   subst this;omega
  subst hb0
  simp -dsimp (disch:=try exact dx) only[wpS,wpT,zE,f5]
  exact⟨hE,os,⟨by rw[hos];exact cV hg hn (by decide) (by simp[hos]) (by omega) (by omega),hd,by omega⟩,by omega⟩
theorem ME {h:IH} {v w:Value} {a b:List Nat} (ha:gu h v a) (hb:gu h w b) (la:a.length≤1000001) (lb:b.length≤1000001) :
  WV prog (.func (.func 259) #[] #[]) [v,w] h fun r h'=>Ext h h' ∧ ∃os,gu h' r os∧B.au os=B.au a+B.au b:=by
 refine enter (nt:=53) (rs:=[.tmp 4]) Proofs.Tryz.func259 rfl rfl rfl (by simp) ?_
 simp -dsimp (disch:=try exact dx) only[wpS,zE,zA,ha.1.len ff,hb.1.len ff]
 refine fR (fun fr2 h2=>h2=h ∧ ∃(v' w':Value) (a' b':List Nat),gu h v' a'∧gu h w' b'∧a'.length≤1000001∧b'.length≤a'.length∧B.au a'+B.au b'=B.au a+B.au b∧ah fr2 0=some v'∧ah fr2 1=some w') (fun hc=>?_) (fun hc=>?_) ?_
 ·simp only[decide_eq_true_eq] at hc
  simp -dsimp (disch:=try exact dx) only[wpS,wpT,zE]
  exact⟨rfl,w,v,b,a,hb,ha,lb,by omega,by omega,by simp,by simp⟩
 ·simp only[decide_eq_false_iff_not] at hc
  simp -dsimp (disch:=try exact dx) only[wpS,wpT]
  exact⟨rfl,v,w,a,b,ha,hb,la,by omega,rfl,by simp,by simp⟩
 clear ha hb la lb
 rintro fr h1 ⟨rfl,v,w,a',b',ha,hb,la,hle,Ds,f0,f1⟩
 rw[←Ds]
 clear Ds
 have eL:(a'.length:Int)+1=((a'.length+1:Nat):Int):=by omega
 simp -dsimp (disch:=try exact dx) only[wpS,wpT,zE,C4,f0,ha.1.len ff,eL]
 refine loop (fun m fr h2 => ∃(i c:Nat) (os:List Nat),i+m=a'.length∧ah fr 0=some v∧ah fr 1=some w∧ah fr 5=some (.slice (some ⟨2*h1.n,0,none⟩) (a'.length+1) (2*(a'.length+1)+1))∧ah fr 6=some (K64 c)∧ah fr 21=some v∧ah fr 22=some (KN a'.length)∧ah fr 23=some (KN i)∧c≤1∧os.length=a'.length+1∧B.bz os ∧
  B.az os i+c*18446744073709551616 ^ i=B.az a' i+B.az b' i∧h1.n<h2.n∧h2.ext.get h1.n=some (.cells (os.map K64) 1 none)∧Ext h1 h2) a'.length
  ⟨0,0,List.replicate (a'.length+1) 0,by simp,by simp[f0],by simp[f1],by simp,by simp,by simp,by simp,by simp,by omega,by simp,B.bz.bA _,by simp[B.az],by simp,by rw[aa _ _ rfl,mw];rfl,(Ext.refl h1).new _⟩ ?_
 clear f0 f1
 rintro m fr h2 ⟨i,c,os,him,f0,f1,f5,f6,f21,f22,f23,hcc,hos,hd,hv,hn,hg,hE⟩
 simp -dsimp (disch:=try exact dx) only[wpS,f22,f23]
 refine ax ?_ ?_<;>intro hc<;>simp only[decide_eq_true_eq,decide_eq_false_iff_not] at hc
 ·have hi:i<a'.length:=by omega
  have da:=B.bj ha.2.1 i
  have db:=B.bj hb.2.1 i
  have gx:=get_some hi
  generalize hx:a'.getD i 0=x at *
  generalize hy:b'.getD i 0=y at *
  simp -dsimp (disch:=try exact dx) only[wpS,wpT,zE,f1,f21,f23,ha.1.idx fM hi,ha.1.ld hE.ab (P:=prog) (t:=28) (c:=i) (by simpa using hi) nV,bD,gx,hb.1.len ff]
  refine fR (fun fr2 h3=>h3=h2∧ah fr2 0=some v∧ah fr2 1=some w∧ah fr2 5=some (.slice (some ⟨2*h1.n,0,none⟩) (a'.length+1) (2*(a'.length+1)+1))∧ah fr2 6=some (K64 c)∧ah fr2 7=some (KN i)∧ah fr2 8=some (K64 x)∧ah fr2 9=some (K64 y)∧ah fr2 21=some v∧ah fr2 22=some (KN a'.length)∧ah fr2 23=some (KN i)) (fun hc=>?_) (fun hc=>?_) ?_
  ·simp only[decide_eq_true_eq] at hc
   have hi2:i<b'.length:=by omega
   have gy:=get_some hi2
   rw[hy] at gy
   simp -dsimp (disch:=try exact dx) only[wpS,wpT,zE,f1,hb.1.idx fM hi2,hb.1.ld hE.ab (P:=prog) (t:=28) (c:=i) (by simpa using hi2) nV,bD,gy]
   exact⟨rfl,by simp[f0],by simp[f1],by simp[f5],by simp[f6],by simp,by simp,by simp,by simp[f21],by simp[f22],by simp[f23]⟩
  ·simp only[decide_eq_false_iff_not] at hc
   have hy0:y=0:=by rw[←hy];exact B.cH (by omega)
   subst hy0
   simp -dsimp (disch:=try exact dx) only[wpS,wpT]
   exact⟨rfl,by simp[f0],by simp[f1],by simp[f5],by simp[f6],by simp,by simp,by simp,by simp[f21],by simp[f22],by simp[f23]⟩
  ·rintro fr2 h3 ⟨rfl,f0,f1,f5,f6,f7,f8,f9,f21,f22,f23⟩
   simp -dsimp (disch:=try exact dx) only[wpS,zE,f5,f6,f7,f8,f9]
   refine call (yq x y c hcc) ?_
   rintro _ _ ⟨rfl,rfl⟩
   have hi3:i<os.length:=by omega
   generalize hs:x+y+c=s
   have spl:=iQ (s % 18446744073709551616) hi3
   simp -dsimp (disch:=try exact dx) only[wpS,wpT,zE,zL,fM,mb,f23,hg,spl,List.length_map,hos]
   refine⟨m - 1,by omega,i+1,s / 18446744073709551616,os.set i (s % 18446744073709551616),by omega,by simp[f0],by simp[f1],by simp[f5],by simp,by simp[f21],by simp[f22],by simp,by omega,by rw[List.length_set,hos],hd.set _ (by omega),?_,hn,ad _ _ rfl,hE.put (Nat.le_refl _) _⟩
   rw[gR hi3,B.az,B.az,hx,hy,Nat.pow_succ]
   have iz:s % 18446744073709551616+s / 18446744073709551616*18446744073709551616=x+y+c:=by omega
   have e3:s % 18446744073709551616*18446744073709551616 ^ i+s / 18446744073709551616*(18446744073709551616 ^ i*18446744073709551616)=(x+y+c)*18446744073709551616 ^ i:=by rw[←iz];grind
   have e4:(x+y+c)*18446744073709551616 ^ i=x*18446744073709551616 ^ i+y*18446744073709551616 ^ i+c*18446744073709551616 ^ i:=by grind
   omega
 ·obtain rfl:i=a'.length:=by omega
  have hi3:a'.length<os.length:=by omega
  have spl:=iQ c hi3
  simp -dsimp (disch:=try exact dx) only[wpS,wpT,zE,zL,fM,mb,f0,f5,f6,ha.1.len ff,hg,spl,List.length_map,hos]
  refine⟨hE.put (Nat.le_refl _) _,os.set a'.length c,⟨?_,hd.set _ (by omega),by rw[List.length_set];omega⟩,?_⟩
  ·rw[List.length_set,hos]
   exact cV (ad _ _ rfl) hn (by decide) (by simp[hos]) (by omega) (by omega)
  ·have:=gR (x:=c) hi3
   rw[B.gY hle,B.gY (Nat.le_refl _)] at hv
   rw[B.au,List.length_set,hos,this,hv]
theorem ND {h:IH} (x y:Nat) (hx:x<18446744073709551616) (hy:y<18446744073709551616):WV prog (.func (.func 180) #[] #[]) [K64 x,K64 y] h fun r h'=>h'=h∧r=.tuple #[K64 (x*y / 18446744073709551616),K64 (x*y % 18446744073709551616)]:=by
 obtain⟨x0,hx0⟩ : ∃x0,x0=x % 4294967296:=⟨_,rfl⟩
 obtain⟨x1,hx1⟩ : ∃x1,x1=x / 4294967296:=⟨_,rfl⟩
 obtain⟨y0,hy0⟩ : ∃y0,y0=y % 4294967296:=⟨_,rfl⟩
 obtain⟨y1,hy1⟩ : ∃y1,y1=y / 4294967296:=⟨_,rfl⟩
 have ex:x=x1*4294967296+x0:=by omega
 have ey:y=y1*4294967296+y0:=by omega
 obtain⟨m1,m2,m3⟩:=KC (x1:=x1) (x0:=x0) (y1:=y1) (y0:=y0) (by omega) (by omega) (by omega) (by omega)
 rw[←ex,←ey] at m3
 have a1:x &&& 4294967295=x0:=by rw[hx0];exact Nat.and_two_pow_sub_one_eq_mod x 32
 have a2:y &&& 4294967295=y0:=by rw[hy0];exact Nat.and_two_pow_sub_one_eq_mod y 32
 have a3:lF x 32=x1:=by rw[hx1];exact Nat.shiftRight_eq_div_pow x 32
 have a4:lF y 32=y1:=by rw[hy1];exact Nat.shiftRight_eq_div_pow y 32
 have b00:x0*y0≤4294967295*4294967295:=Nat.mul_le_mul (by omega) (by omega)
 have b01:x0*y1≤4294967295*4294967295:=Nat.mul_le_mul (by omega) (by omega)
 have b10:x1*y0≤4294967295*4294967295:=Nat.mul_le_mul (by omega) (by omega)
 have b11:x1*y1≤4294967295*4294967295:=Nat.mul_le_mul (by omega) (by omega)
 have c00:(x0:Int)*(y0:Int)=((x0*y0:Nat):Int):=by simp
 have c01:(x0:Int)*(y1:Int)=((x0*y1:Nat):Int):=by simp
 have c10:(x1:Int)*(y0:Int)=((x1*y0:Nat):Int):=by simp
 have c11:(x1:Int)*(y1:Int)=((x1*y1:Nat):Int):=by simp
 have cxy:(x:Int)*(y:Int)=((x*y:Nat):Int):=by simp
 generalize x0*y0=p00 at *
 generalize x0*y1=p01 at *
 generalize x1*y0=p10 at *
 generalize x1*y1=p11 at *
 generalize x*y=pp at *
 obtain⟨t,ht⟩ : ∃t,t=p10+p00 / 4294967296:=⟨_,rfl⟩
 rw[←ht] at m1 m2 m3
 obtain⟨w,hw⟩ : ∃w,w=t % 4294967296+p01:=⟨_,rfl⟩
 rw[←hw] at m2 m3
 have s1:lF p00 32=p00 / 4294967296:=Nat.shiftRight_eq_div_pow p00 32
 have s2:lF t 32=t / 4294967296:=Nat.shiftRight_eq_div_pow t 32
 have s3:lF w 32=w / 4294967296:=Nat.shiftRight_eq_div_pow w 32
 have a5:t &&& 4294967295=t % 4294967296:=Nat.and_two_pow_sub_one_eq_mod t 32
 have eT:(p10:Int)+((p00 / 4294967296:Nat):Int)=(t:Int):=by omega
 have eW:((t % 4294967296:Nat):Int)+(p01:Int)=(w:Int):=by omega
 have wr:IntKind.u64.wrap (pp:Int)=((pp % 18446744073709551616:Nat):Int):=by rw[pY];omega
 refine enter (nt:=51) (rs:=[.tmp 4,.tmp 5]) Proofs.Tryz.func180 rfl rfl rfl (by simp) ?_
 simp -dsimp (maxSteps:=1000000) (disch:=first|omega|(simp only[al,aq];omega)|decide +kernel|(repeat first|rw[al]|rw[aq])) only[wpS,wpT,zE,zA,Int.reduceToNat,a1,a2,a3,a4,c00,c01,c10,c11,s1,eT,a5,s2,eW,s3]
 rw[cxy,wr,←m3]
 simp
theorem Hy {h:IH} (x y:Nat):WV prog (.func (.func 242) #[] #[]) [K64 x,K64 y,.int .u64 0] h fun r h'=>h'=h∧r=.tuple #[K64 ((x+y) % 18446744073709551616),K64 ((x+y) / 18446744073709551616)]:=yq x y 0 (by omega)
theorem yK {h:IH} {v w:Value} {a b:List Nat} (ha:gu h v a) (hb:gu h w b) (hab:a.length+b.length≤1100000) :
  WV prog (.func (.func 174) #[] #[]) [v,w] h fun r h'=>Ext h h' ∧ ∃os,gu h' r os∧B.au os=B.au a*B.au b:=by
 have eL:(a.length:Int)+(b.length:Int)=((a.length+b.length:Nat):Int):=by omega
 refine enter (nt:=80) (rs:=[.tmp 4]) Proofs.Tryz.func174 rfl rfl rfl (by simp) ?_
 simp -dsimp (disch:=try exact dx) only[wpS,zE,zA,C4,ha.1.len ff,hb.1.len ff,eL]
 refine loop (fun m fr h1 => ∃(i:Nat) (os:List Nat),i+m=a.length∧Ext h h1∧h.n<h1.n∧h1.ext.get h.n=some (.cells (os.map K64) 1 none)∧os.length=a.length+b.length∧B.bz os∧B.au os=B.az a i*B.au b∧(∀k,i+b.length≤k→os.getD k 0=0) ∧
   ah fr 1=some w∧ah fr 5=some (.slice (some ⟨2*h.n,0,none⟩) (a.length+b.length) (2*(a.length+b.length)+1))∧ah fr 22=some v∧ah fr 23=some (KN a.length)∧ah fr 24=some (KN i)) a.length
  ⟨0,List.replicate (a.length+b.length) 0,by omega,(Ext.refl h).new _,by simp,by rw[aa _ _ rfl,mw],by simp,B.bz.bA _,by rw[B.jn];simp[B.az],fun k _=>B.jB _ _,by simp,by simp,by simp,by simp,by simp⟩ ?_
 rintro m fr h1 ⟨i,os,him,hE,hn,hg,hol,hod,hov,hoz,f1,f5,f22,f23,f24⟩
 simp -dsimp (disch:=try exact dx) only[wpS,f23,f24]
 refine ax ?_ ?_<;>intro hc<;>simp only[decide_eq_true_eq,decide_eq_false_iff_not] at hc
 ·have hi:i<a.length:=by omega
  have da:=B.bj ha.2.1 i
  have gx:=get_some hi
  generalize hx:a.getD i 0=x at *
  simp -dsimp (disch:=try exact dx) only[wpS,wpT,zE,f1,f22,f24,ha.1.idx fM hi,ha.1.ld hE.ab (P:=prog) (t:=28) (c:=i) (by simpa using hi) nV,bD,gx,hb.1.len ff]
  refine loop (fun m2 fr h2 => ∃(j c:Nat) (os2:List Nat),j+m2=b.length∧Ext h h2∧h.n<h2.n∧h2.ext.get h.n=some (.cells (os2.map K64) 1 none)∧os2.length=a.length+b.length∧B.bz os2∧c<18446744073709551616∧B.au os2+c*18446744073709551616 ^ (i+j)=B.az a i*B.au b+x*B.az b j*18446744073709551616 ^ i∧(∀k,i+b.length≤k→os2.getD k 0=0) ∧
    ah fr 1=some w∧ah fr 5=some (.slice (some ⟨2*h.n,0,none⟩) (a.length+b.length) (2*(a.length+b.length)+1))∧ah fr 22=some v∧ah fr 23=some (KN a.length)∧ah fr 24=some (KN i)∧ah fr 6=some (KN i)∧ah fr 7=some (K64 x)∧ah fr 8=some (K64 c)∧ah fr 29=some w∧ah fr 30=some (KN b.length)∧ah fr 31=some (KN j)) b.length
   ⟨0,0,os,by omega,hE,hn,hg,hol,hod,by omega,by rw[hov];simp[B.az],hoz,by simp[f1],by simp[f5],by simp[f22],by simp[f23],by simp[f24],by simp,by simp,by simp,by simp,by simp,by simp⟩ ?_
  clear hE hn hg hol hod hov hoz f1 f5 f22 f23 f24
  rintro m2 fr h2 ⟨j,c,os2,hjm,hE,hn,hg,hol,hod,hc4,hov,hoz,f1,f5,f22,f23,f24,f6,f7,f8,f29,f30,f31⟩
  simp -dsimp (disch:=try exact dx) only[wpS,f30,f31]
  refine ax ?_ ?_<;>intro hc2<;>simp only[decide_eq_true_eq,decide_eq_false_iff_not] at hc2
  ·have hj:j<b.length:=by omega
   have db:=B.bj hb.2.1 j
   have doo:=B.bj hod (i+j)
   have hr:h2.row (2*h.n)=some (os2.map K64):=bg hg
   have gy:=get_some hj
   have go:=get_some (show i+j<os2.length by omega)
   generalize hy:b.getD j 0=y at *
   generalize ho:os2.getD (i+j) 0=o at *
   have gor:(os2.map K64)[i+j]?=some (K64 o):=by rw[List.getElem?_map,go];rfl
   have eI:(i:Int)+(j:Int)=((i+j:Nat):Int):=by omega
   have hp:x*y≤18446744073709551615*18446744073709551615:=Nat.mul_le_mul (by omega) (by omega)
   simp -dsimp (disch:=try exact dx) only[wpS,wpT,zE,f7,f29,f31,hb.1.idx fM hj,hb.1.ld hE.ab (P:=prog) (t:=28) (c:=j) (by simpa using hj) nV,bD,gy]
   refine call (ND x y da db) ?_
   rintro _ _ ⟨rfl,rfl⟩
   obtain⟨p,hpp⟩ : ∃p,p=x*y:=⟨_,rfl⟩
   rw[←hpp] at hp ⊢
   rename_i h3
   simp -dsimp (disch:=try exact dx) only[wpS,zE,fM,jY,f5,f6,hr,gor,eI]
   refine call (Hy o (p % 18446744073709551616)) ?_
   rintro _ _ ⟨rfl,rfl⟩
   rename_i h4
   simp -dsimp (disch:=try exact dx) only[wpS,zE,f8]
   refine call (Hy ((o+p % 18446744073709551616) % 18446744073709551616) c) ?_
   rintro _ _ ⟨rfl,rfl⟩
   rename_i h5
   obtain⟨s,hs⟩ : ∃s,s=c+o+p:=⟨_,rfl⟩
   have eR:((o+p % 18446744073709551616) % 18446744073709551616+c) % 18446744073709551616=s % 18446744073709551616:=by omega
   have eQ:((p / 18446744073709551616:Nat):Int)+(((o+p % 18446744073709551616) / 18446744073709551616:Nat):Int)+((((o+p % 18446744073709551616) % 18446744073709551616+c) / 18446744073709551616:Nat):Int)=((s / 18446744073709551616:Nat):Int):=by omega
   have spl:=iQ (s % 18446744073709551616) (show i+j<os2.length by omega)
   rw[eR]
   simp -dsimp (maxSteps:=1000000) (disch:=first|omega|(simp only[al,aq];omega)|decide +kernel|(repeat first|rw[al]|rw[aq])) only[wpS,wpT,zE,fM,mb,f5,f6,f31,eI,eQ,hg,spl,List.length_map,hol]
   refine⟨m2 - 1,by omega,j+1,s / 18446744073709551616,os2.set (i+j) (s % 18446744073709551616),by omega,hE.put (Nat.le_refl _) _,hn,ad _ _ rfl,by rw[List.length_set,hol],hod.set _ (by omega),by omega,?_,?_,by simp[f1],by simp[f5],by simp[f22],by simp[f23],by simp[f24],by simp[f6],by simp[f7],by simp,by simp[f29],by simp[f30],by simp⟩
   ·have hv:=B.gS (s % 18446744073709551616) (show i+j<os2.length by omega)
    rw[ho] at hv
    have hsd:s % 18446744073709551616+s / 18446744073709551616*18446744073709551616=c+o+x*y:=by omega
    rw[B.az,hy]
    have e1:18446744073709551616 ^ (i+(j+1))=18446744073709551616 ^ (i+j)*18446744073709551616:=by rw[←Nat.add_assoc,Nat.pow_succ]
    have e2:18446744073709551616 ^ (i+j)=18446744073709551616 ^ i*18446744073709551616 ^ j:=Nat.pow_add _ _ _
    rw[e1]
    have e3:s % 18446744073709551616*18446744073709551616 ^ (i+j)+s / 18446744073709551616*(18446744073709551616 ^ (i+j)*18446744073709551616)=(c+o+x*y)*18446744073709551616 ^ (i+j):=by rw[←hsd];grind
    have e4:x*(B.az b j+y*18446744073709551616 ^ j)*18446744073709551616 ^ i=x*B.az b j*18446744073709551616 ^ i+x*y*18446744073709551616 ^ (i+j):=by rw[e2];grind
    have e5:(c+o+x*y)*18446744073709551616 ^ (i+j)=c*18446744073709551616 ^ (i+j)+o*18446744073709551616 ^ (i+j)+x*y*18446744073709551616 ^ (i+j):=by grind
    omega
   ·intro k hk
    rw[B.cY (by omega),if_neg (by omega)]
    exact hoz k hk
  ·obtain rfl:j=b.length:=by omega
   have hz:=hoz (i+b.length) (Nat.le_refl _)
   have eI:(i:Int)+(b.length:Int)=((i+b.length:Nat):Int):=by omega
   have spl:=iQ c (show i+b.length<os2.length by omega)
   simp -dsimp (disch:=try exact dx) only[wpS,wpT,zE,fM,mb,f1,f5,f6,f8,f24,hb.1.len ff,eI,hg,spl,List.length_map,hol]
   refine⟨m - 1,by omega,i+1,os2.set (i+b.length) c,by omega,hE.put (Nat.le_refl _) _,hn,ad _ _ rfl,by rw[List.length_set,hol],hod.set _ (by omega),?_,?_,by simp[f1],by simp[f5],by simp[f22],by simp[f23],by simp⟩
   ·have hv:=B.gS c (show i+b.length<os2.length by omega)
    rw[hz,Nat.zero_mul,Nat.add_zero] at hv
    rw[hv,hov,B.az,hx,show B.az b b.length=B.au b from rfl]
    grind
   ·intro k hk
    rw[B.cY (by omega),if_neg (by omega)]
    exact hoz k (by omega)
 ·obtain rfl:i=a.length:=by omega
  simp -dsimp (disch:=try exact dx) only[wpS,wpT,zE,f5]
  refine⟨hE,os,⟨?_,hod,by omega⟩,hov⟩
  rw[hol]
  exact cV hg hn (by decide) (by rw[List.length_map,hol];omega) (by omega) (by omega)
end Go.Id

namespace Go.Id
open Go
def tg:Nat→Nat
 | 0=>0
 | n+1=>Nat.log2 (n+1)+1
theorem vE : ∀x,x<256 → ∀N,N<9→(N<tg x↔2 ^ N≤x):=by decide +kernel
theorem IP {P:Program} {t:TypeId} (ht:P.underlying t=some .string) (s:ByteArray) (hs:(List.range 256).all (fun j=>decide (s[j]?=some (UInt8.ofNat (tg j))))=true) {j:Nat} (hj:j<256):qP P t (.string s) (.int .u8 j)=some (.int .u8 (tg j)):=by
 rw[List.all_eq_true] at hs
 have h1:=hs j (List.mem_range.2 hj)
 simp only[decide_eq_true_eq] at h1
 have hb:tg j<256:=by
  have:=(vE j hj 8 (by omega)).1
  rcases Nat.lt_or_ge 8 (tg j) with h|h
  ·have:=this h;omega
  ·omega
 have h2:ar P (Instr.index t (.string s) (.int .u8 j))=some (.int .u8 (tg j)):=by
  unfold Instr.index
  rw[bm (show ar P (asIntOf (.int .u8 j))=some (IntKind.u8,(j:Int)) from rfl)]
  simp only
  rw[bm (cB ht)]
  simp only[Int.toNat_natCast,show(0:Int)≤(j:Int) by omega,if_true,h1]
  rw[pA]
  have:(UInt8.ofNat (tg j)).toNat=tg j:=by simp;omega
  rw[this]
 have hp:plain (.int .u8 j)=true:=rfl
 simp only[qP,hp,cond_true,cG,h2]
 rfl
theorem LC {α:Type} {o:Option α} {K:α→Prop} {v:α} (h:o=some v) (k:K v):Do (Ex o) K nx:=⟨v,h,k⟩
def D3 (u x k:Nat):Prop:=x=u / 2 ^ k∧(0<k→0<x)
theorem D3.ok {u x k:Nat} (h:D3 u x k) (hx:x<256) (N:Nat):N<k+tg x↔2 ^ N≤u:=by
 obtain⟨rfl,h2⟩:=h
 rcases Nat.lt_or_ge N k with h|h
 ·have hx0:=h2 (by omega)
  have h3:2 ^ k≤u:=by
   apply Classical.byContradiction;intro hh
   rw[Nat.div_eq_of_lt (by omega)] at hx0;omega
  have h4:2 ^ N≤2 ^ k:=Nat.pow_le_pow_right (by omega) (by omega)
  exact⟨fun _=>Nat.le_trans h4 h3,fun _=>by omega⟩
 ·obtain⟨d,rfl⟩ : ∃d,N=k+d:=⟨N - k,by omega⟩
  have e:2 ^ (k+d)≤u↔2 ^ d≤u / 2 ^ k:=by
   rw[Nat.le_div_iff_mul_le (Nat.pow_pos (by omega)),Nat.pow_add,Nat.mul_comm]
  rw[e]
  rcases Nat.lt_or_ge d 9 with hd|hd
  ·rw[←vE _ hx d hd];omega
  ·have h9:2 ^ 9≤2 ^ d:=Nat.pow_le_pow_right (by omega) hd
   have hb : ¬9≤tg (u / 2 ^ k):=by
    intro hh
    have:=(vE _ hx 8 (by omega)).1 (by omega);omega
   constructor
   ·intro;omega
   ·intro;omega
theorem D3.more {u x k d:Nat} (h:D3 u x k) (hx:2 ^ d≤x):D3 u (x / 2 ^ d) (k+d):=by
 obtain⟨rfl,h2⟩:=h
 refine⟨by rw[Nat.div_div_eq_div_mul,Nat.pow_add],fun _=>?_⟩
 exact Nat.div_pos hx (Nat.pow_pos (by omega))
theorem Df {h:IH} (u:Nat) (hu:u<18446744073709551616):WV Proofs.Tryz.prog (.func (.func 277) #[] #[]) [K64 u] h fun r h'=>h'=h ∧ ∃k:Nat,r=KN k∧k<1000 ∧ ∀N,N<k↔2 ^ N≤u:=by
 refine enter (nt:=25) (rs:=[.tmp 2]) Proofs.Tryz.func277 rfl rfl rfl (by simp) ?_
 simp -dsimp (disch:=try exact dx) only[wpS,Nat.reduceEqDiff]
 refine fR (fun fr2 h2=>h2=h ∧ ∃x k:Nat,ah fr2 0=some (K64 x)∧ah fr2 2=some (KN k)∧k≤32∧x<4294967296∧D3 u x k) (fun hc=>?_) (fun hc=>?_) ?_
 ·simp only[decide_eq_true_eq] at hc
  have e1:lF u 32=u / 4294967296:=by rw[lF,Nat.shiftRight_eq_div_pow]
  simp -dsimp (disch:=try exact dx) only[wpS,wpT,Nat.reduceEqDiff,Int.reduceToNat,e1]
  refine⟨rfl,u / 4294967296,32,by simp,by simp,by omega,by omega,by simp,fun _=>by omega⟩
 ·simp only[decide_eq_false_iff_not] at hc
  simp -dsimp (disch:=try exact dx) only[wpS,wpT]
  refine⟨rfl,u,0,by simp,by simp,by omega,by omega,by simp,by omega⟩
 rintro fr h1 ⟨rfl,x,k,f0,f2,hk,hx,hL⟩
 simp -dsimp (disch:=try exact dx) only[wpS,Nat.reduceEqDiff,f0]
 refine fR (fun fr2 h2=>h2=h1 ∧ ∃x k:Nat,ah fr2 0=some (K64 x)∧ah fr2 2=some (KN k)∧k≤48∧x<65536∧D3 u x k) (fun hc=>?_) (fun hc=>?_) ?_
 ·simp only[decide_eq_true_eq] at hc
  have e1:lF x 16=x / 65536:=by rw[lF,Nat.shiftRight_eq_div_pow]
  simp -dsimp (disch:=try exact dx) only[wpS,wpT,Nat.reduceEqDiff,Int.reduceToNat,f0,f2,e1]
  exact⟨rfl,x / 65536,k+16,by simp,by simp,by omega,by omega,hL.more (d:=16) (by omega)⟩
 ·simp only[decide_eq_false_iff_not] at hc
  simp -dsimp (disch:=try exact dx) only[wpS,wpT]
  refine⟨rfl,x,k,by simp[f0],by simp[f2],by omega,by omega,hL⟩
 rintro fr h2 ⟨rfl,x,k,f0,f2,hk,hx,hL⟩
 simp -dsimp (disch:=try exact dx) only[wpS,Nat.reduceEqDiff,f0]
 refine fR (fun fr2 h3=>h3=h2 ∧ ∃x k:Nat,ah fr2 0=some (K64 x)∧ah fr2 2=some (KN k)∧k≤56∧x<256∧D3 u x k) (fun hc=>?_) (fun hc=>?_) ?_
 ·simp only[decide_eq_true_eq] at hc
  have e1:lF x 8=x / 256:=by rw[lF,Nat.shiftRight_eq_div_pow]
  simp -dsimp (disch:=try exact dx) only[wpS,wpT,Nat.reduceEqDiff,Int.reduceToNat,f0,f2,e1]
  exact⟨rfl,x / 256,k+8,by simp,by simp,by omega,by omega,hL.more (d:=8) (by omega)⟩
 ·simp only[decide_eq_false_iff_not] at hc
  simp -dsimp (disch:=try exact dx) only[wpS,wpT]
  refine⟨rfl,x,k,by simp[f0],by simp[f2],by omega,by omega,hL⟩
 rintro fr h3 ⟨rfl,x,k,f0,f2,hk,hx,hL⟩
 simp -dsimp (disch:=try exact dx) only[wpS,Nat.reduceEqDiff,QL,f0,f2]
 refine LC (IP u9 _ (by decide +kernel) hx) ?_
 simp -dsimp (disch:=try exact dx) only[wpS,wpT,Nat.reduceEqDiff,xY]
 have hb:tg x<256:=by
  have:=(vE x hx 8 (by omega)).1
  rcases Nat.lt_or_ge 8 (tg x) with h|h
  ·have:=this h;omega
  ·omega
 refine⟨k+tg x,?_,by omega,fun N=>hL.ok hx N⟩
 rw[wrap_i64 (x:=(tg x:Int)) (by omega),wrap_i64 (by omega)]
 exact congrArg (Value.int .i64) (by omega)
end Go.Id
