/-
  Contracts: the reference's long integers: products of digits.
-/
import Derived.Test.YtnnmjocmapilaaaGreatOutlierValidAr
set_option linter.unusedVariables false
set_option linter.unusedSimpArgs false
set_option linter.defProp false
set_option linter.deprecated false
namespace Go.Id
open Go
open Go.Proofs.Tryz (prog)
open Nat (reduceMul)
open Nat renaming reduceAdd→zA,reduceEqDiff→zE,reduceLeDiff→zL
set_option maxHeartbeats 16000000
theorem HW {os:List Nat} {k:Nat} (x:Nat) (hk:k<os.length):IH.aG (os.map KN) k [KN x]=(os.set k x).map KN:=by
 rw[gG (by simpa using hk),List.map_set]
theorem QJ (l:List Nat):(l.map KN).all aA=true:=by simp[aA]
theorem Ku (n:Nat):bq n [KI 0]=(List.replicate n 0).map KN:=by rw[zq,List.map_replicate];rfl
theorem bI {h:IH} {b:Nat} {cs:List Value} {e:Nat} {f:Option Nat} (hg:h.ext.get b=some (.cells cs e f)):h.row (2*b)=some cs:=by rw[jl];simp only[IH.cells,hg]
theorem It {h:IH} {v w:Value} {a b:List Nat} (ha:gV h v a) (hb:gV h w b) (hab:a.length+b.length≤1100000) :
  WV prog (.func (.func 221) #[] #[]) [v,w] h fun r h'=>Ext h h'∧Dig h' r (ao a*ao b):=by
 have eL:(a.length:Int)+(b.length:Int)=((a.length+b.length:Nat):Int):=by omega
 refine enter (nt:=68) (rs:=[.tmp 4]) Proofs.Tryz.func221 rfl rfl rfl (by simp) ?_
 simp -dsimp (disch:=omega) only[wpS,zE,zA,IU,ha.1.len fT,hb.1.len fT,eL,Ku]
 refine loop (fun m fr h1 => ∃(i:Nat) (os:List Nat),i+m=a.length∧Ext h h1∧h.n<h1.n∧h1.ext.get h.n=some (.cells (os.map KN) 1 none)∧os.length=a.length+b.length∧bB os∧ao os=aE a i*ao b∧(∀k,i+b.length≤k→os.getD k 0=0) ∧
   ab fr 0=some v∧ab fr 1=some w∧ab fr 5=some (.slice (some ⟨2*h.n,0,none⟩) (a.length+b.length) (2*(a.length+b.length)+1))∧ab fr 6=some (KN i)) a.length
  ⟨0,List.replicate (a.length+b.length) 0,by omega,(Ext.refl h).new _,by simp,ah _ _ rfl,by simp,bB.bq _,by rw[jD];simp[aE],fun k _=>jK _ _,by simp⟩ ?_
 rintro m fr h1 ⟨i,os,him,hE,hn,hg,hol,hod,hov,hoz,f0,f1,f5,f6⟩
 simp -dsimp (disch:=omega) only[wpS,zE,f0,f6,ha.1.len fT]
 refine aq ?_ ?_<;>intro hc<;>simp only[decide_eq_true_eq,decide_eq_false_iff_not] at hc
 ·have hi:i<a.length:=by omega
  have da:=bH ha.2.1 i
  generalize hx:a.getD i 0=x at *
  simp -dsimp (disch:=omega) only[wpS,wpT]
  refine loop (fun m2 fr h2 => ∃(j c:Nat) (os2:List Nat),j+m2=b.length∧Ext h h2∧h.n<h2.n∧h2.ext.get h.n=some (.cells (os2.map KN) 1 none)∧os2.length=a.length+b.length∧bB os2∧c<4294967296∧ao os2+c*4294967296 ^ (i+j)=aE a i*ao b+x*aE b j*4294967296 ^ i∧(∀k,i+b.length≤k→os2.getD k 0=0) ∧
    ab fr 0=some v∧ab fr 1=some w∧ab fr 5=some (.slice (some ⟨2*h.n,0,none⟩) (a.length+b.length) (2*(a.length+b.length)+1))∧ab fr 6=some (KN i)∧ab fr 7=some (K64 c)∧ab fr 8=some (KN j)) b.length
   ⟨0,0,os,by omega,hE,hn,hg,hol,hod,by omega,by rw[hov];simp[aE],hoz,by simp[f0,f1,f5,f6]⟩ ?_
  clear hE hn hg hol hod hov hoz f0 f1 f5 f6
  rintro m2 fr h2 ⟨j,c,os2,hjm,hE,hn,hg,hol,hod,hc4,hov,hoz,f0,f1,f5,f6,f7,f8⟩
  simp -dsimp (disch:=omega) only[wpS,zE,f1,f8,hb.1.len fT]
  refine aq ?_ ?_<;>intro hc2<;>simp only[decide_eq_true_eq,decide_eq_false_iff_not] at hc2
  ·have hj:j<b.length:=by omega
   have db:=bH hb.2.1 j
   have doo:=bH hod (i+j)
   have hr:h2.row (2*h.n)=some (os2.map KN):=bI hg
   have gx:=get_some hi
   rw[hx] at gx
   have gy:=get_some hj
   have go:=get_some (show i+j<os2.length by omega)
   generalize hy:b.getD j 0=y at *
   generalize ho:os2.getD (i+j) 0=o at *
   have hp:x*y≤4294967295*4294967295:=Nat.mul_le_mul (by omega) (by omega)
   obtain⟨p,hpp⟩:=aP (x*y)
   rw[←hpp] at hp
   have eM:(x:Int)*(y:Int)=(p:Int):=by rw[hpp];simp
   have eI:(i:Int)+(j:Int)=((i+j:Nat):Int):=by omega
   obtain⟨s,hs⟩:=aP (c+o+p)
   have eS:(c:Int)+(o:Int)+(p:Int)=(s:Int):=by omega
   have eR:(s:Int) % 4294967296=((s % 4294967296:Nat):Int):=by omega
   have eQ:(s:Int) / 4294967296=((s / 4294967296:Nat):Int):=by omega
   have spl:=HW (s % 4294967296) (show i+j<os2.length by omega)
   have gor:(os2.map KN)[i+j]?=some (KN o):=by rw[List.getElem?_map,go];rfl
   simp -dsimp (maxSteps:=1000000) (disch:=first|omega|(simp only[aI,aH];omega)|decide +kernel|(repeat first|rw[aI]|rw[aH])) only[wpS,wpT,zE,jN,ld3,Ed,Az,st3,f0,f1,f5,f6,f7,f8,ha.1.idx jN hi,ha.1.ld hE.aa (P:=prog) (t:=3) (c:=i) (by simpa using hi) ag3,hb.1.idx jN hj,hb.1.ld hE.aa (P:=prog) (t:=3) (c:=j) (by simpa using hj) ag3,cc,gx,gy,hr,gor,eM,eI,eS,eR,eQ,hg,spl,List.length_map,hol]
   refine⟨m2 - 1,by omega,j+1,s / 4294967296,os2.set (i+j) (s % 4294967296),by omega,hE.put (Nat.le_refl _) _,hn,ae _ _ rfl,by rw[List.length_set,hol],hod.set _ (by omega),by omega,?_,?_,by simp[f0,f1,f5,f6]⟩
   ·have hv:=im (s % 4294967296) (show i+j<os2.length by omega)
    rw[ho] at hv
    have hsd:s % 4294967296+s / 4294967296*4294967296=c+o+x*y:=by omega
    rw[aE,hy]
    have e1:4294967296 ^ (i+(j+1))=4294967296 ^ (i+j)*4294967296:=by rw[←Nat.add_assoc,Nat.pow_succ]
    have e2:4294967296 ^ (i+j)=4294967296 ^ i*4294967296 ^ j:=Nat.pow_add _ _ _
    rw[e1]
    have e3:s % 4294967296*4294967296 ^ (i+j)+s / 4294967296*(4294967296 ^ (i+j)*4294967296)=(c+o+x*y)*4294967296 ^ (i+j):=by rw[←hsd];grind
    have e4:x*(aE b j+y*4294967296 ^ j)*4294967296 ^ i=x*aE b j*4294967296 ^ i+x*y*4294967296 ^ (i+j):=by rw[e2];grind
    have e5:(c+o+x*y)*4294967296 ^ (i+j)=c*4294967296 ^ (i+j)+o*4294967296 ^ (i+j)+x*y*4294967296 ^ (i+j):=by grind
    omega
   ·intro k hk
    rw[dh (by omega),if_neg (by omega)]
    exact hoz k hk
  ·obtain rfl:j=b.length:=by omega
   have hz:=hoz (i+b.length) (Nat.le_refl _)
   have eI:(i:Int)+(b.length:Int)=((i+b.length:Nat):Int):=by omega
   have spl:=HW c (show i+b.length<os2.length by omega)
   simp -dsimp (disch:=omega) only[wpS,wpT,zE,jN,Az,st3,f1,f5,f6,f7,hb.1.len fT,eI,hg,spl,List.length_map,hol]
   refine⟨m - 1,by omega,i+1,os2.set (i+b.length) c,by omega,hE.put (Nat.le_refl _) _,hn,ae _ _ rfl,by rw[List.length_set,hol],hod.set _ (by omega),?_,?_,by simp[f0,f1,f5]⟩
   ·have hv:=im c (show i+b.length<os2.length by omega)
    rw[hz,Nat.zero_mul,Nat.add_zero] at hv
    rw[hv,hov,aE,hx,show aE b b.length=ao b from rfl]
    grind
   ·intro k hk
    rw[dh (by omega),if_neg (by omega)]
    exact hoz k (by omega)
 ·obtain rfl:i=a.length:=by omega
  have hD:gV h1 (.slice (some ⟨2*h.n,0,none⟩) (a.length+b.length) (2*(a.length+b.length)+1)) os:=by
   refine⟨?_,hod,by omega⟩
   rw[hol]
   exact cT hg hn (by decide) (by rw[List.length_map,hol];omega) (by omega) (by omega)
  simp -dsimp (disch:=omega) only[wpS,wpT,zE,f5]
  refine call (wK hD) ?_
  rintro r h2 ⟨rfl,hr⟩
  simp -dsimp (disch:=omega) only[wpS,zE]
  rw[hov] at hr
  exact⟨hE,hr⟩
theorem Pf {h:IH} {v:Value} {a:List Nat} {d:Nat} (ha:gV h v a) (la:a.length≤1000001) (hd:d≤1) :
  WV prog (.func (.func 255) #[] #[]) [v,KI d] h fun r h'=>Ext h h'∧Dig h' r (2*ao a+d):=by
 refine enter (nt:=33) (rs:=[.tmp 4]) Proofs.Tryz.func255 rfl rfl rfl (by simp) ?_
 simp -dsimp (disch:=omega) only[wpS,zA]
 refine loop (fun m fr h1 => ∃(i c:Nat) (os:List Nat) (out:Value),i+m=a.length∧ab fr 0=some v∧ab fr 1=some (KN c)∧ab fr 5=some out∧ab fr 6=some (KN i)∧c≤1∧os.length=i∧bB os∧ao os+c*4294967296 ^ i=2*aE a i+d∧Acc h1 h.n 1 out i (os.map KN)∧Ext h h1) a.length
  ⟨0,d,[],.slice none 0 0,by simp,by simp,by simp,by simp,by simp,hd,rfl,fun d hd=>(by cases hd),by simp[aE,ao],Acc.nil _ _ (by omega),Ext.refl _⟩ ?_
 rintro m fr h1 ⟨i,c,os,out,him,f0,f1,f5,f6,hcc,hos,hdd,hv,hA,hE⟩
 simp -dsimp (disch:=omega) only[wpS,zE,f0,f6,ha.1.len fT]
 refine aq ?_ ?_<;>intro hc<;>simp only[decide_eq_true_eq,decide_eq_false_iff_not] at hc
 ·have hi:i<a.length:=by omega
  have da:=bH ha.2.1 i
  have gx:=get_some hi
  generalize hx:a.getD i 0=x at *
  obtain⟨s,hs⟩:=aP (2*x+c)
  have eS:2*(x:Int)+(c:Int)=(s:Int):=by omega
  have eR:(s:Int) % 4294967296=((s % 4294967296:Nat):Int):=by omega
  have eQ:(s:Int) / 4294967296=((s / 4294967296:Nat):Int):=by omega
  obtain⟨dU,h',hap,hA',hG,hE'⟩:=hA.Et (P:=prog) (t:=25) Eu (x:=KN (s % 4294967296)) rfl (by omega) hE.n hE (Nat.le_refl _)
  simp -dsimp (disch:=omega) only[wpS,wpT,zE,zL,zA,Bf,lC,f0,f1,f5,f6,ha.1.idx jN hi,ha.1.ld hE.aa (P:=prog) (t:=3) (c:=i) (by simpa using hi) ag3,cc,gx,eS,eR,eQ,hap]
  refine⟨m - 1,by omega,i+1,s / 4294967296,os ++ [s % 4294967296],dU,by omega,by simp[f0],by simp,by simp,by simp,by omega,by simp[hos],hdd.append (by omega),?_,by rw[←uT];exact hA',hE'⟩
  rw[iV,aE,hx,hos,Nat.pow_succ]
  have hsd:s % 4294967296+s / 4294967296*4294967296=2*x+c:=by omega
  have e3:s % 4294967296*4294967296 ^ i+s / 4294967296*(4294967296 ^ i*4294967296)=(2*x+c)*4294967296 ^ i:=by rw[←hsd];grind
  have e4:(2*x+c)*4294967296 ^ i=2*(x*4294967296 ^ i)+c*4294967296 ^ i:=by grind
  omega
 ·obtain rfl:i=a.length:=by omega
  obtain⟨dU,h',hap,hA',hG,hE'⟩:=hA.Et (P:=prog) (t:=25) Eu (x:=KN c) rfl (by omega) hE.n hE (Nat.le_refl _)
  simp -dsimp (disch:=omega) only[wpS,wpT,zE,zL,zA,Bf,lC,f1,f5,hap]
  have hD:gV h' dU (os ++ [c]):=by
   refine⟨?_,hdd.append (by omega),by simp;omega⟩
   have:=hA'.sl
   rw[uT] at this
   rw[show(os ++ [c]).length=a.length+1 by simp[hos]]
   exact this
  refine call (wK hD) ?_
  rintro r h2 ⟨rfl,hr⟩
  simp -dsimp (disch:=omega) only[wpS,zE]
  refine⟨hE',?_⟩
  rw[iV,hos,hv] at hr
  exact hr
theorem Rt {h:IH}:Dig h (.slice none 0 0) 0:=⟨[],⟨bJ.nil _ (by decide),fun d hd=>(by cases hd),by simp⟩,.inl rfl,rfl⟩
theorem gV.dig {h:IH} {v:Value} {ds:List Nat} (d:gV h v ds) (n:Norm ds):Dig h v (ao ds):=⟨ds,d,n,rfl⟩
theorem AR {P:Program} {t:TypeId} {sz bytes:Nat} (hT:kG P t=some (sz,bytes)) {h:IH} {x:Value} {m:Nat} {new:List Value} (sx:bJ h sz x m new) (hc:new.all aA=true) (hsz:m*(bytes+1)≤1099511627776) {k:Nat} (hk:h.ext.get k=some (.cells [] sz none)) (hkn:k<h.n) :
  ∃v h',append P h t (.slice (some ⟨2*k,0,none⟩) 0 1) x=some (v,h')∧Ext h h'∧bJ h' sz v m new:=by
 rcases Nat.eq_zero_or_pos m with rfl|hm
 ·have xZ:new = []:=List.length_eq_zero_iff.1 (by rw[sx.2.1,Nat.zero_mul])
  refine⟨.slice (some ⟨2*k,0,none⟩) 0 1,h,?_,Ext.refl _,sx.1,sx.2.1,.inr ⟨2*k,0,1,rfl,.inr ⟨by omega,by omega,[],.inr ⟨by omega,by omega,none,?_⟩,?_,?_,by simp⟩⟩⟩
  case refine_2=>rw[show 2*k / 2=k by omega];exact hk
  case refine_3=>exact bI hk
  case refine_4=>rw[xZ];simp
  unfold kG at hT
  split at hT
  case h_2=>cases hT
  rename_i e hu
  split at hT
  case h_2=>cases hT
  rename_i zs h1 h2 h3
  obtain⟨a,k,rfl⟩:=sx.form
  simp only[Id.append,hu,h1,h2,h3,lenOf,beq_self_eq_true,cond_true]
 ·exact⟨_,_,rf hT h sx.now hm hc hsz (2*k) 0,(Ext.refl h).new _,(yF sx.1 sx.2.1 hm).sl⟩
theorem FU {h:IH} {v w:Value} {a b:List Nat} (ha:gV h v a) (hb:gV h w b) (na:Norm a) (nb:Norm b) (hb0:ao b≠0) (la:a.length≤1000000) (lb:b.length≤1000000) :
  WV prog (.func (.func 219) #[] #[]) [v,w] h fun r h'=>Ext h h' ∧ ∃q t,r=.tuple #[q,t]∧Dig h' q (ao a / ao b)∧Dig h' t (ao a % ao b):=by
 have hbl:0<b.length:=by
  rcases Nat.eq_zero_or_pos b.length with h0|h0
  ·rw[List.length_eq_zero_iff] at h0;subst h0;exact absurd rfl hb0
  ·exact h0
 have e1:(b.length:Int) - 1=((b.length - 1:Nat):Int):=by omega
 refine enter (nt:=74) (rs:=[.tmp 4,.tmp 5]) Proofs.Tryz.func219 rfl rfl rfl (by simp) ?_
 simp -dsimp (disch:=omega) only[wpS,zE,zA,ha.1.len fT,hb.1.len fT,e1]
 refine aq ?_ ?_<;>intro hc<;>simp only[decide_eq_true_eq,decide_eq_false_iff_not] at hc
 ·have hlt:=jI ha.2.1 nb (show a.length<b.length by omega)
  have eN:Ext h (h.new (.cells [] 1 none)):=(Ext.refl h).new _
  obtain⟨r,h2,hap,hE2,hs2⟩:=AR (P:=prog) (t:=25) Eu (ha.1.ext eN) (QJ _) (by omega) (ah h _ rfl) (by simp)
  simp -dsimp (disch:=omega) only[wpS,wpT,zE,reduceMul,Bf,lC,hap]
  exact⟨eN.trans hE2,_,_,rfl,by rw[Nat.div_eq_of_lt hlt];exact Rt,by rw[Nat.mod_eq_of_lt hlt];exact(show gV h2 r a from⟨hs2,ha.2⟩).dig na⟩
 ·have e2:(a.length:Int) - ((b.length - 1:Nat):Int)=((a.length - (b.length - 1):Nat):Int):=by omega
  have hq0:0<a.length - (b.length - 1):=by omega
  generalize hql:a.length - (b.length - 1)=ql at *
  have eN1:Ext h ((h.new (.cells (bq ql [KI 0]) 1 none)).new (.cells [] 1 none)):=((Ext.refl h).new _).new _
  obtain⟨r1,hr1,hs1⟩:=ha.1.slice eN1.aa (P:=prog) (t:=25) u25 sz3 (l:=ql) (m:=a.length) (by omega) (Nat.le_refl _) (lo:=some (KN ql)) (hi:=none) (lI (k:=.i64) (by omega)) (fun c hc=>rfl)
  have hsl:a.length - ql=b.length - 1:=by omega
  have hsc:((a.map KN).drop (ql*1)).take ((a.length - ql)*1)=(a.drop ql).map KN:=by
   rw[Nat.mul_one,Nat.mul_one,List.take_of_length_le (by simp),List.map_drop]
  rw[hsc] at hs1
  obtain⟨r2,h3,hap,hE3,hs3⟩:=AR (P:=prog) (t:=25) Eu (hs1.ext eN1) (QJ _) (by omega) (k:=h.n+1) (ah _ _ (by simp)) (by simp)
  have e3:(a.length:Int) - (ql:Int)=((b.length - 1:Nat):Int):=by omega
  have e4:(ql:Int) - 1=((ql - 1:Nat):Int):=by omega
  simp -dsimp (disch:=omega) only[wpS,wpT,zE,reduceMul,Bf,IU,ln25,lC,ha.1.len fT,e2,e4,hr1,hap]
  have hbB:=jg hb.2.1
  have ZS:Ext h h3:=eN1.trans hE3
  have n3:h.n+2≤h3.n:=hE3.n
  have hg3:h3.ext.get h.n=some (.cells ((List.replicate ql 0).map KN) 1 none):=by
   rw[hE3.get _ (by simp only[aI];omega),ax _ _ (by simp),ah _ _ rfl,Ku]
  have ZN:a.length - ql=(a.drop ql).length:=by simp
  have hlen2:(a.drop ql).length=b.length - 1:=by simp;omega
  have hD3:gV h3 r2 (a.drop ql):=⟨by rw[←ZN];exact hs3,ha.2.1.drop ql,by omega⟩
  have hV3:ao (a.drop ql)=ao a / 2 ^ (32*ql):=by rw[Mx ha.2.1,KB]
  have WZ:ao (a.drop ql)<ao b:=jI (ha.2.1.drop ql) nb (by omega)
  have st:EA (ao a) (ao b) (32*ql) (ao (List.replicate ql 0)) (ao (a.drop ql)):=by
   rw[jD,hV3];rw[hV3] at WZ;exact Jx WZ
  refine loop (fun m fr h1 => ∃(qs:List Nat) (rv:Value) (r:Nat),m≤ql∧Ext h h1∧h.n<h1.n∧h1.ext.get h.n=some (.cells (qs.map KN) 1 none)∧qs.length=ql∧bB qs∧Dig h1 rv r∧EA (ao a) (ao b) (32*m) (ao qs) r ∧
    ab fr 0=some v∧ab fr 1=some w∧ab fr 7=some (.slice (some ⟨2*h.n,0,none⟩) ql (2*ql+1))∧ab fr 8=some rv∧ab fr 9=some (KI ((m:Int) - 1))) ql
   ⟨List.replicate ql 0,r2,ao (a.drop ql),Nat.le_refl _,ZS,by omega,hg3,by simp,bB.bq _,hD3.dig (na.drop ql),st,by simp,by simp,by simp,by simp,by rw[oo,if_pos rfl,e4]⟩ ?_
  clear st hD3 hg3 ZS hs3 hE3 hap hs1 hr1 eN1 hV3 WZ n3
  rintro m fr h1 ⟨qs,rv,r,hm,hE,hn,hg,DP,hqd,hR,hJ,f0,f1,f7,f8,f9⟩
  simp -dsimp (disch:=omega) only[wpS,zE,f9]
  refine aq ?_ ?_<;>intro hc2<;>simp only[decide_eq_true_eq,decide_eq_false_iff_not] at hc2
  ·obtain⟨i,rfl⟩ : ∃i,m=i+1:=⟨m - 1,by omega⟩
   have e6:(((i+1:Nat):Int) - 1)=(i:Int):=by omega
   rw[e6] at f9
   have hi:i<a.length:=by omega
   simp -dsimp (disch:=omega) only[wpS,wpT]
   refine loop (fun k fr h2 => ∃(qs:List Nat) (rv:Value) (r:Nat),k≤32∧Ext h h2∧h.n<h2.n∧h2.ext.get h.n=some (.cells (qs.map KN) 1 none)∧qs.length=ql∧bB qs∧Dig h2 rv r∧EA (ao a) (ao b) (32*i+k) (ao qs) r ∧
    ab fr 0=some v∧ab fr 1=some w∧ab fr 7=some (.slice (some ⟨2*h.n,0,none⟩) ql (2*ql+1))∧ab fr 8=some rv∧ab fr 9=some (KN i)∧ab fr 10=some (KI ((k:Int) - 1))) 32
    ⟨qs,rv,r,Nat.le_refl _,hE,hn,hg,DP,hqd,hR,hJ,by simp[f0,f1,f7,f8,f9]⟩ ?_
   clear hE hn hg DP hqd hR hJ f0 f1 f7 f8 f9
   rintro k fr h2 ⟨qs,rv,r,hk,hE,hn,hg,DP,hqd,hR,hJ,f0,f1,f7,f8,f9,f10⟩
   simp -dsimp (disch:=omega) only[wpS,zE,f10]
   refine aq ?_ ?_<;>intro hc3<;>simp only[decide_eq_true_eq,decide_eq_false_iff_not] at hc3
   ·obtain⟨k,rfl⟩ : ∃j,k=j+1:=⟨k - 1,by omega⟩
    have e7:(((k+1:Nat):Int) - 1)=(k:Int):=by omega
    rw[e7] at f10
    have da:=bH ha.2.1 i
    have gx:=get_some hi
    have Xb:=XF ha.2.1 (i:=i) (show k<32 by omega)
    have T1:=R6 hqd (i:=i) (show k<32 by omega) hJ.2.1
    generalize hx:a.getD i 0=x at *
    have eB:((mB x k:Nat):Int) % 2=((x / 2 ^ k % 2:Nat):Int):=by rw[mB,Nat.shiftRight_eq_div_pow];omega
    have hd1:x / 2 ^ k % 2≤1:=by omega
    have hns:=Tx x k
    generalize hdd:x / 2 ^ k % 2=d at *
    simp -dsimp (disch:=omega) only[wpS,wpT,zE,f0,f8,f9,f10,ha.1.idx jN hi,ha.1.ld hE.aa (P:=prog) (t:=3) (c:=i) (by simpa using hi) ag3,cc,gx,eB]
    obtain⟨rs,hrD,hrN,hrv⟩:=hR
    have hrl:rs.length≤b.length:=hrN.iO hb.2.1 (by rw[hrv];exact Nat.le_of_lt hJ.2.2)
    refine call (Pf hrD (by omega) hd1) ?_
    rintro r3 h3 ⟨hE3,rs2,WQ,Zq,QN⟩
    rw[hrv] at QN
    simp -dsimp (disch:=omega) only[wpS,zE,f1,f8]
    refine call (zG WQ (hb.aa (hE.trans hE3).aa) Zq nb) ?_
    rintro _ h4 ⟨rfl,c,rfl,hc1,hc2,hc3,hc4⟩
    rw[QN] at hc1 hc2
    have hE4:=hE.trans hE3
    have hg4:=(hE3.get _ hn).trans hg
    have hn4:h.n<h4.n:=Nat.lt_of_lt_of_le hn hE3.n
    have e8:32*i+(k+1)=32*i+k+1:=rfl
    rw[e8] at hJ
    have ehc:ao a / 2 ^ (32*i+k) % 2=d:=Xb.symm
    simp -dsimp (disch:=omega) only[wpS,zE]
    refine aq (fun hb5=>?_) (fun hb5=>?_)
    ·simp only[decide_eq_true_eq] at hb5
     have hge:ao b≤2*r+d:=by omega
     have hi2:i<qs.length:=by omega
     have gq:=get_some hi2
     generalize hqx:qs.getD i 0=y at *
     have gqr:(qs.map KN)[i]?=some (KN y):=by rw[List.getElem?_map,gq];rfl
     simp -dsimp (disch:=try exact dx) only[wpS,wpT,zE,f1,f8]
     refine call (K1 WQ (hb.aa hE4.aa) nb (by rw[QN];exact hge)) ?_
     rintro r5 h5 ⟨⟨hE5,hr5⟩,hbk⟩
     rw[QN] at hr5
     have hg5:=(hE5.get _ hn4).trans hg4
     have hr:=bI hg5
     have hn5:h.n<h5.n:=Nat.lt_of_lt_of_le hn4 hE5.n
     have q0:0≤((2 ^ k:Nat):Int):=Int.natCast_nonneg _
     have eA:(y:Int)+((2 ^ k:Nat):Int)=((y+2 ^ k:Nat):Int):=by omega
     have spl:=HW (y+2 ^ k) hi2
     simp -dsimp (disch:=try exact dx) only[wpS,wpT,zE,jN,ld3,st3,f7,f9,f10,hr,gqr,eA,hg5,spl,List.length_map,DP]
     have hJ2:=Ro hJ (by rw[ehc];exact hge)
     rw[ehc] at hJ2
     have hv:=im (y+2 ^ k) hi2
     rw[hqx] at hv
     have e9:ao (qs.set i (y+2 ^ k))=ao qs+2 ^ (32*i+k):=by
      have:(y+2 ^ k)*4294967296 ^ i=y*4294967296 ^ i+2 ^ (32*i+k):=by rw[Nat.add_mul,KB,←Nat.pow_add,Nat.add_comm k]
      omega
     obtain⟨ds5,hd5,hn5',hv5⟩:=hr5
     have hR5:Dig (h5.put h.n (.cells ((qs.set i (y+2 ^ k)).map KN) 1 none)) r5 (2*r+d - ao b):=⟨ds5,⟨hd5.1.putAt (hbk _ hn4) _,hd5.2⟩,hn5',hv5⟩
     exact⟨k,by omega,qs.set i (y+2 ^ k),r5,2*r+d - ao b,by omega,(hE4.trans hE5).put (Nat.le_refl _) _,hn5,ae _ _ rfl,by rw[List.length_set,DP],hqd.set _ T1,hR5,by rw[e9];exact hJ2,by simp[f0],by simp[f1],by simp[f7],by simp,by simp[f9],by simp⟩
    ·simp only[decide_eq_false_iff_not] at hb5
     have hlt:2*r+d<ao b:=by omega
     have hJ2:=Oe hJ (by rw[ehc];exact hlt)
     rw[ehc] at hJ2
     simp -dsimp (disch:=omega) only[wpS,wpT,zE,f10]
     exact⟨k,by omega,qs,r3,2*r+d,by omega,hE4,hn4,hg4,DP,hqd,⟨rs2,WQ,Zq,QN⟩,hJ2,by simp[f0,f1,f7,f9]⟩
   ·obtain rfl:k=0:=by omega
    simp -dsimp (disch:=omega) only[wpS,wpT,zE,f9]
    exact⟨i,by omega,qs,rv,r,by omega,hE,hn,hg,DP,hqd,hR,hJ,by simp[f0,f1,f7,f8]⟩
  ·obtain rfl:m=0:=by omega
   obtain⟨e10,e11⟩:=Rp hJ
   have hD:gV h1 (.slice (some ⟨2*h.n,0,none⟩) ql (2*ql+1)) qs:=by
    refine⟨?_,hqd,by omega⟩
    rw[DP]
    exact cT hg hn (by decide) (by rw[List.length_map,DP];omega) (by omega) (by omega)
   simp -dsimp (disch:=omega) only[wpS,wpT,zE,f7]
   refine call (wK hD) ?_
   rintro r4 h2 ⟨rfl,hr4⟩
   simp -dsimp (disch:=omega) only[wpS,zE,f8]
   exact⟨hE,_,_,rfl,by rw[←e10];exact hr4,by rw[←e11];exact hR⟩
end Go.Id
namespace Go.Id
open Go
open Go.Proofs.Tryz (prog)
open Nat renaming reduceAdd→zA,reduceEqDiff→zE,reduceLeDiff→zL
def gR (h:IH) (v:Value) (ds:List Nat):Prop:=bJ h 1 v ds.length (ds.map K64)∧B.bB ds∧ds.length≤1100000
def Wrd (h:IH) (v:Value) (x:Nat):Prop:=∃ds,gR h v ds∧B.Norm ds∧B.ao ds=x
theorem gR.aa {h h':IH} {v:Value} {ds:List Nat} (d:gR h v ds) (e:aJ h h'):gR h' v ds:=⟨d.1.aa e,d.2⟩
theorem Wrd.aa {h h':IH} {v:Value} {x:Nat} (d:Wrd h v x) (e:aJ h h'):Wrd h' v x:=let ⟨ds,a,b⟩:=d;⟨ds,a.aa e,b⟩
theorem gR.putAt {h:IH} {v:Value} {ds:List Nat} (d:gR h v ds) {k:Nat} (hk:dF v≠some (2*k)) (o:bz):gR (h.put k o) v ds:=⟨d.1.putAt hk o,d.2⟩
def a9 (h:IH) (v:Value) (z:Int):Prop:=∃s,v=.agg #[.bool (decide (z<0)),s]∧Wrd h s z.natAbs
theorem a9.aa {h h':IH} {v:Value} {z:Int} (d:a9 h v z) (e:aJ h h'):a9 h' v z:=let ⟨s,a,b⟩:=d;⟨s,a,b.aa e⟩
theorem a9.form {h:IH} {v:Value} {z:Int} (d:a9 h v z) : ∃s n,v=.agg #[.bool (decide (z<0)),s]∧s.cells = #[s]∧aA s=true∧(∀{P:Program} {t:TypeId} (_:bZ P (some t)=true) (h':IH),nB P h' t s=some (.int .i64 ((n:Nat):Int)))∧(n=0↔z=0):=by
 obtain⟨s,rfl,ds,hD,hN,hx⟩:=d
 refine⟨s,ds.length,rfl,hD.1.cells,hD.1.cok,fun hT h'=>hD.1.len hT h',?_⟩
 have:=hN.jZ
 rw[hx] at this
 rw[List.length_eq_zero_iff,←this];omega
theorem Lh (l:List Nat):(l.map K64).all aA=true:=by simp[aA]
theorem nO (n:Nat):bq n [.int .u64 0]=(List.replicate n 0).map K64:=by rw[zq,List.map_replicate];rfl
theorem jV {os:List Nat} {k:Nat} (x:Nat) (hk:k<os.length):IH.aG (os.map K64) k [K64 x]=(os.set k x).map K64:=by
 rw[gG (by simpa using hk),List.map_set]
theorem yS {h:IH} {v:Value} {ds:List Nat} (hd:gR h v ds) (b:Bool):WV prog (.func (.func 193) #[] #[]) [.bool b,v] h fun r h'=>(Ext h h'∧a9 h' r (if b then -(B.ao ds:Int) else B.ao ds)) ∧ ∀k o,dF v≠some (2*k)→a9 (h'.put k o) r (if b then -(B.ao ds:Int) else B.ao ds):=by
 have hb:=hd.2.2
 refine enter (nt:=29) (rs:=[.cell 4 135]) Proofs.Tryz.func193 rfl rfl rfl (by simp) ?_
 simp -dsimp (disch:=omega) only[wpS,zE,zA,ju,hd.1.len ft]
 refine loop (fun m fr h1=>h1=h.new (.cells [.bool false,.slice none 0 0] 0 none)∧m≤ds.length∧ab fr 5=some (KN m)∧ab fr 0=some (.bool b)∧ab fr 1=some v∧ab fr 4=some (ptr (2*h.n) 0) ∧ ∀j,m≤j→ds.getD j 0=0) ds.length ⟨rfl,Nat.le_refl _,by simp,by simp,by simp,by simp,fun j hj=>B.cM hj⟩ ?_
 rintro m fr h1 ⟨rfl,hm,f5,f0,f1,f4,hz⟩
 have e1:Ext h (h.new (.cells [.bool false,.slice none 0 0] 0 none)):=(Ext.refl h).new _
 have fin : ∀n:Nat,n≤ds.length→(∀j,n≤j→ds.getD j 0=0)→(n=0∨ds.getD (n - 1) 0≠0) → ∃r,cJ prog (h.new (.cells [.bool false,.slice none 0 0] 0 none)) 133 v none (some (KN n)) none=some r∧dF r=dF v∧gR (h.new (.cells [.bool false,.slice none 0 0] 0 none)) r (ds.take n)∧B.Norm (ds.take n)∧B.ao (ds.take n)=B.ao ds∧(0<n↔0<B.ao ds):=by
  intro n hn hz hne
  obtain⟨r,hr,hs⟩:=hd.1.slice e1.aa (P:=prog) (t:=133) SG Fg (l:=0) (m:=n) (Nat.zero_le _) hn (lo:=none) (hi:=some (KN n)) rfl (fun c hc=>lI (k:=.i64) (by omega))
  have hl:(ds.take n).length=n:=by simp[hn]
  have hN:B.Norm (ds.take n):=by
   rcases hne with rfl|hne
   ·left;simp
   ·by_cases h0:n=0
    ·subst h0;left;simp
    ·right
     rw[hl,B.oi,if_pos (by omega)];exact hne
  have hv:=B.vM hn hz
  refine⟨r,hr,xh SG hr,⟨?_,hd.2.1.take n,by rw[hl];omega⟩,hN,hv,?_⟩
  ·rw[hl]
   have hs':bJ h 1 r n ((ds.take n).map K64):=by simpa [List.map_take] using hs
   exact hs'.ext e1
  ·have hz:=hN.jZ
   rw[hv] at hz
   constructor
   ·intro h0
    apply Nat.pos_of_ne_zero;intro h1
    have:=hz.1 h1
    rw[this] at hl;simp at hl;omega
   ·intro h0
    apply Nat.pos_of_ne_zero;intro h1
    rw[h1] at hz
    have:=hz.2 (by simp)
    omega
 have out : ∀(n:Nat) (r:Value),dF r=dF v→gR (h.new (.cells [.bool false,.slice none 0 0] 0 none)) r (ds.take n)→B.Norm (ds.take n)→B.ao (ds.take n)=B.ao ds→(0<n↔0<B.ao ds) → ∀c:Bool,c=(b && decide (0<n)) →
   (Ext h ((h.new (.cells [.bool false,.slice none 0 0] 0 none)).put h.n (.cells [.bool c,r] 0 none))∧a9 ((h.new (.cells [.bool false,.slice none 0 0] 0 none)).put h.n (.cells [.bool c,r] 0 none)) (.agg #[.bool c,r]) (if b then -(B.ao ds:Int) else B.ao ds)) ∧ ∀k o,dF v≠some (2*k)→a9 (((h.new (.cells [.bool false,.slice none 0 0] 0 none)).put h.n (.cells [.bool c,r] 0 none)).put k o) (.agg #[.bool c,r]) (if b then -(B.ao ds:Int) else B.ao ds):=by
  rintro n r hbk hW hN hv hp c rfl
  have hk:=hW.aa ((aJ.refl _).put (ah h _ rfl) (.cells [.bool (b && decide (0<n)),r] 0 none))
  have hc:(b && decide (0<n))=decide ((if b then -(B.ao ds:Int) else B.ao ds)<0):=by
   rw[show decide (0<n)=decide (0<B.ao ds) from decide_eq_decide.2 hp]
   cases b<;>simp<;>omega
  have ha:(if b then -(B.ao ds:Int) else (B.ao ds:Int)).natAbs=B.ao ds:=by cases b<;>simp
  refine⟨⟨e1.put (Nat.le_refl _) _,r,by rw[hc],ds.take n,hk,hN,by rw[ha,hv]⟩,fun k o hbv=>⟨r,by rw[hc],ds.take n,hk.putAt (by rw[hbk];exact hbv) o,hN,by rw[ha,hv]⟩⟩
 rcases Nat.eq_zero_or_pos m with rfl|hp
 ·obtain⟨r,hr,hbk,hW,hN,hv,hpp⟩:=fin 0 hm hz (.inl rfl)
  have:=out 0 r hbk hW hN hv hpp false (by simp)
  cases b
  ·simp -dsimp (disch:=omega) only[wpS,wpT,zE,zL,zA,AI,uN,oY,gu,bE,f5,f0,f1,f4,hr,hW.1.cells,hW.1.cok]
   exact this
  ·simp -dsimp (disch:=omega) only[wpS,wpT,zE,zL,zA,AI,uN,oY,gu,bE,f5,f0,f1,f4,hr,hW.1.cells,hW.1.cok]
   exact this
 ·obtain⟨k,rfl⟩ : ∃k,m=k+1:=⟨m - 1,by omega⟩
  have h2:IntKind.i64.wrap (((k+1:Nat):Int) - 1)=(k:Int):=by rw[wrap_i64 (by omega)];omega
  simp -dsimp (disch:=omega) only[wpS,wpT,zE,f5,f1,h2,hd.1.idx fX (show k<ds.length by omega),hd.1.ld e1.aa (P:=prog) (t:=28) (c:=k) (by simp<;>omega) si,cc,get_some (show k<ds.length by omega)]
  refine aq (fun hc=>?_) (fun hc=>?_)
  ·simp -dsimp (disch:=omega) only[wpS,zE,f5,h2]
   refine⟨k,by omega,rfl,by omega,by simp,by simp[f0],by simp[f1],by simp[f4],fun j hj=>?_⟩
   by_cases hjk:j=k
   ·subst hjk;simpa using hc
   ·exact hz j (by omega)
  ·obtain⟨r,hr,hbk,hW,hN,hv,hpp⟩:=fin (k+1) hm hz (.inr (by simpa using hc))
   cases b
   ·have:=out (k+1) r hbk hW hN hv hpp false (by simp)
    simp -dsimp (disch:=omega) only[wpS,wpT,zE,zL,zA,AI,uN,oY,gu,bE,f5,f0,f1,f4,hr,hW.1.cells,hW.1.cok]
    exact this
   ·have:=out (k+1) r hbk hW hN hv hpp true (by simp)
    simp -dsimp (disch:=omega) only[wpS,wpT,zE,zL,zA,AI,uN,oY,gu,bE,f5,f0,f1,f4,hr,hW.1.cells,hW.1.cok]
    exact this
theorem fJ {h:IH} {v:Value} {ds:List Nat} (hd:gR h v ds) (b:Bool):WV prog (.func (.func 193) #[] #[]) [.bool b,v] h fun r h'=>Ext h h'∧a9 h' r (if b then -(B.ao ds:Int) else B.ao ds):=(yS hd b).mono fun _ _ k=>k.1
theorem xL {h:IH} {v w:Value} {a b:List Nat} (ha:gR h v a) (hb:gR h w b) (na:B.Norm a) (nb:B.Norm b) :
  WV prog (.func (.func 238) #[] #[]) [v,w] h fun r h'=>h'=h ∧ ∃c:Int,r=KI c∧(c<0↔B.ao a<B.ao b)∧(c=0↔B.ao a=B.ao b) ∧ -9223372036854775808≤c∧c≤9223372036854775807:=by
 have la:=ha.2.2
 have lb:=hb.2.2
 refine enter (nt:=43) (rs:=[.tmp 4]) Proofs.Tryz.func238 rfl rfl rfl (by simp) ?_
 simp -dsimp (disch:=omega) only[wpS,zE,zA,ha.1.len ft,hb.1.len ft]
 refine aq ?_ ?_<;>intro hc<;>simp only[bne_iff_ne,bne_eq_false_iff_eq,ne_eq] at hc
 ·simp -dsimp (disch:=omega) only[wpS,wpT,zE,ha.1.len ft,hb.1.len ft]
  refine⟨_,rfl,?_,?_,by omega,by omega⟩
  ·constructor
   ·intro h1;exact B.jI ha.2.1 nb (by omega)
   ·intro h1
    have:=na.iO hb.2.1 (Nat.le_of_lt h1)
    omega
  ·constructor
   ·intro h1;omega
   ·intro h1
    have h2:=na.iO hb.2.1 (Nat.le_of_eq h1)
    have h3:=nb.iO ha.2.1 (Nat.le_of_eq h1.symm)
    omega
 ·have hl:a.length=b.length:=by omega
  simp -dsimp (disch:=omega) only[wpS,wpT,zE,ha.1.len ft]
  refine loop (fun m fr h1=>h1=h∧m≤a.length∧ab fr 5=some (KI ((m:Int) - 1))∧ab fr 0=some v∧ab fr 1=some w ∧ ∀j,m≤j→j<a.length→a.getD j 0=b.getD j 0) a.length ⟨rfl,Nat.le_refl _,by simp,by simp,by simp,fun j hj hj2=>by omega⟩ ?_
  rintro m fr h1 ⟨rfl,hm,f5,f0,f1,hz⟩
  rcases Nat.eq_zero_or_pos m with rfl|hp
  ·simp -dsimp (disch:=omega) only[wpS,wpT,zE,f5]
   refine⟨_,rfl,?_,?_,by omega,by omega⟩
   ·have:=B.lJ hl (fun j hj=>hz j (Nat.zero_le _) hj);omega
   ·have:=B.lJ hl (fun j hj=>hz j (Nat.zero_le _) hj);omega
  ·obtain⟨k,rfl⟩ : ∃k,m=k+1:=⟨m - 1,by omega⟩
   have h2:(((k+1:Nat):Int) - 1)=(k:Int):=by omega
   rw[h2] at f5
   have da:=B.bH ha.2.1 k
   have db:=B.bH hb.2.1 k
   have key:(a.getD k 0<b.getD k 0→B.ao a<B.ao b)∧(b.getD k 0<a.getD k 0→B.ao b<B.ao a) :=
    ⟨fun h=>B.jH ha.2.1 hl (by omega) h (fun j x y=>hz j (by omega) y),fun h=>B.jH hb.2.1 hl.symm (by omega) h (fun j x y=>(hz j (by omega) (by omega)).symm)⟩
   simp -dsimp (disch:=try exact dx) only[wpS,wpT,zE,f5,f0,f1,ha.1.idx fX (show k<a.length by omega),ha.1.ld (aJ.refl _) (P:=prog) (t:=28) (c:=k) (by simp<;>omega) si,hb.1.idx fX (show k<b.length by omega),hb.1.ld (aJ.refl _) (P:=prog) (t:=28) (c:=k) (by simp<;>omega) si,cc,get_some (show k<a.length by omega),get_some (show k<b.length by omega)]
   refine aq ?_ ?_<;>intro hc<;>simp only[decide_eq_true_eq,decide_eq_false_iff_not] at hc
   ·simp -dsimp (disch:=try exact dx) only[wpS,wpT,zE]
    have:=key.1 (by omega)
    exact⟨_,rfl,by omega,by omega,by omega,by omega⟩
   ·simp -dsimp (disch:=try exact dx) only[wpS,wpT,zE,f5,f0,f1,ha.1.idx fX (show k<a.length by omega),ha.1.ld (aJ.refl _) (P:=prog) (t:=28) (c:=k) (by simp<;>omega) si,hb.1.idx fX (show k<b.length by omega),hb.1.ld (aJ.refl _) (P:=prog) (t:=28) (c:=k) (by simp<;>omega) si,cc,get_some (show k<a.length by omega),get_some (show k<b.length by omega)]
    refine aq ?_ ?_<;>intro hc4<;>simp only[decide_eq_true_eq,decide_eq_false_iff_not] at hc4
    ·simp -dsimp (disch:=omega) only[wpS,wpT,zE]
     have:=key.2 (by omega)
     exact⟨_,rfl,by omega,by omega,by omega,by omega⟩
    ·simp -dsimp (disch:=omega) only[wpS,wpT,zE,f5]
     refine⟨k,by omega,rfl,by omega,by simp,by simp[f0],by simp[f1],fun j h3 h4=>?_⟩
     by_cases hjk:j=k
     ·subst hjk;omega
     ·exact hz j (by omega) h4
theorem Ht {h:IH} (x y c:Nat) (hc:c≤1):WV prog (.func (.func 245) #[] #[]) [K64 x,K64 y,K64 c] h fun r h'=>h'=h∧r=.tuple #[K64 ((x+y+c) % 18446744073709551616),K64 ((x+y+c) / 18446744073709551616)] :=
 ED Proofs.Tryz.func245 rfl (On rfl x y hc) ⟨rfl,rfl⟩
theorem Fh {h:IH} (x y c:Nat) (hc:c≤1):WV prog (.func (.func 257) #[] #[]) [K64 x,K64 y,K64 c] h fun r h'=>h'=h∧r=.tuple #[K64 ((x+18446744073709551616 - y - c) % 18446744073709551616),K64 (bif Nat.blt x (y+c) then 1 else 0)] :=
 ED Proofs.Tryz.func257 rfl (Ol rfl x y hc) ⟨rfl,rfl⟩
end Go.Id
