/-
  Lists that grow, with the sizes of their families' blocks: a store into one leaves everyth
-/
import Derived.Test.YtnnmjocmapilaaaGreatOutlierRisesAy
set_option linter.unusedVariables false
set_option linter.unusedSimpArgs false
set_option linter.defProp false
set_option linter.deprecated false
namespace Go.Id
open Go
def FamZ (h:IH) (sz:Nat) (v:Value):Prop:=∀k n c,v=.slice (some ⟨2*k,0,none⟩) n c → ∀cs f rest,h.ext.get k=some (.cells cs sz (some f))→h.bP.get f=some (k :: rest) → ∀j∈rest,∃c' f',h.ext.get j=some (.cells c' sz f')
def mY (h:IH) (n0 sz:Nat) (v:Value) (n:Nat) (cs:List Value):Prop:=Acc h n0 sz v n cs∧FamZ h sz v
variable {sz:Nat}
theorem mY.nil (h:IH) (n0:Nat) (hz:0<sz):mY h n0 sz (.slice none 0 0) 0 []:=⟨Acc.nil h n0 hz,fun k n c hv=>by cases hv⟩
variable {v:Value}{h:IH}{m n0:Nat}{cs:List Value}{n:Nat}
theorem IS (a:Acc h n0 sz v n cs) {k c:Nat} (hv:v=.slice (some ⟨2*k,0,none⟩) m c):0<sz∧k<h.n ∧ ∃fam,h.ext.get k=some (.cells cs sz fam)∧K2 h n0 k fam:=by
 obtain⟨hz,hl,⟨rfl,rfl⟩|⟨k',fam,rfl,hn,h1,h2,h3,h4⟩⟩:=a
 ·cases hv
 ·have hkk:k=k':=by
   injection hv with hv _ _;injection hv with hv;injection hv with hv _ _;omega
  subst hkk
  exact⟨hz,h2,fam,h3,h4⟩
theorem mY.ext {h':IH} (a:mY h n0 sz v n cs) (e:Ext h h'):mY h' n0 sz v n cs:=by
 refine⟨a.1.ext e,fun k m c hv cs2 f rest hg hf j hj=>?_⟩
 obtain⟨hz,hk,fam,g1,g2⟩:=IS a.1 hv
 rw[e.get k hk,g1] at hg
 cases hg
 obtain⟨f1,f2,r,f3,f4⟩:=g2
 rw[e.bP f f2,f3] at hf
 cases hf
 obtain⟨c',f',h5⟩:=a.2 k m c hv cs f rest g1 f3 j hj
 exact⟨c',f',(e.get j (f4 j hj).2).trans h5⟩
variable {i:Nat}
theorem mY.put (a:mY h n0 sz v n cs) {c:List Value} {f:Option Nat} (hi:h.ext.get i=some (.cells c 0 f)) (o:bI):mY (h.put i o) n0 sz v n cs:=by
 refine⟨a.1.put hi o,fun k m c2 hv cs2 f2 rest hg hf j hj=>?_⟩
 obtain⟨hz,hk,fam,g1,g2⟩:=IS a.1 hv
 have hki:k≠i:=by rintro rfl;rw[hi] at g1;cases g1;omega
 rw[ak _ _ hki,g1] at hg
 cases hg
 obtain⟨c',f',h5⟩:=a.2 k m c2 hv cs f2 rest g1 hf j hj
 have hji:j≠i:=by rintro rfl;rw[hi] at h5;cases h5;omega
 exact⟨c',f',by rw[ak _ _ hji];exact h5⟩
variable {h0':IH}{bytes:Nat}{x:Value}{P:Program}{t:TypeId}{new:List Value}
theorem mY.appE (aF:mY h n0 sz v n cs) (hT:jh P t=some (sz,bytes)) (sx:bH h sz x m new) (hm:0<m)
  (hc:new.all aB=true) (hsz:(n+m)*(bytes+1)≤aN) (h0:n0≤h.n) (e0:Ext h0' h) (hn0:h0'.n≤n0) :
  ∃v' h',append P h t v x=some (v',h')∧mY h' n0 sz v' (n+m) (cs ++ new)∧Grow h h'∧h'.n=h.n+1∧Ext h0' h' ∧ ∀j c e f,j<h.n→e≠sz→h.ext.get j=some (.cells c e f)→h'.ext.get j=some (.cells c e f):=by
 obtain⟨a,aZ⟩:=aF
 unfold jh at hT
 split at hT
 case h_2=>cases hT
 rename_i e hu
 split at hT
 case h_2=>cases hT
 rename_i zs h1 h2 h3
 simp only[cond_eq_ite] at hT
 split at hT
 case isTrue=>cases hT
 rename_i AV
 cases hT
 have jN:(sz == 0 || (!(Nat.ble bytes 65536) || !(zs.length == sz)))=false:=by simpa using AV
 have YC:0<sz:=by
  simp at jN;omega
 obtain⟨_,hln,hx⟩:=sx
 have tp:(m == 0)=false:=by simp;omega
 have hx' : ∃b o k row,x=.slice (some ⟨b,o,none⟩) m k∧h.row b=some row∧(row.drop o).take (m*sz)=new∧o+m*sz≤row.length:=by
  rcases hx with⟨rfl,rfl⟩|⟨b,o,k,rfl,⟨rfl,_⟩|⟨_,_,row,_,a1,a2,a3⟩⟩
  ·omega
  ·omega
  ·exact⟨b,o,k,row,rfl,a1,a2,a3⟩
 obtain⟨b,o,k,row,rfl,a1,a2,a3⟩:=hx'
 have hms : ¬m*sz=0:=by
  have:0<m*sz:=Nat.mul_pos hm YC
  omega
 have iF:bF h sz m (.slice (some ⟨b,o,none⟩) m k)=some new:=by
  simp only[bF,cond_eq_ite,Nat.ble_eq,Nat.le_refl,if_true,beq_iff_eq,if_neg hms]
  rw[tH a1,if_pos a3,a2]
 have qv:Nat.ble ((n+m)*(bytes+1)) aN=true:=by rw[Nat.ble_eq];exact hsz
 obtain⟨hz,hl,⟨rfl,rfl⟩|⟨kk,fam,rfl,hn,g1,g2,g3,g4⟩⟩:=a
 ·-- from nothing
  have hcs:cs = []:=List.length_eq_zero_iff.1 (by omega)
  subst hcs
  refine⟨.slice (some ⟨2*h.n,0,none⟩) m (2*m),h.new (.cells new sz none),?_,⟨⟨hz,by simp;exact hln,.inr ⟨h.n,none,by simp,by omega,h0,by simp,by simp[lY],trivial⟩⟩,fun k2 n2 c2 hv2 cs2 f2 Zav hg2=>by
   have hkk:k2=h.n:=by
    injection hv2 with hv2 _ _;injection hv2 with hv2;injection hv2 with hv2 _ _;omega
   subst hkk
   rw[lY,if_pos rfl] at hg2;cases hg2⟩,(Grow.refl h).new _,rfl,e0.new _,fun j c e f hj _ hg=>(aq _ _ (by omega)).trans hg⟩
  have Sk:Nat.ble (m*(bytes+1)) aN=true:=by simpa using qv
  simp only[Id.append,hu,h1,h2,h3,lenOf,tp,jN,iF,hc,Sk,cond_true,cond_false,Bool.not_true,BEq.rfl,Bool.and_self]
 ·have mQ:Nat.ble (n+m) (2*n / 2)=false:=by
   rw[Bool.eq_false_iff];intro hh;rw[Nat.ble_eq] at hh;omega
  have mP:(2*n % 2 == 1)=false:=by simp
  have hlen:(n == 2*n / 2 && Nat.blt 0 n && (2*kk) % 2 == 0)=true:=by
   have:2*n / 2=n:=by omega
   simp[this,Nat.blt,Nat.ble_eq];omega
  have rJ:(0+n*sz == cs.length && sz == sz)=true:=by simp[hl]
  have hk2:2*kk / 2=kk:=by omega
  have body : ∀f below,(∀j∈below,n0≤j∧j<h.n)→(∀j∈below,∃c f',h.ext.get j=some (.cells c sz f'))→(n0≤f)→f<h.n+1 →
    mY (grown h kk f cs sz [] below (cs.drop 0 ++ new) sz) n0 sz (.slice (some ⟨2*h.n,0,none⟩) (n+m) (2*(n+m))) (n+m) (cs ++ new) ∧
    Grow h (grown h kk f cs sz [] below (cs.drop 0 ++ new) sz)∧Ext h0' (grown h kk f cs sz [] below (cs.drop 0 ++ new) sz)∧(∀j c e f',j<h.n→e≠sz→h.ext.get j=some (.cells c e f')→(grown h kk f cs sz [] below (cs.drop 0 ++ new) sz).ext.get j=some (.cells c e f')):=by
   intro f below hbl hbz hf1 hf2
   have cD : ∀j,(grown h kk f cs sz [] below (cs.drop 0 ++ new) sz).ext.get j=if j=h.n then some (.cells (cs ++ new) sz (some f)) else if j=kk then some (.cells cs sz (some f)) else h.ext.get j:=by
    intro j
    simp[grown,IH.dJ,Tr.bL]
   refine⟨⟨⟨hz,by simp[hl,hln,Nat.add_mul],.inr ⟨h.n,some f,rfl,by omega,h0,by simp[grown],by rw[cD,if_pos rfl],hf1,by simp[grown];omega,kk :: below,?_,fun j hj=>by rcases List.mem_cons.1 hj with rfl|hj;exact⟨g1,by simp[grown];omega⟩;exact⟨(hbl j hj).1,by have:=(hbl j hj).2;simp[grown];omega⟩⟩⟩,?_⟩,⟨by simp[grown],rfl,fun j hj=>?_⟩,?_,fun j c e f' hj he hg=>by
    rw[cD,if_neg (by omega),if_neg (by rintro rfl;rw[g3] at hg;cases hg;exact he rfl)];exact hg⟩
   ·simp[grown,Tr.bL]
   ·intro k2 n2 c2 hv2 cs2 f2 Zav hg2 hf2' j hj
    have hkk:k2=h.n:=by
     injection hv2 with hv2 _ _;injection hv2 with hv2;injection hv2 with hv2 _ _;omega
    subst hkk
    rw[cD,if_pos rfl] at hg2
    cases hg2
    have hfm:(grown h kk f cs sz [] below (cs.drop 0 ++ new) sz).bP.get f=some (h.n :: kk :: below):=by simp[grown,Tr.bL]
    rw[hfm] at hf2'
    cases hf2'
    rw[cD]
    rcases List.mem_cons.1 hj with rfl|hj
    ·rw[if_neg (by omega),if_pos rfl];exact⟨_,_,rfl⟩
    ·obtain⟨c',f',hc'⟩:=hbz j hj
     have:=(hbl j hj).2
     rw[if_neg (by omega)]
     by_cases hjk:j=kk
     ·rw[if_pos hjk];exact⟨_,_,rfl⟩
     ·rw[if_neg hjk];exact⟨c',f',hc'⟩
   ·rw[cD,if_neg (by omega)]
    by_cases hjk:j=kk
    ·subst hjk
     exact .inr ⟨cs,sz,fam,some f,by omega,g3,by rw[if_pos rfl]⟩
    ·rw[if_neg hjk];exact .inl rfl
   ·refine⟨by have:=e0.n;simp[grown];omega,e0.base,fun j hj=>?_,fun g hg=>?_⟩
    ·rw[cD,if_neg (by omega),if_neg (by omega)];exact e0.get j hj
    ·simp only[grown,Tr.bL]
     rw[if_neg (by omega)];exact e0.bP g hg
  cases fam with
  | none =>
   obtain⟨b1,b2,b3,b4⟩:=body h.n [] (fun _ h=>by cases h) (fun _ h=>by cases h) h0 (by omega)
   refine⟨_,_,?_,b1,b2,rfl,b3,b4⟩
   simp only[Id.append,hu,h1,h2,h3,lenOf,tp,jN,iF,hc,qv,mQ,mP,hlen,hk2,g3,rJ,cond_true,cond_false,Bool.not_true]
  | some f =>
   obtain⟨f1,f2,rest,f3,f4⟩:=g4
   obtain⟨b1,b2,b3,b4⟩:=body f rest f4 (aZ kk n _ rfl cs f rest g3 f3) f1 (by omega)
   refine⟨_,_,?_,b1,b2,rfl,b3,b4⟩
   have t1:(kk :: rest).takeWhile (· != kk) = []:=by simp
   have t2:((kk :: rest).dropWhile (· != kk)).drop 1=rest:=by simp
   simp only[Id.append,hu,h1,h2,h3,lenOf,tp,jN,iF,hc,qv,mQ,mP,hlen,hk2,g3,rJ,f3,t1,t2,cond_true,cond_false,Bool.not_true]
theorem mY.app (a:mY h n0 sz v n cs) (hT:jh P t=some (sz,bytes)) (sx:bH h sz x m new) (hm:0<m)
  (hc:new.all aB=true) (hsz:(n+m)*(bytes+1)≤aN) (h0:n0≤h.n) (e0:Ext h0' h) (hn0:h0'.n≤n0) :
  ∃v' h',append P h t v x=some (v',h')∧mY h' n0 sz v' (n+m) (cs ++ new)∧Grow h h'∧h'.n=h.n+1∧Ext h0' h':=by
 obtain⟨v',h',a1,a2,a3,a4,a5,_⟩:=a.appE hT sx hm hc hsz h0 e0 hn0
 exact⟨v',h',a1,a2,a3,a4,a5⟩
theorem mY.tq (a:mY h n0 sz v n cs) (hT:jh P t=some (sz,bytes)) (hm:0<m) (hl:new.length=m*sz)
  (hc:new.all aB=true) (hsz:(n+m)*(bytes+1)≤1099511627776) (h0:n0≤h.n) (e0:Ext h0' h) (hn0:h0'.n≤n0) :
  ∃v' h',append P (h.new (.cells new sz none)) t v (.slice (some ⟨2*h.n,0,none⟩) m (2*m+1))=some (v',h')∧mY h' n0 sz v' (n+m) (cs ++ new)∧Grow h h'∧Ext h0' h':=by
 have e1:Ext h (h.new (.cells new sz none)):=(Ext.refl h).new _
 obtain⟨v',h',b1,b2,b3,b4,b5⟩:=(a.ext e1).app hT (wy h a.1.1 hl hm) hm hc hsz (by simp;omega) (e0.trans e1) hn0
 exact⟨v',h',b1,b2,e1.grow.trans b3,b5⟩
theorem mY.XT (a:mY h n0 sz v n cs) (hT:aO P t=some sz) (hi:i<n) {xs:List Value} (hx:x.cells.toList=xs) (hxl:xs.length=sz) (hc:xs.all aB=true) (e0:Ext h0' h) (hn0:h0'.n≤n0) :
  ∃h',store P h t (aP v (i*sz)) x=some h'∧mY h' n0 sz v n (IH.aJ cs (i*sz) xs)∧Ext h0' h'∧h'.n=h.n∧h'.base=h.base ∧ ∀j c e f,e≠sz→h.ext.get j=some (.cells c e f)→h'.ext.get j=some (.cells c e f):=by
 obtain⟨⟨hz,hl,⟨rfl,rfl⟩|⟨k,fam,rfl,hn,h1,h2,h3,h4⟩⟩,aZ⟩:=a
 ·omega
 ·have hle:i*sz+sz≤cs.length:=by
   rw[hl,←Nat.succ_mul];exact Nat.mul_le_mul_right _ hi
  have hsl:(IH.aJ cs (i*sz) xs).length=n*sz:=by
   simp only[IH.aJ,List.length_append,List.length_take,List.length_drop]
   omega
  have k2:2*k / 2=k:=by omega
  have k1:(2*k % 2 == 1)=false:=by simp
  have hsx:x.cells.size=sz:=by rw[←Array.length_toList,hx,hxl]
  have hst:store P h t (aP (.slice (some ⟨2*k,0,none⟩) n (2*n)) (i*sz)) x=h.wr (2*k) (i*sz) xs:=by
   simp only[aP,Nat.zero_add,store,asAddr,ptr,hT,hx,hsx,hc,beq_self_eq_true,Bool.and_self,cond_true]
  have hle:Nat.ble (i*sz+xs.length) cs.length=true:=by rw[Nat.ble_eq,hxl];exact hle
  have WC : ∀H:IH,H.ext.get k=some (.cells (IH.aJ cs (i*sz) xs) sz none)→FamZ H sz (.slice (some ⟨2*k,0,none⟩) n (2*n)):=fun H hH k' n' c' hv cs2 f rest hg=>by
   have hkk:k'=k:=by
    injection hv with hv _ _;injection hv with hv;injection hv with hv _ _;omega
   subst hkk
   rw[hH] at hg;cases hg
  rw[hst]
  cases fam with
  | none =>
   refine⟨h.put k (.cells (IH.aJ cs (i*sz) xs) sz none),?_,⟨⟨hz,hsl,.inr ⟨k,none,rfl,hn,h1,h2,ae _ _ rfl,trivial⟩⟩,WC _ (ae _ _ rfl)⟩,e0.put (by omega) _,rfl,rfl,fun j c e f he hg=>?_⟩
   ·simp only[IH.wr,k1,k2,h3,hle,cond_true,cond_false];rfl
   ·rw[ak]
    ·exact hg
    ·rintro rfl;rw[h3] at hg;cases hg;exact he rfl
  | some f =>
   obtain⟨a1,a2,rest,a3,a4⟩:=h4
   have hgk:((IH.dJ h.ext (((k :: rest).filter (· != k)))).set k (.cells (IH.aJ cs (i*sz) xs) sz none)).get k=some (.cells (IH.aJ cs (i*sz) xs) sz none):=by simp[Tr.bL]
   refine⟨{ h with ext:=(IH.dJ h.ext (((k :: rest).filter (· != k)))).set k (.cells (IH.aJ cs (i*sz) xs) sz none) },?_,⟨⟨hz,hsl,.inr ⟨k,none,rfl,hn,h1,h2,hgk,trivial⟩⟩,WC _ hgk⟩,⟨e0.n,e0.base,fun j hj=>?_,e0.bP⟩,rfl,rfl,fun j c e f2 he hg=>?_⟩
   ·simp only[IH.wr,k1,k2,h3,hle,cond_true,cond_false,a3]
   ·have hjk:j≠k:=by omega
    rw[Tr.bL,if_neg hjk,ju,if_neg]
    ·exact e0.get j hj
    ·intro hm
     simp only[List.mem_filter,List.mem_cons,bne_iff_ne,ne_eq] at hm
     rcases hm with⟨rfl|hm,hne⟩
     ·exact hne rfl
     ·have:=a4 j hm;omega
   ·have hjk:j≠k:=by rintro rfl;rw[h3] at hg;cases hg;exact he rfl
    rw[Tr.bL,if_neg hjk,ju,if_neg]
    ·exact hg
    ·intro hm
     simp only[List.mem_filter,List.mem_cons,bne_iff_ne,ne_eq] at hm
     rcases hm with⟨rfl|hm,hne⟩
     ·exact hne rfl
     ·obtain⟨c',f',h5⟩:=aZ k n _ rfl cs f rest h3 a3 j hm
      rw[h5] at hg;cases hg;exact he rfl
open Go.Proofs.Tryz (prog)
open Nat renaming reduceAdd→zA,reduceEqDiff→zE,reduceLeDiff→zL
set_option maxHeartbeats 16000000
theorem ou:Kept fD:=fun _ _ _ _ r e=>r.aa e
theorem Q9 {h:IH} (a b:Nat) (ha:a<W8) (hb:b<W8):WV prog (.func (.func 149) #[] #[]) [wdV a,wdV b] h fun r h'=>Ext h h'∧r=KI (if wdI a<wdI b then -1 else if wdI b<wdI a then 1 else 0):=by
 obtain⟨H0,hH0,n0,E0,k0,k1⟩:=ev h (wdC a) (wdC b)
 refine enter (nt:=10) (rs:=[.tmp 4]) Proofs.Tryz.func149 rfl rfl rfl (by simp) ?_
 simp -dsimp (disch:=omega) only[wpS,zE,zA,cM]
 rw[←hH0]
 clear hH0
 have X0:=Ext.refl H0
 have L1:=MH k0
 have L2:=MH k1
 refine drawn [(2,[1])] (by kernel_rfl) (by kernel_rfl) rfl ?_
 simp -dsimp (disch:=omega) only[wpS,zE,L1]
 refine call (vM a ha) ?_
 rintro r1 h1 ⟨X1,p1⟩
 have L2':=MD L2 (by omega) X1
 simp -dsimp (disch:=omega) only[wpS,zE,L2']
 refine call (vM b hb) ?_
 rintro r2 h2 ⟨X2,p2⟩
 simp -dsimp (disch:=omega) only[wpS,zE]
 refine call (C0 (p1.aa X2.aa) p2 (Gt ha).small (Gt hb).small) ?_
 rintro _ h3 ⟨X3,rfl⟩
 simp -dsimp (disch:=omega) only[wpS,zE]
 refine⟨ad rfl rfl rfl rfl (ai rfl L2' L2),?_⟩
 simp -dsimp (disch:=omega) only[wpS,wpT,zE,zA]
 exact((E0.trans X1).trans X2).trans X3
open Classical in
theorem O4 {h:IH} {v:Value} {l:List Nat} {least:Int} (hv:ni h v l) (hl:fZ least) :
  WV prog (.func (.func 161) #[] #[]) [v,KI least] h fun r h'=>Ext h h'∧r=.bool (decide (∃p∈l,wdI p<least)):=by
 have hlb:=hv.2.1
 have len:=hv.1.len (P:=prog) Em
 refine enter (nt:=20) (rs:=[.tmp 4]) Proofs.Tryz.func161 rfl rfl rfl (by simp) ?_
 simp -dsimp (disch:=omega) only[wpS,zA]
 refine loop (fun m fr h1 => ∃i:Nat,i+m=l.length∧Ext h h1∧(∀(j:Nat) p,j<i→l[j]?=some p → ¬wdI p<least)∧ab fr 0=some v∧ab fr 1=some (KI least)∧ab fr 5=some (KN i)) l.length
  ⟨0,by omega,Ext.refl _,fun j p hj=>by omega,by simp⟩ ?_
 rintro m fr h1 ⟨i,him,hE,hno,f0,f1,f5⟩
 simp -dsimp (disch:=omega) only[wpS,zE,f0,f5,len]
 refine au ?_ ?_<;>intro hc<;>simp only[decide_eq_true_eq,decide_eq_false_iff_not] at hc
 ·have hi:i<l.length:=by omega
  obtain⟨p,hp⟩:=iC (l:=l) (i:=i) hi
  have hpm:=List.mem_of_getElem? hp
  have wp:=hv.2.2 p hpm
  have ld:=fun h' (K:aK h h')=>hv.ld K hp
  simp -dsimp (disch:=omega) only[wpS,wpT]
  refine drawn [(3,[6])] (by kernel_rfl) (by kernel_rfl) rfl ?_
  simp -dsimp (disch:=omega) only[wpS,zE,f0,f1,f5,hv.1.idx Ps hi,ld h1 hE.aa]
  refine call (cU least hl) ?_
  rintro _ h2 ⟨X2,rfl⟩
  simp -dsimp (disch:=omega) only[wpS,zE]
  refine call (Q9 p (aY least) wp (ec (jL hl))) ?_
  rintro _ h3 ⟨X3,rfl⟩
  rw[cB (jL hl)]
  have E3:=hE.trans (X2.trans X3)
  by_cases c:wdI p<least
  ·rw[if_pos c,decide_eq_true (⟨p,hpm,c⟩ : ∃p∈l,wdI p<least)]
   simp -dsimp (disch:=omega) only[wpS,wpT,zE]
   refine⟨ad rfl rfl rfl rfl (ai rfl (ld h1 hE.aa) (ld _ (hE.trans X2).aa)),?_⟩
   simp -dsimp (disch:=omega) only[wpS,wpT,zE,zA]
   exact E3
  ·obtain⟨z,hz,hz0⟩ : ∃z:Int,(if wdI p<least then (-1:Int) else if least<wdI p then 1 else 0)=z∧0≤z:=⟨_,rfl,by rw[if_neg c];split<;>omega⟩
   rw[hz]
   simp -dsimp (disch:=omega) only[wpS,wpT,zE]
   refine⟨ad rfl rfl rfl rfl (ai rfl (ld h1 hE.aa) (ld _ (hE.trans X2).aa)),?_⟩
   simp -dsimp (disch:=omega) only[wpS,wpT,zE,zA,f5]
   refine⟨m - 1,by omega,i+1,by omega,E3,?_,by simp[f0,f1]⟩
   intro j q hj hq
   by_cases hji:j=i
   ·subst hji;rw[hp] at hq;cases hq;exact c
   ·exact hno j q (by omega) hq
 ·have ux : ¬∃p∈l,wdI p<least:=fun⟨p,hp,hb⟩=>by
   obtain⟨j,hj⟩:=List.getElem?_of_mem hp
   have:=(List.getElem?_eq_some_iff.1 hj).1
   exact hno j p (by omega) hj hb
  rw[decide_eq_false ux]
  simp -dsimp (disch:=omega) only[wpS,wpT]
  exact hE
theorem Ka {h:IH} {v:Value} {l:List Nat} (hv:ni h v l) (hl:l.length≤1000):WV prog (.func (.func 162) #[] #[]) [v] h fun r h'=>Ext h h'∧oz fD h' r (l.map cK):=by
 have len:=hv.1.len (P:=prog) Em
 refine enter (nt:=22) (rs:=[.tmp 2]) Proofs.Tryz.func162 rfl rfl rfl (by simp) ?_
 simp -dsimp (disch:=omega) only[wpS]
 refine loop (fun m fr h1 => ∃(i:Nat) (out:Value) (cs:List Value),i+m=l.length∧Ext h h1∧Acc h1 h.n 4 out ((l.take i).map cK).length cs∧ku fD h1 ((l.take i).map cK) cs∧ab fr 0=some v∧ab fr 3=some out∧ab fr 4=some (KN i)) l.length
  ⟨0,.slice none 0 0,[],by omega,Ext.refl _,Acc.nil h _ (by omega),by simp[ku]⟩ ?_
 rintro m fr h1 ⟨i,out,cs,him,hE,hA,hC,f0,f3,f4⟩
 simp -dsimp (disch:=omega) only[wpS,zE,f0,f4,len]
 refine au ?_ ?_<;>intro hc<;>simp only[decide_eq_true_eq,decide_eq_false_iff_not] at hc
 ·have hi:i<l.length:=by omega
  obtain⟨p,hp⟩:=iC (l:=l) (i:=i) hi
  have wp:=hv.2.2 p (List.mem_of_getElem? hp)
  simp -dsimp (disch:=omega) only[wpS,wpT,zE,f0,f3,f4,hv.1.idx Ps hi,hv.ld hE.aa hp]
  refine call (vM p wp) ?_
  rintro r1 h2 ⟨X2,p2⟩
  simp -dsimp (disch:=omega) only[wpS]
  refine call (oO 1 ⟨by omega,by omega⟩) ?_
  rintro r3 h3 ⟨X3,p3⟩
  have p2:=p2.aa X3.aa
  obtain⟨s1,rfl,c1,o1⟩:=p2.ct
  obtain⟨s3,rfl,c3,o3⟩:=p3.ct
  have pr:fD h3 (.agg #[.bool (decide (wdI p<0)),s1,.bool false,s3]) (cK p):=⟨_,_,_,_,rfl,p2,p3⟩
  have X13:=X2.trans X3
  have n1:=hE.n
  have n2:=X13.n
  obtain⟨ef,h5,hap,hA5,hC5,hG5,hE5⟩:=Q6 Xo (by omega) ou (hA.ext X13) (hC.aa ou X13.aa) pr (by simp[o1,o3,Iy]) (by simp;omega) (by omega) (hE.trans X13) (Nat.le_refl _)
  have eT:(l.take i).map cK ++ [cK p]=(l.take (i+1)).map cK:=by rw[eV hp,List.map_append];rfl
  rw[eT] at hA5 hC5
  simp -dsimp (disch:=omega) only[wpS,wpT,zE,zL,zA,Nr,yZ,yY,Xg,DK,f4,hap]
  exact⟨m - 1,by omega,i+1,ef,_,by omega,hE5,hA5,hC5,by simp[f0]⟩
 ·obtain rfl:i=l.length:=by omega
  rw[List.take_length] at hA hC
  simp -dsimp (disch:=omega) only[wpS,wpT,zE,f3]
  exact⟨hE,cs,hA.sl,hC,by simp;omega⟩
open Classical in
theorem Ol {h:IH} {v:Value} {l:List Rat} (hv:oz fD h v l) (hl:l.length≤1000) :
  WV prog (.func (.func 170) #[] #[]) [v] h fun r h'=>Ext h h'∧((∀q∈l,QW q) → ∃w,r=.tuple #[w,KI 0]∧gw h' w (l.map shq))∧(¬(∀q∈l,QW q)→r=.tuple #[.slice none 0 0,KI 6]):=by
 obtain⟨cs0,hs0,_,_⟩:=id hv
 have len:=hs0.len (P:=prog) Wk
 refine enter (nt:=30) (rs:=[.tmp 2,.tmp 3]) Proofs.Tryz.func170 rfl rfl rfl (by simp) ?_
 simp -dsimp (disch:=omega) only[wpS]
 refine loop (fun m fr h1 => ∃(i:Nat) (out:Value),i+m=l.length∧Ext h h1∧Acc h1 h.n 16 out i (shL ((l.take i).map shq))∧(∀(j:Nat) q,j<i→l[j]?=some q→QW q)∧ab fr 0=some v∧ab fr 4=some out∧ab fr 5=some (KN i)) l.length
  ⟨0,.slice none 0 0,by omega,Ext.refl _,Acc.nil h _ (by omega),fun j q hj=>by omega,by simp⟩ ?_
 rintro m fr h1 ⟨i,out,him,hE,hA,hW,f0,f4,f5⟩
 simp -dsimp (disch:=omega) only[wpS,zE,f0,f5,len]
 refine au ?_ ?_<;>intro hc<;>simp only[decide_eq_true_eq,decide_eq_false_iff_not] at hc
 ·have hi:i<l.length:=by omega
  obtain⟨q,hq⟩:=iC (l:=l) (i:=i) hi
  obtain⟨a,s,b,u,ld,pq⟩:=hv.ld ou hE.aa hq IP zS
  simp -dsimp (disch:=omega) only[wpS,wpT,zE,f0,f5,hs0.idx M9 hi,ld]
  refine call (wT pq) ?_
  rintro _ h2 ⟨X2,rfl⟩
  have n1:=hE.n
  have n2:=X2.n
  by_cases c:QW q
  ·rw[if_pos c,bK]
   simp -dsimp (disch:=omega) only[wpS,wpT,zE,zL,zA,fR,dF,aD,ax,aV,bg]
   obtain⟨H3,hH3⟩:=aT ((h2.new (.cells Z16 0 none)).put h2.n (.cells (shC (shq q).1 (shq q).2) 0 none))
   have E3:Ext h2 H3:=by rw[hH3];exact((Ext.refl h2).new _).put (Nat.le_refl _) _
   have n3:=E3.n
   have g3:H3.ext.get h2.n=some (.cells (shC (shq q).1 (shq q).2) 0 none):=by rw[hH3];simp (disch:=omega) only[ae]
   rw[←hH3]
   clear hH3
   have E23:=X2.trans E3
   obtain⟨ef,h5,hap,hA5,hG5,hE5⟩:=(hA.ext E23).tq (P:=prog) (t:=61) KX (m:=1) (new:=shC (shq q).1 (shq q).2) (by omega) (by rw[ax]) (aV _ _) (by omega) (by omega) (hE.trans E23) (Nat.le_refl _)
   have eT:shL ((l.take i).map shq) ++ shC (shq q).1 (shq q).2=shL ((l.take (i+1)).map shq):=by
    rw[eV hq,List.map_append,List.map_cons,List.map_nil,shL,shL,List.flatMap_append];simp
   rw[eT] at hA5
   simp -dsimp (disch:=omega) only[wpS,wpT,zE,zL,zA,cq,B9,nR,f4,f5,aj g3,ax,bg,aS,hap]
   refine⟨m - 1,by omega,i+1,ef,by omega,hE5,hA5,fun j p hj hp=>?_,by simp[f0]⟩
   by_cases hji:j=i
   ·subst hji;rw[hq] at hp;cases hp;exact c
   ·exact hW j p (by omega) hp
  ·rw[if_neg c]
   simp -dsimp (disch:=omega) only[wpS,wpT,zE,zL,zA,fR,dF,aD,ax,aV,bg]
   exact⟨(hE.trans X2).trans (((Ext.refl h2).new _).put (Nat.le_refl _) _),fun eF=>absurd (eF q (List.mem_of_getElem? hq)) c,fun _=>trivial⟩
 ·obtain rfl:i=l.length:=by omega
  rw[List.take_length] at hA
  have eF : ∀q∈l,QW q:=fun q hq=>by
   obtain⟨j,hj⟩:=List.getElem?_of_mem hq
   exact hW j q (List.getElem?_eq_some_iff.1 hj).1 hj
  simp -dsimp (disch:=omega) only[wpS,wpT,zE,f4]
  refine⟨hE,fun _=>⟨out,rfl,?_⟩,fun hn=>absurd eF hn⟩
  refine⟨by rw[List.length_map];exact hA.sl,by rw[List.length_map];omega,fun p hp=>?_⟩
  obtain⟨q,hq,rfl⟩:=List.mem_map.1 hp
  exact gT (eF q hq)
variable {v:Value}{h h':IH}
theorem bd.rE {z:Int} (p:bd h v z) (e:rZ 1 h h'):bd h' v z:=by
 obtain⟨s,h1,ds,d1,d2⟩:=p
 exact⟨s,h1,ds,⟨d1.1.rE e,d1.2⟩,d2⟩
theorem fD.rE {q:Rat} (p:fD h v q) (e:rZ 1 h h'):fD h' v q:=by
 obtain⟨a,s,b,t,h1,h2,h3⟩:=p
 exact⟨a,s,b,t,h1,h2.rE e,h3.rE e⟩
def pQ (g:Nat→Rat) (i j:Nat):Rat:=if i=j then 0 else g j
def BT (g:Nat→Rat) (i:Nat):Nat→Rat
 | 0=>0
 | j+1=>BT g i j+pQ g i j
theorem Mu (g:Nat→Rat) (i:Nat) : ∀n,1 - BT g i n=oi g i n
 | 0=>by rw[BT,oi];grind
 | n+1=>by
  have ih:=Mu g i n
  rw[BT,oi,pQ]
  by_cases h:i=n
  ·rw[if_pos h,if_pos h.symm,←ih];grind
  ·rw[if_neg h,if_neg (fun e=>h e.symm),←ih];grind
theorem Ej {g:Nat→Rat} {i:Nat} {k:Nat} : ∀{n:Nat},(∀j,j<n→QB k (g j))→QB (n*(k+1)) (BT g i n)
 | 0,_=>⟨by rw[BT];exact Nat.zero_le _,by rw[BT];exact Nat.one_le_two_pow⟩
 | n+1,h=>by
  have ih:=Ej (i:=i) (n:=n) fun j hj=>h j (by omega)
  have e:(n+1)*(k+1)=n*(k+1)+k+1:=by rw[Nat.add_mul];omega
  rw[BT,e]
  have hp:QB k (pQ g i n):=by
   unfold pQ
   split
   ·exact QB.zero.mono (by omega)
   ·exact h n (by omega)
  exact ih.add hp
structure FR (hh H:IH) (fr:Fr) (v v6 out rw:Value) (i d e b10:Nat) (g:Nat→Rat) (cs:List Value):Prop where
 E:Ext hh H
 acc:mY H hh.n 4 rw e cs
 els:ku fD H ((List.range e).map (pQ g i)) cs
 b1:hh.n≤b10
 b2:b10<H.n
 box : ∃a s b u,H.ext.get b10=some (.cells [a,s,b,u] 0 none)∧fD H (.agg #[a,s,b,u]) (BT g i d)
 f0:ab fr 0=some v
 f6:ab fr 6=some v6
 f7:ab fr 7=some out
 f8:ab fr 8=some (KN i)
 f9:ab fr 9=some rw
 f10:ab fr 10=some (ptr (2*b10) 0)
section
variable {hh H H':IH} {fr gr:Fr} {v v6 out rw:Value} {i d e b10:Nat} {g:Nat→Rat} {cs:List Value}
theorem FR.frm (s:FR hh H fr v v6 out rw i d e b10 g cs) (f0:ab gr 0=some v) (f6:ab gr 6=some v6) (f7:ab gr 7=some out) (f8:ab gr 8=some (KN i)) (f9:ab gr 9=some rw) (f10:ab gr 10=some (ptr (2*b10) 0)):FR hh H gr v v6 out rw i d e b10 g cs :=
 ⟨s.E,s.acc,s.els,s.b1,s.b2,s.box,f0,f6,f7,f8,f9,f10⟩
theorem FR.ext (s:FR hh H fr v v6 out rw i d e b10 g cs) (X:Ext H H'):FR hh H' fr v v6 out rw i d e b10 g cs:=by
 obtain⟨a,s',b,u,h1,h2⟩:=s.box
 exact⟨s.E.trans X,s.acc.ext X,s.els.aa ou X.aa,s.b1,Nat.lt_of_lt_of_le s.b2 X.n,⟨a,s',b,u,X.kept s.b2 h1,h2.aa X.aa⟩,s.f0,s.f6,s.f7,s.f8,s.f9,s.f10⟩
theorem FR.putV (s:FR hh H fr v v6 out rw i d e b10 g cs) {b:Nat} {c:List Value} {f:Option Nat} (hb:H.ext.get b=some (.cells c 0 f)) (h1:hh.n≤b) (h2:b≠b10) (o:bI):FR hh (H.put b o) fr v v6 out rw i d e b10 g cs:=by
 obtain⟨a,s',b',u,h3,h4⟩:=s.box
 have K:=(aK.refl H).put hb o
 exact⟨s.E.put h1 _,s.acc.put hb o,s.els.aa ou K,s.b1,s.b2,⟨a,s',b',u,by rw[ak _ _ (fun h=>h2 h.symm)];exact h3,h4.aa K⟩,s.f0,s.f6,s.f7,s.f8,s.f9,s.f10⟩
theorem FR.sum (s:FR hh H fr v v6 out rw i d e b10 g cs) {z1 z2 z3 z4:Value} (p:fD H (.agg #[z1,z2,z3,z4]) (BT g i (d+1))):FR hh (H.put b10 (.cells [z1,z2,z3,z4] 0 none)) fr v v6 out rw i (d+1) e b10 g cs:=by
 obtain⟨a,s',b',u,h3,h4⟩:=s.box
 have K:=(aK.refl H).put h3 (.cells [z1,z2,z3,z4] 0 none)
 exact⟨s.E.put s.b1 _,s.acc.put h3 _,s.els.aa ou K,s.b1,s.b2,⟨_,_,_,_,ae _ _ rfl,p.aa K⟩,s.f0,s.f6,s.f7,s.f8,s.f9,s.f10⟩
end
open Classical in
theorem Ha {h:IH} {v w:Value} {ll:List (List (Nat×Nat))} {t:List Nat} (hv:ji h v ll) (hw:ni h w t) :
  WV prog (.func (.func 71) #[] #[]) [v,w] h fun r h'=>Ext h h' ∧ ∃out,r=.tuple #[out,KI (nN ll t)]∧(nN ll t=0→ji h' out (iH ll t))∧(nN ll t≠0→out=.slice none 0 0):=by
 obtain⟨_,_,hlen⟩:=hv.co
 have hlw:=hw.1.len (P:=prog) Em
 have htb:=hw.2.1
 refine enter (nt:=108) (rs:=[.tmp 4,.tmp 5]) Proofs.Tryz.func71 rfl rfl rfl (by simp) ?_
 simp -dsimp (disch:=omega) only[wpS,zE,zA]
 refine call (O7 hv) ?_
 rintro _ h1 ⟨X1,rfl⟩
 by_cases hk:dK ll
 case neg =>
  have e:nN ll t=330:=by rw[nN,if_pos hk]
  rw[e,decide_eq_false hk]
  simp -dsimp (disch:=omega) only[wpS,wpT,zE]
  exact⟨X1,_,rfl,fun h=>absurd h (by decide),fun _=>rfl⟩
 rw[decide_eq_true hk]
 have hk1:=hk.1
 have hk2:=hk.2.1
 obtain⟨n,hn⟩:=aT (ll.length)
 rw[←hn] at hk1 hk2 hlen
 by_cases ht:t.length=n
 case neg =>
  have e:nN ll t=2:=by rw[nN,if_neg (fun h=>h hk),if_pos (.inl (by omega))]
  have d:(((t.length:Nat):Int) != ((n:Nat):Int))=true:=by simpa using fun h=>ht (by omega)
  rw[e]
  simp -dsimp (disch:=omega) only[wpS,wpT,zE,hlen,hlw,d]
  exact⟨X1,_,rfl,fun h=>absurd h (by decide),fun _=>rfl⟩
 have d:(((t.length:Nat):Int) != ((n:Nat):Int))=false:=by simp[ht]
 simp -dsimp (disch:=omega) only[wpS,wpT,zE,hlen,hlw,d]
 refine call (O4 (least:=1) (hw.aa X1.aa) ⟨by omega,by omega⟩) ?_
 rintro _ h2 ⟨X2,rfl⟩
 by_cases ux : ∃p∈t,wdI p<1
 case pos =>
  have e:nN ll t=2:=by rw[nN,if_neg (fun h=>h hk),if_pos (.inr ux)]
  rw[decide_eq_true ux,e]
  simp -dsimp (disch:=omega) only[wpS,zE]
  exact⟨X1.trans X2,_,rfl,fun h=>absurd h (by decide),fun _=>rfl⟩
 rw[decide_eq_false ux]
 have e:nN ll t=(open Classical in if uA ll t then 0 else 6):=by rw[nN,if_neg (fun h=>h hk),if_neg (fun h=>h.elim (fun h=>h (by omega)) ux)]
 simp -dsimp (disch:=omega) only[wpS,zE]
 refine call (Ka (hw.aa (X1.trans X2).aa) (by omega)) ?_
 rintro v6 h3 ⟨X3,sv7⟩
 have X03:=(X1.trans X2).trans X3
 have pt : ∀j,j<n→t.getD j 0<W8∧1≤wdI (t.getD j 0)∧(t.map cK)[j]?=some (cK (t.getD j 0)):=fun j hj=>by
  have hjt:j<t.length:=by omega
  have hm:t.getD j 0∈t:=by rw[List.getD_eq_getElem?_getD,List.getElem?_eq_getElem hjt];exact List.getElem_mem hjt
  refine⟨hw.2.2 _ hm,Classical.byContradiction fun hc=>ux ⟨_,hm,by omega⟩,?_⟩
  rw[List.getElem?_map,List.getD_eq_getElem?_getD,List.getElem?_eq_getElem hjt];rfl
 have hv3:=hv.aa X03.aa
 simp -dsimp (disch:=omega) only[wpS,zE]
 refine loop (fun m fr hh => ∃(i:Nat) (out:Value) (vs:List Value),i+m=n∧vs.length=i∧Ext h3 hh∧Acc hh h3.n 1 out i vs∧(∀k,k<i → ∃w,vs[k]?=some w∧gw hh w ((dS ll t k).map shq))∧(∀k,k<i → ∀q∈dS ll t k,QW q)∧ab fr 0=some v∧ab fr 6=some v6∧ab fr 7=some out∧ab fr 8=some (KN i)) n
  ⟨0,.slice none 0 0,[],by omega,rfl,Ext.refl _,Acc.nil _ _ (by omega),fun k hk=>by omega,fun k hk=>by omega,by simp⟩ ?_
 rintro m fr hh ⟨i,out,vs,him,hvl,hE,hA,hR,hQ,f0,f6,f7,f8⟩
 have nE:=hE.n
 simp -dsimp (disch:=omega) only[wpS,zE,f0,f8,hlen]
 refine au ?_ ?_<;>intro hc<;>simp only[decide_eq_true_eq,decide_eq_false_iff_not] at hc
 ·have hi:i<n:=by omega
  have gq : ∀k,k<n→QB 1536 (goQ ll t i k):=fun k hk'=>by
   obtain⟨_,a,b1,_,b2,b3,_,b4⟩:=fi hk (i:=i) (j:=k) (by omega) (by omega)
   obtain⟨_,c,b5,_,b6,b7,_,b8⟩:=fi hk (i:=k) (j:=i) (by omega) (by omega)
   have w1:=(hv.nT b1).choose_spec.2.1.2.2 a (List.mem_of_getElem? b2)
   have w2:=(hv.nT b5).choose_spec.2.1.2.2 c (List.mem_of_getElem? b6)
   exact YX (by rw[b4];exact iO w1.1 w1.2 b3) (by rw[b8];exact iO w2.1 w2.2 b7) (pt k hk').1 (pt i hi).1 (pt i hi).2.1
  simp -dsimp (disch:=omega) only[wpS,wpT]
  refine call AN ?_
  rintro r4 h4 ⟨X4,p4⟩
  have m4:=X4.n
  obtain⟨a3,s3,b3,t3,rfl,_,_,d1,o1,d2,o2,o3,o4⟩:=p4.parts
  simp -dsimp (disch:=omega) only[wpS,wpT,zE,zL,zA,kQ,jl,o1,o2,o3,o4]
  have E5:Ext h4 ((h4.new (.cells ZR 0 none)).put h4.n (.cells [a3,s3,b3,t3] 0 none)):=((Ext.refl h4).new _).put (Nat.le_refl _) _
  refine loop (fun m2 fr H => ∃(j:Nat) (rw:Value) (cs:List Value),j+m2=n∧FR hh H fr v v6 out rw i j j h4.n (goQ ll t i) cs∧ab fr 11=some (KN j)) n
   ⟨0,.slice none 0 0,[],by omega,⟨X4.trans E5,mY.nil _ _ (by omega),rfl,by omega,by simp,⟨a3,s3,b3,t3,by simp (disch:=try exact dx) only[ae],p4.aa E5.aa⟩,by simp[f0],by simp[f6],by simp[f7],by simp[f8],by simp,by simp⟩,by simp⟩ ?_
  clear f0 f6 f7 f8 X4 p4 E5
  rintro m2 fr H ⟨j,rw,cs,hjm,s,f11⟩
  simp -dsimp (disch:=omega) only[wpS,zE,s.f0,f11,hlen]
  refine au ?_ ?_<;>intro hc2<;>simp only[decide_eq_true_eq,decide_eq_false_iff_not] at hc2
  ·have hj:j<n:=by omega
   obtain⟨ri,p,e1,l1,e2,ok1,nn1,k1⟩:=fi hk (i:=i) (j:=j) (by omega) (by omega)
   obtain⟨rj,q,e3,l3,e4,ok2,nn2,k2⟩:=fi hk (i:=j) (j:=i) (by omega) (by omega)
   have hvh:=hv3.aa hE.aa
   obtain⟨wi,A1,A2,A3⟩:=hvh.nT e1
   obtain⟨wj,B1,B2,B3⟩:=hvh.nT e3
   have Lp:=fun h' (K:aK hh h')=>A2.ld K e2
   have Lq:=fun h' (K:aK hh h')=>B2.ld K e4
   have ip:=A2.1.idx xl (P:=prog) (k:=.i64) (j:=j) (by omega)
   have iq:=B2.1.idx xl (P:=prog) (k:=.i64) (j:=i) (by omega)
   have wp:=A2.2.2 p (List.mem_of_getElem? e2)
   have wq:=B2.2.2 q (List.mem_of_getElem? e4)
   have K0:=s.E.aa
   simp -dsimp (disch:=omega) only[wpS,wpT]
   refine drawn [(11,[7]),(14,[7])] (by kernel_rfl) (by kernel_rfl) rfl ?_
   simp -dsimp (disch:=omega) only[wpS,zE,s.f0,s.f8,f11,A3,A1 H K0,ip,Lp H K0]
   refine call (An p.1 p.2 wp.1 wp.2) ?_
   rintro r5 h5 ⟨X5,p5⟩
   have p5:=p5.rat ok1
   rw[←k1] at p5
   have K5:=(s.E.trans X5).aa
   simp -dsimp (disch:=omega) only[wpS,zE,s.f0,s.f8,f11,B3,B1 h5 K5,iq,Lq h5 K5]
   refine call (An q.1 q.2 wq.1 wq.2) ?_
   rintro r6 h6 ⟨X6,p6⟩
   have p6:=p6.rat ok2
   rw[←k2] at p6
   have X56:=X5.trans X6
   have p5:=p5.aa X6.aa
   obtain⟨x1,x2,x3,x4,rfl,_,_,d1,o1,d2,o2,o3,o4⟩:=p5.parts
   obtain⟨y1,y2,y3,y4,rfl,_,_,d5,o5,d6,o6,o7,o8⟩:=p6.parts
   simp -dsimp (disch:=try exact dx) only[wpS,wpT,zE,zL,zA,kQ,jl,o1,o2,o3,o4,o5,o6,o7,o8]
   refine⟨by repeat' first|refine aw ?_ ?_|refine aC ?_ ?_|exact ad rfl rfl rfl rfl (ai rfl (B1 _ K5) (B1 _ K0))|exact ad rfl rfl rfl rfl (ai rfl (Lq _ K5) (Lq _ K0)),?_⟩
   obtain⟨H7,hH7⟩:=aT ((((h6.new (.cells ZR 0 none)).new (.cells ZR 0 none)).put h6.n (.cells [x1,x2,x3,x4] 0 none)).put (h6.n+1) (.cells [y1,y2,y3,y4] 0 none))
   have E7:Ext h6 H7:=by rw[hH7];exact((((Ext.refl h6).new _).new _).put (Nat.le_refl _) _).put (Nat.le_succ _) _
   have n7:H7.n=h6.n+2:=by rw[hH7];rfl
   have gx:H7.ext.get h6.n=some (.cells [x1,x2,x3,x4] 0 none):=by rw[hH7];simp (disch:=omega) only[ae,ak]
   have gy:H7.ext.get (h6.n+1)=some (.cells [y1,y2,y3,y4] 0 none):=by rw[hH7];simp (disch:=omega) only[ae]
   rw[←hH7]
   clear hH7
   have s7:=s.ext (X56.trans E7)
   have p5:=p5.aa E7.aa
   have p6:=p6.aa E7.aa
   have sv:=sv7.aa ou hE.aa
   have sv0 : ∃cs,bH hh 4 v6 (t.map cK).length cs:=⟨_,sv.choose_spec.1⟩
   obtain⟨cst,svt⟩:=sv0
   rw[List.length_map] at svt
   obtain⟨u1,u2,u3,u4,Lu,pu⟩:=sv.nT ou (pt j hj).2.2 IP zS (P:=prog)
   obtain⟨w1,w2,w3,w4,Lw,pw⟩:=sv.nT ou (pt i hi).2.2 IP zS (P:=prog)
   have iu:=svt.idx M9 (P:=prog) (k:=.i64) (j:=j) (by omega)
   have iw:=svt.idx M9 (P:=prog) (k:=.i64) (j:=i) (by omega)
   have K7:=s7.E.aa
   simp -dsimp (disch:=omega) only[wpS,wpT,zA]
   refine drawn [(9,[5])] (by kernel_rfl) (by kernel_rfl) rfl ?_
   simp -dsimp (disch:=omega) only[wpS,wpT,zE,zL,zA,jK,s.f6,f11,aj gy,fF,iu,Lu H7 K7]
   have qb1:QB 512 (kAt ll i j):=by rw[k1];exact iO wp.1 wp.2 ok1
   have qb2:QB 512 (kAt ll j i):=by rw[k2];exact iO wq.1 wq.2 ok2
   have qb3:=lI (pt j hj).1
   have qb4:=lI (pt i hi).1
   refine call (Ow p6 (pu.aa K7) qb2 qb3 (by omega)) ?_
   rintro r9 h9 ⟨X9,p9⟩
   have K9:=(s7.E.trans X9).aa
   simp -dsimp (disch:=omega) only[wpS,zE,s.f6,s.f8,iw,Lw h9 K9]
   refine call (Re p9 (pw.aa K9) (qb2.mul qb3) qb4 (by omega) (DT (pt i hi).2.1)) ?_
   rintro r10 h10 ⟨X10,p10⟩
   have X90:=X9.trans X10
   have m9:=X90.n
   have qb10:=(qb2.mul qb3).div qb4 (DT (pt i hi).2.1)
   obtain⟨bk,hbk⟩:=aT (kAt ll j i*cK (t.getD j 0) / cK (t.getD i 0))
   have hgo:goQ ll t i j=if bk<kAt ll i j then bk else kAt ll i j:=by rw[hbk];rfl
   rw[←hbk] at p10 qb10
   clear hbk p9 qb2 qb3 qb4
   obtain⟨z1,z2,z3,z4,rfl,_,_,d9,o9,d10,o10,o11,o12⟩:=p10.parts
   simp -dsimp (disch:=omega) only[wpS,wpT,zE,zL,zA,kQ,jl,o9,o10,o11,o12]
   refine⟨by repeat' first|refine aw ?_ ?_|refine aC ?_ ?_|exact ad rfl rfl rfl rfl (ai rfl (Lw _ K9) (Lw _ K7)),?_⟩
   obtain⟨H11,So⟩:=aT ((h10.new (.cells ZR 0 none)).put h10.n (.cells [z1,z2,z3,z4] 0 none))
   have E11:Ext h10 H11:=by rw[So];exact((Ext.refl h10).new _).put (Nat.le_refl _) _
   have n11:H11.n=h10.n+1:=by rw[So];rfl
   have gz:H11.ext.get h10.n=some (.cells [z1,z2,z3,z4] 0 none):=by rw[So];simp (disch:=omega) only[ae]
   rw[←So]
   clear So
   have X711:=X90.trans E11
   have gx11:=X711.kept (by omega) gx
   simp -dsimp (disch:=omega) only[wpS,wpT,zE,zL,zA,kQ,jl,jK,aj gx11,aj gz,o1,o2,o3,o4,fF]
   obtain⟨H12,Sn⟩:=aT ((H11.new (.cells ZR 0 none)).put H11.n (.cells [x1,x2,x3,x4] 0 none))
   have E12:Ext H11 H12:=by rw[Sn];exact((Ext.refl H11).new _).put (Nat.le_refl _) _
   have n12:H12.n=H11.n+1:=by rw[Sn];rfl
   have g15:H12.ext.get H11.n=some (.cells [x1,x2,x3,x4] 0 none):=by rw[Sn];simp (disch:=omega) only[ae]
   have gz12:=E12.kept (by omega) gz
   rw[←Sn]
   clear Sn
   have X712:=X711.trans E12
   refine call (CE (p10.aa (E11.trans E12).aa) (p5.aa X712.aa) qb10 qb1 (by omega)) ?_
   rintro _ h13 ⟨X13,rfl⟩
   obtain⟨zz,hz,hzc⟩ : ∃z:Int,(if bk<kAt ll i j then (-1:Int) else if bk=kAt ll i j then 0 else 1)=z∧(z<0↔bk<kAt ll i j):=⟨_,rfl,Tj _ _⟩
   rw[hz]
   have X713:=X712.trans X13
   have n13:=X13.n
   have s13:=s7.ext X713
   have hb10:=s13.b2
   have hbb:=(s.ext (X56.trans E7)).b2
   have hb4:h4.n<h6.n:=(s.ext X56).b2
   have hh6:hh.n≤h6.n:=(s.ext X56).E.n
   have g13:=X13.kept (by omega) g15
   have gz13:=X13.kept (by omega) gz12
   have px13:=p5.aa X713.aa
   have pz13:=p10.aa ((E11.trans E12).trans X13).aa
   simp -dsimp (disch:=omega) only[wpS,zE]
   refine fB (fun fr' h'=>(∃a b c d,h'.ext.get H11.n=some (.cells [a,b,c,d] 0 none)∧fD h' (.agg #[a,b,c,d]) (goQ ll t i j))∧H11.n<h'.n∧FR hh h' fr' v v6 out rw i j j h4.n (goQ ll t i) cs∧ab fr' 15=some (ptr (2*H11.n) 0)∧ab fr' 11=some (KN j)) (fun hb=>?_) (fun hb=>?_) ?_
   ·simp only[decide_eq_true_eq] at hb
    rw[if_pos (hzc.1 hb)] at hgo
    simp -dsimp (disch:=omega) only[wpS,wpT,zE,zL,zA,jl,jK,aj gz13,g13,o9,o10,o11,o12,fF]
    have s14:=s13.putV g13 (by omega) (by omega) (.cells [z1,z2,z3,z4] 0 none)
    exact⟨⟨z1,z2,z3,z4,ae _ _ rfl,by rw[hgo];exact pz13.aa ((aK.refl _).put g13 _)⟩,by simp only[aM];omega,s14.frm (by simp[s.f0]) (by simp[s.f6]) (by simp[s.f7]) (by simp[s.f8]) (by simp[s.f9]) (by simp[s.f10]),by simp[f11]⟩
   ·simp only[decide_eq_false_iff_not] at hb
    rw[if_neg (fun h=>hb (hzc.2 h))] at hgo
    simp -dsimp (disch:=omega) only[wpS,wpT]
    exact⟨⟨x1,x2,x3,x4,g13,by rw[hgo];exact px13⟩,by omega,s13.frm (by simp[s.f0]) (by simp[s.f6]) (by simp[s.f7]) (by simp[s.f8]) (by simp[s.f9]) (by simp[s.f10]),by simp[f11]⟩
   clear s13 g13 gz13 px13 pz13 s7 gx gy p5 p6 gx11 gz gz12 g15 p10
   rintro fr1 h1' ⟨⟨a1,a2,a3',a4,ga,pa⟩,lb,s1,f15,Pr⟩
   obtain⟨_,_,_,_,he1,_,_,_,b1,_,b2,b3',b4⟩:=pa.parts
   cases he1
   simp -dsimp (disch:=omega) only[wpS,zE,s1.f8,Pr]
   refine fB (fun fr' h'=>(∃a b c d,h'.ext.get H11.n=some (.cells [a,b,c,d] 0 none)∧fD h' (.agg #[a,b,c,d]) (pQ (goQ ll t i) i j))∧H11.n<h'.n∧FR hh h' fr' v v6 out rw i j j h4.n (goQ ll t i) cs∧ab fr' 15=some (ptr (2*H11.n) 0)∧ab fr' 11=some (KN j)) (fun hb=>?_) (fun hb=>?_) ?_
   ·have hij:i=j:=by simp at hb;omega
    have ep:pQ (goQ ll t i) i j=0:=if_pos hij
    simp -dsimp (disch:=omega) only[wpS,wpT]
    refine call AN ?_
    rintro r2 h2' ⟨Y2,p2⟩
    have l2:=Y2.n
    obtain⟨c1,c2,c3,c4,rfl,_,_,_,q1,_,q2,q3,q4⟩:=p2.parts
    have ga2:=Y2.kept lb ga
    simp -dsimp (disch:=omega) only[wpS,wpT,zE,zL,zA,jl,f15,ga2,q1,q2,q3,q4]
    have s2:=(s1.ext Y2).putV ga2 (by omega) (by omega) (.cells [c1,c2,c3,c4] 0 none)
    exact⟨⟨c1,c2,c3,c4,ae _ _ rfl,by rw[ep];exact p2.aa ((aK.refl _).put ga2 _)⟩,by simp only[aM];omega,s2.frm (by simp[s1.f0]) (by simp[s1.f6]) (by simp[s1.f7]) (by simp[s1.f8]) (by simp[s1.f9]) (by simp[s1.f10]),by simp[f15,Pr]⟩
   ·have hij : ¬i=j:=by simp at hb;omega
    have ep:pQ (goQ ll t i) i j=goQ ll t i j:=if_neg hij
    simp -dsimp (disch:=omega) only[wpS,wpT]
    exact⟨⟨a1,a2,a3',a4,ga,by rw[ep];exact pa⟩,lb,s1.frm (by simp[s1.f0]) (by simp[s1.f6]) (by simp[s1.f7]) (by simp[s1.f8]) (by simp[s1.f9]) (by simp[s1.f10]),by simp[f15,Pr]⟩
   clear s1 ga pa f15 Pr b1 b2 b3' b4
   rintro fr2 h2' ⟨⟨a1,a2,a3',a4,ga,pa⟩,lb,s2,f15,Pr⟩
   obtain⟨_,_,_,_,he1,_,_,_,b1,_,b2,b3',b4⟩:=pa.parts
   cases he1
   obtain⟨c1,c2,c3,c4,gb,pb⟩:=s2.box
   simp -dsimp (disch:=omega) only[wpS,wpT,zE,zL,zA,jK,s2.f10,f15,aj ga,aj gb,fF]
   have qp:QB 1536 (pQ (goQ ll t i) i j):=by
    unfold pQ
    split
    ·exact QB.zero.mono (by omega)
    ·exact gq j hj
   refine call (Ap pb pa (Ej fun k hk'=>gq k (by omega)) qp (by omega)) ?_
   rintro r3 h3' ⟨Y3,p3⟩
   have l3:=Y3.n
   obtain⟨d1,d2,d3,d4,rfl,_,_,_,q1,_,q2,q3,q4⟩:=p3.parts
   have gb3:=Y3.kept s2.b2 gb
   have ga3:=Y3.kept lb ga
   have s3:=(s2.ext Y3).sum p3
   have hne:H11.n≠h4.n:=by omega
   obtain⟨H14,Pf⟩ : ∃X,X=h3'.put h4.n (.cells [d1,d2,d3,d4] 0 none):=⟨_,rfl⟩
   have n14:H14.n=h3'.n:=by rw[Pf];rfl
   have ga4:H14.ext.get H11.n=some (.cells [a1,a2,a3',a4] 0 none):=by rw[Pf,ak _ _ hne];exact ga3
   have pa4:fD H14 (.agg #[a1,a2,a3',a4]) (pQ (goQ ll t i) i j):=by rw[Pf];exact(pa.aa Y3.aa).aa ((aK.refl _).put gb3 _)
   rw[←Pf] at s3
   have hle:=s3.E.n
   obtain⟨rw',h15,hap,hA15,VA,hE15⟩:=s3.acc.tq (P:=prog) (t:=220) Xo (m:=1) (new:=[a1,a2,a3',a4]) (by omega) rfl (by simp[b1,b2,b3',b4]) (by omega) (by omega) s3.E (Nat.le_refl _)
   have xj:append prog ((h3'.put h4.n (.cells [d1,d2,d3,d4] 0 none)).new (.cells [a1,a2,a3',a4] 4 none)) 220 rw (.slice (some ⟨2*h3'.n,0,none⟩) 1 3)=some (rw',h15):=by
    rw[←n14,←Pf];exact hap
   have ga4':(h3'.put h4.n (.cells [d1,d2,d3,d4] 0 none)).row (2*H11.n)=some [a1,a2,a3',a4]:=by rw[←Pf];exact aj ga4
   simp -dsimp (disch:=try exact dx) only[wpS,wpT,zE,zL,zA,jl,jK,Xg,DK,s2.f9,s2.f10,f15,Pr,gb3,q1,q2,q3,q4,fF,ga4',xj]
   obtain⟨e1',e2',e3',e4',gb4,pb4⟩:=s3.box
   have l15:=VA.n
   refine⟨m2 - 1,by omega,j+1,rw',_,by omega,⟨hE15,hA15,?_,s3.b1,Nat.lt_of_lt_of_le s3.b2 l15,⟨_,_,_,_,VA.var s3.b2 gb4,pb4.aa VA.aa⟩,by simp[s2.f0],by simp[s2.f6],by simp[s2.f7],by simp[s2.f8],by simp,by simp[s2.f10]⟩,by simp⟩
   have er:(List.range (j+1)).map (pQ (goQ ll t i) i)=(List.range j).map (pQ (goQ ll t i) i) ++ [pQ (goQ ll t i) i j]:=by rw[List.range_succ,List.map_append];rfl
   rw[er]
   exact(s3.els.snoc pa4).aa ou VA.aa
  ·obtain rfl:j=n:=by omega
   obtain⟨c1,c2,c3,c4,gb,pb⟩:=s.box
   have L1:=(ql4 gb).2.2
   have X0:=Ext.refl H
   simp -dsimp (disch:=omega) only[wpS,wpT]
   refine drawn [(3,[2])] (by kernel_rfl) (by kernel_rfl) rfl ?_
   simp -dsimp (disch:=omega) only[wpS,zE,s.f8,s.f9]
   refine call (vu 1 1 ⟨by omega,by omega⟩ ⟨by omega,by omega⟩ (by omega)) ?_
   rintro r5 h5 ⟨X5,p5⟩
   rw[show Rat.divInt 1 1=(1:Rat) from rfl] at p5
   have gb5:=X5.kept s.b2 gb
   simp -dsimp (disch:=omega) only[wpS,wpT,zE,zL,zA,jK,s.f10,aj gb5,fF]
   refine call (Oy p5 (pb.aa X5.aa) (QB.int (k:=1) (n:=1) (by decide)) (Ej fun k hk'=>gq k (by omega)) (by omega)) ?_
   rintro r6 h6 ⟨X6,p6⟩
   rw[Mu] at p6
   have X56:=X5.trans X6
   have s6:=s.ext X56
   obtain⟨d1,d2,d3,d4,rfl,_,_,_,q1,_,q2,q3,q4⟩:=p6.parts
   obtain⟨H7,st,acc7,E7,n7,b7,oth⟩:=s6.acc.XT (P:=prog) (t:=177) zS hi (x:=.agg #[d1,d2,d3,d4]) (xs:=[d1,d2,d3,d4]) rfl rfl (by simp[q1,q2,q3,q4]) s6.E (Nat.le_refl _)
   have kz:rZ 1 h6 H7:=⟨by omega,b7,fun k c f hk hg=>⟨f,oth k c 1 f (by decide) hg⟩⟩
   have ix:=s6.acc.1.sl.idx M9 (P:=prog) (k:=.i64) hi
   simp -dsimp (disch:=omega) only[wpS,zE,ix,st]
   refine⟨ad rfl rfl rfl rfl (ai s.f10 (MD L1 s.b2 X5) L1),?_⟩
   have hl7:=s6.acc.1.sl.2.1
   have fA:oz fD H7 rw (dS ll t i):=by
    refine⟨_,by rw[fj,←hn];exact acc7.1.sl,F0 (by rw[fj,←hn];exact acc7.1.sl.2.1) fun k q hq=>?_,by rw[fj];omega⟩
    have hkn:k<ll.length:=by have:=(List.getElem?_eq_some_iff.1 hq).1;rwa [fj] at this
    rw[j0 hkn] at hq
    cases hq
    by_cases hki:k=i
    ·subst hki
     rw[nM,if_pos rfl,←hn]
     exact lG.set (by omega) (p6.rE kz)
    ·have hg:((List.range j).map (pQ (goQ ll t i) i))[k]?=some (nM ll t i k):=by
      rw[List.getElem?_map,List.getElem?_range (by omega),nM,if_neg hki]
      exact congrArg some (if_neg fun h=>hki h.symm)
     exact((VZ s6.els hg).mono fun v p=>p.rE kz).other (by omega) hki
   simp -dsimp (disch:=omega) only[wpS,wpT,zE,zA,s.f9]
   refine call (Ol fA (by rw[fj];omega)) ?_
   rintro r17 h17 ⟨X17,q1',q2'⟩
   have E17:=E7.trans X17
   by_cases eF : ∀q∈dS ll t i,QW q
   ·obtain⟨w,rfl,sw⟩:=q1' eF
    have n17:=E17.n
    obtain⟨ef,h18,hap,hA8,hG8,hE8⟩:=(hA.ext E17).FU (P:=prog) (t:=38) ZD (x:=w) sw.co.2 (by omega) (by omega) (hE.trans E17) (Nat.le_refl _)
    simp -dsimp (disch:=omega) only[wpS,wpT,zE,zL,zA,Zx,FQ,s.f7,s.f8,sw.co,hap]
    refine⟨m - 1,by omega,i+1,ef,vs ++ [w],by omega,by simp[hvl],hE8,hA8,fun k hk'=>?_,fun k hk'=>?_,by simp[s.f0,s.f6]⟩
    ·by_cases hki:k=i
     ·subst hki
      exact⟨w,by rw[←hvl];simp,sw.aa hG8.aa⟩
     ·obtain⟨w',h1,h2⟩:=hR k (by omega)
      exact⟨w',by rw[List.getElem?_append_left (by omega)];exact h1,(h2.aa E17.aa).aa hG8.aa⟩
    ·by_cases hki:k=i
     ·subst hki;exact eF
     ·exact hQ k (by omega)
   ·obtain rfl:=q2' eF
    rw[e,if_neg fun h=>eF (h i (by omega))]
    simp -dsimp (disch:=omega) only[wpS,wpT,zE]
    exact⟨(X03.trans hE).trans E17,_,rfl,fun h=>absurd h (by decide),fun _=>rfl⟩
 ·obtain rfl:i=n:=by omega
  simp -dsimp (disch:=omega) only[wpS,wpT,zE,f7]
  have hfo:uA ll t:=fun k hk=>hQ k (by omega)
  rw[e,if_pos hfo]
  refine⟨X03.trans hE,out,rfl,fun _=>⟨vs,by rw[jf,←hn];exact hA.sl,by rw[jf];omega,fun k x hx=>?_⟩,fun h=>absurd rfl h⟩
  have hkl:k<ll.length:=by have:=(List.getElem?_eq_some_iff.1 hx).1;rwa [jf] at this
  rw[Dj hkl] at hx
  cases hx
  exact hR k (by omega)
end Go.Id
namespace Go.Id
open Go
open Classical in
noncomputable def levE (ll:List (List (Nat×Nat))) (ws:List Nat) (s:List Int) (level:Int):Int:=if ¬dK ll then 330 else if Wa ws s level≠0 then Wa ws s level else if s.length≠ll.length then 2 else nN ll (mapZ (XJ s level) ws ws.length)
end Go.Id
namespace Go.Id
open Go





theorem UE {p q:Nat×Nat} (hp:p.1<W8∧p.2<W8) (hq:q.1<W8∧q.2<W8) (op:okS p.1 p.2) (oq:okS q.1 q.2) (h:rOf p=rOf q):p=q:=by
 obtain⟨a1,a2⟩:=cZ op
 obtain⟨b1,b2⟩:=cZ oq
 rw[h] at a1 a2
 have e1:wdI p.1=wdI q.1:=a1.symm.trans b1
 have e2:wdI p.2=wdI q.2:=a2.symm.trans b2
 have c1:p.1=q.1:=by rw[←sB hp.1,←sB hq.1,e1]
 have c2:p.2=q.2:=by rw[←sB hp.2,←sB hq.2,e2]
 exact Prod.ext c1 c2
theorem Ox (l:List Rat) (a:Rat):l.foldl (· + ·) a=a+gi l:=by
 induction l generalizing a with
 | nil=>exact(Rat.add_zero a).symm
 | cons b l ih =>
  show l.foldl (· + ·) (a+b)=a+l.foldl (· + ·) (0+b)
  rw[ih,ih,Rat.zero_add,Rat.add_assoc]
theorem CD (q:Rat) (l:List Rat):gi (q :: l)=q+gi l:=by
 show l.foldl (· + ·) (0+q)=_
 rw[Ox,Rat.zero_add]




def kerL (ll:List (List (Nat×Nat))) (ws:List Nat) (s:List Int) (lev:Int):List (List (Nat×Nat)):=iH ll (mapZ (XJ s lev) ws ws.length)

structure Reps (H:IH) (n1:Nat) (ks:List Nat) (lv:List Int) (kvs:List Value) (at_:Nat→Nat):Prop where
 len:ks.length=kvs.length
 asc : ∀(i j a b:Nat),i<j→ks[i]?=some a→ks[j]?=some b→a<b
 get : ∀(j k:Nat),ks[j]?=some k→n1≤k∧k<H.n ∧ ∃kv,kvs[j]?=some kv∧H.ext.get k=some (.cells [KI (lv.getD j 0),kv,KN (at_ j)] 0 none)
def pk (k:Nat):Value:=ptr (2*k) 0
structure RdA (h H:IH) (c b18:Nat) (ll:List (List (Nat×Nat))) (ws:List Nat) (s lv:List Int) (i:Nat) (cpv:Value) (ks:List Nat) (kvs:List Value) (n1:Nat):Prop where
 e:Ext h H
 g11:H.ext.get h.n=some (.cells [K64 c] 0 none)
 g12:H.ext.get (h.n+1)=some (.cells [.slice none 0 0] 0 none)
 g13:H.ext.get (h.n+2)=some (.cells [KI 0] 0 none)
 g14:H.ext.get (h.n+3)=some (.cells [.int .u64 0] 0 none)
 g15:H.ext.get (h.n+4)=some (.cells [KI 0] 0 none)
 bn:h.n+4<b18∧b18<n1∧n1≤H.n
 g18:H.ext.get b18=some (.cells [cpv] 0 none)
 acc:Acc H h.n 1 cpv i (ks.map pk)
 rep:Reps H n1 ks lv kvs (fun _=>0)
 ker : ∀(j:Nat) b,j<i→lv[j]?=some b → ∃kv',kvs[j]?=some kv'∧ji H kv' (kerL ll ws s b)∧levE ll ws s b=0
structure RdB (h H:IH) (ci b18:Nat) (sw:Int) (lv:List Int) (cpv:Value) (ks:List Nat) (kvs:List Value) (n1:Nat) (f:Nat→Nat):Prop where
 e:Ext h H
 g11:H.ext.get h.n=some (.cells [K64 ci] 0 none)
 g12:H.ext.get (h.n+1)=some (.cells [.slice none 0 0] 0 none)
 g13:H.ext.get (h.n+2)=some (.cells [KI sw] 0 none)
 g14:H.ext.get (h.n+3)=some (.cells [.int .u64 0] 0 none)
 g15:H.ext.get (h.n+4)=some (.cells [KI 0] 0 none)
 bn:h.n+4<b18∧b18<n1∧n1≤H.n
 g18:H.ext.get b18=some (.cells [cpv] 0 none)
 acc:Acc H h.n 1 cpv lv.length (ks.map pk)
 rep:Reps H n1 ks lv kvs f
structure TLf (fr:Fr) (w v14 v17:Value) (a b i j:Int) (bx:Nat):Prop where
 f1:ab fr 1=some w
 f2:ab fr 2=some (KI a)
 f3:ab fr 3=some (KI b)
 f4:ab fr 4=some (KI i)
 f5:ab fr 5=some (KI j)
 f6:ab fr 6=some (ptr (2*bx) 0)
 f14:ab fr 14=some v14
 f17:ab fr 17=some v17
section
variable {h hh:IH} {fr:Fr} {sz bx:Nat} {vN vS vL vA vR vQ w:Value} {lN lS lL lA ws:List Nat} {lR lQ:List Int} {a b i j:Int}
end
structure LVf (fr:Fr) (w:Value) (l:Int) (bx bb:Nat):Prop where
 f2:ab fr 2=some w
 f3:ab fr 3=some (KI l)
 f4:ab fr 4=some (ptr (2*bx) 0)
 f5:ab fr 5=some (ptr (2*bb) 0)
section
variable {h hh:IH} {fr:Fr} {sz bx bb:Nat} {vN vS vL vA vR vQ w:Value} {lN lS lL lA ws:List Nat} {lR lQ:List Int} {l:Int}
end
structure RDf (fr:Fr) (vr:Value) (bx bb bc:Nat):Prop where
 f3:ab fr 3=some vr
 f4:ab fr 4=some (ptr (2*bx) 0)
 f5:ab fr 5=some (ptr (2*bb) 0)
 f6:ab fr 6=some (ptr (2*bc) 0)
section
variable {h hh:IH} {fr:Fr} {sz bx bb bc s:Nat} {vN vS vL vA vR vQ vr:Value} {lN lS lL lA ws:List Nat} {lR lQ lr:List Int}
end
def dR (q:Rat) (B:Nat):Prop:=∃a:Int,q*(B:Rat)=(a:Rat)
theorem xX (q:Rat):q*(q.den:Rat)=(q.num:Rat):=by
 have h:((q.num:Int):Rat) / (q.den:Rat)=q:=by
  have:=Rat.num_divInt_den q
  rw[Rat.divInt_eq_div] at this
  exact this
 have hd:(0:Rat)<(q.den:Rat):=Rat.natCast_pos.2 q.den_pos
 grind
variable {q:Rat}{B:Nat}
theorem Gq (h:q.den∣B):dR q B:=by
 obtain⟨k,rfl⟩:=h
 refine⟨q.num*k,?_⟩
 have h1:q*(q.den:Rat)=(q.num:Rat):=xX q
 rw[Rat.natCast_mul,←Rat.mul_assoc,h1,Rat.intCast_mul];rfl
theorem dR.mul (h:dR q B) (k:Nat):dR q (B*k):=by
 obtain⟨a,ha⟩:=h
 exact⟨a*k,by rw[Rat.natCast_mul,←Rat.mul_assoc,ha,Rat.intCast_mul];rfl⟩
theorem dR.sub {r:Rat} (h:dR q B) (k:dR r B):dR (q - r) B:=by
 obtain⟨a,ha⟩:=h
 obtain⟨b,hb⟩:=k
 exact⟨a - b,by rw[Rat.intCast_sub,←ha,←hb];grind⟩
theorem Jc (hB:0<B) (h0:0≤q) (h1:q≤1) (h:dR q B):q.den∣B∧0≤q.num∧q.num≤q.den:=by
 have n0:0≤q.num:=Rat.num_nonneg.2 h0
 have n1:q.num≤q.den:=by
  have hd:(0:Rat)<(q.den:Rat):=Rat.natCast_pos.2 q.den_pos
  have e:q*(q.den:Rat)=(q.num:Rat):=xX q
  have h2:q*(q.den:Rat)≤1*(q.den:Rat):=Rat.mul_le_mul_of_nonneg_right h1 (Rat.le_of_lt hd)
  rw[e,Rat.one_mul] at h2
  have:((q.num:Int):Rat)≤((q.den:Int):Rat):=h2
  exact Rat.intCast_le_intCast.1 this
 refine⟨?_,n0,n1⟩
 obtain⟨a,ha⟩:=h
 have hBr:(0:Rat)<(B:Rat):=Rat.natCast_pos.2 hB
 have a0:0≤a:=by
  have:(0:Rat)≤(a:Rat):=by rw[←ha];exact Rat.mul_nonneg h0 (Rat.le_of_lt hBr)
  exact_mod_cast this
 obtain⟨y,rfl⟩:=Int.eq_ofNat_of_zero_le a0
 obtain⟨m,_,_,e2⟩:=v9 (y:=y) hB
 have hq:q=Rat.divInt (y:Nat) (B:Nat):=by
  rw[Rat.divInt_eq_div]
  have e1:((B:Int):Rat)=(B:Rat):=rfl
  have e2:(((y:Nat):Int):Rat)=q*(B:Rat):=ha.symm
  rw[e1,e2]
  grind
 rw[←hq] at e2
 exact⟨m,e2⟩
theorem Mc : ∀(l:List Rat),(∀q∈l,0≤q)→0≤gi l
 | [],_=>by show(0:Rat)≤0;exact Rat.le_refl
 | q :: l,h=>by
  have h1:=h q (by simp)
  have h2:=Mc l fun x hx=>h x (by simp[hx])
  rw[CD]
  grind
theorem Md : ∀(l:List Rat),(∀q∈l,0≤q) → ∀q∈l,q≤gi l
 | [],_,q,hq=>by cases hq
 | a :: l,h,q,hq=>by
  have h1:=h a (by simp)
  have h2:=Mc l fun x hx=>h x (by simp[hx])
  rw[CD]
  rcases List.mem_cons.1 hq with rfl|hq
  ·grind
  ·have h3:=Md l (fun x hx=>h x (by simp[hx])) q hq
   grind
variable {t:List Nat}{i:Nat}{ll:List (List (Nat×Nat))}
theorem Kt (k:dK ll) (ht:t.length=ll.length) (hp : ∀p∈t,1≤wdI p) (hi:i<ll.length):(∀q∈dS ll t i,0≤q)∧gi (dS ll t i)=1∧(∀j,j<ll.length→0≤goQ ll t i j∧goQ ll t i j≤kAt ll i j):=by
 have hw : ∀i,i<ll.length→0<cK (t.getD i 0):=fun i hi=>by
  have:=hp _ (List.getElem_mem (show i<t.length by omega))
  rw[List.getD_eq_getElem?_getD,List.getElem?_eq_getElem (by omega),Option.getD_some]
  unfold cK
  exact Rat.intCast_pos.2 (by omega)
 have hk : ∀i j,i<ll.length→j<ll.length→0≤kAt ll i j:=fun i j hi hj=>by
  obtain⟨_,p,_,_,_,e4,e5,e6⟩:=fi k hi hj
  rw[e6]
  exact JA e4 e5
 have hg : ∀i j,i<ll.length→j<ll.length→0≤goQ ll t i j∧goQ ll t i j≤kAt ll i j:=fun i j hi hj=>by
  have h1:=hk i j hi hj
  have h2:=hk j i hj hi
  have w1:=hw i hi
  have w2:=hw j hj
  unfold goQ
  split
  ·rename_i c
   refine⟨?_,Rat.le_of_lt c⟩
   rw[Rat.div_def]
   exact Rat.mul_nonneg (Rat.mul_nonneg h2 (Rat.le_of_lt w2)) (Rat.le_of_lt (Rat.inv_pos.2 w1))
  ·exact⟨h1,Rat.le_refl⟩
 have hq : ∀i j,i<ll.length→j<ll.length→0≤nM ll t i j:=fun i j hi hj=>by
  unfold nM
  split
  ·have h1:=wY (i:=i) (m:=ll.length) (g:=goQ ll t i) (k:=kAt ll i) fun j hj=>(hg i j hi hj).2
   have h2:=ry (kAt ll i) i ll.length
   rw[LY k hi,if_pos hi] at h2
   have h3:=hk i i hi hi
   grind
  ·exact(hg i j hi hj).1
 refine⟨fun q hq'=>?_,?_,fun j hj=>hg i j hi hj⟩
 ·obtain⟨j,hj⟩:=List.getElem?_of_mem hq'
  have hjl:=(List.getElem?_eq_some_iff.1 hj).1
  rw[fj] at hjl
  rw[j0 hjl] at hj
  cases hj
  exact hq i j hi hjl
 ·have h1:=Es (goQ ll t i) (oi (goQ ll t i) i ll.length) i ll.length
  have h2:=ry (goQ ll t i) i ll.length
  rw[if_pos hi] at h1 h2
  have e:dS ll t i=(List.range ll.length).map fun j=>if j=i then oi (goQ ll t i) i ll.length else goQ ll t i j:=rfl
  rw[e,h1]
  grind
theorem dR.times (h:dR q B) (x y:Nat) (hy:0<y):dR (q*(x:Rat) / (y:Rat)) (B*y):=by
 obtain⟨a,ha⟩:=h
 refine⟨a*x,?_⟩
 have hy':(0:Rat)<(y:Rat):=Rat.natCast_pos.2 hy
 rw[Rat.natCast_mul,Rat.intCast_mul,←ha]
 show q*(x:Rat) / (y:Rat)*((B:Rat)*(y:Rat))=q*(B:Rat)*(x:Rat)
 grind
theorem Az {g:Nat→Rat} {B i:Nat} : ∀{m:Nat},(∀j,j<m→dR (g j) B)→dR (oi g i m) B
 | 0,_=>⟨B,by rw[oi,Rat.one_mul];rfl⟩
 | m+1,h=>by
  have ih:=Az (i:=i) (m:=m) fun j hj=>h j (by omega)
  rw[oi]
  split
  ·exact ih
  ·exact ih.sub (h m (by omega))
theorem Kr {D:Nat} (hD : ∀i j,i<ll.length→j<ll.length→dR (kAt ll i j) D) {T:Nat→Nat} (hT : ∀i,i<ll.length→0<T i∧cK (t.getD i 0)=(T i:Rat)) (hi:i<ll.length) : ∀q∈dS ll t i,dR q (D*T i):=by
 have hg : ∀j,j<ll.length→dR (goQ ll t i j) (D*T i):=fun j hj=>by
  unfold goQ
  split
  ·rw[(hT j hj).2,(hT i hi).2]
   exact(hD j i hj hi).times _ _ (hT i hi).1
  ·exact(hD i j hi hj).mul _
 intro q hq
 obtain⟨j,hj⟩:=List.getElem?_of_mem hq
 have hjl:=(List.getElem?_eq_some_iff.1 hj).1
 rw[fj] at hjl
 rw[j0 hjl] at hj
 cases hj
 unfold nM
 split
 ·exact Az hg
 ·exact hg j hjl
theorem Ue (hB:0<B) (hB2:B<H8) (h0:0≤q) (h1:q≤1) (h:dR q B):QW q∧(shq q).2∣B∧(shq q).1≤(shq q).2∧0<(shq q).2:=by
 obtain⟨a,b,c⟩:=Jc hB h0 h1 h
 have h8:=iJ
 have hd:=Nat.le_of_dvd hB a
 have e1:(shq q).1=q.num.toNat:=by show aY q.num=_;unfold aY;rw[if_pos b]
 have e2:(shq q).2=q.den:=by show aY (q.den:Int)=_;unfold aY;rw[if_pos (by omega),Int.toNat_natCast]
 have dp:=q.den_pos
 refine⟨⟨⟨by omega,by omega⟩,⟨by omega,by omega⟩⟩,by rw[e2];exact a,by rw[e1,e2];omega,by rw[e2];exact dp⟩
theorem Dr : ∀(ll:List (List (Nat×Nat))),(∀x∈ll,∃S,smR S x) → ∃D,0<D∧D≤1000 ^ ll.length ∧ ∀x∈ll,∀p∈x,p.2∣D
 | [],_=>⟨1,by omega,by simp,fun x hx=>by cases hx⟩
 | l :: ll,h=>by
  obtain⟨D,h1,h2,h3⟩:=Dr ll fun x hx=>h x (by simp[hx])
  obtain⟨S,s1,s2,s3⟩:=h l (by simp)
  refine⟨D*S,Nat.mul_pos h1 s1,?_,fun x hx p hp=>?_⟩
  ·rw[List.length_cons,Nat.pow_succ]
   exact Nat.mul_le_mul h2 s2
  ·rcases List.mem_cons.1 hx with rfl|hx
   ·exact Nat.dvd_trans (s3 p hp).2.2 (Nat.dvd_mul_left _ _)
   ·exact Nat.dvd_trans (h3 x hx p hp) (Nat.dvd_mul_right _ _)
def kerD (ll:List (List (Nat×Nat))):Prop:=dK ll∧ll.length≤4 ∧ ∃D,0<D∧D≤1000000000000 ∧ ∀i j,i<ll.length→j<ll.length→dR (kAt ll i j) D
theorem KC {ll:List (List (Nat×Nat))} (l1:1≤ll.length) (l2:ll.length≤4) (hr : ∀x∈ll,x.length=ll.length∧Jt x):kerD ll:=by
 obtain⟨_,ok⟩:=Vi (ll:=ll) (by omega) (by omega) (fun x hx=>hr x hx)
 obtain⟨D,h1,h2,h3⟩:=Dr ll fun x hx=>(hr x hx).2.2.1
 refine⟨ok,l2,D,h1,Nat.le_trans h2 (Nat.le_trans (Nat.pow_le_pow_right (by omega) l2) (by decide)),fun i j hi hj=>?_⟩
 obtain⟨row,p,e1,e2,e3,e4,e5,e6⟩:=fi ok hi hj
 have hm:=List.mem_of_getElem? e1
 have hp:=List.mem_of_getElem? e3
 obtain⟨S,s1,s2,s3⟩:=(hr row hm).2.2.1
 have hS:=s3 p hp
 have hle:=Nat.le_of_dvd s1 hS.2.2
 rw[e6]
 refine Gq ?_
 have hd:=(cZ e4).2
 rw[XA (by omega)] at hd
 have:(rOf p).den=p.2:=by omega
 rw[this]
 exact h3 row hm p hp
theorem TQ {a b:Nat} (h:a+b=511):H8=2 ^ a*2 ^ b:=by rw[ZP,←Nat.pow_add,h]
theorem Zdf {D T:Nat} (hD:D≤1000000000000) (hT:T≤9*2 ^ 240):60*(D*T)<H8:=by
 have e:=TQ (a:=271) (b:=240) rfl
 rw[e]
 have h1:D*T≤1000000000000*(9*2 ^ 240):=Nat.mul_le_mul hD hT
 have h2:(2:Nat) ^ 50≤2 ^ 271:=UI (a:=50) (b:=271) (by omega)
 have h3:(2:Nat) ^ 50=1125899906842624:=by decide
 have h4:0<2 ^ 240:=Nat.two_pow_pos 240
 generalize 2 ^ 240=X at *
 generalize 2 ^ 271=Y at *
 have h5:1125899906842624*X≤Y*X:=Nat.mul_le_mul_right _ (by omega)
 omega

theorem PO {a b x y:Rat} (hx:0<x) (hy:0<y):(if a*x / y<b then a*x / y else b)*y / x=(if b*y / x<a then b*y / x else a):=by
 have k1:a*x / y<b↔a*x<b*y:=by rw[Rat.div_lt_iff hy]
 have k2:b*y / x<a↔b*y<a*x:=by rw[Rat.div_lt_iff hx]
 simp only[k1,k2]
 by_cases c1:a*x<b*y
 ·rw[if_pos c1,if_neg (by grind)]
  grind
 ·rw[if_neg c1]
  by_cases c2:b*y<a*x
  ·rw[if_pos c2]
  ·rw[if_neg c2]
   have e:b*y=a*x:=by grind
   rw[e]
   grind
theorem H9 {ll:List (List (Nat×Nat))} {t:List Nat} (ho:uA ll t) {i j:Nat} (hi:i<ll.length) (hj:j<ll.length):kAt (iH ll t) i j=nM ll t i j:=by
 have hq:=ho i hi _ (List.mem_of_getElem? (j0 (ll:=ll) (t:=t) (i:=i) hj))
 unfold kAt
 rw[List.getD_eq_getElem?_getD,List.getD_eq_getElem?_getD,Dj hi,Option.getD_some,List.getElem?_map,j0 hj]
 exact(bX hq).1
theorem Om {ll:List (List (Nat×Nat))} {t:List Nat} (ht:t.length=ll.length) (hp : ∀p∈t,1≤wdI p) (ho:uA ll t) (i j:Nat) (hi:i<ll.length) (hj:j<i) :
  cK (t.getD i 0)*kAt (iH ll t) i j=cK (t.getD j 0)*kAt (iH ll t) j i:=by
 have hw : ∀i,i<ll.length→0<cK (t.getD i 0):=fun i hi=>by
  have:=hp _ (List.getElem_mem (show i<t.length by omega))
  rw[List.getD_eq_getElem?_getD,List.getElem?_eq_getElem (by omega),Option.getD_some]
  unfold cK
  exact Rat.intCast_pos.2 (by omega)
 have wi:=hw i hi
 have wj:=hw j (by omega)
 have e:kAt (iH ll t) j i*cK (t.getD j 0) / cK (t.getD i 0)=kAt (iH ll t) i j:=by
  rw[H9 ho hi (by omega),H9 ho (by omega) hi]
  unfold nM
  rw[if_neg (by omega),if_neg (by omega)]
  exact PO wi wj
 rw[←e]
 grind
end Go.Id
