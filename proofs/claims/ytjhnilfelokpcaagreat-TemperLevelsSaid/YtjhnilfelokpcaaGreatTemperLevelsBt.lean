/-
  Lists that grow, with the sizes of their families' blocks: a store into one leaves everything of another size as it is. Contracts: reference 01: Cmp; reference 33: values, under, Told.
-/
import Derived.Test.YtjhnilfelokpcaaGreatTemperLevelsBq
import Derived.Test.YtjhnilfelokpcaaGreatTemperLevelsBp
import Derived.Test.YtjhnilfelokpcaaGreatTemperLevelsAt
import Derived.Test.YtjhnilfelokpcaaGreatTemperLevelsBs
import Derived.Test.YtjhnilfelokpcaaGreatTemperLevelsBn
set_option linter.unusedVariables false
set_option linter.unusedSimpArgs false
set_option linter.defProp false
set_option linter.deprecated false
namespace Go.Id
open Go
def FamZ (h:IH) (sz:Nat) (v:Value):Prop:=∀k n c,v=.slice (some ⟨2*k,0,none⟩) n c → ∀cs f rest,h.ext.get k=some (.cells cs sz (some f))→h.fams.get f=some (k :: rest) → ∀j∈rest,∃c' f',h.ext.get j=some (.cells c' sz f')
def AccF (h:IH) (n0 sz:Nat) (v:Value) (n:Nat) (cs:List Value):Prop:=Acc h n0 sz v n cs∧FamZ h sz v
theorem AccF.nil (h:IH) (n0:Nat) {sz:Nat} (hz:0<sz):AccF h n0 sz (.slice none 0 0) 0 []:=⟨Acc.nil h n0 hz,fun k n c hv=>by cases hv⟩
theorem acc_form {h:IH} {n0 sz:Nat} {v:Value} {n:Nat} {cs:List Value} (a:Acc h n0 sz v n cs) {k m c:Nat} (hv:v=.slice (some ⟨2*k,0,none⟩) m c):0<sz∧k<h.n ∧ ∃fam,h.ext.get k=some (.cells cs sz fam)∧TopFam h n0 k fam:=by
 obtain⟨hz,hl,⟨rfl,rfl⟩|⟨k',fam,rfl,hn,h1,h2,h3,h4⟩⟩:=a
 ·cases hv
 ·have hkk:k=k':=by
   injection hv with hv _ _;injection hv with hv;injection hv with hv _ _;omega
  subst hkk
  exact⟨hz,h2,fam,h3,h4⟩
theorem AccF.ext {h h':IH} {n0 sz:Nat} {v:Value} {n:Nat} {cs:List Value} (a:AccF h n0 sz v n cs) (e:Ext h h'):AccF h' n0 sz v n cs:=by
 refine⟨a.1.ext e,fun k m c hv cs2 f rest hg hf j hj=>?_⟩
 obtain⟨hz,hk,fam,g1,g2⟩:=acc_form a.1 hv
 rw[e.get k hk,g1] at hg
 cases hg
 obtain⟨f1,f2,r,f3,f4⟩:=g2
 rw[e.fams f f2,f3] at hf
 cases hf
 obtain⟨c',f',h5⟩:=a.2 k m c hv cs f rest g1 f3 j hj
 exact⟨c',f',(e.get j (f4 j hj).2).trans h5⟩
theorem AccF.put {h:IH} {n0 sz:Nat} {v:Value} {n:Nat} {cs:List Value} (a:AccF h n0 sz v n cs) {i:Nat} {c:List Value} {f:Option Nat} (hi:h.ext.get i=some (.cells c 0 f)) (o:IObj):AccF (h.put i o) n0 sz v n cs:=by
 refine⟨a.1.put hi o,fun k m c2 hv cs2 f2 rest hg hf j hj=>?_⟩
 obtain⟨hz,hk,fam,g1,g2⟩:=acc_form a.1 hv
 have hki:k≠i:=by rintro rfl;rw[hi] at g1;cases g1;omega
 rw[get_put_old _ _ hki,g1] at hg
 cases hg
 obtain⟨c',f',h5⟩:=a.2 k m c2 hv cs f2 rest g1 hf j hj
 have hji:j≠i:=by rintro rfl;rw[hi] at h5;cases h5;omega
 exact⟨c',f',by rw[get_put_old _ _ hji];exact h5⟩
theorem AccF.appE {h:IH} {n0 sz:Nat} {v:Value} {n:Nat} {cs:List Value} (aF:AccF h n0 sz v n cs) {P:Program} {t:TypeId} {bytes:Nat} (hT:appT P t=some (sz,bytes)) {x:Value} {m:Nat} {new:List Value} (sx:SlOf h sz x m new) (hm:0<m)
  (hc:new.all cellOK=true) (hsz:(n+m)*(bytes+1)≤sizeMost) (h0:n0≤h.n) {h0':IH} (e0:Ext h0' h) (hn0:h0'.n≤n0) :
  ∃v' h',append P h t v x=some (v',h')∧AccF h' n0 sz v' (n+m) (cs ++ new)∧Grow h h'∧h'.n=h.n+1∧Ext h0' h' ∧ ∀j c e f,j<h.n→e≠sz→h.ext.get j=some (.cells c e f)→h'.ext.get j=some (.cells c e f):=by
 obtain⟨a,aZ⟩:=aF
 unfold appT at hT
 split at hT
 case h_2=>cases hT
 rename_i e hu
 split at hT
 case h_2=>cases hT
 rename_i zs h1 h2 h3
 simp only[cond_eq_ite] at hT
 split at hT
 case isTrue=>cases hT
 rename_i hbad
 cases hT
 have hbad':(sz == 0 || (!(Nat.ble bytes 65536) || !(zs.length == sz)))=false:=by simpa using hbad
 have hsz0:0<sz:=by
  simp at hbad';omega
 obtain⟨_,hln,hx⟩:=sx
 have hmne:(m == 0)=false:=by simp;omega
 have hx' : ∃b o k row,x=.slice (some ⟨b,o,none⟩) m k∧h.row b=some row∧(row.drop o).take (m*sz)=new∧o+m*sz≤row.length:=by
  rcases hx with⟨rfl,rfl⟩|⟨b,o,k,rfl,⟨rfl,_⟩|⟨_,_,row,_,a1,a2,a3⟩⟩
  ·omega
  ·omega
  ·exact⟨b,o,k,row,rfl,a1,a2,a3⟩
 obtain⟨b,o,k,row,rfl,a1,a2,a3⟩:=hx'
 have hms : ¬m*sz=0:=by
  have:0<m*sz:=Nat.mul_pos hm hsz0
  omega
 have hfirst:firstOf h sz m (.slice (some ⟨b,o,none⟩) m k)=some new:=by
  simp only[firstOf,cond_eq_ite,Nat.ble_eq,Nat.le_refl,if_true,beq_iff_eq,if_neg hms]
  rw[rd_of a1,if_pos a3,a2]
 have hble:Nat.ble ((n+m)*(bytes+1)) sizeMost=true:=by rw[Nat.ble_eq];exact hsz
 obtain⟨hz,hl,⟨rfl,rfl⟩|⟨kk,fam,rfl,hn,g1,g2,g3,g4⟩⟩:=a
 ·-- from nothing
  have hcs:cs = []:=List.length_eq_zero_iff.1 (by omega)
  subst hcs
  refine⟨.slice (some ⟨2*h.n,0,none⟩) m (2*m),h.new (.cells new sz none),?_,⟨⟨hz,by simp;exact hln,.inr ⟨h.n,none,by simp,by omega,h0,by simp,by simp[get_new],trivial⟩⟩,fun k2 n2 c2 hv2 cs2 f2 rest2 hg2=>by
   have hkk:k2=h.n:=by
    injection hv2 with hv2 _ _;injection hv2 with hv2;injection hv2 with hv2 _ _;omega
   subst hkk
   rw[get_new,if_pos rfl] at hg2;cases hg2⟩,(Grow.refl h).new _,rfl,e0.new _,fun j c e f hj _ hg=>(get_new_old _ _ (by omega)).trans hg⟩
  have hble':Nat.ble (m*(bytes+1)) sizeMost=true:=by simpa using hble
  simp only[Id.append,hu,h1,h2,h3,lenOf,hmne,hbad',hfirst,hc,hble',cond_true,cond_false,Bool.not_true,BEq.rfl,Bool.and_self]
 ·have hcap:Nat.ble (n+m) (2*n / 2)=false:=by
   rw[Bool.eq_false_iff];intro hh;rw[Nat.ble_eq] at hh;omega
  have hodd:(2*n % 2 == 1)=false:=by simp
  have hlen:(n == 2*n / 2 && Nat.blt 0 n && (2*kk) % 2 == 0)=true:=by
   have:2*n / 2=n:=by omega
   simp[this,Nat.blt,Nat.ble_eq];omega
  have hend:(0+n*sz == cs.length && sz == sz)=true:=by simp[hl]
  have hk2:2*kk / 2=kk:=by omega
  have body : ∀f below,(∀j∈below,n0≤j∧j<h.n)→(∀j∈below,∃c f',h.ext.get j=some (.cells c sz f'))→(n0≤f)→f<h.n+1 →
    AccF (grown h kk f cs sz [] below (cs.drop 0 ++ new) sz) n0 sz (.slice (some ⟨2*h.n,0,none⟩) (n+m) (2*(n+m))) (n+m) (cs ++ new) ∧
    Grow h (grown h kk f cs sz [] below (cs.drop 0 ++ new) sz)∧Ext h0' (grown h kk f cs sz [] below (cs.drop 0 ++ new) sz)∧(∀j c e f',j<h.n→e≠sz→h.ext.get j=some (.cells c e f')→(grown h kk f cs sz [] below (cs.drop 0 ++ new) sz).ext.get j=some (.cells c e f')):=by
   intro f below hbl hbz hf1 hf2
   have hget : ∀j,(grown h kk f cs sz [] below (cs.drop 0 ++ new) sz).ext.get j=if j=h.n then some (.cells (cs ++ new) sz (some f)) else if j=kk then some (.cells cs sz (some f)) else h.ext.get j:=by
    intro j
    simp[grown,IH.killAll,Tr.get_set]
   refine⟨⟨⟨hz,by simp[hl,hln,Nat.add_mul],.inr ⟨h.n,some f,rfl,by omega,h0,by simp[grown],by rw[hget,if_pos rfl],hf1,by simp[grown];omega,kk :: below,?_,fun j hj=>by rcases List.mem_cons.1 hj with rfl|hj;exact⟨g1,by simp[grown];omega⟩;exact⟨(hbl j hj).1,by have:=(hbl j hj).2;simp[grown];omega⟩⟩⟩,?_⟩,⟨by simp[grown],rfl,fun j hj=>?_⟩,?_,fun j c e f' hj he hg=>by
    rw[hget,if_neg (by omega),if_neg (by rintro rfl;rw[g3] at hg;cases hg;exact he rfl)];exact hg⟩
   ·simp[grown,Tr.get_set]
   ·intro k2 n2 c2 hv2 cs2 f2 rest2 hg2 hf2' j hj
    have hkk:k2=h.n:=by
     injection hv2 with hv2 _ _;injection hv2 with hv2;injection hv2 with hv2 _ _;omega
    subst hkk
    rw[hget,if_pos rfl] at hg2
    cases hg2
    have hfm:(grown h kk f cs sz [] below (cs.drop 0 ++ new) sz).fams.get f=some (h.n :: kk :: below):=by simp[grown,Tr.get_set]
    rw[hfm] at hf2'
    cases hf2'
    rw[hget]
    rcases List.mem_cons.1 hj with rfl|hj
    ·rw[if_neg (by omega),if_pos rfl];exact⟨_,_,rfl⟩
    ·obtain⟨c',f',hc'⟩:=hbz j hj
     have:=(hbl j hj).2
     rw[if_neg (by omega)]
     by_cases hjk:j=kk
     ·rw[if_pos hjk];exact⟨_,_,rfl⟩
     ·rw[if_neg hjk];exact⟨c',f',hc'⟩
   ·rw[hget,if_neg (by omega)]
    by_cases hjk:j=kk
    ·subst hjk
     exact .inr ⟨cs,sz,fam,some f,by omega,g3,by rw[if_pos rfl]⟩
    ·rw[if_neg hjk];exact .inl rfl
   ·refine⟨by have:=e0.n;simp[grown];omega,e0.base,fun j hj=>?_,fun g hg=>?_⟩
    ·rw[hget,if_neg (by omega),if_neg (by omega)];exact e0.get j hj
    ·simp only[grown,Tr.get_set]
     rw[if_neg (by omega)];exact e0.fams g hg
  cases fam with
  | none =>
   obtain⟨b1,b2,b3,b4⟩:=body h.n [] (fun _ h=>by cases h) (fun _ h=>by cases h) h0 (by omega)
   refine⟨_,_,?_,b1,b2,rfl,b3,b4⟩
   simp only[Id.append,hu,h1,h2,h3,lenOf,hmne,hbad',hfirst,hc,hble,hcap,hodd,hlen,hk2,g3,hend,cond_true,cond_false,Bool.not_true]
  | some f =>
   obtain⟨f1,f2,rest,f3,f4⟩:=g4
   obtain⟨b1,b2,b3,b4⟩:=body f rest f4 (aZ kk n _ rfl cs f rest g3 f3) f1 (by omega)
   refine⟨_,_,?_,b1,b2,rfl,b3,b4⟩
   have t1:(kk :: rest).takeWhile (· != kk) = []:=by simp
   have t2:((kk :: rest).dropWhile (· != kk)).drop 1=rest:=by simp
   simp only[Id.append,hu,h1,h2,h3,lenOf,hmne,hbad',hfirst,hc,hble,hcap,hodd,hlen,hk2,g3,hend,f3,t1,t2,cond_true,cond_false,Bool.not_true]
theorem AccF.app {h:IH} {n0 sz:Nat} {v:Value} {n:Nat} {cs:List Value} (a:AccF h n0 sz v n cs) {P:Program} {t:TypeId} {bytes:Nat} (hT:appT P t=some (sz,bytes)) {x:Value} {m:Nat} {new:List Value} (sx:SlOf h sz x m new) (hm:0<m)
  (hc:new.all cellOK=true) (hsz:(n+m)*(bytes+1)≤sizeMost) (h0:n0≤h.n) {h0':IH} (e0:Ext h0' h) (hn0:h0'.n≤n0) :
  ∃v' h',append P h t v x=some (v',h')∧AccF h' n0 sz v' (n+m) (cs ++ new)∧Grow h h'∧h'.n=h.n+1∧Ext h0' h':=by
 obtain⟨v',h',a1,a2,a3,a4,a5,_⟩:=a.appE hT sx hm hc hsz h0 e0 hn0
 exact⟨v',h',a1,a2,a3,a4,a5⟩
theorem AccF.appNE {h:IH} {n0 sz:Nat} {v:Value} {n:Nat} {cs:List Value} (a:AccF h n0 sz v n cs) {P:Program} {t:TypeId} {bytes:Nat} (hT:appT P t=some (sz,bytes)) {m:Nat} {new:List Value} (hm:0<m) (hl:new.length=m*sz)
  (hc:new.all cellOK=true) (hsz:(n+m)*(bytes+1)≤1099511627776) (h0:n0≤h.n) {h0':IH} (e0:Ext h0' h) (hn0:h0'.n≤n0) :
  ∃v' h',append P (h.new (.cells new sz none)) t v (.slice (some ⟨2*h.n,0,none⟩) m (2*m+1))=some (v',h')∧AccF h' n0 sz v' (n+m) (cs ++ new)∧Grow h h'∧Ext h0' h' ∧ ∀j c e f,j<h.n→e≠sz→h.ext.get j=some (.cells c e f)→h'.ext.get j=some (.cells c e f):=by
 have e1:Ext h (h.new (.cells new sz none)):=(Ext.refl h).new _
 obtain⟨v',h',b1,b2,b3,b4,b5,b6⟩:=(a.ext e1).appE hT (built_sl h a.1.1 hl hm) hm hc hsz (by simp;omega) (e0.trans e1) hn0
 exact⟨v',h',b1,b2,e1.grow.trans b3,b5,fun j c e f hj he hg=>b6 j c e f (by simp;omega) he ((get_new_old _ _ (by omega)).trans hg)⟩
theorem AccF.appN {h:IH} {n0 sz:Nat} {v:Value} {n:Nat} {cs:List Value} (a:AccF h n0 sz v n cs) {P:Program} {t:TypeId} {bytes:Nat} (hT:appT P t=some (sz,bytes)) {m:Nat} {new:List Value} (hm:0<m) (hl:new.length=m*sz)
  (hc:new.all cellOK=true) (hsz:(n+m)*(bytes+1)≤1099511627776) (h0:n0≤h.n) {h0':IH} (e0:Ext h0' h) (hn0:h0'.n≤n0) :
  ∃v' h',append P (h.new (.cells new sz none)) t v (.slice (some ⟨2*h.n,0,none⟩) m (2*m+1))=some (v',h')∧AccF h' n0 sz v' (n+m) (cs ++ new)∧Grow h h'∧Ext h0' h':=by
 have e1:Ext h (h.new (.cells new sz none)):=(Ext.refl h).new _
 obtain⟨v',h',b1,b2,b3,b4,b5⟩:=(a.ext e1).app hT (built_sl h a.1.1 hl hm) hm hc hsz (by simp;omega) (e0.trans e1) hn0
 exact⟨v',h',b1,b2,e1.grow.trans b3,b5⟩
theorem AccF.setN {h:IH} {n0 sz:Nat} {v:Value} {n:Nat} {cs:List Value} (a:AccF h n0 sz v n cs) {P:Program} {t:TypeId} (hT:sizeT P t=some sz) {i:Nat} (hi:i<n) {x:Value} {xs:List Value} (hx:x.cells.toList=xs) (hxl:xs.length=sz) (hc:xs.all cellOK=true) {h0':IH} (e0:Ext h0' h) (hn0:h0'.n≤n0) :
  ∃h',store P h t (elemAddr v (i*sz)) x=some h'∧AccF h' n0 sz v n (IH.splice cs (i*sz) xs)∧Ext h0' h'∧h'.n=h.n∧h'.base=h.base ∧ ∀j c e f,e≠sz→h.ext.get j=some (.cells c e f)→h'.ext.get j=some (.cells c e f):=by
 obtain⟨⟨hz,hl,⟨rfl,rfl⟩|⟨k,fam,rfl,hn,h1,h2,h3,h4⟩⟩,aZ⟩:=a
 ·omega
 ·have hle:i*sz+sz≤cs.length:=by
   rw[hl,←Nat.succ_mul];exact Nat.mul_le_mul_right _ hi
  have hsl:(IH.splice cs (i*sz) xs).length=n*sz:=by
   simp only[IH.splice,List.length_append,List.length_take,List.length_drop]
   omega
  have k2:2*k / 2=k:=by omega
  have k1:(2*k % 2 == 1)=false:=by simp
  have hsx:x.cells.size=sz:=by rw[←Array.length_toList,hx,hxl]
  have hst:store P h t (elemAddr (.slice (some ⟨2*k,0,none⟩) n (2*n)) (i*sz)) x=h.wr (2*k) (i*sz) xs:=by
   simp only[elemAddr,Nat.zero_add,store,asAddr,ptr,hT,hx,hsx,hc,beq_self_eq_true,Bool.and_self,cond_true]
  have hle:Nat.ble (i*sz+xs.length) cs.length=true:=by rw[Nat.ble_eq,hxl];exact hle
  have nofam : ∀H:IH,H.ext.get k=some (.cells (IH.splice cs (i*sz) xs) sz none)→FamZ H sz (.slice (some ⟨2*k,0,none⟩) n (2*n)):=fun H hH k' n' c' hv cs2 f rest hg=>by
   have hkk:k'=k:=by
    injection hv with hv _ _;injection hv with hv;injection hv with hv _ _;omega
   subst hkk
   rw[hH] at hg;cases hg
  rw[hst]
  cases fam with
  | none =>
   refine⟨h.put k (.cells (IH.splice cs (i*sz) xs) sz none),?_,⟨⟨hz,hsl,.inr ⟨k,none,rfl,hn,h1,h2,get_put_same _ _ rfl,trivial⟩⟩,nofam _ (get_put_same _ _ rfl)⟩,e0.put (by omega) _,rfl,rfl,fun j c e f he hg=>?_⟩
   ·simp only[IH.wr,k1,k2,h3,hle,cond_true,cond_false];rfl
   ·rw[get_put_old]
    ·exact hg
    ·rintro rfl;rw[h3] at hg;cases hg;exact he rfl
  | some f =>
   obtain⟨a1,a2,rest,a3,a4⟩:=h4
   have hgk:((IH.killAll h.ext (((k :: rest).filter (· != k)))).set k (.cells (IH.splice cs (i*sz) xs) sz none)).get k=some (.cells (IH.splice cs (i*sz) xs) sz none):=by simp[Tr.get_set]
   refine⟨{ h with ext:=(IH.killAll h.ext (((k :: rest).filter (· != k)))).set k (.cells (IH.splice cs (i*sz) xs) sz none) },?_,⟨⟨hz,hsl,.inr ⟨k,none,rfl,hn,h1,h2,hgk,trivial⟩⟩,nofam _ hgk⟩,⟨e0.n,e0.base,fun j hj=>?_,e0.fams⟩,rfl,rfl,fun j c e f2 he hg=>?_⟩
   ·simp only[IH.wr,k1,k2,h3,hle,cond_true,cond_false,a3]
   ·have hjk:j≠k:=by omega
    rw[Tr.get_set,if_neg hjk,get_killAll,if_neg]
    ·exact e0.get j hj
    ·intro hm
     simp only[List.mem_filter,List.mem_cons,bne_iff_ne,ne_eq] at hm
     rcases hm with⟨rfl|hm,hne⟩
     ·exact hne rfl
     ·have:=a4 j hm;omega
   ·have hjk:j≠k:=by rintro rfl;rw[h3] at hg;cases hg;exact he rfl
    rw[Tr.get_set,if_neg hjk,get_killAll,if_neg]
    ·exact hg
    ·intro hm
     simp only[List.mem_filter,List.mem_cons,bne_iff_ne,ne_eq] at hm
     rcases hm with⟨rfl|hm,hne⟩
     ·exact hne rfl
     ·obtain⟨c',f',h5⟩:=aZ k n _ rfl cs f rest h3 a3 j hm
      rw[h5] at hg;cases hg;exact he rfl
end Go.Id

namespace Go.Id
open Go
open Go.Proofs.Tryz (prog)
open Nat renaming reduceAdd→zA,reduceEqDiff→zE,reduceLeDiff→zL
set_option maxHeartbeats 16000000
theorem kept_r:Kept RRat:=fun _ _ _ _ r e=>r.keep e
theorem rcmpZ_ok {h:IH} (a b:Nat) (ha:a<W8) (hb:b<W8):WV prog (.func (.func 184) #[] #[]) [wdV a,wdV b] h fun r h'=>Ext h h'∧r=KI (if wdI a<wdI b then -1 else if wdI b<wdI a then 1 else 0):=by
 obtain⟨H0,hH0,n0,E0,k0,k1⟩:=boxes2 h (wdC a) (wdC b)
 refine enter (nt:=10) (rs:=[.tmp 4]) Proofs.Tryz.func184 rfl rfl rfl (by simp) ?_
 simp -dsimp (disch:=try exact dx) only[wpS,zE,zA,cells8]
 rw[←hH0]
 clear hH0
 have X0:=Ext.refl H0
 have L1:=ld_wd k0
 have L2:=ld_wd k1
 refine drawn [(2,[1])] (by kernel_rfl) (by kernel_rfl) rfl ?_
 simp -dsimp (disch:=try exact dx) only[wpS,zE,L1]
 refine call (in_ok a ha) ?_
 rintro r1 h1 ⟨X1,p1⟩
 have L2':=load_of L2 (by omega) X1
 simp -dsimp (disch:=try exact dx) only[wpS,zE,L2']
 refine call (in_ok b hb) ?_
 rintro r2 h2 ⟨X2,p2⟩
 simp -dsimp (disch:=try exact dx) only[wpS,zE]
 refine call (lorder_ok (p1.keep X2.keep) p2 (wdI_half ha).small (wdI_half hb).small) ?_
 rintro _ h3 ⟨X3,rfl⟩
 simp -dsimp (disch:=try exact dx) only[wpS,zE]
 refine⟨wpSteady_one rfl rfl rfl rfl (steady_load rfl L2' L2),?_⟩
 simp -dsimp (disch:=try exact dx) only[wpS,wpT,zE,zA]
 exact((E0.trans X1).trans X2).trans X3
open Classical in
theorem kunder_ok {h:IH} {v:Value} {l:List Nat} {least:Int} (hv:WiSl h v l) (hl:In64 least) :
  WV prog (.func (.func 164) #[] #[]) [v,KI least] h fun r h'=>Ext h h'∧r=.bool (decide (∃p∈l,wdI p<least)):=by
 have hlb:=hv.2.1
 have len:=hv.1.len (P:=prog) sl28
 refine enter (nt:=20) (rs:=[.tmp 4]) Proofs.Tryz.func164 rfl rfl rfl (by simp) ?_
 simp -dsimp (disch:=try exact dx) only[wpS,zA]
 refine loop (fun m fr h1 => ∃i:Nat,i+m=l.length∧Ext h h1∧(∀(j:Nat) p,j<i→l[j]?=some p → ¬wdI p<least)∧fget fr 0=some v∧fget fr 1=some (KI least)∧fget fr 5=some (KN i)) l.length
  ⟨0,by omega,Ext.refl _,fun j p hj=>by omega,by simp,by simp,by simp⟩ ?_
 rintro m fr h1 ⟨i,him,hE,hno,f0,f1,f5⟩
 simp -dsimp (disch:=try exact dx) only[wpS,zE,f0,f5,len]
 refine bq_intro ?_ ?_<;>intro hc<;>simp only[decide_eq_true_eq,decide_eq_false_iff_not] at hc
 ·have hi:i<l.length:=by omega
  obtain⟨p,hp⟩ : ∃p,l[i]?=some p:=⟨_,List.getElem?_eq_getElem hi⟩
  have hpm:=List.mem_of_getElem? hp
  have wp:=hv.2.2 p hpm
  have ld:=fun h' (K:Keep h h')=>hv.ld K hp
  simp -dsimp (disch:=try exact dx) only[wpS,wpT]
  refine drawn [(3,[6])] (by kernel_rfl) (by kernel_rfl) rfl ?_
  simp -dsimp (disch:=try exact dx) only[wpS,zE,f0,f1,f5,hv.1.idx es28 hi,ld h1 hE.keep]
  refine call (refOf_ok least hl) ?_
  rintro _ h2 ⟨X2,rfl⟩
  simp -dsimp (disch:=try exact dx) only[wpS,zE]
  refine call (rcmpZ_ok p (wideN least) wp (wideN_lt (inW64 hl))) ?_
  rintro _ h3 ⟨X3,rfl⟩
  rw[wdI_wideN (inW64 hl)]
  have E3:=hE.trans (X2.trans X3)
  by_cases c:wdI p<least
  ·rw[if_pos c,decide_eq_true (⟨p,hpm,c⟩ : ∃p∈l,wdI p<least)]
   simp -dsimp (disch:=try exact dx) only[wpS,wpT,zE]
   refine⟨wpSteady_one rfl rfl rfl rfl (steady_load rfl (ld h1 hE.keep) (ld _ (hE.trans X2).keep)),?_⟩
   simp -dsimp (disch:=try exact dx) only[wpS,wpT,zE,zA]
   exact E3
  ·obtain⟨z,hz,hz0⟩ : ∃z:Int,(if wdI p<least then (-1:Int) else if least<wdI p then 1 else 0)=z∧0≤z:=⟨_,rfl,by rw[if_neg c];split<;>omega⟩
   rw[hz]
   simp -dsimp (disch:=try exact dx) only[wpS,wpT,zE]
   refine⟨wpSteady_one rfl rfl rfl rfl (steady_load rfl (ld h1 hE.keep) (ld _ (hE.trans X2).keep)),?_⟩
   simp -dsimp (disch:=try exact dx) only[wpS,wpT,zE,zA,f5]
   refine⟨m - 1,by omega,i+1,by omega,E3,?_,by simp[f0],by simp[f1],by simp⟩
   intro j q hj hq
   by_cases hji:j=i
   ·subst hji;rw[hp] at hq;cases hq;exact c
   ·exact hno j q (by omega) hq
 ·have hneg : ¬∃p∈l,wdI p<least:=fun⟨p,hp,hb⟩=>by
   obtain⟨j,hj⟩:=List.getElem?_of_mem hp
   have:=(List.getElem?_eq_some_iff.1 hj).1
   exact hno j p (by omega) hj hb
  rw[decide_eq_false hneg]
  simp -dsimp (disch:=try exact dx) only[wpS,wpT]
  exact hE
theorem kvalues_ok {h:IH} {v:Value} {l:List Nat} (hv:WiSl h v l) (hl:l.length≤1000):WV prog (.func (.func 165) #[] #[]) [v] h fun r h'=>Ext h h'∧ElSl RRat h' r (l.map wrat):=by
 have len:=hv.1.len (P:=prog) sl28
 refine enter (nt:=22) (rs:=[.tmp 2]) Proofs.Tryz.func165 rfl rfl rfl (by simp) ?_
 simp -dsimp (disch:=try exact dx) only[wpS]
 refine loop (fun m fr h1 => ∃(i:Nat) (out:Value) (cs:List Value),i+m=l.length∧Ext h h1∧Acc h1 h.n 4 out ((l.take i).map wrat).length cs∧ElCs RRat h1 ((l.take i).map wrat) cs∧fget fr 0=some v∧fget fr 3=some out∧fget fr 4=some (KN i)) l.length
  ⟨0,.slice none 0 0,[],by omega,Ext.refl _,Acc.nil h _ (by omega),by simp[ElCs],by simp,by simp,by simp⟩ ?_
 rintro m fr h1 ⟨i,out,cs,him,hE,hA,hC,f0,f3,f4⟩
 simp -dsimp (disch:=try exact dx) only[wpS,zE,f0,f4,len]
 refine bq_intro ?_ ?_<;>intro hc<;>simp only[decide_eq_true_eq,decide_eq_false_iff_not] at hc
 ·have hi:i<l.length:=by omega
  obtain⟨p,hp⟩ : ∃p,l[i]?=some p:=⟨_,List.getElem?_eq_getElem hi⟩
  have wp:=hv.2.2 p (List.mem_of_getElem? hp)
  simp -dsimp (disch:=try exact dx) only[wpS,wpT,zE,f0,f3,f4,hv.1.idx es28 hi,hv.ld hE.keep hp]
  refine call (in_ok p wp) ?_
  rintro r1 h2 ⟨X2,p2⟩
  simp -dsimp (disch:=try exact dx) only[wpS]
  refine call (long1_ok 1 ⟨by omega,by omega⟩) ?_
  rintro r3 h3 ⟨X3,p3⟩
  have p2:=p2.keep X3.keep
  obtain⟨s1,rfl,c1,o1⟩:=p2.cells2
  obtain⟨s3,rfl,c3,o3⟩:=p3.cells2
  have pr:RRat h3 (.agg #[.bool (decide (wdI p<0)),s1,.bool false,s3]) (wrat p):=⟨_,_,_,_,rfl,p2,p3⟩
  have X13:=X2.trans X3
  have n1:=hE.n
  have n2:=X13.n
  obtain⟨out',h5,hap,hA5,hC5,hG5,hE5⟩:=read4 ap221 (by omega) kept_r (hA.ext X13) (hC.keep kept_r X13.keep) pr (by simp[o1,o3,cok_bool]) (by simp;omega) (by omega) (hE.trans X13) (Nat.le_refl _)
  have eT:(l.take i).map wrat ++ [wrat p]=(l.take (i+1)).map wrat:=by rw[take_snoc hp,List.map_append];rfl
  rw[eT] at hA5 hC5
  simp -dsimp (disch:=try exact dx) only[wpS,wpT,zE,zL,zA,bv186,pl186_0,pl186_1,bs221,ba221_221,f4,hap]
  exact⟨m - 1,by omega,i+1,out',_,by omega,hE5,hA5,hC5,by simp[f0],by simp,by simp⟩
 ·obtain rfl:i=l.length:=by omega
  rw[List.take_length] at hA hC
  simp -dsimp (disch:=try exact dx) only[wpS,wpT,zE,f3]
  exact⟨hE,cs,hA.sl,hC,by simp;omega⟩
open Classical in
theorem rktold_ok {h:IH} {v:Value} {l:List Rat} (hv:ElSl RRat h v l) (hl:l.length≤1000) :
  WV prog (.func (.func 170) #[] #[]) [v] h fun r h'=>Ext h h'∧((∀q∈l,QW q) → ∃w,r=.tuple #[w,KI 0]∧ShSl h' w (l.map shq))∧(¬(∀q∈l,QW q)→r=.tuple #[.slice none 0 0,KI 6]):=by
 obtain⟨cs0,hs0,_,_⟩:=id hv
 have len:=hs0.len (P:=prog) sl221
 refine enter (nt:=30) (rs:=[.tmp 2,.tmp 3]) Proofs.Tryz.func170 rfl rfl rfl (by simp) ?_
 simp -dsimp (disch:=try exact dx) only[wpS]
 refine loop (fun m fr h1 => ∃(i:Nat) (out:Value),i+m=l.length∧Ext h h1∧Acc h1 h.n 16 out i (shL ((l.take i).map shq))∧(∀(j:Nat) q,j<i→l[j]?=some q→QW q)∧fget fr 0=some v∧fget fr 4=some out∧fget fr 5=some (KN i)) l.length
  ⟨0,.slice none 0 0,by omega,Ext.refl _,Acc.nil h _ (by omega),fun j q hj=>by omega,by simp,by simp,by simp⟩ ?_
 rintro m fr h1 ⟨i,out,him,hE,hA,hW,f0,f4,f5⟩
 simp -dsimp (disch:=try exact dx) only[wpS,zE,f0,f5,len]
 refine bq_intro ?_ ?_<;>intro hc<;>simp only[decide_eq_true_eq,decide_eq_false_iff_not] at hc
 ·have hi:i<l.length:=by omega
  obtain⟨q,hq⟩ : ∃q,l[i]?=some q:=⟨_,List.getElem?_eq_getElem hi⟩
  obtain⟨a,s,b,u,ld,pq⟩:=hv.ld kept_r hE.keep hq ag186 sz186
  simp -dsimp (disch:=try exact dx) only[wpS,wpT,zE,f0,f5,hs0.idx es221 hi,ld]
  refine call (refout_ok pq) ?_
  rintro _ h2 ⟨X2,rfl⟩
  have n1:=hE.n
  have n2:=X2.n
  by_cases c:QW q
  ·rw[if_pos c,shareV_shq]
   simp -dsimp (disch:=try exact dx) only[wpS,wpT,zE,zL,zA,zc48,st48,shV_cells,shC_len,shC_all,sh_sp3]
   obtain⟨H3,hH3⟩ : ∃H,H=(h2.new (.cells Z16 0 none)).put h2.n (.cells (shC (shq q).1 (shq q).2) 0 none):=⟨_,rfl⟩
   have E3:Ext h2 H3:=by rw[hH3];exact((Ext.refl h2).new _).put (Nat.le_refl _) _
   have n3:=E3.n
   have g3:H3.ext.get h2.n=some (.cells (shC (shq q).1 (shq q).2) 0 none):=by rw[hH3];simp (disch:=try exact dx) only[get_put_same]
   rw[←hH3]
   clear hH3
   have E23:=X2.trans E3
   obtain⟨out',h5,hap,hA5,hG5,hE5⟩:=(hA.ext E23).appN (P:=prog) (t:=82) ap82 (m:=1) (new:=shC (shq q).1 (shq q).2) (by omega) (by rw[shC_len]) (shC_all _ _) (by omega) (by omega) (hE.trans E23) (Nat.le_refl _)
   have eT:shL ((l.take i).map shq) ++ shC (shq q).1 (shq q).2=shL ((l.take (i+1)).map shq):=by
    rw[take_snoc hq,List.map_append,List.map_cons,List.map_nil,shL,shL,List.flatMap_append];simp
   rw[eT] at hA5
   simp -dsimp (disch:=try exact dx) only[wpS,wpT,zE,zL,zA,ld48,bs82,ba82_82,f4,f5,row_of g3,shC_len,sh_sp3,sh_take,hap]
   refine⟨m - 1,by omega,i+1,out',by omega,hE5,hA5,fun j p hj hp=>?_,by simp[f0],by simp,by simp⟩
   by_cases hji:j=i
   ·subst hji;rw[hq] at hp;cases hp;exact c
   ·exact hW j p (by omega) hp
  ·rw[if_neg c]
   simp -dsimp (disch:=try exact dx) only[wpS,wpT,zE,zL,zA,zc48,st48,shV_cells,shC_len,shC_all,sh_sp3]
   exact⟨(hE.trans X2).trans (((Ext.refl h2).new _).put (Nat.le_refl _) _),fun hall=>absurd (hall q (List.mem_of_getElem? hq)) c,fun _=>trivial⟩
 ·obtain rfl:i=l.length:=by omega
  rw[List.take_length] at hA
  have hall : ∀q∈l,QW q:=fun q hq=>by
   obtain⟨j,hj⟩:=List.getElem?_of_mem hq
   exact hW j q (List.getElem?_eq_some_iff.1 hj).1 hj
  simp -dsimp (disch:=try exact dx) only[wpS,wpT,zE,f4]
  refine⟨hE,fun _=>⟨out,rfl,?_⟩,fun hn=>absurd hall hn⟩
  refine⟨by rw[List.length_map];exact hA.sl,by rw[List.length_map];omega,fun p hp=>?_⟩
  obtain⟨q,hq,rfl⟩:=List.mem_map.1 hp
  exact shq_lt (hall q hq)
end Go.Id
