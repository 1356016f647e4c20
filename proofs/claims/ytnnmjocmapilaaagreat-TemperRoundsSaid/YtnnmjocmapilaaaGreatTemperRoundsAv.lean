/-
  Contracts: package temper and reference 34: Level
-/
import Derived.Test.YtnnmjocmapilaaaGreatTemperRoundsAu
set_option linter.unusedVariables false
set_option linter.unusedSimpArgs false
set_option linter.defProp false
set_option linter.deprecated false
namespace Go.Id
open Go
open Go.Proofs.Tryz (prog)
open Nat renaming reduceAdd→zA,reduceEqDiff→zE
set_option maxHeartbeats 16000000
open Classical in
section
noncomputable def ig (ll:List (List (Nat×Nat))) (ws:List Nat) (s:List Int) (level:Int):Int:=if ¬jH ll then 330 else if mT ws s level≠0 then mT ws s level else if s.length≠ll.length then 2 else jo ll (mK (mJ s level) ws ws.length)
variable {ws:List Nat}{level:Int}{h:IH}{x:Value}{s:List Int}{w v:Value}{ll:List (List (Nat×Nat))}
def xr (hv:iN h v ll) (hw:iQ h w ws) (hs:fF h x s) (hl:fS level) :WV prog (.func (.func 36) #[] #[]) [v,w,x,KI level] h fun r h'=>Ext h h' ∧ ∃out,r=.tuple #[out,KI (ig ll ws s level)]∧(ig ll ws s level=0→iN h' out (oY ll (mK (mJ s level) ws ws.length)))∧(ig ll ws s level≠0→out=.slice none 0 0):=by
 obtain⟨_,_,hlen⟩:=hv.co;have hls:=hs.1.len (P:=prog) dY;refine enter (nt:=38) (rs:=[.tmp 8,.tmp 9]) Proofs.Tryz.func36 rfl rfl rfl ab ?_;simp -dsimp (disch:=try exact dx) only[wpS,zE,zA];refine call (Ad hv) ?_;rintro _ h1 ⟨X1,rfl⟩;by_cases hk:jH ll
 case neg =>
  have e:ig ll ws s level=330:=by rw[ig,aq hk]
  rw[e,LH,ah hk];simp -dsimp (disch:=try exact dx) only[wpS,wpT,zE];exact⟨X1,_,rfl,fun h=>absurd h aC,fun _=>rfl⟩
 rw[LH,aq hk];simp -dsimp (disch:=try exact dx) only[wpS,wpT,zE];refine call (tc (hw.ai X1.ai) (hs.ai X1.ai) hl) ?_;rintro _ h2 ⟨X2,t,rfl,q1,q2⟩;have X12:=X1.trans X2;by_cases ht:mT ws s level=0
 case neg =>
  have e:ig ll ws s level=mT ws s level:=by rw[ig,ah (fun h=>h hk),aq ht]
  have d:(mT ws s level != 0)=true:=by simpa using ht
  rw[e];simp -dsimp (disch:=try exact dx) only[wpS,zE,d];exact⟨X12,_,rfl,fun h=>absurd h ht,fun _=>rfl⟩
 rw[ht];by_cases hn:s.length=ll.length
 case neg =>
  have e:ig ll ws s level=2:=by rw[ig,ah (fun h=>h hk),ah (fun h=>h ht),aq hn]
  have d:(((s.length:Nat):Int) != ((ll.length:Nat):Int))=true:=by simpa using fun h=>hn aa
  rw[e];simp -dsimp (disch:=try exact dx) only[wpS,wpT,zE,hlen,hls,d];exact⟨X12,_,rfl,fun h=>absurd h aC,fun _=>rfl⟩
 have e:ig ll ws s level=jo ll (mK (mJ s level) ws ws.length):=by rw[ig,ah (fun h=>h hk),ah (fun h=>h ht),ah (fun h=>h hn)]
 have d:(((s.length:Nat):Int) != ((ll.length:Nat):Int))=false:=by simp[hn]
 simp -dsimp (disch:=try exact dx) only[wpS,wpT,zE,hlen,hls,d];refine call (LG (hv.ai X12.ai) (q1 ht)) ?_;rintro _ h3 ⟨X3,out,rfl,q3,q4⟩;rw[e];simp -dsimp (disch:=try exact dx) only[wpS,zE];exact⟨X12.trans X3,out,rfl,q3,q4⟩
open Classical in
def K3 (hv:iN h v ll) (hw:iQ h w ws) (hs:fF h x s) (hl:fS level) :WV prog (.func (.func 54) #[] #[]) [v,w,x,KI level] h fun r h'=>Ext h h' ∧ ∃out,r=.tuple #[out,KI (ig ll ws s level)]∧(ig ll ws s level=0→iN h' out (oY ll (mK (mJ s level) ws ws.length)))∧(ig ll ws s level≠0→out=.slice none 0 0):=by
 obtain⟨_,_,hlen⟩:=hv.co;have hls:=hs.1.len (P:=prog) dY;refine enter (nt:=35) (rs:=[.tmp 8,.tmp 9]) Proofs.Tryz.func54 rfl rfl rfl ab ?_;simp -dsimp (disch:=try exact dx) only[wpS,zE,zA];refine call (Aa hv) ?_;rintro _ h1 ⟨X1,rfl⟩;by_cases hk:jH ll
 case neg =>
  have e:ig ll ws s level=330:=by rw[ig,aq hk]
  rw[e,bF hk];simp -dsimp (disch:=try exact dx) only[wpS,wpT,zE];exact⟨X1,_,rfl,fun h=>absurd h aC,fun _=>rfl⟩
 rw[ct hk];simp -dsimp (disch:=try exact dx) only[wpS,wpT,zE];refine call (GX (hw.ai X1.ai) (hs.ai X1.ai) hl) ?_;rintro _ h2 ⟨X2,t,rfl,q1,q2⟩;have X12:=X1.trans X2;by_cases ht:mT ws s level=0
 case neg =>
  have e:ig ll ws s level=mT ws s level:=by rw[ig,ah (fun h=>h hk),aq ht]
  have d:(mT ws s level != 0)=true:=by simpa using ht
  rw[e];simp -dsimp (disch:=try exact dx) only[wpS,zE,d];exact⟨X12,_,rfl,fun h=>absurd h ht,fun _=>rfl⟩
 rw[ht];by_cases hn:s.length=ll.length
 case neg =>
  have e:ig ll ws s level=2:=by rw[ig,ah (fun h=>h hk),ah (fun h=>h ht),aq hn]
  have d:(((s.length:Nat):Int) != ((ll.length:Nat):Int))=true:=by simpa using fun h=>hn aa
  rw[e];simp -dsimp (disch:=try exact dx) only[wpS,wpT,zE,hlen,hls,d];exact⟨X12,_,rfl,fun h=>absurd h aC,fun _=>rfl⟩
 have e:ig ll ws s level=jo ll (mK (mJ s level) ws ws.length):=by rw[ig,ah (fun h=>h hk),ah (fun h=>h ht),ah (fun h=>h hn)]
 have d:(((s.length:Nat):Int) != ((ll.length:Nat):Int))=false:=by simp[hn]
 simp -dsimp (disch:=try exact dx) only[wpS,wpT,zE,hlen,hls,d];refine call (IL (hv.ai X12.ai) (q1 ht)) ?_;rintro _ h3 ⟨X3,out,rfl,q3,q4⟩;rw[e];simp -dsimp (disch:=try exact dx) only[wpS,zE];exact⟨X12.trans X3,out,rfl,q3,q4⟩
def VA {l:List (Nat×Nat)} (s:kU h v l) {i:Nat} {p:Nat×Nat} (hi:l[i]?=some p):p.1<W8∧p.2<W8:=s.2.2 p (bh hi)
def RD {mm:List (List (Nat×Nat))} (hv:iN h v ll) (hw:iN h w mm) :WV prog (.func (.func 108) #[] #[]) [v,w] h fun r h'=>h'=h∧r=.bool (decide (ll=mm)):=by
 obtain⟨_,_,lv⟩:=hv.co;obtain⟨_,_,lw⟩:=hw.co;have b1:=hv.choose_spec.2.1;have b2:=hw.choose_spec.2.1;refine enter (nt:=53) (rs:=[.tmp 4]) Proofs.Tryz.func108 rfl rfl rfl ab ?_;by_cases hl:ll.length=mm.length
 case neg =>
  have d:(((ll.length:Nat):Int) != ((mm.length:Nat):Int))=true:=by simpa using fun h=>hl aa
  rw[bF (fun h=>hl (by rw[h]))];simp -dsimp (disch:=try exact dx) only[wpS,wpT,zE,zA,lv,lw,d]
 have d:(((ll.length:Nat):Int) != ((mm.length:Nat):Int))=false:=by simp[hl]
 simp -dsimp (disch:=try exact dx) only[wpS,zE,zA,lv,lw,d];refine loop (fun m fr hh=>hh=h ∧ ∃i:Nat,i+m=ll.length∧(∀j,j<i→ll[j]?=mm[j]?)∧ax fr 0=some v∧ax fr 1=some w∧ax fr 5=some (KN i)) ll.length
  ⟨rfl,0,aa,fun j hj=>aa,ab,ab,ab⟩ ?_
 rintro m fr hh ⟨rfl,i,him,hz,f0,f1,f5⟩;simp -dsimp (disch:=try exact dx) only[wpS,zE,f0,f5,lv];refine aG ?_ ?_<;>intro hc<;>simp only[aS,aV] at hc
 ·have hi:i<ll.length:=aa;obtain⟨x,hx⟩ : ∃x,ll[i]?=some x:=⟨_,aK hi⟩;obtain⟨y,hy⟩ : ∃y,mm[i]?=some y:=⟨mm[i]' aa,aK aa⟩;obtain⟨wx,A1,A2,A3⟩:=hv.mG hx;obtain⟨wy,B1,B2,B3⟩:=hw.mG hy;have K:=bj.refl hh;have lx:=A2.1.len (P:=prog) xz;have ly:=B2.1.len (P:=prog) xz;have bx:=A2.2.1;have by':=B2.2.1;by_cases hxy:x.length=y.length
  case neg =>
   have d:(((x.length:Nat):Int) != ((y.length:Nat):Int))=true:=by simpa using fun h=>hxy aa
   have hne : ¬ll=mm:=fun h'=>hxy (by rw[h'] at hx;rw[hx] at hy;cases hy;rfl);simp -dsimp (disch:=try exact dx) only[wpS,wpT,zE,f0,f1,f5,A3,B3,A1 hh K,B1 hh K,lx,ly,d];rw[bF hne]
  have d:(((x.length:Nat):Int) != ((y.length:Nat):Int))=false:=by simp[hxy]
  simp -dsimp (disch:=try exact dx) only[wpS,wpT,zE,f0,f1,f5,A3,B3,A1 hh K,B1 hh K,lx,ly,d];refine loop (fun m2 fr h2=>h2=hh ∧ ∃j:Nat,j+m2=x.length∧(∀k,k<j→x[k]?=y[k]?)∧ax fr 0=some v∧ax fr 1=some w∧ax fr 5=some (KN i)∧ax fr 6=some (KN j)) x.length
   ⟨rfl,0,aa,fun j hj=>aa,by simp[f0],by simp[f1],by simp[f5],ab⟩ ?_
  clear f0 f1 f5;rintro m2 fr h2 ⟨rfl,j,hjm,hq,f0,f1,f5,f6⟩;simp -dsimp (disch:=try exact dx) only[wpS,zE,f0,f5,f6,A3,A1 h2 K,lx];refine aG ?_ ?_<;>intro hc2<;>simp only[aS,aV] at hc2
  ·have hj:j<x.length:=aa;obtain⟨p,hp⟩ : ∃p,x[j]?=some p:=⟨_,aK hj⟩;obtain⟨q,hq'⟩ : ∃q,y[j]?=some q:=⟨y[j]' aa,aK aa⟩;have wp:=VA A2 hp;have wq:=VA B2 hq';have Lp:load prog h2 32 (bq wx (j*16))=some (.agg (shC p.1 p.2).toArray):=A2.ld K hp;have Lq:load prog h2 32 (bq wy (j*16))=some (.agg (shC q.1 q.2).toArray):=B2.ld K hq';by_cases hpq:p.1=q.1∧p.2=q.2
   ·have zc : ∀ox oy,binop prog .neq 32 ox oy (.agg (shC p.1 p.2).toArray) (.agg (shC q.1 q.2).toArray)=some (.bool false):=fun ox oy=>by
     rw[QA wp.1 wp.2 wq.1 wq.2,ct hpq];rfl
    simp -dsimp (disch:=try exact dx) only[wpS,wpT,zE,f0,f1,f5,f6,A3,B3,A1 h2 K,B1 h2 K,A2.1.idx tH (P:=prog) (k:=.i64) hj,B2.1.idx tH (P:=prog) (k:=.i64) (show j<y.length by omega),Lp,Lq,zc];refine⟨m2 - 1,aa,rfl,j+1,aa,fun k hk=>?_,by simp[f0],by simp[f1],by simp[f5],ab⟩;by_cases hkj:k=j;·subst hkj;rw[hp,hq'];exact kC some (Prod.ext hpq.1 hpq.2)
    ·exact hq k aa
   ·have zc : ∀ox oy,binop prog .neq 32 ox oy (.agg (shC p.1 p.2).toArray) (.agg (shC q.1 q.2).toArray)=some (.bool true):=fun ox oy=>by rw[QA wp.1 wp.2 wq.1 wq.2,bF hpq];rfl
    have hne : ¬ll=mm:=fun h'=>hpq (by
     rw[h'] at hx;rw[hx] at hy;cases hy;rw[hp] at hq';cases hq';exact⟨rfl,rfl⟩)
    simp -dsimp (disch:=try exact dx) only[wpS,wpT,zE,f0,f1,f5,f6,A3,B3,A1 h2 K,B1 h2 K,A2.1.idx tH (P:=prog) (k:=.i64) hj,B2.1.idx tH (P:=prog) (k:=.i64) (show j<y.length by omega),Lp,Lq,zc];rw[bF hne]
  ·have exy:x=y:=by
    apply iO;intro k;by_cases hk:k<j;·exact hq k hk
    ·rw[cy aa,cy aa]
   simp -dsimp (disch:=try exact dx) only[wpS,wpT,zE,f5];refine⟨m - 1,aa,rfl,i+1,aa,fun k hk=>?_,by simp[f0],by simp[f1],ab⟩;by_cases hki:k=i;·subst hki;rw[hx,hy,exy]
   ·exact hz k aa
 ·have e:ll=mm:=by
   apply iO;intro k;by_cases hk:k<i;·exact hz k hk
   ·rw[cy aa,cy aa]
  rw[ct e];simp -dsimp (disch:=try exact dx) only[wpS,wpT]
end
end Go.Id
namespace Go.Id
open Go
open Go renaming Operand→QY,Program→QX,TypeId→QZ,Value→QQ
open Nat renaming reduceAdd→zA,reduceEqDiff→zE,reduceLeDiff→zL
open Nat (reduceMul)
set_option maxHeartbeats 16000000
open Go.Proofs.Tryz (prog)
section
variable {k n:Nat}{P:Program}{h:IH}{cs:List QQ}{x:QQ}{sz i:Nat}{t:TypeId}
def HJ {c:Nat} (hg:h.ext.get k=some (.cells cs sz none)) (hT:bK P t=some sz) (hle:i*sz+sz≤cs.length) {xs:List QQ} (hx:x.cells.toList=xs) (hxl:xs.length=sz) (hc:xs.all bB=true) :store P h t (bq (.slice (some ⟨2*k,0,none⟩) n c) (i*sz)) x=some (h.put k (.cells (IH.bf cs (i*sz) xs) sz none)):=by
 have k2:2*k / 2=k:=aa;have k1:(2*k % 2 == 1)=false:=ab;have hsx:x.cells.size=sz:=by rw[←mc,hx,hxl]
 have hst:store P h t (bq (.slice (some ⟨2*k,0,none⟩) n c) (i*sz)) x=h.wr (2*k) (i*sz) xs:=by simp only[bq,fy,store,asAddr,ptr,hT,hx,hsx,hc,pW,sV,cg]
 have Xi:Nat.ble (i*sz+xs.length) cs.length=true:=by rw[ch,hxl];exact hle
 rw[hst];simp only[IH.wr,k1,k2,hg,Xi,cg,fU];rfl
def Mr {bytes:Nat} (hT:oR P t=some (sz,bytes)) (hg:h.ext.get k=some (.cells cs sz none)) (hl:cs.length=n*sz) (hn:0<n) {m:Nat} {new:List QQ} (sx:mH h sz x m new) (hm:0<m) (hc:new.all bB=true) (hsz:(n+m)*(bytes+1)≤1099511627776) :append P h t (.slice (some ⟨2*k,0,none⟩) n (2*n)) x=some (.slice (some ⟨2*h.n,0,none⟩) (n+m) (2*(n+m)),grown h k h.n cs sz [] [] (cs ++ new) sz):=by
 unfold oR at hT;split at hT
 case h_2=>cases hT
 rename_i e hu;split at hT
 case h_2=>cases hT
 rename_i zs h1 h2 h3;simp only[aX] at hT;split at hT
 case isTrue=>cases hT
 rename_i LU;cases hT;have rW:(sz == 0 || (!(Nat.ble bytes 65536) || !(zs.length == sz)))=false:=by simpa using LU
 obtain⟨RF,hln,hx⟩:=sx;have Dv:(m == 0)=false:=aT;have hms : ¬m*sz=0:=by have:0<m*sz:=nF hm RF;omega
 have hx' : ∃b o kk row,x=.slice (some ⟨b,o,none⟩) m kk∧h.row b=some row∧(row.drop o).take (m*sz)=new∧o+m*sz≤row.length:=by
  rcases hx with⟨rfl,rfl⟩|⟨b,o,kk,rfl,hx⟩;·omega
  ·rcases hx with⟨rfl,_⟩|⟨row,a1,a2,a3⟩
   ·omega
   ·exact⟨b,o,kk,row,rfl,a1,a2,a3⟩
 obtain⟨b,o,kk,row,rfl,a1,a2,a3⟩:=hx';have oc:fe h sz m (.slice (some ⟨b,o,none⟩) m kk)=some new:=by simp only[fe,aX,ch,aA,cq,bT,ah hms];rw[AP a1,aq a3,a2]
 have Ag:Nat.ble ((n+m)*(bytes+1)) bZ=true:=by rw[ch];exact hsz
 have tG:Nat.ble (n+m) (2*n / 2)=false:=by rw[sU];intro hh;rw[ch] at hh;omega
 have uc:(2*n % 2 == 1)=false:=ab;have hlen:(n == 2*n / 2 && Nat.blt 0 n && (2*k) % 2 == 0)=true:=by have:2*n / 2=n:=aa;simp[this,Nat.blt,ch];omega
 have ud:(0+n*sz == cs.length && sz == sz)=true:=by simp[hl]
 have hk2:2*k / 2=k:=aa;simp only[Id.append,hu,h1,h2,h3,lenOf,Dv,rW,oc,hc,Ag,tG,uc,hlen,hk2,hg,ud,cg,fU,oW,cC]
abbrev oI (n b:Nat):QQ:=.slice (some ⟨2*b,0,none⟩) n (2*n)
variable {l:List (Nat×Nat)}
def IB {v:QQ} (hs:kU h v l) (hp:0<l.length) (hn:l.length≤1000000) :WV prog (.func (.func 118) #[] #[]) [v] h fun r h'=>Ext h h' ∧ ∃b,r=oI l.length b∧h.n≤b∧b<h'.n∧h'.ext.get b=some (.cells (shL l) 16 none):=by
 have hc:=TY l;obtain⟨⟨hz,hl,⟨rfl,hl0⟩|⟨b,o,k,rfl,hh⟩⟩,_⟩:=hs;·omega
 ·have hk:Ext h (h.new (.cells [] 16 none)):=(Ext.refl h).new _;have Zq:mH (h.new (.cells [] 16 none)) 16 (.slice (some ⟨b,o,none⟩) l.length k) l.length (shL l):=(df.ai ⟨hz,hl,.inr ⟨b,o,k,rfl,hh⟩⟩ hk.ai).now;refine enter (nt:=8) (rs:=[.tmp 2]) Proofs.Tryz.func118 rfl rfl rfl ab ?_;simp -dsimp (disch:=try exact dx) only[wpS,wpT,Nat.reduceEqDiff,Nat.reduceMul,Mm,tN,I4 u61,vf Ms _ Zq hp hc aa];exact⟨hk.new _,h.n+1,rfl,aa,ab,ar _ _ rfl⟩
def tQ (h:IH) (n0 n:Nat) (bs:List Nat) (ll:List (List (Nat×Nat))):Prop:=bs.length=ll.length∧bs.Nodup ∧ ∀(k:Nat) b x,bs[k]?=some b→ll[k]?=some x→n0≤b∧b<h.n∧h.ext.get b=some (.cells (shL x) 16 none)∧x.length=n
variable {b:Nat}
def xD {x:List (Nat×Nat)} (hg:h.ext.get b=some (.cells (shL x) 16 none)) (hb:b<h.n) (hn:0<n) (hx:x.length=n) (hm:n≤1000000) (hw : ∀p∈x,p.1<W8∧p.2<W8):kU h (oI n b) x:=by subst hx;exact⟨fX hg hb aa (tj x) aa aa,aa,hw⟩
def Tj (ll:List (List (Nat×Nat))):Prop:=∀x∈ll,∀p∈x,p.1<W8∧p.2<W8
variable {n0:Nat}{ll:List (List (Nat×Nat))}{bs:List Nat}
def Fc {out:QQ} (so:df h 1 out ll.length (bs.map (oI n))) (R:tQ h n0 n bs ll) (hn:0<n) (hm:n≤1000000) (hl:ll.length≤1000000) (hw:Tj ll):iN h out ll:=by refine⟨_,so,aa,fun i x hx=>?_⟩;have hi:=(bU.1 hx).1;obtain⟨b,hb⟩ : ∃b,bs[i]?=some b:=⟨bs[i]'(by rw[R.1];exact hi),aK (by rw[R.1];exact hi)⟩;obtain⟨r1,r2,r3,r4⟩:=R.2.2 i b x hb hx;exact⟨oI n b,by rw[dM,hb];rfl,xD r3 r2 hn r4 hm (hw x (bh hx))⟩
variable {h':IH}
def tQ.mono (R:tQ h n0 n bs ll) (hn:h.n≤h'.n) (ho : ∀j c,j<h.n→h.ext.get j=some (.cells c 16 none)→h'.ext.get j=some (.cells c 16 none)):tQ h' n0 n bs ll:=by refine⟨R.1,R.2.1,fun k b x hb hx=>?_⟩;obtain⟨r1,r2,r3,r4⟩:=R.2.2 k b x hb hx;exact⟨r1,aa,ho b _ r2 r3,r4⟩
def tQ.turn (R:tQ h n0 n bs ll) {y:List (Nat×Nat)} (hi:bs[i]?=some b) (hn:h'.n=h.n) (ho : ∀j,j≠b→h'.ext.get j=h.ext.get j) (hb:h'.ext.get b=some (.cells (shL y) 16 none)) (hy:y.length=n):tQ h' n0 n bs (ll.set i y):=by
 have hil:=(bU.1 hi).1;refine⟨by rw[dB];exact R.1,R.2.1,fun k c x hk hx=>?_⟩;have hkl:=(bU.1 hk).1;rw[re] at hx;by_cases hki:i=k
 ·subst hki;rw[aq rfl] at hx;rw[hi] at hk;cases hk;split at hx
  ·cases hx;obtain⟨z,hz⟩ : ∃z,ll[i]?=some z:=⟨ll[i]'(by have:=R.1;omega),aK (by have:=R.1;omega)⟩;obtain⟨r1,r2,r3,r4⟩:=R.2.2 i b z hi hz;exact⟨r1,aa,hb,hy⟩
  ·cases hx
 ·rw[ah hki] at hx;obtain⟨r1,r2,r3,r4⟩:=R.2.2 k c x hk hx;have hcb:c≠b:=by rintro rfl;have e1:=(bU.1 hi).2;have e2:=(bU.1 hk).2;exact hki ((List.getElem_inj R.2.1).1 (e1.trans e2.symm))
  exact⟨r1,aa,(ho c hcb).trans r3,r4⟩
def J7 {α:Type} (l m:List α) (i:Nat):Prop:=m.length=l.length ∧ ∀k,k<l.length→m[k]?=if k<i∨l.length≤k+i then l[l.length - 1 - k]? else l[k]?
variable {α:Type}
theorem J7.start (l:List α):J7 l l 0:=⟨rfl,fun k hk=>by rw[ah aa]⟩
variable {m:List α}
def J7.done {l:List α} (r:J7 l m i) (hi:l.length≤i+i+1):m=l.reverse:=by
 apply iO;intro k;by_cases hk:k<l.length
 ·rw[List.getElem?_reverse hk,r.2 k hk];by_cases c:k<i∨l.length≤k+i
  ·rw[aq c]
  ·rw[ah c,show l.length - 1 - k=k by omega]
 ·rw[cy (by rw[r.1];omega),cy (by rw[List.length_reverse];omega)]
def J7.step {l:List α} (r:J7 l m i) (hi:i+i+1<l.length) {x y:α} (hx:m[i]?=some x) (hy:m[l.length - 1 - i]?=some y):J7 l ((m.set i y).set (l.length - 1 - i) x) (i+1):=by
 have ex:=r.2 i aa
 have ey:=r.2 (l.length - 1 - i) aa
 rw[ah aa,hx] at ex
 rw[ah aa,hy] at ey
 refine⟨by simp[r.1],fun k hk=>?_⟩
 rw[re,re,dB,r.1]
 by_cases c1:l.length - 1 - i=k
 ·subst c1
  rw[aq rfl,aq hk,aq aa,show l.length - 1 - (l.length - 1 - i)=i by omega,←ex]
 rw[ah c1]
 by_cases c2:i=k
 ·subst c2
  rw[aq rfl,aq hk,aq aa,←ey]
 rw[ah c2,r.2 k hk]
 by_cases c:k<i∨l.length≤k+i
 ·rw[aq c,aq aa]
 ·rw[ah c,ah aa]
def qD (b:Nat) (h h':IH):Prop:=h'.n=h.n∧h'.base=h.base∧(∀j,j≠b→h'.ext.get j=h.ext.get j)∧h'.eP=h.eP
def qD.refl (b:Nat) (h:IH):qD b h h:=⟨rfl,rfl,fun _ _=>rfl,rfl⟩
def qD.put (s:qD b h h') (o:cX):qD b h (h'.put b o):=⟨s.1,s.2.1,fun j hj=>(au _ _ hj).trans (s.2.2.1 j hj),s.2.2.2⟩
def qD.ext {g:IH} (s:qD b h h') (e:Ext g h) (hg:g.n≤b):Ext g h' :=
 ⟨by rw[s.1];exact e.n,by rw[s.2.1];exact e.base,fun j hj=>(s.2.2.1 j aa).trans (e.get j hj),fun f hf=>by rw[s.2.2.2];exact e.eP f hf⟩
def qD.mC {z:Nat} (s:qD b h h') {c:List QQ} {e:Nat} {f:Option Nat} (hb:h.ext.get b=some (.cells c e f)) (he:e≠z):pg z h h' :=
 ⟨by rw[s.1];exact aA _,s.2.1,fun k c' f' hk hg=>⟨f',by rw[s.2.2.1 k (by rintro rfl;rw[hb] at hg;cases hg;exact he rfl)];exact hg⟩⟩
def IM (hg:h.ext.get b=some (.cells (shL l) 16 none)) (hb:b<h.n) (hl:l.length=n) (h0:0<n) (hm:n≤1000000) (hw : ∀p∈l,p.1<W8∧p.2<W8) :WV prog (.func (.func 119) #[] #[]) [oI n b] h fun r h'=>qD b h h'∧h'.ext.get b=some (.cells (shL l.reverse) 16 none):=by
 obtain⟨w,hwv⟩ : ∃w,w=oI n b:=⟨_,rfl⟩;have len:=(xD hg hb h0 hl hm hw).1.len (P:=prog) xz;rw[←hwv] at len ⊢;refine enter (nt:=28) (rs:=[]) Proofs.Tryz.func119 rfl rfl rfl ab ?_;simp -dsimp (disch:=try exact dx) only[wpS,Nat.reduceEqDiff,len];refine loop (fun m fr hh => ∃(i:Nat) (a:List (Nat×Nat)),i+m=n∧J7 l a i∧qD b h hh∧hh.ext.get b=some (.cells (shL a) 16 none)∧(∀p∈a,p.1<W8∧p.2<W8)∧ax fr 0=some w∧ax fr 2=some (KN i)∧ax fr 3=some (KI ((n:Int) - 1 - (i:Int)))) n ⟨0,l,aa,.start l,qD.refl _ _,hg,hw,ab,ab,by simp[hl]⟩ ?_;rintro m fr hh ⟨i,a,him,hr,hE,hA,hwa,f0,f2,f3⟩;simp -dsimp (disch:=try exact dx) only[wpS,Nat.reduceEqDiff,f2,f3];refine aG ?_ ?_<;>intro hc<;>simp only[aS,aV] at hc
 ·have al:=hr.1;obtain⟨j,hj⟩ : ∃j,j=n - 1 - i:=⟨_,rfl⟩;have ej:(n:Int) - 1 - (i:Int)=(j:Int):=aa;obtain⟨x,hx⟩ : ∃x,a[i]?=some x:=⟨_,aK aa⟩;obtain⟨y,hy⟩ : ∃y,a[j]?=some y:=⟨_,aK aa⟩;have sl:=xD hA (by rw[hE.1];exact hb) h0 aa hm hwa;have sl':=sl;rw[←hwv] at sl;have ix1:=sl.1.idx tH (P:=prog) (k:=.i64) (j:=i) aa;have ix2:=sl.1.idx tH (P:=prog) (k:=.i64) (j:=j) aa;have ld1:=sl.ld (bj.refl hh) hx;have ld2:=sl.ld (bj.refl hh) hy;have cl:=tj a;have s1:=HJ (n:=n) (c:=2*n) hA (P:=prog) (t:=32) Ow (i:=i) aa (x:=shV y.1 y.2) (xs:=shC y.1 y.2) rfl (ba _ _) (cT _ _);rw[BD _ _ _ aa,show(QQ.slice (some ⟨2*b,0,none⟩) n (2*n))=w from hwv.symm] at s1;obtain⟨h1,hh1⟩ : ∃H,H=hh.put b (.cells (shL (a.set i y)) 16 none):=⟨_,rfl⟩;rw[←hh1] at s1;have g1:h1.ext.get b=some (.cells (shL (a.set i y)) 16 none):=by rw[hh1];exact aj _ _ rfl
  have cl2:=tj (a.set i y);rw[dB] at cl2;have s2:=HJ (n:=n) (c:=2*n) g1 (P:=prog) (t:=32) Ow (i:=j) aa (x:=shV x.1 x.2) (xs:=shC x.1 x.2) rfl (ba _ _) (cT _ _);rw[BD _ _ _ (by rw[dB];omega),show(QQ.slice (some ⟨2*b,0,none⟩) n (2*n))=w from hwv.symm] at s2;have st:=hr.step aa hx (by rw[hl,←hj];exact hy);rw[hl,←hj] at st;simp -dsimp (disch:=try exact dx) only[wpS,wpT,Nat.reduceEqDiff,f0,f2,f3,ej,ix1,ix2,ld1,ld2,s1,s2];refine⟨m - 1,aa,i+1,_,aa,st,?_,aj _ _ rfl,fun p hp=>?_,by simp[f0],ab,?_⟩;·rw[hh1];exact(hE.put _).put _
  ·rcases xg hp with hp|rfl
   ·rcases xg hp with hp|rfl
    ·exact hwa p hp
    ·exact hwa _ (bh hy)
   ·exact hwa _ (bh hx)
  ·simp;omega
 ·simp -dsimp (disch:=try exact dx) only[wpS,wpT];have e:=hr.done aa;rw[e] at hA;exact⟨hE,hA⟩
end
section
abbrev bdC (w a:Nat) (p:Nat×Nat):List QQ:=B8 w :: B8 a :: shC p.1 p.2
def bdV (w a:Nat) (p:Nat×Nat):QQ:=.agg (bdC w a p).toArray
def Az (w a:Nat) (p:Nat×Nat):(bdV w a p).cells.toList=bdC w a p:=rfl
def Ta (p:Nat×Nat) (ll mm:List (List (Nat×Nat))):Prop:=mm=ll∨(∃x∈ll,mm=ll ++ [x]) ∨ ∃i x,ll[i]?=some x∧(mm=ll.set i x.reverse∨mm=ll.set i (x ++ [p]) ∨ ∃j,j<x.length∧mm=ll.set i (x.set j p))
variable {a:Nat}{p:Nat×Nat}{w k:Nat}
def Zad {H:IH} (g:H.ext.get k=some (.cells (bdC w a p) 0 none)):load prog H 5 (ptr (2*k) 0)=some (B8 w)∧load prog H 5 (ptr (2*k) 1)=some (B8 a)∧load prog H 32 (ptr (2*k) 2)=some (shV p.1 p.2):=by
 have r:=ay g;have t:List.take 16 (List.drop 2 (bdC w a p))=shC p.1 p.2:=by show List.take 16 (shC p.1 p.2)=_;rw[fB (by rw[ba];omega)]
 refine⟨?_,?_,?_⟩
 ·simp -dsimp (disch:=try exact dx) only[wpS,ld5,r]
 ·simp -dsimp (disch:=try exact dx) only[wpS,ld5,r]
 ·have l:(bdC w a p).length=18:=by simp[ba]
  simp -dsimp (disch:=try exact dx) only[wpS,zL,zA,iY,r,l,t];rfl
def XT (ha:a<256) (ox oy:Operand):binop prog .quo 5 ox oy (B8 a) (.int .u8 8)=some (.int .u8 ((a / 8:Nat):Int)):=by
 have hq:=Au prog 5 ox oy (k:=.u8) (a:=(a:Int)) (b:=8) aC;have e:((a:Int)).tdiv 8=((a / 8:Nat):Int):=by rw[Kj aa];rfl
 rw[e] at hq;have hw:IntKind.u8.wrap ((a / 8:Nat):Int)=((a / 8:Nat):Int):=by show(((a / 8:Nat):Int)) % 256=_;omega
 rw[hw] at hq;exact hq
variable {h:IH}{n n0:Nat}{v:QQ}
def lG.grown {sz:Nat} {cs:List QQ} (a:lG h n0 sz v n cs) {c c':List QQ} {z:Nat} (hk:h.ext.get k=some (.cells c z none)) (hz:z≠sz):lG (grown h k h.n c z [] [] c' z) n0 sz v n cs:=by
 have eg : ∀j,(Go.Id.grown h k h.n c z [] [] c' z).ext.get j=if j=h.n then some (.cells c' z (some h.n)) else if j=k then some (.cells c z (some h.n)) else h.ext.get j:=fun j=>by simp[Go.Id.grown,IH.gC,Tr.cD]
 have Bw : ∀f,f<h.n→(Go.Id.grown h k h.n c z [] [] c' z).eP.get f=h.eP.get f:=fun f hf=>by simp only[Go.Id.grown,Tr.cD];rw[ah aa]
 have old : ∀j cc e f,j<h.n→e=sz→h.ext.get j=some (.cells cc e f)→(Go.Id.grown h k h.n c z [] [] c' z).ext.get j=some (.cells cc e f):=fun j cc e f hj he hg=>by rw[eg,ah aa,ah (by rintro rfl;rw[hk] at hg;cases hg;exact hz he)];exact hg
 obtain⟨⟨hz0,hl,⟨rfl,rfl⟩|⟨k',fam,rfl,hn,h1,h2,h3,h4⟩⟩,aZ⟩:=a;·obtain rfl:cs = []:=jK.1 aa;exact lG.nil _ _ hz0
 ·refine⟨⟨hz0,hl,.inr ⟨k',fam,rfl,hn,h1,qU h2,old k' _ _ _ h2 rfl h3,?_⟩⟩,fun k2 n2 c2 hv2 cs2 f2 VB hg2 hf2 j hj=>?_⟩
  ·cases fam with
   | none=>trivial
   | some f =>
    obtain⟨a1,a2,rest,a3,a4⟩:=h4;exact⟨a1,qU a2,rest,by rw[Bw f a2];exact a3,fun j hj=>⟨(a4 j hj).1,qU (a4 j hj).2⟩⟩
  ·have hkk:k2=k':=by injection hv2 with hv2 _ _;injection hv2 with hv2;injection hv2 with hv2 _ _;omega
   subst hkk;rw[old k2 _ _ _ h2 rfl h3] at hg2;cases hg2;obtain⟨a1,a2,rest,a3,a4⟩:=h4;rw[Bw _ a2,a3] at hf2;cases hf2;obtain⟨c'',f',h5⟩:=aZ k2 n _ rfl cs f2 _ h3 a3 j hj;exact⟨c'',f',old j _ _ _ (a4 j hj).2 rfl h5⟩
variable {y:List (Nat×Nat)}{ll:List (List (Nat×Nat))}{j:Nat}
def Ti (h:Tj ll) (hy : ∀p∈y,p.1<W8∧p.2<W8):Tj (ll.set j y):=fun x hx p hp=>by
 rcases xg hx with hx|rfl;·exact h x hx p hp
 ·exact hy p hp
def Gb {h0 h':IH} {out:QQ} {bs:List Nat} (so:df h 1 out ll.length (bs.map (oI n))) (R:tQ h n0 n bs ll) (hn:0<n) (hm:n≤1000000) (hl:ll.length≤1000000) (hw:Tj ll) (e:Ext h0 h) (he:h0.n≤n0){b:Nat} {x:List (Nat×Nat)} (hb:bs[j]?=some b) (hx:ll[j]?=some x) (s:qD b h h') (hg:h'.ext.get b=some (.cells (shL y) 16 none)) (hy:y.length=n) (hyw : ∀p∈y,p.1<W8∧p.2<W8):Ext h0 h'∧iN h' out (ll.set j y):=by obtain⟨r1,r2,r3,r4⟩:=R.2.2 j b x hb hx;exact⟨s.ext e aa,Fc (by rw[dB];exact so.mC (s.mC r3 aC)) (R.turn hb s.1 s.2.2.1 hg hy) hn hm (by rw[dB];exact hl) (Ti hw hyw)⟩
def Va (hv:iN h v ll) (l0:0<ll.length) (hl:ll.length≤60) (hr : ∀x∈ll,x.length=ll.length) (hw:w<256) (ha:a<256) (hp:p.1<W8∧p.2<W8) :WV prog (.func (.func 44) #[] #[]) [bdV w a p,v] h fun r h'=>Ext h h' ∧ ∃mm,iN h' r mm∧Ta p ll mm:=by
 obtain⟨_,_,hlen⟩:=hv.co;have hW:Tj ll:=fun x hx q hq=>by obtain⟨i,hi⟩:=gH hx;obtain⟨_,_,s,_⟩:=hv.mG hi;exact s.2.2 q hq
 obtain⟨n,hn⟩ : ∃n,n=ll.length:=⟨_,rfl⟩;rw[←hn] at l0 hl hr hlen;obtain⟨Hb,hHb⟩ : ∃H,H=h.new (.cells (bdC w a p) 0 none):=⟨_,rfl⟩;have Eb:Ext h Hb:=by rw[hHb];exact(Ext.refl h).new _
 have nb:Hb.n=h.n+1:=by rw[hHb];rfl
 have gb:Hb.ext.get h.n=some (.cells (bdC w a p) 0 none):=by rw[hHb];simp (disch:=try exact dx) only[ar]
 refine enter (nt:=75) (rs:=[.tmp 4]) Proofs.Tryz.func44 rfl rfl rfl ab ?_;simp -dsimp (disch:=try exact dx) only[wpS,zE,zA,Az,hlen];rw[←hHb];clear hHb;refine loop (fun m fr hh => ∃(i:Nat) (out:QQ) (bs:List Nat),i+m=n∧Ext Hb hh∧lG hh Hb.n 1 out i (bs.map (oI n))∧tQ hh Hb.n n bs (ll.take i)∧ax fr 2=some (ptr (2*h.n) 0)∧ax fr 5=some out∧ax fr 9=some v∧ax fr 10=some (KN n)∧ax fr 11=some (KN i)) n ⟨0,.slice none 0 0,[],aa,Ext.refl _,lG.nil _ _ aa,⟨rfl,List.nodup_nil,fun k b x hb=>by simp at hb⟩,ab,ab,ab,ab,ab⟩ ?_;rintro m fr hh ⟨i,out,bs,him,hE,hA,hR,f2,f5,f9,f10,f11⟩;have hnn:=hE.n;simp -dsimp (disch:=try exact dx) only[wpS,f10,f11];refine aG ?_ ?_<;>intro hc<;>simp only[aS,aV] at hc
 ·have hi:i<n:=aa
  obtain⟨x,hx⟩ : ∃x,ll[i]?=some x:=⟨_,aK aa⟩;have hxl:=hr x (bh hx);obtain⟨wx,A1,A2,A3⟩:=(hv.ai (Eb.trans hE).ai).mG hx;simp -dsimp (disch:=try exact dx) only[wpS,wpT,zE,f5,f9,f11,A3,A1 hh (bj.refl hh)];refine call (IB A2 aa aa) ?_;rintro _ h2 ⟨X2,b,rfl,b1,b2,b3⟩;have hn2:=X2.n;rw[hxl];obtain⟨cV,h5,hap,hA5,hG5,hE5,oth⟩:=(hA.ext X2).Wh (P:=prog) (t:=38) PV (m:=1) (new:=[oI n b]) aa rfl rfl aa aa (hE.trans X2) (aA _);simp -dsimp (disch:=try exact dx) only[wpS,wpT,zE,zL,zA,JY,vW,f11,hap];have bl:bs.length=i:=by have:=hR.1;rw[gG] at this;omega
  have R2:=hR.mono (h':=h5) (bV hn2 hG5.n) (fun j c hj hg=>oth j c 16 none aa aC (X2.kept hj hg));refine⟨m - 1,aa,i+1,cV,bs ++ [b],aa,hE5,by rw[gF];exact hA5,⟨?_,?_,fun k c y hk hy=>?_⟩,by simp[f2],ab,by simp[f9],by simp[f10],ab⟩;·rw[dG,bl,gG,qZ];omega
  ·refine Gr.2 ⟨hR.2.1,ab,fun c hc d hd=>?_⟩
   rw[gQ] at hd;subst hd;obtain⟨k,hk⟩:=gH hc;have hkl:=(bU.1 hk).1;obtain⟨y,hy⟩ : ∃y,(ll.take i)[k]?=some y:=⟨_,aK (by rw[←hR.1];exact hkl)⟩;have:=(hR.2.2 k c y hk hy).2.1;omega
  ·by_cases hki:k<i
   ·rw[ef aa] at hk
    rw[gR,aq aa] at hy;exact R2.2.2 k c y hk (by rw[gR,aq hki];exact hy)
   ·have hkl:=(bU.1 hk).1
    rw[dG,qZ] at hkl;obtain rfl:k=i:=aa;rw[gI aa,bl,nD] at hk;rw[gR,aq aa,hx] at hy;cases hk;cases hy;exact⟨aa,cB b2 hG5.n,oth b _ 16 none b2 aC b3,hxl⟩
 ·obtain rfl:i=n:=aa;rw[fB aa] at hR;have g0:=hE.kept aa gb;obtain⟨L1,L2,L3⟩:=Zad g0;have r1 : ∀ox oy,binop prog .rem 3 ox oy (KN a) (KN i)=some (KN (a % i)):=fun ox oy=>mX _ _ .i64 ox oy a i l0;have r2 : ∀ox oy,binop prog .rem 5 ox oy (B8 w) (.int .u8 5)=some (.int .u8 ((w % 5:Nat):Int)):=fun ox oy=>mX _ _ .u8 ox oy w 5 aa;have r3 : ∀ox oy,binop prog .rem 3 ox oy (KN (a / 8)) (KN i)=some (KN (a / 8 % i)):=fun ox oy=>mX _ _ .i64 ox oy (a / 8) i l0;have so:=hA.1.sl;have lo:=so.len (P:=prog) WG;obtain⟨c,hc5⟩ : ∃c,c=w % 5:=⟨_,rfl⟩;obtain⟨j,hj⟩ : ∃j,j=a % i:=⟨_,rfl⟩;have hji:j<i:=by rw[hj];exact ec _ l0
  have bl:=hR.1;rw[←hn] at bl;obtain⟨b,hb⟩ : ∃b,bs[j]?=some b:=⟨_,aK aa⟩;obtain⟨x,hx⟩ : ∃x,ll[j]?=some x:=⟨_,aK aa⟩;obtain⟨q1,q2,q3,q4⟩:=hR.2.2 j b x hb hx;have ix:=so.idx UX (P:=prog) (k:=.i64) (j:=j) aa;rw[fI] at ix;have ld:load prog hh 61 (bq out j)=some (oI i b):=by rw[so.ld (bj.refl hh) aT Tk,dM,hb];rfl
  rw[←hc5] at r2;rw[←hj] at r1;have Eh:Ext h hh:=Eb.trans hE;have sol:df hh 1 out ll.length (bs.map (oI i)):=by rw[←hn];exact so
  have hxw:=hW x (bh hx);obtain⟨wv,hwv⟩ : ∃z,z=oI i b:=⟨_,rfl⟩;have sx:kU hh wv x:=by rw[hwv];exact xD q3 q2 aa q4 aa hxw
  rw[←hwv] at ld;have cl:=tj x;have c5:c=0∨c=1∨c=2∨c=3∨c=4:=aa;simp -dsimp (disch:=try exact dx) only[wpS,wpT,zE,Sd,zf,Xv,f2,f5,L1,L2,lo,r1,r2];rcases c5 with rfl|rfl|rfl|rfl|rfl
  ·obtain⟨jj,hjj⟩ : ∃jj,jj=a / 8 % i:=⟨_,rfl⟩;have hjl:jj<i:=by rw[hjj];exact ec _ l0
   rw[←hjj] at r3;have iy:=sx.1.idx tH (P:=prog) (k:=.i64) (j:=jj) aa;have st:=HJ (n:=i) (c:=2*i) q3 (P:=prog) (t:=32) Ow (i:=jj) aa (x:=shV p.1 p.2) (xs:=shC p.1 p.2) rfl (ba _ _) (cT _ _);rw[BD _ _ _ aa,show(QQ.slice (some ⟨2*b,0,none⟩) i (2*i))=wv from hwv.symm] at st;simp -dsimp (disch:=try exact dx) only[wpS,wpT,zE,Sd,zf,Sc,f2,f5,L2,L3,lo,r3,XT ha,ix,ld,iy,st];obtain⟨z1,z2⟩:=Gb (h0:=h) (h':=hh.put b (.cells (shL (x.set jj p)) 16 none)) sol hR aa aa aa hW Eh aa hb hx ((qD.refl b hh).put _) (aj _ _ rfl) (by rw[dB];exact q4) (fun q hq=>by
    rcases xg hq with hq|rfl;·exact hxw q hq
    ·exact hp)
   exact⟨z1,_,z2,.inr (.inr ⟨j,x,hx,.inr (.inr ⟨jj,aa,rfl⟩)⟩)⟩
  ·obtain⟨H1,hH1⟩ : ∃H,H=hh.new (.cells (shC p.1 p.2) 16 none):=⟨_,rfl⟩;have E1:Ext hh H1:=by rw[hH1];exact(Ext.refl hh).new _
   have n1:H1.n=hh.n+1:=by rw[hH1];rfl
   have gx1:=(E1.get b q2).trans q3;have sp:df H1 16 (.slice (some ⟨2*hh.n,0,none⟩) 1 3) 1 (shC p.1 p.2):=by rw[hH1];exact oQ hh aa (by rw[ba]) aa
   have hap:=Mr (n:=i) (m:=1) (P:=prog) (t:=61) Ms gx1 aa l0 sp.now aa (cT _ _) aa;rw[show(QQ.slice (some ⟨2*b,0,none⟩) i (2*i))=wv from hwv.symm] at hap;obtain⟨H2,hH2⟩ : ∃H,H=grown H1 b H1.n (shL x) 16 [] [] (shL x ++ shC p.1 p.2) 16:=⟨_,rfl⟩;have A2:lG H2 Hb.n 1 out i (bs.map (oI i)):=by rw[hH2];exact(hA.ext E1).grown gx1 aC
   have eg : ∀k,H2.ext.get k=if k=H1.n then some (.cells (shL x ++ shC p.1 p.2) 16 (some H1.n)) else if k=b then some (.cells (shL x) 16 (some H1.n)) else H1.ext.get k:=fun k=>by rw[hH2];simp[Go.Id.grown,IH.gC,Tr.cD]
   have n2:H2.n=H1.n+1:=by rw[hH2];rfl
   have E2:Ext Hb H2:=by
    have E0:=hE.trans E1;refine⟨aa,by rw[hH2];exact E0.base,fun k hk=>?_,fun f hf=>?_⟩;·rw[eg,ah aa,ah aa];exact E0.get k hk
    ·rw[hH2]
     simp only[Go.Id.grown,Tr.cD];rw[ah aa];exact E0.eP f hf
   rw[←hH2] at hap;obtain⟨H3,st,A3,E3,n3,_,oth⟩:=A2.TZ (P:=prog) (t:=61) sz61 hji (x:=oI (i+1) H1.n) (xs:=[oI (i+1) H1.n]) rfl rfl rfl E2 (aA _);rw[fI] at st;have K1:=E1.ai;simp -dsimp (disch:=try exact dx) only[wpS,wpT,zE];refine drawn [(5,[9]),(7,[9])] ae ae rfl ?_;simp -dsimp (disch:=try exact dx) only[wpS,wpT,zE,zL,zA,Sc,Mm,tN,f5,ix,ld,f2,L3,bR,ba,fD,←hH1,hap,st];have ldA:load prog H1 61 (bq out j)=some wv:=by rw[so.ld K1 aT Tk,dM,hb,hwv];rfl
   have L3':=He L3 aa E1;refine⟨aU (az rfl rfl rfl rfl (aO rfl ld ldA)) (az rfl rfl rfl rfl (aO rfl L3 L3')),?_⟩;simp -dsimp (disch:=try exact dx) only[wpS,wpT,zE,zA,f5];refine⟨Eb.trans E3,ll.set j (x ++ [p]),?_,.inr (.inr ⟨j,x,hx,.inr (.inl rfl)⟩)⟩;have esp:IH.bf (bs.map (oI i)) (j*1) [oI (i+1) H1.n]=(bs.map (oI i)).set j (oI (i+1) H1.n):=by rw[fI];exact jM aT
   have s3:=A3.1.sl;rw[esp] at s3;refine⟨_,by rw[dB,←hn];exact s3,by rw[dB];omega,fun k y hy=>?_⟩;rw[re] at hy;by_cases hkj:j=k
   ·subst hkj;rw[aq rfl] at hy;split at hy
    ·cases hy;refine⟨oI (i+1) H1.n,by rw[Gu aT],?_⟩;have g3:=oth H1.n (shL x ++ shC p.1 p.2) 16 (some H1.n) aC (by rw[eg,aq rfl]);have esh:shL (x ++ [p])=shL x ++ shC p.1 p.2:=by simp[shL]
     rw[←esh] at g3;refine⟨?_,aT,fun q hq=>?_⟩
     ·have e1:(shL (x ++ [p])).length=(i+1)*16:=by rw[tj,dG,qZ,q4]
      have e2:i+1≤2*(i+1) / 2:=aa;have e3:H1.n<H3.n:=aa;have this:df H3 16 (oI (i+1) H1.n) (i+1) (shL (x ++ [p])):=fX g3 e3 (Nat.succ_pos 15) e1 (Nat.succ_pos _) e2;rw[dG,qZ,q4];exact this
     ·rcases fC.1 hq with hq|hq
      ·exact hxw q hq
      ·rw[gQ.1 hq];exact hp
    ·cases hy
   ·rw[ah hkj] at hy;have hkl:=(bU.1 hy).1;obtain⟨d,hd⟩ : ∃d,bs[k]?=some d:=⟨bs[k]' aa,aK aa⟩;obtain⟨r1',r2',r3',r4'⟩:=hR.2.2 k d y hd hy;have hdb:d≠b:=by rintro rfl;have e1:=(bU.1 hb).2;have e2:=(bU.1 hd).2;exact hkj ((List.getElem_inj hR.2.1).1 (e1.trans e2.symm))
    refine⟨oI i d,by rw[List.getElem?_set_ne hkj,dM,hd];rfl,?_⟩;exact xD (oth d _ 16 none aC (by rw[eg,ah aa,ah hdb];exact(E1.get d r2').trans r3')) aa aa r4' aa (hW y (bh hy))
  ·obtain⟨b0,hb0⟩ : ∃d,bs[0]?=some d:=⟨_,aK aa⟩
   obtain⟨x0,hx0⟩ : ∃d,ll[0]?=some d:=⟨_,aK aa⟩;obtain⟨t1,t2,t3,t4⟩:=hR.2.2 0 b0 x0 hb0 hx0;have ix0:indexAddr prog 38 out (KI 0)=some (bq out 0):=so.idx UX (P:=prog) (k:=.i64) (j:=0) aa;have ld0:load prog hh 61 (bq out 0)=some (oI i b0):=by rw[so.ld (bj.refl hh) aT Tk,dM,hb0];rfl
   obtain⟨cV,h5,hap,hA5,hG5,hE5,oth⟩:=hA.Wh (P:=prog) (t:=38) PV (m:=1) (new:=[oI i b0]) aa rfl rfl aa aa hE (aA _);have n5:=hG5.n;simp -dsimp (disch:=try exact dx) only[wpS,wpT,zE,zL,zA,JY,vW,f5,ix0,ld0,hap];refine⟨Eb.trans hE5,ll ++ [x0],?_,.inr (.inl ⟨x0,bh hx0,rfl⟩)⟩;have s5:=hA5.1.sl;refine⟨_,by rw[dG,qZ,←hn];exact s5,aT,fun k y hy=>?_⟩;by_cases hkn:k<i;·rw[ef aa] at hy;obtain⟨d,hd⟩ : ∃d,bs[k]?=some d:=⟨bs[k]' aa,aK aa⟩;obtain⟨r1',r2',r3',r4'⟩:=hR.2.2 k d y hd hy;refine⟨oI i d,by rw[ef aT,dM,hd];rfl,?_⟩;exact xD (oth d _ 16 none r2' aC r3') aa aa r4' aa (hW y (bh hy))
   ·have hkl:=(bU.1 hy).1
    rw[dG,qZ] at hkl;obtain rfl:k=i:=aa;rw[gI aa,show k - ll.length=0 by omega] at hy;cases hy;refine⟨oI k b0,by rw[gI aT];simp[bl],?_⟩;exact xD (oth b0 _ 16 none t2 aC t3) aa aa t4 aa (hW x0 (bh hx0))
  ·simp -dsimp (disch:=try exact dx) only[wpS,wpT,zE,f5,ix,ld];rw[hwv];refine call (IM q3 q2 q4 aa aa hxw) ?_;rintro _ h6 ⟨S6,g6⟩;simp -dsimp (disch:=try exact dx) only[wpS,zE,f5];obtain⟨z1,z2⟩:=Gb (h0:=h) sol hR aa aa aa hW Eh aa hb hx S6 g6 (by rw[List.length_reverse];exact q4) (fun q hq=>hxw q (List.mem_reverse.1 hq));exact⟨z1,_,z2,.inr (.inr ⟨j,x,hx,.inl rfl⟩)⟩
  ·simp -dsimp (disch:=try exact dx) only[wpS,wpT,zE,f5];exact⟨Eh,ll,Fc sol hR aa aa aa hW,.inl rfl⟩
end
end Go.Id
namespace Go.Proofs.YtnnmjocmapilaaaGreat
open Go.ChangeShapes Go.WideShapes Go.ChangeAt Go.RowKit Go.Id
section
def Qd:Tryz.prog.underlying 34=some (.struct { toList:=[{ name := "What",type:=5,offset:=0,embedded:=false,tag := "",pkgPath := "",byteOffset:=0 },{ name := "At",type:=5,offset:=1,embedded:=false,tag := "",pkgPath := "",byteOffset:=1 },{ name := "A",type:=32,offset:=2,embedded:=false,tag := "",pkgPath := "",byteOffset:=8 }] }):=ae
theorem XP:Tryz.prog.cellsOf 34=18:=ae
def OU (w a:Nat) (p:Nat×Nat):plain (bdV w a p)=true:=by have h:=uC p.1 p.2;simp only[bdV,plain,List.all_toArray,bdC,List.all_cons] at h ⊢;rw[h];rfl
def Vc {m:Mp} (w a:Nat) (p:Nat×Nat):bz m (bdV w a p) (.agg (bdC w a p).toArray):=.dS (OU w a p)
section
variable {H:Type} {enc:TypeId×Value→H} {W:World} {held:Bool}
def Vb {fuel:Nat} {cs:List Value} {x:DataW H×List MemPlace} (h:DataW.trod enc Tryz.prog W 0 (fun _=>true) held fuel 34 cs=some x) :
  ∃(w a n d:Nat),w<256∧a<256∧n<W8∧d<W8∧cs=bdC w a (n,d):=by
 obtain⟨xs,m,_,_,hl,hn,hf⟩:=DataW.trod_struct Qd h;rw[XP] at hl;have hn2:xs.length=3:=hn;obtain⟨x0,hx0⟩ : ∃y,xs[0]?=some y:=⟨_,aK aa⟩;have f0:DataW.trod enc Tryz.prog W 0 (fun _=>true) held m 5 ((cs.drop 0).take (Tryz.prog.cellsOf 5))=some x0:=(hf 0 { name := "What",type:=5,offset:=0,embedded:=false,tag := "",pkgPath := "",byteOffset:=0 } rfl).trans hx0;obtain⟨x1,hx1⟩ : ∃y,xs[1]?=some y:=⟨_,aK aa⟩;have f1:DataW.trod enc Tryz.prog W 0 (fun _=>true) held m 5 ((cs.drop 1).take (Tryz.prog.cellsOf 5))=some x1:=(hf 1 { name := "At",type:=5,offset:=1,embedded:=false,tag := "",pkgPath := "",byteOffset:=1 } rfl).trans hx1;obtain⟨x2,hx2⟩ : ∃y,xs[2]?=some y:=⟨_,aK aa⟩;have f2:DataW.trod enc Tryz.prog W 0 (fun _=>true) held m 32 ((cs.drop 2).take (Tryz.prog.cellsOf 32))=some x2:=(hf 2 { name := "A",type:=32,offset:=2,embedded:=false,tag := "",pkgPath := "",byteOffset:=8 } rfl).trans hx2;rw[XM] at f0 f1;rw[NY] at f2;rcases cs with _|⟨a,cs⟩;·simp at hl
 rcases cs with _|⟨b,cs⟩
 ·simp at hl
 obtain⟨k,e0,hk⟩:=rF (m:=255) rfl rfl TJ f0;obtain⟨j,e1,hj⟩:=rF (m:=255) rfl rfl TJ f1;obtain⟨n,d,hn',hd,e2⟩:=Qx f2;cases e0;cases e1;refine⟨k,j,n,d,aa,aa,hn',hd,?_⟩
 have e3:cs=shC n d:=by
  rw[←e2]
  show cs=List.take 16 cs;rw[fB (by simp at hl;omega)]
 rw[e3]
end
end
end Go.Proofs.YtnnmjocmapilaaaGreat
namespace Go.Id
open Go
open Go renaming Operand→QY,Program→QX,TypeId→QZ,Value→QQ
open Nat renaming reduceAdd→zA,reduceEqDiff→zE,reduceLeDiff→zL
open Nat (reduceMul)
set_option maxHeartbeats 16000000
open Go.Proofs.Tryz (prog)
section
variable {x:Nat}
theorem TD (hx:x<18446744073709551616):(.agg #[K64 x,.int .u64 0,.int .u64 0,.int .u64 0,.int .u64 0,.int .u64 0,.int .u64 0,.int .u64 0]:Value)=wdV x:=by
 have h0:wrd x 0=x:=by unfold wrd;rw[sF,Nat.div_one,dR hx]
 have h1 : ∀i,1≤i→wrd x i=0:=fun i hi=>lI (i:=1) (by rw[Nat.pow_one];exact hx) hi;have e:wdV x=.agg #[K64 (wrd x 0),K64 (wrd x 1),K64 (wrd x 2),K64 (wrd x 3),K64 (wrd x 4),K64 (wrd x 5),K64 (wrd x 6),K64 (wrd x 7)]:=rfl;rw[e,h0,h1 1 aa,h1 2 aa,h1 3 aa,h1 4 aa,h1 5 aa,h1 6 aa,h1 7 aa];rfl
def HY:18446744073709551616<H8:=by unfold H8;decide +kernel
def TB (hx:x<18446744073709551616):x<W8:=by have:=HY;have:=dD;omega
theorem P5 (hx:x<18446744073709551616):wdI x=(x:Int):=by have:=HY;unfold wdI;rw[aq aa]
def S5 (hx:x<18446744073709551616):iP Proofs.Tryz.prog 30 [(0,K64 x)]=some (wdV x):=by rw[←TD hx];kernel_rfl
variable {h:IH}
def HX (hx:x<18446744073709551616):WV Proofs.Tryz.prog (.func (.func 146) #[] #[]) [K64 x] h fun r h'=>Ext h h'∧bP h' r (x:Int):=by
 have E1:Ext h (h.new (.cells [.bool false,.slice none 0 0] 0 none)):=(Ext.refl h).new _;have g1:(h.new (.cells [.bool false,.slice none 0 0] 0 none)).ext.get h.n=some (.cells [.bool false,.slice none 0 0] 0 none):=by simp (disch:=try exact dx) only[ar]
 refine enter (nt:=6) (rs:=[.cell 2 175]) Proofs.Tryz.func146 rfl rfl rfl ab ?_;simp -dsimp (disch:=try exact dx) only[wpS,zE,ff,S5 hx];refine call (lT x (TB hx)) ?_;rintro r1 h1 ⟨X1,p1⟩;rw[P5 hx] at p1;obtain⟨s1,n1,rfl,c3,o3,_,_⟩:=p1.form;have k1:=X1.kept ab g1;have m1:=X1.n;simp only[aH] at m1;simp -dsimp (disch:=try exact dx) only[wpS,wpT,zE,zL,zA,cZ,cj,k1,o3,mI];exact⟨(E1.trans X1).put aa _,p1.ai ((bj.refl _).put k1 _)⟩
def K4 {s:Nat} {n:Int} (hs:s<18446744073709551616) (hn:fS n) :WV Proofs.Tryz.prog (.func (.func 58) #[] #[]) [chV s,KI n] h fun r h'=>Ext h h'∧r=Ax s n:=by
 unfold Ax;obtain⟨H0,hH0,n0,E0,k0,k1⟩:=ko h [K64 s] [.int .u64 0];refine enter (nt:=50) (rs:=[.tmp 4,.cell 5 36,.tmp 6]) Proofs.Tryz.func58 rfl rfl rfl ab ?_;simp -dsimp (disch:=try exact dx) only[wpS,zE,zA,lz,chV];rw[←hH0];clear hH0;by_cases c1:n<1
 ·have d1:decide (n<1)=true:=ct c1;rw[aq c1];simp -dsimp (disch:=try exact dx) only[wpS,wpT,zE,zL,fw,dX,cP,d1,k1,tk1];exact⟨E0.put aa _,rfl⟩
 have d1:decide (n<1)=false:=bF c1;rw[ah c1];obtain⟨m,rfl⟩ : ∃m:Nat,n=(m:Int):=⟨n.toNat,aa⟩;have hn2:=hn.2;rw[iv];obtain⟨l1,l2,l3⟩:=Jg (n:=m) aa aa;simp -dsimp (disch:=try exact dx) only[wpS,d1];refine call (fY 2 ⟨aa,aa⟩) ?_;rintro r1 h1 ⟨X1,p1⟩;simp -dsimp (disch:=try exact dx) only[wpS,zE];refine call (nT (k:=64) p1 aa) ?_;rintro r2 h2 ⟨X2,p2⟩;simp -dsimp (disch:=try exact dx) only[wpS,zE];refine call (fY (m:Int) hn) ?_;rintro r3 h3 ⟨X3,p3⟩;simp -dsimp (disch:=try exact dx) only[wpS,zE];have q2:=p2.ai X3.ai;have Zs:jd (m:Int):=bE (k:=64) (by rw[jz];omega) aa;refine call (pT q2 p3 (kO aa).small Zs.small aa) ?_;rintro _ h4 ⟨X4,u,t,rfl,p4,p5⟩;have ek:((2 ^ 64:Nat):Int) / (m:Int)=((18446744073709551616 / m:Nat):Int):=by rw[show(2 ^ 64:Nat)=18446744073709551616 from rfl];exact(oV _ _).symm
 rw[ek] at p4;clear ek;generalize ((2 ^ 64:Nat):Int) % (m:Int)=zt at p5;obtain⟨q,hq⟩ : ∃q,q=18446744073709551616 / m:=⟨_,rfl⟩;rw[←hq] at p4;obtain⟨su,nu,rfl,c4,o4,_,_⟩:=p4.form;obtain⟨st,nt,rfl,c5,o5,_,_⟩:=p5.form;have X14:=((X1.trans X2).trans X3).trans X4;have m4:=X14.n;have hu:decide ((q:Int)<0)=false:=bF aa;rw[hu] at p4 ⊢;simp -dsimp (disch:=try exact dx) only[wpS,wpT,zE,zL,zA,ff,cZ,o4,o5];obtain⟨bt,hbt⟩ : ∃b,b=decide (zt<0):=⟨_,rfl⟩;rw[←hbt];obtain⟨H5,hH5⟩ : ∃H,H=(((h4.new (.cells [.bool false,.slice none 0 0] 0 none)).new (.cells [.bool false,.slice none 0 0] 0 none)).put h4.n (.cells [.bool false,su] 0 none)).put (h4.n+1) (.cells [.bool bt,st] 0 none):=⟨_,rfl⟩;have n5:H5.n=h4.n+2:=by rw[hH5];rfl
 have X5:Ext h4 H5:=by rw[hH5];exact(((Ext.refl _).new _).new _).put aa _ |>.put aa _
 have g5:H5.ext.get h4.n=some (.cells [.bool false,su] 0 none):=by rw[hH5];simp (disch:=try exact dx) only[aj,au]
 rw[←hH5];clear hH5;have L5:=ql2 g5;have Y5:=Ext.refl H5;refine drawn [(0,[3])] ae ae rfl ?_;simp -dsimp (disch:=try exact dx) only[wpS,wpT,zE,zL,zA,cj,ay g5,mI];refine call (fY (m:Int) hn) ?_;rintro r6 h6 ⟨X6,p6⟩;have m6:=X6.n;simp -dsimp (disch:=try exact dx) only[wpS,zE];have hq64:jd (q:Int):=bE (k:=64) (by rw[jz,hq];exact oU _ _) aa;refine call (gP (p4.ai (X5.trans X6).ai) p6 hq64 Zs) ?_;rintro r7 h7 ⟨X7,p7⟩;have m7:=X7.n;have X67:=X6.trans X7;have el:(q:Int)*(m:Int)=((rA m:Nat):Int):=by unfold rA;rw[hq];exact(uj _ _).symm
 rw[el] at p7;obtain⟨s7,n7,rfl,c7,o7,_,_⟩:=p7.form;have hl7:decide (((rA m:Nat):Int)<0)=false:=bF aa;rw[hl7] at p7 ⊢;simp -dsimp (disch:=try exact dx) only[wpS,wpT,zE,zL,zA,ff,cZ,o7];refine⟨by repeat' first|refine aU ?_ ?_|refine bg ?_ ?_|exact az rfl rfl rfl rfl (aP (H0:=H5) rfl aa aN aN bX),?_⟩;obtain⟨H7,hH7⟩ : ∃H,H=(h7.new (.cells [.bool false,.slice none 0 0] 0 none)).put h7.n (.cells [.bool false,s7] 0 none):=⟨_,rfl⟩;have n8:H7.n=h7.n+1:=by rw[hH7];rfl
 have X8:Ext h7 H7:=by rw[hH7];exact((Ext.refl _).new _).put (aA _) _
 have g9:H7.ext.get h7.n=some (.cells [.bool false,s7] 0 none):=by rw[hH7];simp (disch:=try exact dx) only[aj]
 simp -dsimp (disch:=try exact dx) only[wpS,wpT,zE,zA,fw];rw[←hH7];clear hH7;have XX:=(X14.trans X5).trans (X67.trans X8);have hT:=Gh;refine loop (fun j fr hh => ∃i si:Nat,i+j=TR∧Ext h hh∧h7.n<hh.n∧hh.ext.get h.n=some (.cells [K64 si] 0 none)∧hh.ext.get (h.n+1)=some (.cells [.int .u64 0] 0 none)∧hh.ext.get h7.n=some (.cells [.bool false,s7] 0 none)∧bP hh (.agg #[.bool false,s7]) ((rA m:Nat):Int)∧si<18446744073709551616∧jR m TR s=jR m (TR - i) si∧ax fr 1=some (KI (m:Int))∧ax fr 2=some (ptr (2*h.n) 0)∧ax fr 5=some (ptr (2*(h.n+1)) 0)∧ax fr 9=some (ptr (2*h7.n) 0)∧ax fr 10=some (KN i)) TR
  ⟨0,s,aa,E0.trans XX,aa,XX.kept aa k0,XX.kept aa k1,g9,p7.ai X8.ai,hs,rfl,ab,ab,ab,ab,ab⟩ ?_
 rintro j fr hh ⟨i,si,hij,a1,a2,a3,a4,a5,a6,a7,a8,f1,f2,f5,f9,f10⟩;have an:=a1.n;simp -dsimp (disch:=try exact dx) only[wpS,wpT,zE,fw,f10];refine aG ?_ ?_<;>intro hc<;>simp only[aS,aV] at hc
 ·simp -dsimp (disch:=try exact dx) only[wpS,wpT,zE,zL,fw,cP,f2,ay a3,tk1];refine call (IJ a7) ?_;rintro _ v1 ⟨V1,rfl⟩;have vn:=V1.n;have b3:=V1.kept aa a3;have b4:=V1.kept aa a4;have b5:=V1.kept aa a5;obtain⟨x,hx⟩ : ∃x,x=nxO si:=⟨_,rfl⟩;obtain⟨s',hs'⟩ : ∃x,x=nxS si:=⟨_,rfl⟩;have xb:=Db si;have sb:=Da si;rw[←hx] at xb ⊢;rw[←hs'] at sb ⊢;have gn:((v1.new (.cells [.int .u64 0] 0 none)).put v1.n (.cells [K64 s'] 0 none)).ext.get v1.n=some (.cells [K64 s'] 0 none):=by simp (disch:=try exact dx) only[aj]
  have go:((v1.new (.cells [.int .u64 0] 0 none)).put v1.n (.cells [K64 s'] 0 none)).ext.get h.n=some (.cells [K64 si] 0 none):=by rw[au _ _ aa,aE _ _ aa];exact b3
  simp -dsimp (disch:=try exact dx) only[wpS,wpT,zE,zL,lz,fw,dX,cP,chV,tk1,f2,ay gn,go];obtain⟨H9,hH9⟩ : ∃H,H=((v1.new (.cells [.int .u64 0] 0 none)).put v1.n (.cells [K64 s'] 0 none)).put h.n (.cells [K64 s'] 0 none):=⟨_,rfl⟩;have e9:Ext h H9:=by rw[hH9];exact(((a1.trans V1).new _).put aa _).put (aA _) _
  have n9:H9.n=v1.n+1:=by rw[hH9];rfl
  have k9:bj v1 H9:=by rw[hH9];exact(((Ext.refl v1).new _).put (aA _) _).ai.put go _
  have d3:H9.ext.get h.n=some (.cells [K64 s'] 0 none):=by rw[hH9];simp (disch:=try exact dx) only[aj]
  have d4:H9.ext.get (h.n+1)=some (.cells [.int .u64 0] 0 none):=by rw[hH9,au _ _ aa,au _ _ aa,aE _ _ aa];exact b4
  have d5:H9.ext.get h7.n=some (.cells [.bool false,s7] 0 none):=by rw[hH9,au _ _ aa,au _ _ aa,aE _ _ aa];exact b5
  have d6:=a6.ai (V1.ai.trans k9);rw[←hH9];clear hH9;have L9:=ql2 d5;have Y9:=Ext.refl H9;refine drawn [(2,[1])] ae ae rfl ?_;simp -dsimp (disch:=try exact dx) only[wpS,zE];refine call (HX xb) ?_;rintro w1 v2 ⟨V2,q1⟩;have vn2:=V2.n;simp -dsimp (disch:=try exact dx) only[wpS,wpT,zE,zL,zA,cj,f9,ay (V2.kept aa d5),mI];have hl64:jd ((rA m:Nat):Int):=bE (k:=64) (by rw[jz];omega) aa;have hx64:jd (x:Int):=bE (k:=64) (by rw[jz];omega) aa;refine call (nZ q1 (d6.ai V2.ai) hx64.small hl64.small) ?_;rintro _ v3 ⟨V3,rfl⟩;have vn3:=V3.n;have V23:=V2.trans V3;obtain⟨p,hp⟩ : ∃p,TR - i=p+1:=⟨TR - i - 1,aa⟩;have a11:=a8;rw[hp,jR,←hx,←hs'] at a11;by_cases cx:x<rA m
  ·rw[aq cx] at a11;rw[aq (show(x:Int)<((rA m:Nat):Int) by omega)];obtain⟨r,hr⟩ : ∃r,r=x % m:=⟨_,rfl⟩;have rb:r<m:=by rw[hr];exact ec _ aa
   have er:(x:Int) % (m:Int)=(r:Int):=by rw[hr,xj]
   simp -dsimp (disch:=try exact dx) only[wpS,wpT,zE];refine⟨az rfl rfl rfl rfl (aP (H0:=H9) f9 aa V2 Y9 L9),?_⟩;have z3:=V23.kept aa d3;have z4:=V23.kept aa d4;simp -dsimp (disch:=try exact dx) only[wpS,wpT,zE,zL,zA,fw,dX,cP,An,Ao,f1,f2,f5,ay z3,z4,tk1,er];rw[a11,←hr];exact⟨(e9.trans V23).put aa _,rfl⟩
  ·rw[ah cx] at a11;rw[ah (show ¬(x:Int)<((rA m:Nat):Int) by omega)];obtain⟨z,hz,hz0⟩ : ∃z:Int,(if ((rA m:Nat):Int)<(x:Int) then (1:Int) else 0)=z∧0≤z:=⟨_,rfl,by split<;>omega⟩;rw[hz];simp -dsimp (disch:=try exact dx) only[wpS,wpT,zE];refine⟨az rfl rfl rfl rfl (aP (H0:=H9) f9 aa V2 Y9 L9),?_⟩;simp -dsimp (disch:=try exact dx) only[wpS,wpT,zE,zA,fw,f10];refine⟨j - 1,aa,i+1,s',aa,e9.trans V23,aa,V23.kept aa d3,V23.kept aa d4,V23.kept aa d5,d6.ai V23.ai,sb,by rw[show TR - (i+1)=p by omega];exact a11,by simp[f1],by simp[f2],by simp[f5],by simp[f9],ab⟩
 ·have hi:TR - i=0:=aa;rw[hi,jR] at a8;rw[a8];simp -dsimp (disch:=try exact dx) only[wpS,wpT,zE,zL,fw,dX,cP,f5,a4,tk1];exact⟨a1.put aa _,rfl⟩
end
end Go.Id
