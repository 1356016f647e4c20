/-
  The types of this seat's program, as the machine asks of them; made by program (tools/mk.py). Digits to the base 2^32, the lowest first: plain numbers.
-/
import Derived.Test.YtnanhedgenokpaaGreatTemperMovesAs
import Derived.Test.YtnanhedgenokpaaGreatProg
import Derived.KernelRfl
import Init
set_option linter.unusedVariables false
set_option linter.unusedSimpArgs false
set_option linter.defProp false
set_option linter.deprecated false
namespace Go.Id
open Go
open Go.Proofs.Tryz (prog)
theorem TC:aY prog 113=some false:=by kernel_rfl
theorem TB:aY prog 118=some true:=by kernel_rfl
theorem Hw:aY prog 119=some false:=by kernel_rfl
theorem TA:aY prog 135=some false:=by kernel_rfl
theorem Tz:aY prog 137=some true:=by kernel_rfl
theorem DY:aY prog 139=some true:=by kernel_rfl
theorem Ty:aY prog 194=some true:=by kernel_rfl
theorem PD:aY prog 196=some true:=by kernel_rfl
theorem Tx:aY prog 205=some false:=by kernel_rfl
theorem U5:aY prog 22=some false:=by kernel_rfl
theorem Tw:aY prog 234=some true:=by kernel_rfl
theorem Tv:aY prog 236=some true:=by kernel_rfl
theorem U4:aY prog 24=some true:=by kernel_rfl
theorem Q1:aY prog 25=some false:=by kernel_rfl
theorem U3:aY prog 27=some true:=by kernel_rfl
theorem nV:aY prog 28=some false:=by kernel_rfl
theorem Tu:aY prog 281=some false:=by kernel_rfl
theorem ag3:aY prog 3=some false:=by kernel_rfl
theorem OA:aY prog 30=some true:=by kernel_rfl
theorem Tt:aY prog 311=some false:=by kernel_rfl
theorem Ts:aY prog 32=some true:=by kernel_rfl
theorem U2:aY prog 36=some true:=by kernel_rfl
theorem U1:aY prog 38=some false:=by kernel_rfl
theorem ag4:aY prog 4=some false:=by kernel_rfl
theorem U0:aY prog 42=some false:=by kernel_rfl
theorem MD:aY prog 47=some false:=by kernel_rfl
theorem ag5:aY prog 5=some false:=by kernel_rfl
theorem Tq:aY prog 60=some false:=by kernel_rfl
theorem To:pd prog 113=some (1,8):=by kernel_rfl
theorem Tn:pd prog 135=some (1,8):=by kernel_rfl
theorem Tl:pd prog 153=some (4,64):=by kernel_rfl
theorem pV:pd prog 25=some (1,8):=by kernel_rfl
theorem Q0:pd prog 38=some (1,24):=by kernel_rfl
theorem FX:pd prog 42=some (8,64):=by kernel_rfl
theorem Oz:pd prog 60=some (16,128):=by kernel_rfl
theorem AD:Hv prog 234=some (8,1):=by kernel_rfl
theorem kS:Hv prog 30=some (8,1):=by kernel_rfl
theorem Tj:cu prog 118=true:=by kernel_rfl
theorem Ti:cu prog 121=true:=by kernel_rfl
theorem Th:cu prog 137=true:=by kernel_rfl
theorem Tg:cu prog 139=true:=by kernel_rfl
theorem Tf:cu prog 194=true:=by kernel_rfl
theorem Te:cu prog 196=true:=by kernel_rfl
theorem Td:cu prog 210=true:=by kernel_rfl
theorem Tc:cu prog 212=true:=by kernel_rfl
theorem Tb:cu prog 234=true:=by kernel_rfl
theorem Ta:cu prog 236=true:=by kernel_rfl
theorem UY:cu prog 30=true:=by kernel_rfl
theorem UX:cu prog 32=true:=by kernel_rfl
theorem UW:cu prog 36=true:=by kernel_rfl
theorem SQ:prog.eqGuardType prog.depth 234=false:=by kernel_rfl
theorem SP:prog.eqGuardType prog.depth 30=false:=by kernel_rfl
theorem G7:fu prog 113=some 1:=by kernel_rfl
theorem fM:fu prog 135=some 1:=by kernel_rfl
theorem Dz:fu prog 153=some 4:=by kernel_rfl
theorem LF:fu prog 22=some 1:=by kernel_rfl
theorem fc:fu prog 25=some 1:=by kernel_rfl
theorem SO:fu prog 38=some 1:=by kernel_rfl
theorem u7:fu prog 42=some 8:=by kernel_rfl
theorem sK:fu prog 60=some 16:=by kernel_rfl
theorem Oh:fieldAt prog 118 0=some 0:=by kernel_rfl
theorem Og:fieldAt prog 118 1=some 1:=by kernel_rfl
theorem G4:fieldAt prog 121 0=some 0:=by kernel_rfl
theorem pN:fieldAt prog 121 1=some 2:=by kernel_rfl
theorem ic:fieldAt prog 137 0=some 0:=by kernel_rfl
theorem iZ:fieldAt prog 137 1=some 1:=by kernel_rfl
theorem iY:fieldAt prog 139 0=some 0:=by kernel_rfl
theorem hZ:fieldAt prog 139 1=some 2:=by kernel_rfl
theorem dF:fieldAt prog 194 0=some 0:=by kernel_rfl
theorem eP:fieldAt prog 194 1=some 1:=by kernel_rfl
theorem nv:fieldAt prog 196 0=some 0:=by kernel_rfl
theorem pM:fieldAt prog 196 1=some 2:=by kernel_rfl
theorem BE:fieldAt prog 210 0=some 0:=by kernel_rfl
theorem vD:fieldAt prog 212 0=some 0:=by kernel_rfl
theorem iX:fieldAt prog 236 0=some 0:=by kernel_rfl
theorem fi:fieldAt prog 236 1=some 1:=by kernel_rfl
theorem QF:fieldAt prog 24 0=some 0:=by kernel_rfl
theorem BD:fieldAt prog 24 1=some 1:=by kernel_rfl
theorem LA:fieldAt prog 27 0=some 0:=by kernel_rfl
theorem Lz:fieldAt prog 27 1=some 2:=by kernel_rfl
theorem QE:fieldAt prog 27 2=some 3:=by kernel_rfl
theorem Ly:fieldAt prog 27 3=some 4:=by kernel_rfl
theorem qW:fieldAt prog 32 0=some 0:=by kernel_rfl
theorem qV:fieldAt prog 32 1=some 8:=by kernel_rfl
theorem QD:fieldAt prog 36 0=some 0:=by kernel_rfl
theorem BB:mJ prog 137 1=some (false,1,1):=by kernel_rfl
theorem Oe:mJ prog 139 0=some (true,0,2):=by kernel_rfl
theorem Bz:mJ prog 236 0=some (false,0,1):=by kernel_rfl
theorem RX:(Program.underlying prog 28).isSome=true:=by kernel_rfl
theorem is3:(Program.underlying prog 3).isSome=true:=by kernel_rfl
theorem is5:(Program.underlying prog 5).isSome=true:=by kernel_rfl
theorem RH:oK prog 113=some (1,8,[.pointer none]):=by kernel_rfl
theorem O4:oK prog 135=some (1,8,[.int .u64 (0)]):=by kernel_rfl
theorem O3:oK prog 153=some (4,64,[.bool false,.slice none 0 0,.bool false,.slice none 0 0]):=by kernel_rfl
theorem RG:oK prog 25=some (1,8,[.int .i64 (0)]):=by kernel_rfl
theorem Ua:oK prog 38=some (1,24,[.slice none 0 0]):=by kernel_rfl
theorem T9:oK prog 42=some (8,64,[.int .u64 (0),.int .u64 (0),.int .u64 (0),.int .u64 (0),.int .u64 (0),.int .u64 (0),.int .u64 (0),.int .u64 (0)]):=by kernel_rfl
theorem T8:oK prog 60=some (16,128,[.int .u64 (0),.int .u64 (0),.int .u64 (0),.int .u64 (0),.int .u64 (0),.int .u64 (0),.int .u64 (0),.int .u64 (0),.int .u64 (0),.int .u64 (0),.int .u64 (0),.int .u64 (0),.int .u64 (0),.int .u64 (0),.int .u64 (0),.int .u64 (0)]):=by kernel_rfl
theorem GB:placeOf prog 118 0=some (0,1):=by kernel_rfl
theorem GA:placeOf prog 118 1=some (1,1):=by kernel_rfl
theorem Nr:placeOf prog 121 0=some (0,2):=by kernel_rfl
theorem rZ:placeOf prog 137 0=some (0,1):=by kernel_rfl
theorem ng:placeOf prog 137 1=some (1,1):=by kernel_rfl
theorem vy:placeOf prog 139 0=some (0,2):=by kernel_rfl
theorem vx:placeOf prog 139 1=some (2,2):=by kernel_rfl
theorem Gz:placeOf prog 194 0=some (0,1):=by kernel_rfl
theorem vv:placeOf prog 194 1=some (1,1):=by kernel_rfl
theorem Gy:placeOf prog 196 0=some (0,2):=by kernel_rfl
theorem Gx:placeOf prog 196 1=some (2,2):=by kernel_rfl
theorem Nq:placeOf prog 210 0=some (0,1):=by kernel_rfl
theorem Np:placeOf prog 212 0=some (0,1):=by kernel_rfl
theorem No:placeOf prog 234 7=some (7,1):=by kernel_rfl
theorem Gw:placeOf prog 236 0=some (0,1):=by kernel_rfl
theorem Nn:placeOf prog 236 1=some (1,8):=by kernel_rfl
theorem P4:placeOf prog 30 0=some (0,1):=by kernel_rfl
theorem Ks:placeOf prog 32 0=some (0,8):=by kernel_rfl
theorem Kr:placeOf prog 32 1=some (8,8):=by kernel_rfl
theorem Cu:cX prog (some 113)=true:=by kernel_rfl
theorem ff:cX prog (some 135)=true:=by kernel_rfl
theorem OQ:cX prog (some 153)=true:=by kernel_rfl
theorem yC:cX prog (some 22)=true:=by kernel_rfl
theorem cW:cX prog (some 25)=true:=by kernel_rfl
theorem Rw:cX prog (some 38)=true:=by kernel_rfl
theorem rK:cX prog (some 42)=true:=by kernel_rfl
theorem rJ:cX prog (some 60)=true:=by kernel_rfl
theorem Rs:aP prog 113=some 1:=by kernel_rfl
theorem OO:aP prog 118=some 2:=by kernel_rfl
theorem ON:aP prog 137=some 2:=by kernel_rfl
theorem uf:aP prog 139=some 4:=by kernel_rfl
theorem OM:aP prog 194=some 2:=by kernel_rfl
theorem JQ:aP prog 196=some 4:=by kernel_rfl
theorem OL:aP prog 234=some 8:=by kernel_rfl
theorem OK:aP prog 236=some 9:=by kernel_rfl
theorem TW:aP prog 24=some 2:=by kernel_rfl
theorem TV:aP prog 25=some 1:=by kernel_rfl
theorem TU:aP prog 27=some 7:=by kernel_rfl
theorem yz:aP prog 28=some 1:=by kernel_rfl
theorem sz3:aP prog 3=some 1:=by kernel_rfl
theorem JP:aP prog 30=some 8:=by kernel_rfl
theorem PV:aP prog 32=some 16:=by kernel_rfl
theorem Rr:aP prog 36=some 1:=by kernel_rfl
theorem TT:aP prog 47=some 1:=by kernel_rfl
theorem sz5:aP prog 5=some 1:=by kernel_rfl
theorem MY:Program.underlying prog 135=some (.slice 28):=by kernel_rfl
theorem u22:Program.underlying prog 22=some (.slice 5):=by kernel_rfl
theorem PS:Program.underlying prog 234=some (.array 8 28):=by kernel_rfl
theorem u25:Program.underlying prog 25=some (.slice 3):=by kernel_rfl
theorem TQ:Program.underlying prog 250=some (.map 5 249):=by kernel_rfl
theorem u28:Program.underlying prog 28=some (.int .u64):=by kernel_rfl
theorem u3:Program.underlying prog 3=some (.int .i64):=by kernel_rfl
theorem u30:Program.underlying prog 30=some (.array 8 28):=by kernel_rfl
theorem u36:Program.underlying prog 36=some (.struct { toList:=[{ name := "State",type:=28,offset:=0,embedded:=false,tag := "",pkgPath := "",byteOffset:=0 }] }):=by kernel_rfl
theorem u4:Program.underlying prog 4=some .bool:=by kernel_rfl
theorem u5:Program.underlying prog 5=some (.int .u8):=by kernel_rfl
theorem u9:Program.underlying prog 9=some .string:=by kernel_rfl
theorem u94:Program.underlying prog 94=some (.int .u64):=by kernel_rfl
theorem OG:aE prog 113=some [.slice none 0 0]:=by kernel_rfl
theorem Ju:aE prog 118=some [.int .i64 (0),.slice none 0 0]:=by kernel_rfl
theorem Rg:aE prog 121=some [.int .i64 (0),.slice none 0 0,.int .i64 (0)]:=by kernel_rfl
theorem fU:aE prog 137=some [.bool false,.slice none 0 0]:=by kernel_rfl
theorem jQ:aE prog 139=some [.bool false,.slice none 0 0,.bool false,.slice none 0 0]:=by kernel_rfl
theorem kD:aE prog 194=some [.bool false,.slice none 0 0]:=by kernel_rfl
theorem rf:aE prog 196=some [.bool false,.slice none 0 0,.bool false,.slice none 0 0]:=by kernel_rfl
theorem Rf:aE prog 210=some [.int .u64 (0)]:=by kernel_rfl
theorem Re:aE prog 212=some [.int .u64 (0)]:=by kernel_rfl
theorem y5:aE prog 234=some [.int .u64 (0),.int .u64 (0),.int .u64 (0),.int .u64 (0),.int .u64 (0),.int .u64 (0),.int .u64 (0),.int .u64 (0)]:=by kernel_rfl
theorem pX:aE prog 236=some [.bool false,.int .u64 (0),.int .u64 (0),.int .u64 (0),.int .u64 (0),.int .u64 (0),.int .u64 (0),.int .u64 (0),.int .u64 (0)]:=by kernel_rfl
theorem TO:aE prog 25=some [.slice none 0 0]:=by kernel_rfl
theorem TN:aE prog 28=some [.int .u64 (0)]:=by kernel_rfl
theorem zc3:aE prog 3=some [.int .i64 (0)]:=by kernel_rfl
theorem dB:aE prog 30=some [.int .u64 (0),.int .u64 (0),.int .u64 (0),.int .u64 (0),.int .u64 (0),.int .u64 (0),.int .u64 (0),.int .u64 (0)]:=by kernel_rfl
theorem mi:aE prog 32=some [.int .u64 (0),.int .u64 (0),.int .u64 (0),.int .u64 (0),.int .u64 (0),.int .u64 (0),.int .u64 (0),.int .u64 (0),.int .u64 (0),.int .u64 (0),.int .u64 (0),.int .u64 (0),.int .u64 (0),.int .u64 (0),.int .u64 (0),.int .u64 (0)]:=by kernel_rfl
theorem nW:aE prog 36=some [.int .u64 (0)]:=by kernel_rfl
theorem tq:aE prog 47=some [.int .i64 (0)]:=by kernel_rfl
theorem Jq (h:IH) (x y:Value):builtin prog h .append #[113,113] [x,y]=append prog h 113 x y:=builtin_append prog h 113 113 x y Cu
theorem Jp (h:IH) (x y:Value):builtin prog h .append #[135,135] [x,y]=append prog h 135 x y:=builtin_append prog h 135 135 x y ff
theorem Jo (h:IH) (x y:Value):builtin prog h .append #[153,153] [x,y]=append prog h 153 x y:=builtin_append prog h 153 153 x y OQ
theorem fj (h:IH) (x y:Value):builtin prog h .append #[25,25] [x,y]=append prog h 25 x y:=builtin_append prog h 25 25 x y cW
theorem BQ (h:IH) (x y:Value):builtin prog h .append #[38,38] [x,y]=append prog h 38 x y:=builtin_append prog h 38 38 x y Rw
theorem nA (h:IH) (x y:Value):builtin prog h .append #[42,42] [x,y]=append prog h 42 x y:=builtin_append prog h 42 42 x y rK
theorem vF (h:IH) (x y:Value):builtin prog h .append #[60,60] [x,y]=append prog h 60 x y:=builtin_append prog h 60 60 x y rJ
theorem be4 (ox oy:Operand) (a b:Bool):binop prog .eql 4 ox oy (.bool a) (.bool b)=some (.bool (a == b)):=ym u4 ox oy a b
theorem bn4 (ox oy:Operand) (a b:Bool):binop prog .neq 4 ox oy (.bool a) (.bool b)=some (.bool (!(a == b))):=yl u4 ox oy a b
theorem S5 (h:IH) (len:Nat) (ps:List (Nat×Value)) (hl:len*1≤16777216):buildSlice prog h 113 len ps=(cz (fun i=>some (i*1,1)) (bA len [.pointer none]) ps).map fun cells=>(.slice (some ⟨2*h.n,0,none⟩) len (2*len+1),h.new (.cells cells 1 none)):=fe RH h len ps hl
theorem Ms (h:IH) (len:Nat) (ps:List (Nat×Value)) (hl:len*1≤16777216):buildSlice prog h 135 len ps=(cz (fun i=>some (i*1,1)) (bA len [.int .u64 (0)]) ps).map fun cells=>(.slice (some ⟨2*h.n,0,none⟩) len (2*len+1),h.new (.cells cells 1 none)):=fe O4 h len ps hl
theorem S0 (h:IH) (len:Nat) (ps:List (Nat×Value)) (hl:len*4≤16777216):buildSlice prog h 153 len ps=(cz (fun i=>some (i*4,4)) (bA len [.bool false,.slice none 0 0,.bool false,.slice none 0 0]) ps).map fun cells=>(.slice (some ⟨2*h.n,0,none⟩) len (2*len+1),h.new (.cells cells 4 none)):=fe O3 h len ps hl
theorem gO (h:IH) (len:Nat) (ps:List (Nat×Value)) (hl:len*1≤16777216):buildSlice prog h 25 len ps=(cz (fun i=>some (i*1,1)) (bA len [.int .i64 (0)]) ps).map fun cells=>(.slice (some ⟨2*h.n,0,none⟩) len (2*len+1),h.new (.cells cells 1 none)):=fe RG h len ps hl
theorem Mr (h:IH) (len:Nat) (ps:List (Nat×Value)) (hl:len*1≤16777216):buildSlice prog h 38 len ps=(cz (fun i=>some (i*1,1)) (bA len [.slice none 0 0]) ps).map fun cells=>(.slice (some ⟨2*h.n,0,none⟩) len (2*len+1),h.new (.cells cells 1 none)):=fe Ua h len ps hl
theorem FP (h:IH) (len:Nat) (ps:List (Nat×Value)) (hl:len*8≤16777216):buildSlice prog h 42 len ps=(cz (fun i=>some (i*8,8)) (bA len [.int .u64 (0),.int .u64 (0),.int .u64 (0),.int .u64 (0),.int .u64 (0),.int .u64 (0),.int .u64 (0),.int .u64 (0)]) ps).map fun cells=>(.slice (some ⟨2*h.n,0,none⟩) len (2*len+1),h.new (.cells cells 8 none)):=fe T9 h len ps hl
theorem Mq (h:IH) (len:Nat) (ps:List (Nat×Value)) (hl:len*16≤16777216):buildSlice prog h 60 len ps=(cz (fun i=>some (i*16,16)) (bA len [.int .u64 (0),.int .u64 (0),.int .u64 (0),.int .u64 (0),.int .u64 (0),.int .u64 (0),.int .u64 (0),.int .u64 (0),.int .u64 (0),.int .u64 (0),.int .u64 (0),.int .u64 (0),.int .u64 (0),.int .u64 (0),.int .u64 (0),.int .u64 (0)]) ps).map fun cells=>(.slice (some ⟨2*h.n,0,none⟩) len (2*len+1),h.new (.cells cells 16 none)):=fe T8 h len ps hl
theorem Py (ps:List (Nat×Value)):fH prog 118 ps=(cz (placeOf prog 118) [.int .i64 (0),.slice none 0 0] ps).map fun cs=>.agg cs.toArray:=dN Ju Tj ps
theorem SZ (ps:List (Nat×Value)):fH prog 121 ps=(cz (placeOf prog 121) [.int .i64 (0),.slice none 0 0,.int .i64 (0)] ps).map fun cs=>.agg cs.toArray:=dN Rg Ti ps
theorem yh (ps:List (Nat×Value)):fH prog 137 ps=(cz (placeOf prog 137) [.bool false,.slice none 0 0] ps).map fun cs=>.agg cs.toArray:=dN fU Th ps
theorem Hp (ps:List (Nat×Value)):fH prog 139 ps=(cz (placeOf prog 139) [.bool false,.slice none 0 0,.bool false,.slice none 0 0] ps).map fun cs=>.agg cs.toArray:=dN jQ Tg ps
theorem Ho (ps:List (Nat×Value)):fH prog 194 ps=(cz (placeOf prog 194) [.bool false,.slice none 0 0] ps).map fun cs=>.agg cs.toArray:=dN kD Tf ps
theorem Px (ps:List (Nat×Value)):fH prog 196 ps=(cz (placeOf prog 196) [.bool false,.slice none 0 0,.bool false,.slice none 0 0] ps).map fun cs=>.agg cs.toArray:=dN rf Te ps
theorem SY (ps:List (Nat×Value)):fH prog 210 ps=(cz (placeOf prog 210) [.int .u64 (0)] ps).map fun cs=>.agg cs.toArray:=dN Rf Td ps
theorem SX (ps:List (Nat×Value)):fH prog 212 ps=(cz (placeOf prog 212) [.int .u64 (0)] ps).map fun cs=>.agg cs.toArray:=dN Re Tc ps
theorem DU (ps:List (Nat×Value)):fH prog 234 ps=(cz (placeOf prog 234) [.int .u64 (0),.int .u64 (0),.int .u64 (0),.int .u64 (0),.int .u64 (0),.int .u64 (0),.int .u64 (0),.int .u64 (0)] ps).map fun cs=>.agg cs.toArray:=dN y5 Tb ps
theorem Pw (ps:List (Nat×Value)):fH prog 236 ps=(cz (placeOf prog 236) [.bool false,.int .u64 (0),.int .u64 (0),.int .u64 (0),.int .u64 (0),.int .u64 (0),.int .u64 (0),.int .u64 (0),.int .u64 (0)] ps).map fun cs=>.agg cs.toArray:=dN pX Ta ps
theorem ra (ps:List (Nat×Value)):fH prog 30 ps=(cz (placeOf prog 30) [.int .u64 (0),.int .u64 (0),.int .u64 (0),.int .u64 (0),.int .u64 (0),.int .u64 (0),.int .u64 (0),.int .u64 (0)] ps).map fun cs=>.agg cs.toArray:=dN dB UY ps
theorem ve (ps:List (Nat×Value)):fH prog 32 ps=(cz (placeOf prog 32) [.int .u64 (0),.int .u64 (0),.int .u64 (0),.int .u64 (0),.int .u64 (0),.int .u64 (0),.int .u64 (0),.int .u64 (0),.int .u64 (0),.int .u64 (0),.int .u64 (0),.int .u64 (0),.int .u64 (0),.int .u64 (0),.int .u64 (0),.int .u64 (0)] ps).map fun cs=>.agg cs.toArray:=dN mi UX ps
theorem mh (ps:List (Nat×Value)):fH prog 36 ps=(cz (placeOf prog 36) [.int .u64 (0)] ps).map fun cs=>.agg cs.toArray:=dN nW UW ps
theorem ya (k:IntKind) (n:Int):sX prog 28 3 (.int k n)=some (.int .i64 (IntKind.i64.wrap n)):=mL RX u3
theorem QL (k:IntKind) (n:Int):sX prog 28 5 (.int k n)=some (.int .u8 (IntKind.u8.wrap n)):=mL RX u5
theorem xZ (k:IntKind) (n:Int):sX prog 3 28 (.int k n)=some (.int .u64 (IntKind.u64.wrap n)):=mL is3 u28
theorem QK (k:IntKind) (n:Int):sX prog 3 94 (.int k n)=some (.int .u64 (IntKind.u64.wrap n)):=mL is3 u94
theorem xY (k:IntKind) (n:Int):sX prog 5 3 (.int k n)=some (.int .i64 (IntKind.i64.wrap n)):=mL is5 u3
theorem zO (h:IH) (b o:Nat):load prog h 113 (ptr b o)=ld h b o:=cq TC h b o
theorem RV (h:IH) (b o:Nat):load prog h 118 (ptr b o)=(h.rd b o 2).map fun cs=>.agg cs.toArray:=eG TB OO h b o
theorem oM (h:IH) (b o:Nat):load prog h 135 (ptr b o)=ld h b o:=cq TA h b o
theorem bh (h:IH) (b o:Nat):load prog h 137 (ptr b o)=(h.rd b o 2).map fun cs=>.agg cs.toArray:=eG Tz ON h b o
theorem iJ (h:IH) (b o:Nat):load prog h 139 (ptr b o)=(h.rd b o 4).map fun cs=>.agg cs.toArray:=eG DY uf h b o
theorem bZ (h:IH) (b o:Nat):load prog h 194 (ptr b o)=(h.rd b o 2).map fun cs=>.agg cs.toArray:=eG Ty OM h b o
theorem xi (h:IH) (b o:Nat):load prog h 196 (ptr b o)=(h.rd b o 4).map fun cs=>.agg cs.toArray:=eG PD JQ h b o
theorem RU (h:IH) (b o:Nat):load prog h 205 (ptr b o)=ld h b o:=cq Tx h b o
theorem Bh (h:IH) (b o:Nat):load prog h 22 (ptr b o)=ld h b o:=cq U5 h b o
theorem gK (h:IH) (b o:Nat):load prog h 234 (ptr b o)=(h.rd b o 8).map fun cs=>.agg cs.toArray:=eG Tw OL h b o
theorem nO (h:IH) (b o:Nat):load prog h 236 (ptr b o)=(h.rd b o 9).map fun cs=>.agg cs.toArray:=eG Tv OK h b o
theorem RT (h:IH) (b o:Nat):load prog h 24 (ptr b o)=(h.rd b o 2).map fun cs=>.agg cs.toArray:=eG U4 TW h b o
theorem fQ (h:IH) (b o:Nat):load prog h 25 (ptr b o)=ld h b o:=cq Q1 h b o
theorem Ug (h:IH) (b o:Nat):load prog h 27 (ptr b o)=(h.rd b o 7).map fun cs=>.agg cs.toArray:=eG U3 TU h b o
theorem jY (h:IH) (b o:Nat):load prog h 28 (ptr b o)=ld h b o:=cq nV h b o
theorem RS (h:IH) (b o:Nat):load prog h 281 (ptr b o)=ld h b o:=cq Tu h b o
theorem ld3 (h:IH) (b o:Nat):load prog h 3 (ptr b o)=ld h b o:=cq ag3 h b o
theorem ba (h:IH) (b o:Nat):load prog h 30 (ptr b o)=(h.rd b o 8).map fun cs=>.agg cs.toArray:=eG OA JP h b o
theorem RR (h:IH) (b o:Nat):load prog h 311 (ptr b o)=ld h b o:=cq Tt h b o
theorem fE (h:IH) (b o:Nat):load prog h 32 (ptr b o)=(h.rd b o 16).map fun cs=>.agg cs.toArray:=eG Ts PV h b o
theorem eH (h:IH) (b o:Nat):load prog h 36 (ptr b o)=(h.rd b o 1).map fun cs=>.agg cs.toArray:=eG U2 Rr h b o
theorem Qc (h:IH) (b o:Nat):load prog h 38 (ptr b o)=ld h b o:=cq U1 h b o
theorem ld4 (h:IH) (b o:Nat):load prog h 4 (ptr b o)=ld h b o:=cq ag4 h b o
theorem Uf (h:IH) (b o:Nat):load prog h 42 (ptr b o)=ld h b o:=cq U0 h b o
theorem kO (h:IH) (b o:Nat):load prog h 47 (ptr b o)=ld h b o:=cq MD h b o
theorem ld5 (h:IH) (b o:Nat):load prog h 5 (ptr b o)=ld h b o:=cq ag5 h b o
theorem Uc (h:IH) (a:Option Addr) (n c:Nat):nT prog h 25 (.slice a n c)=some (.int .i64 n):=qO cW h a n c
theorem C4 (h:IH) (k j:IntKind) {l c:Int} (h0:0≤l) (h1:l≤c) (h2:c*9≤1099511627776):makeSlice prog h 135 (.int k l) (.int j c)=some (.slice (some ⟨2*h.n,0,none⟩) l.toNat (2*c.toNat+1),h.new (.cells (bA c.toNat [.int .u64 (0)]) 1 none)):=nm O4 h k j h0 h1 h2
theorem RF (h:IH) (k j:IntKind) {l c:Int} (h0:0≤l) (h1:l≤c) (h2:c*65≤1099511627776):makeSlice prog h 153 (.int k l) (.int j c)=some (.slice (some ⟨2*h.n,0,none⟩) l.toNat (2*c.toNat+1),h.new (.cells (bA c.toNat [.bool false,.slice none 0 0,.bool false,.slice none 0 0]) 4 none)):=nm O3 h k j h0 h1 h2
theorem EY (h:IH) (k j:IntKind) {l c:Int} (h0:0≤l) (h1:l≤c) (h2:c*9≤1099511627776):makeSlice prog h 25 (.int k l) (.int j c)=some (.slice (some ⟨2*h.n,0,none⟩) l.toNat (2*c.toNat+1),h.new (.cells (bA c.toNat [.int .i64 (0)]) 1 none)):=nm RG h k j h0 h1 h2
theorem Rv (h:IH) (k o:Nat) (v:Value):store prog h 113 (ptr (2*k) o) v=stE 1 h k o v.cells.toList (h.ext.get k):=de Rs h k o v
theorem OP (h:IH) (k o:Nat) (v:Value):store prog h 118 (ptr (2*k) o) v=stE 2 h k o v.cells.toList (h.ext.get k):=de OO h k o v
theorem dI (h:IH) (k o:Nat) (v:Value):store prog h 137 (ptr (2*k) o) v=stE 2 h k o v.cells.toList (h.ext.get k):=de ON h k o v
theorem jh (h:IH) (k o:Nat) (v:Value):store prog h 139 (ptr (2*k) o) v=stE 4 h k o v.cells.toList (h.ext.get k):=de uf h k o v
theorem fW (h:IH) (k o:Nat) (v:Value):store prog h 194 (ptr (2*k) o) v=stE 2 h k o v.cells.toList (h.ext.get k):=de OM h k o v
theorem rI (h:IH) (k o:Nat) (v:Value):store prog h 196 (ptr (2*k) o) v=stE 4 h k o v.cells.toList (h.ext.get k):=de JQ h k o v
theorem ui (h:IH) (k o:Nat) (v:Value):store prog h 234 (ptr (2*k) o) v=stE 8 h k o v.cells.toList (h.ext.get k):=de OL h k o v
theorem nJ (h:IH) (k o:Nat) (v:Value):store prog h 236 (ptr (2*k) o) v=stE 9 h k o v.cells.toList (h.ext.get k):=de OK h k o v
theorem yB (h:IH) (k o:Nat) (v:Value):store prog h 25 (ptr (2*k) o) v=stE 1 h k o v.cells.toList (h.ext.get k):=de TV h k o v
theorem mb (h:IH) (k o:Nat) (v:Value):store prog h 28 (ptr (2*k) o) v=stE 1 h k o v.cells.toList (h.ext.get k):=de yz h k o v
theorem st3 (h:IH) (k o:Nat) (v:Value):store prog h 3 (ptr (2*k) o) v=stE 1 h k o v.cells.toList (h.ext.get k):=de sz3 h k o v
theorem cj (h:IH) (k o:Nat) (v:Value):store prog h 30 (ptr (2*k) o) v=stE 8 h k o v.cells.toList (h.ext.get k):=de JP h k o v
theorem jr (h:IH) (k o:Nat) (v:Value):store prog h 32 (ptr (2*k) o) v=stE 16 h k o v.cells.toList (h.ext.get k):=de PV h k o v
theorem gH (h:IH) (k o:Nat) (v:Value):store prog h 36 (ptr (2*k) o) v=stE 1 h k o v.cells.toList (h.ext.get k):=de Rr h k o v
theorem jq (h:IH) (k o:Nat) (v:Value):store prog h 47 (ptr (2*k) o) v=stE 1 h k o v.cells.toList (h.ext.get k):=de TT h k o v
end Go.Id

namespace Go.Id
def az (ds:List Nat):Nat→Nat
 | 0=>0
 | k+1=>az ds k+ds.getD k 0*4294967296 ^ k
def au (ds:List Nat):Nat:=az ds ds.length
def bz (ds:List Nat):Prop:=∀d∈ds,d<4294967296
def Norm (ds:List Nat):Prop:=ds = []∨ds.getD (ds.length - 1) 0≠0
theorem bj {ds:List Nat} (h:bz ds) (k:Nat):ds.getD k 0<4294967296:=by
 rw[List.getD_eq_getElem?_getD]
 cases hx:ds[k]? with
 | none=>simp
 | some x=>simpa using h x (List.mem_of_getElem? hx)
theorem cH {ds:List Nat} {k:Nat} (h:ds.length≤k):ds.getD k 0=0:=by
 rw[List.getD_eq_getElem?_getD,List.getElem?_eq_none h];rfl
theorem oA (k:Nat):0<4294967296 ^ k:=Nat.pow_pos (by omega)
theorem gD {ds:List Nat} (h:bz ds) : ∀k,az ds k<4294967296 ^ k
 | 0=>by simp[az]
 | k+1=>by
  have ih:=gD h k
  have hd:=bj h k
  have h2:ds.getD k 0*4294967296 ^ k≤4294967295*4294967296 ^ k:=Nat.mul_le_mul_right _ (by omega)
  rw[az,Nat.pow_succ]
  omega
theorem gY {ds:List Nat} : ∀{k:Nat},ds.length≤k→az ds k=au ds
 | 0,h=>by
  have:ds = []:=List.length_eq_zero_iff.1 (by omega)
  subst this;rfl
 | k+1,h=>by
  by_cases hk:ds.length≤k
  ·rw[az,gY hk,cH hk];simp
  ·have:ds.length=k+1:=by omega
   rw[au,this]
theorem fb {ds es:List Nat} : ∀{k:Nat},(∀j,j<k→ds.getD j 0=es.getD j 0)→az ds k=az es k
 | 0,_=>rfl
 | k+1,h=>by rw[az,az,fb fun j hj=>h j (by omega),h k (by omega)]
theorem jH {ds:List Nat} (h:bz ds):au ds<4294967296 ^ ds.length:=gD h _
theorem uC {ds:List Nat} {x:Nat} (j:Nat):(ds ++ [x]).getD j 0=if j<ds.length then ds.getD j 0 else if j=ds.length then x else 0:=by
 simp only[List.getD_eq_getElem?_getD]
 by_cases h:j<ds.length
 ·rw[if_pos h,List.getElem?_append_left h]
 ·rw[if_neg h,List.getElem?_append_right (by omega)]
  by_cases h2:j=ds.length
  ·rw[if_pos h2];subst h2;simp
  ·rw[if_neg h2,List.getElem?_eq_none (by simp;omega)];rfl
theorem iE (ds:List Nat) (x:Nat):au (ds ++ [x])=au ds+x*4294967296 ^ ds.length:=by
 have h1:(ds ++ [x]).length=ds.length+1:=by simp
 rw[au,h1,az,uC,if_neg (by omega),if_pos rfl]
 congr 1
 refine fb fun j hj=>?_
 rw[uC,if_pos hj]
theorem bz.append {ds:List Nat} {x:Nat} (h:bz ds) (hx:x<4294967296):bz (ds ++ [x]):=by
 intro d hd
 rcases List.mem_append.1 hd with h1|h1
 ·exact h d h1
 ·simp at h1;omega
theorem bz.take {ds:List Nat} (h:bz ds) (n:Nat):bz (ds.take n):=fun d hd=>h d (List.mem_of_mem_take hd)
theorem mI (ds:List Nat) (n j:Nat):(ds.take n).getD j 0=if j<n then ds.getD j 0 else 0:=by
 simp only[List.getD_eq_getElem?_getD,List.getElem?_take]
 split<;>rfl
theorem jm (ds:List Nat) (m:Nat) : ∀k,(∀j,m≤j→j<m+k→ds.getD j 0=0)→az ds (m+k)=az ds m
 | 0,_=>rfl
 | k+1,h=>by
  rw[show m+(k+1)=(m+k)+1 from rfl,az,jm ds m k (fun j a b=>h j a (by omega)),h (m+k) (by omega) (by omega)]
  simp
theorem tu {ds:List Nat} {m:Nat} (hm:m≤ds.length) (h : ∀j,m≤j→ds.getD j 0=0):au (ds.take m)=au ds:=by
 have h1:(ds.take m).length=m:=by simp[hm]
 rw[au,h1]
 have h2:az (ds.take m) m=az ds m:=fb fun j hj=>by rw[mI,if_pos hj]
 rw[h2]
 have:=jm ds m (ds.length - m) (fun j a _=>h j a)
 rw[show m+(ds.length - m)=ds.length from by omega] at this
 exact this.symm
theorem Norm.ge {ds:List Nat} (h:Norm ds) (hne:ds ≠ []):4294967296 ^ (ds.length - 1)≤au ds:=by
 rcases h with h|h
 ·exact absurd h hne
 ·have hl:0<ds.length:=List.length_pos_iff.2 hne
  obtain⟨n,hn⟩ : ∃n,ds.length=n+1:=⟨ds.length - 1,by omega⟩
  rw[au,hn,az]
  rw[hn] at h
  simp only[Nat.add_sub_cancel] at h ⊢
  have:1*4294967296 ^ n≤ds.getD n 0*4294967296 ^ n:=Nat.mul_le_mul_right _ (by omega)
  omega
theorem jy {a b:List Nat} (ha:bz a) (hb:Norm b) (hl:a.length<b.length):au a<au b:=by
 have h1:=jH ha
 have h2:=hb.ge (by intro h;subst h;simp at hl)
 have h3:4294967296 ^ a.length≤4294967296 ^ (b.length - 1):=Nat.pow_le_pow_right (by omega) (by omega)
 omega
theorem od {a b:List Nat} (ha:bz a) {i:Nat} (hi:a.getD i 0<b.getD i 0) : ∀k,(∀j,i<j→j<i+1+k→a.getD j 0=b.getD j 0)→az a (i+1+k)<az b (i+1+k)
 | 0,_=>by
  have h1:=gD ha i
  have h2:(a.getD i 0+1)*4294967296 ^ i≤b.getD i 0*4294967296 ^ i:=Nat.mul_le_mul_right _ (by omega)
  rw[Nat.add_mul] at h2
  rw[Nat.add_zero,az,az]
  omega
 | k+1,h=>by
  have:=od ha hi k (fun j x y=>h j x (by omega))
  rw[show i+1+(k+1)=(i+1+k)+1 from rfl,az,az,h (i+1+k) (by omega) (by omega)]
  omega
theorem jx {a b:List Nat} (ha:bz a) (hl:a.length=b.length) {i:Nat} (hn:i<a.length) (hi:a.getD i 0<b.getD i 0) (h : ∀j,i<j→j<a.length→a.getD j 0=b.getD j 0):au a<au b:=by
 have:=od ha hi (a.length - (i+1)) (fun j x y=>h j x (by omega))
 rw[show i+1+(a.length - (i+1))=a.length from by omega] at this
 rw[au,au,←hl];exact this
theorem kW {a b:List Nat} (hl:a.length=b.length) (h : ∀j,j<a.length→a.getD j 0=b.getD j 0):au a=au b:=by
 rw[au,au,←hl];exact fb h
theorem Norm.jM {ds:List Nat} (h:Norm ds):au ds=0↔ds = []:=by
 constructor
 ·intro h0
  apply Classical.byContradiction;intro hne
  have:=h.ge hne
  have:=oA (ds.length - 1)
  omega
 ·rintro rfl;rfl
theorem Norm.lH {a b:List Nat} (ha:Norm a) (hb:bz b) (h:au a≤au b):a.length≤b.length:=by
 apply Classical.byContradiction;intro hn
 have:=jy hb ha (by omega)
 omega
theorem zb (d:Nat) (ds:List Nat) : ∀k,az (d :: ds) (k+1)=d+4294967296*az ds k
 | 0=>by simp[az]
 | k+1=>by
  rw[az,zb d ds k,az]
  simp only[List.getD_cons_succ,Nat.pow_succ]
  grind
theorem HR (d:Nat) (ds:List Nat):au (d :: ds)=d+4294967296*au ds:=zb d ds _
end Go.Id
