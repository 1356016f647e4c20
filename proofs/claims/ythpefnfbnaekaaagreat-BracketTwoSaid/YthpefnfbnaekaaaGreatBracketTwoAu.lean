/-
  The types of this seat's program, as the machine asks of them; made by program (tools/mk.py). Digits to the base 2^32, the lowest first: plain numbers.
-/
import Derived.Test.YthpefnfbnaekaaaGreatBracketTwoAs
import Derived.Test.YthpefnfbnaekaaaGreatProg
import Derived.KernelRfl
import Init
set_option linter.unusedVariables false
set_option linter.unusedSimpArgs false
set_option linter.defProp false
set_option linter.deprecated false
namespace Go.Id
open Go
open Go.Proofs.Tryz (prog)
theorem ag115:isAggT prog 115=some true:=by kernel_rfl
theorem ag121:isAggT prog 121=some true:=by kernel_rfl
theorem ag123:isAggT prog 123=some true:=by kernel_rfl
theorem ag127:isAggT prog 127=some false:=by kernel_rfl
theorem ag133:isAggT prog 133=some true:=by kernel_rfl
theorem ag135:isAggT prog 135=some true:=by kernel_rfl
theorem ag149:isAggT prog 149=some false:=by kernel_rfl
theorem ag152:isAggT prog 152=some false:=by kernel_rfl
theorem ag159:isAggT prog 159=some false:=by kernel_rfl
theorem ag182:isAggT prog 182=some false:=by kernel_rfl
theorem ag185:isAggT prog 185=some false:=by kernel_rfl
theorem ag206:isAggT prog 206=some true:=by kernel_rfl
theorem ag208:isAggT prog 208=some true:=by kernel_rfl
theorem ag22:isAggT prog 22=some false:=by kernel_rfl
theorem ag24:isAggT prog 24=some false:=by kernel_rfl
theorem ag26:isAggT prog 26=some true:=by kernel_rfl
theorem ag28:isAggT prog 28=some true:=by kernel_rfl
theorem ag29:isAggT prog 29=some false:=by kernel_rfl
theorem ag3:isAggT prog 3=some false:=by kernel_rfl
theorem ag33:isAggT prog 33=some true:=by kernel_rfl
theorem ag4:isAggT prog 4=some false:=by kernel_rfl
theorem ag43:isAggT prog 43=some false:=by kernel_rfl
theorem ag45:isAggT prog 45=some true:=by kernel_rfl
theorem ag47:isAggT prog 47=some true:=by kernel_rfl
theorem ag5:isAggT prog 5=some false:=by kernel_rfl
theorem ag78:isAggT prog 78=some false:=by kernel_rfl
theorem ag80:isAggT prog 80=some true:=by kernel_rfl
theorem ag92:isAggT prog 92=some false:=by kernel_rfl
theorem ag94:isAggT prog 94=some true:=by kernel_rfl
theorem ag96:isAggT prog 96=some true:=by kernel_rfl
theorem ap149:appT prog 149=some (1,8):=by kernel_rfl
theorem ap29:appT prog 29=some (1,8):=by kernel_rfl
theorem ap78:appT prog 78=some (3,24):=by kernel_rfl
theorem ap92:appT prog 92=some (1,8):=by kernel_rfl
theorem ar184:arrOf prog 184=some (5,1):=by kernel_rfl
theorem ar206:arrOf prog 206=some (8,1):=by kernel_rfl
theorem ar45:arrOf prog 45=some (8,1):=by kernel_rfl
theorem as115:allSized prog 115=true:=by kernel_rfl
theorem as121:allSized prog 121=true:=by kernel_rfl
theorem as123:allSized prog 123=true:=by kernel_rfl
theorem as133:allSized prog 133=true:=by kernel_rfl
theorem as135:allSized prog 135=true:=by kernel_rfl
theorem as151:allSized prog 151=true:=by kernel_rfl
theorem as154:allSized prog 154=true:=by kernel_rfl
theorem as156:allSized prog 156=true:=by kernel_rfl
theorem as184:allSized prog 184=true:=by kernel_rfl
theorem as206:allSized prog 206=true:=by kernel_rfl
theorem as208:allSized prog 208=true:=by kernel_rfl
theorem as45:allSized prog 45=true:=by kernel_rfl
theorem as47:allSized prog 47=true:=by kernel_rfl
theorem as80:allSized prog 80=true:=by kernel_rfl
theorem as94:allSized prog 94=true:=by kernel_rfl
theorem as96:allSized prog 96=true:=by kernel_rfl
theorem eg45:prog.eqGuardType prog.depth 45=false:=by kernel_rfl
theorem es149:elemSize prog 149=some 1:=by kernel_rfl
theorem es175:elemSize prog 175=some 16:=by kernel_rfl
theorem es22:elemSize prog 22=some 1:=by kernel_rfl
theorem es29:elemSize prog 29=some 1:=by kernel_rfl
theorem es78:elemSize prog 78=some 3:=by kernel_rfl
theorem es92:elemSize prog 92=some 1:=by kernel_rfl
theorem fa115_0:fieldAt prog 115 0=some 0:=by kernel_rfl
theorem fa115_1:fieldAt prog 115 1=some 1:=by kernel_rfl
theorem fa121_0:fieldAt prog 121 0=some 0:=by kernel_rfl
theorem fa121_1:fieldAt prog 121 1=some 1:=by kernel_rfl
theorem fa121_2:fieldAt prog 121 2=some 2:=by kernel_rfl
theorem fa123_0:fieldAt prog 123 0=some 0:=by kernel_rfl
theorem fa123_1:fieldAt prog 123 1=some 3:=by kernel_rfl
theorem fa133_0:fieldAt prog 133 0=some 0:=by kernel_rfl
theorem fa133_1:fieldAt prog 133 1=some 1:=by kernel_rfl
theorem fa135_0:fieldAt prog 135 0=some 0:=by kernel_rfl
theorem fa135_1:fieldAt prog 135 1=some 2:=by kernel_rfl
theorem fa151_0:fieldAt prog 151 0=some 0:=by kernel_rfl
theorem fa151_1:fieldAt prog 151 1=some 1:=by kernel_rfl
theorem fa151_2:fieldAt prog 151 2=some 2:=by kernel_rfl
theorem fa154_0:fieldAt prog 154 0=some 0:=by kernel_rfl
theorem fa154_1:fieldAt prog 154 1=some 1:=by kernel_rfl
theorem fa156_0:fieldAt prog 156 0=some 0:=by kernel_rfl
theorem fa156_1:fieldAt prog 156 1=some 2:=by kernel_rfl
theorem fa156_2:fieldAt prog 156 2=some 3:=by kernel_rfl
theorem fa208_0:fieldAt prog 208 0=some 0:=by kernel_rfl
theorem fa208_1:fieldAt prog 208 1=some 1:=by kernel_rfl
theorem fa26_0:fieldAt prog 26 0=some 0:=by kernel_rfl
theorem fa26_1:fieldAt prog 26 1=some 1:=by kernel_rfl
theorem fa26_3:fieldAt prog 26 3=some 3:=by kernel_rfl
theorem fa28_0:fieldAt prog 28 0=some 0:=by kernel_rfl
theorem fa28_1:fieldAt prog 28 1=some 1:=by kernel_rfl
theorem fa28_2:fieldAt prog 28 2=some 2:=by kernel_rfl
theorem fa33_0:fieldAt prog 33 0=some 0:=by kernel_rfl
theorem fa33_1:fieldAt prog 33 1=some 1:=by kernel_rfl
theorem fa33_2:fieldAt prog 33 2=some 2:=by kernel_rfl
theorem fa47_0:fieldAt prog 47 0=some 0:=by kernel_rfl
theorem fa47_1:fieldAt prog 47 1=some 8:=by kernel_rfl
theorem fa80_0:fieldAt prog 80 0=some 0:=by kernel_rfl
theorem fa80_1:fieldAt prog 80 1=some 1:=by kernel_rfl
theorem fa94_0:fieldAt prog 94 0=some 0:=by kernel_rfl
theorem fa94_1:fieldAt prog 94 1=some 1:=by kernel_rfl
theorem fa96_0:fieldAt prog 96 0=some 0:=by kernel_rfl
theorem fa96_1:fieldAt prog 96 1=some 2:=by kernel_rfl
theorem fp94_1:fieldPart prog 94 1=some (false,1,1):=by kernel_rfl
theorem is24:(Program.underlying prog 24).isSome=true:=by kernel_rfl
theorem is3:(Program.underlying prog 3).isSome=true:=by kernel_rfl
theorem is43:(Program.underlying prog 43).isSome=true:=by kernel_rfl
theorem is5:(Program.underlying prog 5).isSome=true:=by kernel_rfl
theorem mk149:makeT prog 149=some (1,8,[.pointer none]):=by kernel_rfl
theorem mk175:makeT prog 175=some (16,128,[.int .u64 (0),.int .u64 (0),.int .u64 (0),.int .u64 (0),.int .u64 (0),.int .u64 (0),.int .u64 (0),.int .u64 (0),.int .u64 (0),.int .u64 (0),.int .u64 (0),.int .u64 (0),.int .u64 (0),.int .u64 (0),.int .u64 (0),.int .u64 (0)]):=by kernel_rfl
theorem mk29:makeT prog 29=some (1,8,[.int .i64 (0)]):=by kernel_rfl
theorem mk78:makeT prog 78=some (3,24,[.int .i64 (0),.int .i64 (0),.int .i64 (0)]):=by kernel_rfl
theorem mk92:makeT prog 92=some (1,8,[.int .u64 (0)]):=by kernel_rfl
theorem pl115_0:placeOf prog 115 0=some (0,1):=by kernel_rfl
theorem pl115_1:placeOf prog 115 1=some (1,16):=by kernel_rfl
theorem pl121_0:placeOf prog 121 0=some (0,1):=by kernel_rfl
theorem pl121_1:placeOf prog 121 1=some (1,1):=by kernel_rfl
theorem pl121_2:placeOf prog 121 2=some (2,1):=by kernel_rfl
theorem pl123_0:placeOf prog 123 0=some (0,3):=by kernel_rfl
theorem pl123_1:placeOf prog 123 1=some (3,1):=by kernel_rfl
theorem pl133_0:placeOf prog 133 0=some (0,1):=by kernel_rfl
theorem pl133_1:placeOf prog 133 1=some (1,1):=by kernel_rfl
theorem pl135_0:placeOf prog 135 0=some (0,2):=by kernel_rfl
theorem pl135_1:placeOf prog 135 1=some (2,2):=by kernel_rfl
theorem pl151_0:placeOf prog 151 0=some (0,1):=by kernel_rfl
theorem pl151_2:placeOf prog 151 2=some (2,1):=by kernel_rfl
theorem pl154_0:placeOf prog 154 0=some (0,1):=by kernel_rfl
theorem pl154_1:placeOf prog 154 1=some (1,1):=by kernel_rfl
theorem pl156_0:placeOf prog 156 0=some (0,2):=by kernel_rfl
theorem pl156_1:placeOf prog 156 1=some (2,1):=by kernel_rfl
theorem pl156_2:placeOf prog 156 2=some (3,17):=by kernel_rfl
theorem pl184_0:placeOf prog 184 0=some (0,1):=by kernel_rfl
theorem pl184_1:placeOf prog 184 1=some (1,1):=by kernel_rfl
theorem pl184_2:placeOf prog 184 2=some (2,1):=by kernel_rfl
theorem pl184_3:placeOf prog 184 3=some (3,1):=by kernel_rfl
theorem pl184_4:placeOf prog 184 4=some (4,1):=by kernel_rfl
theorem pl206_7:placeOf prog 206 7=some (7,1):=by kernel_rfl
theorem pl208_0:placeOf prog 208 0=some (0,1):=by kernel_rfl
theorem pl208_1:placeOf prog 208 1=some (1,8):=by kernel_rfl
theorem pl45_0:placeOf prog 45 0=some (0,1):=by kernel_rfl
theorem pl47_0:placeOf prog 47 0=some (0,8):=by kernel_rfl
theorem pl47_1:placeOf prog 47 1=some (8,8):=by kernel_rfl
theorem pl80_0:placeOf prog 80 0=some (0,1):=by kernel_rfl
theorem pl94_0:placeOf prog 94 0=some (0,1):=by kernel_rfl
theorem pl94_1:placeOf prog 94 1=some (1,1):=by kernel_rfl
theorem pl96_0:placeOf prog 96 0=some (0,2):=by kernel_rfl
theorem pl96_1:placeOf prog 96 1=some (2,2):=by kernel_rfl
theorem sl149:isSliceT prog (some 149)=true:=by kernel_rfl
theorem sl175:isSliceT prog (some 175)=true:=by kernel_rfl
theorem sl22:isSliceT prog (some 22)=true:=by kernel_rfl
theorem sl29:isSliceT prog (some 29)=true:=by kernel_rfl
theorem sl78:isSliceT prog (some 78)=true:=by kernel_rfl
theorem sl92:isSliceT prog (some 92)=true:=by kernel_rfl
theorem sz115:sizeT prog 115=some 17:=by kernel_rfl
theorem sz121:sizeT prog 121=some 3:=by kernel_rfl
theorem sz123:sizeT prog 123=some 4:=by kernel_rfl
theorem sz133:sizeT prog 133=some 2:=by kernel_rfl
theorem sz135:sizeT prog 135=some 4:=by kernel_rfl
theorem sz149:sizeT prog 149=some 1:=by kernel_rfl
theorem sz151:sizeT prog 151=some 3:=by kernel_rfl
theorem sz152:sizeT prog 152=some 1:=by kernel_rfl
theorem sz184:sizeT prog 184=some 5:=by kernel_rfl
theorem sz206:sizeT prog 206=some 8:=by kernel_rfl
theorem sz208:sizeT prog 208=some 9:=by kernel_rfl
theorem sz26:sizeT prog 26=some 4:=by kernel_rfl
theorem sz28:sizeT prog 28=some 5:=by kernel_rfl
theorem sz29:sizeT prog 29=some 1:=by kernel_rfl
theorem sz3:sizeT prog 3=some 1:=by kernel_rfl
theorem sz33:sizeT prog 33=some 3:=by kernel_rfl
theorem sz4:sizeT prog 4=some 1:=by kernel_rfl
theorem sz43:sizeT prog 43=some 1:=by kernel_rfl
theorem sz45:sizeT prog 45=some 8:=by kernel_rfl
theorem sz47:sizeT prog 47=some 16:=by kernel_rfl
theorem sz78:sizeT prog 78=some 1:=by kernel_rfl
theorem sz80:sizeT prog 80=some 2:=by kernel_rfl
theorem sz94:sizeT prog 94=some 2:=by kernel_rfl
theorem sz96:sizeT prog 96=some 4:=by kernel_rfl
theorem u115:Program.underlying prog 115=some (.struct { toList:=[{ name := "endless",type:=4,offset:=0,embedded:=false,tag := "",pkgPath := "wardmote/divisor",byteOffset:=0 },{ name := "value",type:=47,offset:=1,embedded:=false,tag := "",pkgPath := "wardmote/divisor",byteOffset:=8 }] }):=by kernel_rfl
theorem u145:Program.underlying prog 145=some (.int .u64):=by kernel_rfl
theorem u149:Program.underlying prog 149=some (.slice 152):=by kernel_rfl
theorem u206:Program.underlying prog 206=some (.array 8 43):=by kernel_rfl
theorem u29:Program.underlying prog 29=some (.slice 3):=by kernel_rfl
theorem u3:Program.underlying prog 3=some (.int .i64):=by kernel_rfl
theorem u4:Program.underlying prog 4=some .bool:=by kernel_rfl
theorem u43:Program.underlying prog 43=some (.int .u64):=by kernel_rfl
theorem u45:Program.underlying prog 45=some (.array 8 43):=by kernel_rfl
theorem u5:Program.underlying prog 5=some (.int .u8):=by kernel_rfl
theorem u9:Program.underlying prog 9=some .string:=by kernel_rfl
theorem u92:Program.underlying prog 92=some (.slice 43):=by kernel_rfl
theorem zc115:zeroCellsT prog 115=some [.bool false,.int .u64 (0),.int .u64 (0),.int .u64 (0),.int .u64 (0),.int .u64 (0),.int .u64 (0),.int .u64 (0),.int .u64 (0),.int .u64 (0),.int .u64 (0),.int .u64 (0),.int .u64 (0),.int .u64 (0),.int .u64 (0),.int .u64 (0),.int .u64 (0)]:=by kernel_rfl
theorem zc121:zeroCellsT prog 121=some [.int .i64 (0),.int .i64 (0),.int .i64 (0)]:=by kernel_rfl
theorem zc123:zeroCellsT prog 123=some [.int .i64 (0),.int .i64 (0),.int .i64 (0),.int .i64 (0)]:=by kernel_rfl
theorem zc133:zeroCellsT prog 133=some [.bool false,.slice none 0 0]:=by kernel_rfl
theorem zc135:zeroCellsT prog 135=some [.bool false,.slice none 0 0,.bool false,.slice none 0 0]:=by kernel_rfl
theorem zc149:zeroCellsT prog 149=some [.slice none 0 0]:=by kernel_rfl
theorem zc151:zeroCellsT prog 151=some [.int .i64 (0),.slice none 0 0,.int .i64 (0)]:=by kernel_rfl
theorem zc154:zeroCellsT prog 154=some [.int .i64 (0),.int .i64 (0)]:=by kernel_rfl
theorem zc156:zeroCellsT prog 156=some [.int .i64 (0),.int .i64 (0),.int .i64 (0),.bool false,.int .u64 (0),.int .u64 (0),.int .u64 (0),.int .u64 (0),.int .u64 (0),.int .u64 (0),.int .u64 (0),.int .u64 (0),.int .u64 (0),.int .u64 (0),.int .u64 (0),.int .u64 (0),.int .u64 (0),.int .u64 (0),.int .u64 (0),.int .u64 (0)]:=by kernel_rfl
theorem zc184:zeroCellsT prog 184=some [.nilFunc,.nilFunc,.nilFunc,.nilFunc,.nilFunc]:=by kernel_rfl
theorem zc206:zeroCellsT prog 206=some [.int .u64 (0),.int .u64 (0),.int .u64 (0),.int .u64 (0),.int .u64 (0),.int .u64 (0),.int .u64 (0),.int .u64 (0)]:=by kernel_rfl
theorem zc208:zeroCellsT prog 208=some [.bool false,.int .u64 (0),.int .u64 (0),.int .u64 (0),.int .u64 (0),.int .u64 (0),.int .u64 (0),.int .u64 (0),.int .u64 (0)]:=by kernel_rfl
theorem zc29:zeroCellsT prog 29=some [.slice none 0 0]:=by kernel_rfl
theorem zc33:zeroCellsT prog 33=some [.slice none 0 0,.slice none 0 0,.int .i64 (0)]:=by kernel_rfl
theorem zc4:zeroCellsT prog 4=some [.bool false]:=by kernel_rfl
theorem zc45:zeroCellsT prog 45=some [.int .u64 (0),.int .u64 (0),.int .u64 (0),.int .u64 (0),.int .u64 (0),.int .u64 (0),.int .u64 (0),.int .u64 (0)]:=by kernel_rfl
theorem zc47:zeroCellsT prog 47=some [.int .u64 (0),.int .u64 (0),.int .u64 (0),.int .u64 (0),.int .u64 (0),.int .u64 (0),.int .u64 (0),.int .u64 (0),.int .u64 (0),.int .u64 (0),.int .u64 (0),.int .u64 (0),.int .u64 (0),.int .u64 (0),.int .u64 (0),.int .u64 (0)]:=by kernel_rfl
theorem zc80:zeroCellsT prog 80=some [.int .i64 (0),.slice none 0 0]:=by kernel_rfl
theorem zc94:zeroCellsT prog 94=some [.bool false,.slice none 0 0]:=by kernel_rfl
theorem zc96:zeroCellsT prog 96=some [.bool false,.slice none 0 0,.bool false,.slice none 0 0]:=by kernel_rfl
theorem ba149_149 (h:IH) (x y:Value):builtin prog h .append #[149,149] [x,y]=append prog h 149 x y:=builtin_append prog h 149 149 x y sl149
theorem ba29_29 (h:IH) (x y:Value):builtin prog h .append #[29,29] [x,y]=append prog h 29 x y:=builtin_append prog h 29 29 x y sl29
theorem ba78_78 (h:IH) (x y:Value):builtin prog h .append #[78,78] [x,y]=append prog h 78 x y:=builtin_append prog h 78 78 x y sl78
theorem ba92_92 (h:IH) (x y:Value):builtin prog h .append #[92,92] [x,y]=append prog h 92 x y:=builtin_append prog h 92 92 x y sl92
theorem be4 (ox oy:Operand) (a b:Bool):binop prog .eql 4 ox oy (.bool a) (.bool b)=some (.bool (a == b)):=binop_eql_bool u4 ox oy a b
theorem bn4 (ox oy:Operand) (a b:Bool):binop prog .neq 4 ox oy (.bool a) (.bool b)=some (.bool (!(a == b))):=binop_neq_bool u4 ox oy a b
theorem bs149 (h:IH) (len:Nat) (ps:List (Nat×Value)) (hl:len*1≤16777216):buildSlice prog h 149 len ps=(fillP (fun i=>some (i*1,1)) (repl len [.pointer none]) ps).map fun cells=>(.slice (some ⟨2*h.n,0,none⟩) len (2*len+1),h.new (.cells cells 1 none)):=buildSlice_eq mk149 h len ps hl
theorem bs175 (h:IH) (len:Nat) (ps:List (Nat×Value)) (hl:len*16≤16777216):buildSlice prog h 175 len ps=(fillP (fun i=>some (i*16,16)) (repl len [.int .u64 (0),.int .u64 (0),.int .u64 (0),.int .u64 (0),.int .u64 (0),.int .u64 (0),.int .u64 (0),.int .u64 (0),.int .u64 (0),.int .u64 (0),.int .u64 (0),.int .u64 (0),.int .u64 (0),.int .u64 (0),.int .u64 (0),.int .u64 (0)]) ps).map fun cells=>(.slice (some ⟨2*h.n,0,none⟩) len (2*len+1),h.new (.cells cells 16 none)):=buildSlice_eq mk175 h len ps hl
theorem bs29 (h:IH) (len:Nat) (ps:List (Nat×Value)) (hl:len*1≤16777216):buildSlice prog h 29 len ps=(fillP (fun i=>some (i*1,1)) (repl len [.int .i64 (0)]) ps).map fun cells=>(.slice (some ⟨2*h.n,0,none⟩) len (2*len+1),h.new (.cells cells 1 none)):=buildSlice_eq mk29 h len ps hl
theorem bs78 (h:IH) (len:Nat) (ps:List (Nat×Value)) (hl:len*3≤16777216):buildSlice prog h 78 len ps=(fillP (fun i=>some (i*3,3)) (repl len [.int .i64 (0),.int .i64 (0),.int .i64 (0)]) ps).map fun cells=>(.slice (some ⟨2*h.n,0,none⟩) len (2*len+1),h.new (.cells cells 3 none)):=buildSlice_eq mk78 h len ps hl
theorem bs92 (h:IH) (len:Nat) (ps:List (Nat×Value)) (hl:len*1≤16777216):buildSlice prog h 92 len ps=(fillP (fun i=>some (i*1,1)) (repl len [.int .u64 (0)]) ps).map fun cells=>(.slice (some ⟨2*h.n,0,none⟩) len (2*len+1),h.new (.cells cells 1 none)):=buildSlice_eq mk92 h len ps hl
theorem bv115 (ps:List (Nat×Value)):buildV prog 115 ps=(fillP (placeOf prog 115) [.bool false,.int .u64 (0),.int .u64 (0),.int .u64 (0),.int .u64 (0),.int .u64 (0),.int .u64 (0),.int .u64 (0),.int .u64 (0),.int .u64 (0),.int .u64 (0),.int .u64 (0),.int .u64 (0),.int .u64 (0),.int .u64 (0),.int .u64 (0),.int .u64 (0)] ps).map fun cs=>.agg cs.toArray:=buildV_eq zc115 as115 ps
theorem bv121 (ps:List (Nat×Value)):buildV prog 121 ps=(fillP (placeOf prog 121) [.int .i64 (0),.int .i64 (0),.int .i64 (0)] ps).map fun cs=>.agg cs.toArray:=buildV_eq zc121 as121 ps
theorem bv123 (ps:List (Nat×Value)):buildV prog 123 ps=(fillP (placeOf prog 123) [.int .i64 (0),.int .i64 (0),.int .i64 (0),.int .i64 (0)] ps).map fun cs=>.agg cs.toArray:=buildV_eq zc123 as123 ps
theorem bv133 (ps:List (Nat×Value)):buildV prog 133 ps=(fillP (placeOf prog 133) [.bool false,.slice none 0 0] ps).map fun cs=>.agg cs.toArray:=buildV_eq zc133 as133 ps
theorem bv135 (ps:List (Nat×Value)):buildV prog 135 ps=(fillP (placeOf prog 135) [.bool false,.slice none 0 0,.bool false,.slice none 0 0] ps).map fun cs=>.agg cs.toArray:=buildV_eq zc135 as135 ps
theorem bv151 (ps:List (Nat×Value)):buildV prog 151 ps=(fillP (placeOf prog 151) [.int .i64 (0),.slice none 0 0,.int .i64 (0)] ps).map fun cs=>.agg cs.toArray:=buildV_eq zc151 as151 ps
theorem bv154 (ps:List (Nat×Value)):buildV prog 154 ps=(fillP (placeOf prog 154) [.int .i64 (0),.int .i64 (0)] ps).map fun cs=>.agg cs.toArray:=buildV_eq zc154 as154 ps
theorem bv156 (ps:List (Nat×Value)):buildV prog 156 ps=(fillP (placeOf prog 156) [.int .i64 (0),.int .i64 (0),.int .i64 (0),.bool false,.int .u64 (0),.int .u64 (0),.int .u64 (0),.int .u64 (0),.int .u64 (0),.int .u64 (0),.int .u64 (0),.int .u64 (0),.int .u64 (0),.int .u64 (0),.int .u64 (0),.int .u64 (0),.int .u64 (0),.int .u64 (0),.int .u64 (0),.int .u64 (0)] ps).map fun cs=>.agg cs.toArray:=buildV_eq zc156 as156 ps
theorem bv184 (ps:List (Nat×Value)):buildV prog 184 ps=(fillP (placeOf prog 184) [.nilFunc,.nilFunc,.nilFunc,.nilFunc,.nilFunc] ps).map fun cs=>.agg cs.toArray:=buildV_eq zc184 as184 ps
theorem bv206 (ps:List (Nat×Value)):buildV prog 206 ps=(fillP (placeOf prog 206) [.int .u64 (0),.int .u64 (0),.int .u64 (0),.int .u64 (0),.int .u64 (0),.int .u64 (0),.int .u64 (0),.int .u64 (0)] ps).map fun cs=>.agg cs.toArray:=buildV_eq zc206 as206 ps
theorem bv208 (ps:List (Nat×Value)):buildV prog 208 ps=(fillP (placeOf prog 208) [.bool false,.int .u64 (0),.int .u64 (0),.int .u64 (0),.int .u64 (0),.int .u64 (0),.int .u64 (0),.int .u64 (0),.int .u64 (0)] ps).map fun cs=>.agg cs.toArray:=buildV_eq zc208 as208 ps
theorem bv45 (ps:List (Nat×Value)):buildV prog 45 ps=(fillP (placeOf prog 45) [.int .u64 (0),.int .u64 (0),.int .u64 (0),.int .u64 (0),.int .u64 (0),.int .u64 (0),.int .u64 (0),.int .u64 (0)] ps).map fun cs=>.agg cs.toArray:=buildV_eq zc45 as45 ps
theorem bv47 (ps:List (Nat×Value)):buildV prog 47 ps=(fillP (placeOf prog 47) [.int .u64 (0),.int .u64 (0),.int .u64 (0),.int .u64 (0),.int .u64 (0),.int .u64 (0),.int .u64 (0),.int .u64 (0),.int .u64 (0),.int .u64 (0),.int .u64 (0),.int .u64 (0),.int .u64 (0),.int .u64 (0),.int .u64 (0),.int .u64 (0)] ps).map fun cs=>.agg cs.toArray:=buildV_eq zc47 as47 ps
theorem bv80 (ps:List (Nat×Value)):buildV prog 80 ps=(fillP (placeOf prog 80) [.int .i64 (0),.slice none 0 0] ps).map fun cs=>.agg cs.toArray:=buildV_eq zc80 as80 ps
theorem bv94 (ps:List (Nat×Value)):buildV prog 94 ps=(fillP (placeOf prog 94) [.bool false,.slice none 0 0] ps).map fun cs=>.agg cs.toArray:=buildV_eq zc94 as94 ps
theorem bv96 (ps:List (Nat×Value)):buildV prog 96 ps=(fillP (placeOf prog 96) [.bool false,.slice none 0 0,.bool false,.slice none 0 0] ps).map fun cs=>.agg cs.toArray:=buildV_eq zc96 as96 ps
theorem cv24_3 (k:IntKind) (n:Int):convV prog 24 3 (.int k n)=some (.int .i64 (IntKind.i64.wrap n)):=convV_int is24 u3
theorem cv3_145 (k:IntKind) (n:Int):convV prog 3 145 (.int k n)=some (.int .u64 (IntKind.u64.wrap n)):=convV_int is3 u145
theorem cv3_43 (k:IntKind) (n:Int):convV prog 3 43 (.int k n)=some (.int .u64 (IntKind.u64.wrap n)):=convV_int is3 u43
theorem cv43_3 (k:IntKind) (n:Int):convV prog 43 3 (.int k n)=some (.int .i64 (IntKind.i64.wrap n)):=convV_int is43 u3
theorem cv43_5 (k:IntKind) (n:Int):convV prog 43 5 (.int k n)=some (.int .u8 (IntKind.u8.wrap n)):=convV_int is43 u5
theorem cv5_3 (k:IntKind) (n:Int):convV prog 5 3 (.int k n)=some (.int .i64 (IntKind.i64.wrap n)):=convV_int is5 u3
theorem ld115 (h:IH) (b o:Nat):load prog h 115 (ptr b o)=(h.rd b o 17).map fun cs=>.agg cs.toArray:=load_agg ag115 sz115 h b o
theorem ld121 (h:IH) (b o:Nat):load prog h 121 (ptr b o)=(h.rd b o 3).map fun cs=>.agg cs.toArray:=load_agg ag121 sz121 h b o
theorem ld123 (h:IH) (b o:Nat):load prog h 123 (ptr b o)=(h.rd b o 4).map fun cs=>.agg cs.toArray:=load_agg ag123 sz123 h b o
theorem ld127 (h:IH) (b o:Nat):load prog h 127 (ptr b o)=ld h b o:=load_scal ag127 h b o
theorem ld133 (h:IH) (b o:Nat):load prog h 133 (ptr b o)=(h.rd b o 2).map fun cs=>.agg cs.toArray:=load_agg ag133 sz133 h b o
theorem ld135 (h:IH) (b o:Nat):load prog h 135 (ptr b o)=(h.rd b o 4).map fun cs=>.agg cs.toArray:=load_agg ag135 sz135 h b o
theorem ld149 (h:IH) (b o:Nat):load prog h 149 (ptr b o)=ld h b o:=load_scal ag149 h b o
theorem ld159 (h:IH) (b o:Nat):load prog h 159 (ptr b o)=ld h b o:=load_scal ag159 h b o
theorem ld182 (h:IH) (b o:Nat):load prog h 182 (ptr b o)=ld h b o:=load_scal ag182 h b o
theorem ld185 (h:IH) (b o:Nat):load prog h 185 (ptr b o)=ld h b o:=load_scal ag185 h b o
theorem ld206 (h:IH) (b o:Nat):load prog h 206 (ptr b o)=(h.rd b o 8).map fun cs=>.agg cs.toArray:=load_agg ag206 sz206 h b o
theorem ld208 (h:IH) (b o:Nat):load prog h 208 (ptr b o)=(h.rd b o 9).map fun cs=>.agg cs.toArray:=load_agg ag208 sz208 h b o
theorem ld22 (h:IH) (b o:Nat):load prog h 22 (ptr b o)=ld h b o:=load_scal ag22 h b o
theorem ld24 (h:IH) (b o:Nat):load prog h 24 (ptr b o)=ld h b o:=load_scal ag24 h b o
theorem ld26 (h:IH) (b o:Nat):load prog h 26 (ptr b o)=(h.rd b o 4).map fun cs=>.agg cs.toArray:=load_agg ag26 sz26 h b o
theorem ld28 (h:IH) (b o:Nat):load prog h 28 (ptr b o)=(h.rd b o 5).map fun cs=>.agg cs.toArray:=load_agg ag28 sz28 h b o
theorem ld29 (h:IH) (b o:Nat):load prog h 29 (ptr b o)=ld h b o:=load_scal ag29 h b o
theorem ld3 (h:IH) (b o:Nat):load prog h 3 (ptr b o)=ld h b o:=load_scal ag3 h b o
theorem ld33 (h:IH) (b o:Nat):load prog h 33 (ptr b o)=(h.rd b o 3).map fun cs=>.agg cs.toArray:=load_agg ag33 sz33 h b o
theorem ld4 (h:IH) (b o:Nat):load prog h 4 (ptr b o)=ld h b o:=load_scal ag4 h b o
theorem ld43 (h:IH) (b o:Nat):load prog h 43 (ptr b o)=ld h b o:=load_scal ag43 h b o
theorem ld45 (h:IH) (b o:Nat):load prog h 45 (ptr b o)=(h.rd b o 8).map fun cs=>.agg cs.toArray:=load_agg ag45 sz45 h b o
theorem ld47 (h:IH) (b o:Nat):load prog h 47 (ptr b o)=(h.rd b o 16).map fun cs=>.agg cs.toArray:=load_agg ag47 sz47 h b o
theorem ld5 (h:IH) (b o:Nat):load prog h 5 (ptr b o)=ld h b o:=load_scal ag5 h b o
theorem ld78 (h:IH) (b o:Nat):load prog h 78 (ptr b o)=ld h b o:=load_scal ag78 h b o
theorem ld80 (h:IH) (b o:Nat):load prog h 80 (ptr b o)=(h.rd b o 2).map fun cs=>.agg cs.toArray:=load_agg ag80 sz80 h b o
theorem ld92 (h:IH) (b o:Nat):load prog h 92 (ptr b o)=ld h b o:=load_scal ag92 h b o
theorem ld94 (h:IH) (b o:Nat):load prog h 94 (ptr b o)=(h.rd b o 2).map fun cs=>.agg cs.toArray:=load_agg ag94 sz94 h b o
theorem ld96 (h:IH) (b o:Nat):load prog h 96 (ptr b o)=(h.rd b o 4).map fun cs=>.agg cs.toArray:=load_agg ag96 sz96 h b o
theorem ln29 (h:IH) (a:Option Addr) (n c:Nat):lenB prog h 29 (.slice a n c)=some (.int .i64 n):=lenB_slice sl29 h a n c
theorem ms29 (h:IH) (k j:IntKind) {l c:Int} (h0:0≤l) (h1:l≤c) (h2:c*9≤1099511627776):makeSlice prog h 29 (.int k l) (.int j c)=some (.slice (some ⟨2*h.n,0,none⟩) l.toNat (2*c.toNat+1),h.new (.cells (repl c.toNat [.int .i64 (0)]) 1 none)):=makeSlice_eq mk29 h k j h0 h1 h2
theorem ms92 (h:IH) (k j:IntKind) {l c:Int} (h0:0≤l) (h1:l≤c) (h2:c*9≤1099511627776):makeSlice prog h 92 (.int k l) (.int j c)=some (.slice (some ⟨2*h.n,0,none⟩) l.toNat (2*c.toNat+1),h.new (.cells (repl c.toNat [.int .u64 (0)]) 1 none)):=makeSlice_eq mk92 h k j h0 h1 h2
theorem st115 (h:IH) (k o:Nat) (v:Value):store prog h 115 (ptr (2*k) o) v=stE 17 h k o v.cells.toList (h.ext.get k):=store_stE sz115 h k o v
theorem st121 (h:IH) (k o:Nat) (v:Value):store prog h 121 (ptr (2*k) o) v=stE 3 h k o v.cells.toList (h.ext.get k):=store_stE sz121 h k o v
theorem st123 (h:IH) (k o:Nat) (v:Value):store prog h 123 (ptr (2*k) o) v=stE 4 h k o v.cells.toList (h.ext.get k):=store_stE sz123 h k o v
theorem st133 (h:IH) (k o:Nat) (v:Value):store prog h 133 (ptr (2*k) o) v=stE 2 h k o v.cells.toList (h.ext.get k):=store_stE sz133 h k o v
theorem st135 (h:IH) (k o:Nat) (v:Value):store prog h 135 (ptr (2*k) o) v=stE 4 h k o v.cells.toList (h.ext.get k):=store_stE sz135 h k o v
theorem st149 (h:IH) (k o:Nat) (v:Value):store prog h 149 (ptr (2*k) o) v=stE 1 h k o v.cells.toList (h.ext.get k):=store_stE sz149 h k o v
theorem st151 (h:IH) (k o:Nat) (v:Value):store prog h 151 (ptr (2*k) o) v=stE 3 h k o v.cells.toList (h.ext.get k):=store_stE sz151 h k o v
theorem st184 (h:IH) (k o:Nat) (v:Value):store prog h 184 (ptr (2*k) o) v=stE 5 h k o v.cells.toList (h.ext.get k):=store_stE sz184 h k o v
theorem st206 (h:IH) (k o:Nat) (v:Value):store prog h 206 (ptr (2*k) o) v=stE 8 h k o v.cells.toList (h.ext.get k):=store_stE sz206 h k o v
theorem st208 (h:IH) (k o:Nat) (v:Value):store prog h 208 (ptr (2*k) o) v=stE 9 h k o v.cells.toList (h.ext.get k):=store_stE sz208 h k o v
theorem st29 (h:IH) (k o:Nat) (v:Value):store prog h 29 (ptr (2*k) o) v=stE 1 h k o v.cells.toList (h.ext.get k):=store_stE sz29 h k o v
theorem st3 (h:IH) (k o:Nat) (v:Value):store prog h 3 (ptr (2*k) o) v=stE 1 h k o v.cells.toList (h.ext.get k):=store_stE sz3 h k o v
theorem st33 (h:IH) (k o:Nat) (v:Value):store prog h 33 (ptr (2*k) o) v=stE 3 h k o v.cells.toList (h.ext.get k):=store_stE sz33 h k o v
theorem st4 (h:IH) (k o:Nat) (v:Value):store prog h 4 (ptr (2*k) o) v=stE 1 h k o v.cells.toList (h.ext.get k):=store_stE sz4 h k o v
theorem st43 (h:IH) (k o:Nat) (v:Value):store prog h 43 (ptr (2*k) o) v=stE 1 h k o v.cells.toList (h.ext.get k):=store_stE sz43 h k o v
theorem st45 (h:IH) (k o:Nat) (v:Value):store prog h 45 (ptr (2*k) o) v=stE 8 h k o v.cells.toList (h.ext.get k):=store_stE sz45 h k o v
theorem st47 (h:IH) (k o:Nat) (v:Value):store prog h 47 (ptr (2*k) o) v=stE 16 h k o v.cells.toList (h.ext.get k):=store_stE sz47 h k o v
theorem st78 (h:IH) (k o:Nat) (v:Value):store prog h 78 (ptr (2*k) o) v=stE 1 h k o v.cells.toList (h.ext.get k):=store_stE sz78 h k o v
theorem st80 (h:IH) (k o:Nat) (v:Value):store prog h 80 (ptr (2*k) o) v=stE 2 h k o v.cells.toList (h.ext.get k):=store_stE sz80 h k o v
theorem st94 (h:IH) (k o:Nat) (v:Value):store prog h 94 (ptr (2*k) o) v=stE 2 h k o v.cells.toList (h.ext.get k):=store_stE sz94 h k o v
theorem st96 (h:IH) (k o:Nat) (v:Value):store prog h 96 (ptr (2*k) o) v=stE 4 h k o v.cells.toList (h.ext.get k):=store_stE sz96 h k o v
end Go.Id

namespace Go.Id
def valT (ds:List Nat):Nat→Nat
 | 0=>0
 | k+1=>valT ds k+ds.getD k 0*4294967296 ^ k
def valD (ds:List Nat):Nat:=valT ds ds.length
def Digs (ds:List Nat):Prop:=∀d∈ds,d<4294967296
def Norm (ds:List Nat):Prop:=ds = []∨ds.getD (ds.length - 1) 0≠0
theorem getD_lt {ds:List Nat} (h:Digs ds) (k:Nat):ds.getD k 0<4294967296:=by
 rw[List.getD_eq_getElem?_getD]
 cases hx:ds[k]? with
 | none=>simp
 | some x=>simpa using h x (List.mem_of_getElem? hx)
theorem getD_of_ge {ds:List Nat} {k:Nat} (h:ds.length≤k):ds.getD k 0=0:=by
 rw[List.getD_eq_getElem?_getD,List.getElem?_eq_none h];rfl
theorem pow_pos' (k:Nat):0<4294967296 ^ k:=Nat.pow_pos (by omega)
theorem valT_lt {ds:List Nat} (h:Digs ds) : ∀k,valT ds k<4294967296 ^ k
 | 0=>by simp[valT]
 | k+1=>by
  have ih:=valT_lt h k
  have hd:=getD_lt h k
  have h2:ds.getD k 0*4294967296 ^ k≤4294967295*4294967296 ^ k:=Nat.mul_le_mul_right _ (by omega)
  rw[valT,Nat.pow_succ]
  omega
theorem valT_ge {ds:List Nat} : ∀{k:Nat},ds.length≤k→valT ds k=valD ds
 | 0,h=>by
  have:ds = []:=List.length_eq_zero_iff.1 (by omega)
  subst this;rfl
 | k+1,h=>by
  by_cases hk:ds.length≤k
  ·rw[valT,valT_ge hk,getD_of_ge hk];simp
  ·have:ds.length=k+1:=by omega
   rw[valD,this]
theorem valT_congr {ds es:List Nat} : ∀{k:Nat},(∀j,j<k→ds.getD j 0=es.getD j 0)→valT ds k=valT es k
 | 0,_=>rfl
 | k+1,h=>by rw[valT,valT,valT_congr fun j hj=>h j (by omega),h k (by omega)]
theorem valD_lt {ds:List Nat} (h:Digs ds):valD ds<4294967296 ^ ds.length:=valT_lt h _
theorem getD_append {ds:List Nat} {x:Nat} (j:Nat):(ds ++ [x]).getD j 0=if j<ds.length then ds.getD j 0 else if j=ds.length then x else 0:=by
 simp only[List.getD_eq_getElem?_getD]
 by_cases h:j<ds.length
 ·rw[if_pos h,List.getElem?_append_left h]
 ·rw[if_neg h,List.getElem?_append_right (by omega)]
  by_cases h2:j=ds.length
  ·rw[if_pos h2];subst h2;simp
  ·rw[if_neg h2,List.getElem?_eq_none (by simp;omega)];rfl
theorem valD_append (ds:List Nat) (x:Nat):valD (ds ++ [x])=valD ds+x*4294967296 ^ ds.length:=by
 have h1:(ds ++ [x]).length=ds.length+1:=by simp
 rw[valD,h1,valT,getD_append,if_neg (by omega),if_pos rfl]
 congr 1
 refine valT_congr fun j hj=>?_
 rw[getD_append,if_pos hj]
theorem Digs.append {ds:List Nat} {x:Nat} (h:Digs ds) (hx:x<4294967296):Digs (ds ++ [x]):=by
 intro d hd
 rcases List.mem_append.1 hd with h1|h1
 ·exact h d h1
 ·simp at h1;omega
theorem Digs.take {ds:List Nat} (h:Digs ds) (n:Nat):Digs (ds.take n):=fun d hd=>h d (List.mem_of_mem_take hd)
theorem getD_take (ds:List Nat) (n j:Nat):(ds.take n).getD j 0=if j<n then ds.getD j 0 else 0:=by
 simp only[List.getD_eq_getElem?_getD,List.getElem?_take]
 split<;>rfl
theorem valT_split (ds:List Nat) (m:Nat) : ∀k,(∀j,m≤j→j<m+k→ds.getD j 0=0)→valT ds (m+k)=valT ds m
 | 0,_=>rfl
 | k+1,h=>by
  rw[show m+(k+1)=(m+k)+1 from rfl,valT,valT_split ds m k (fun j a b=>h j a (by omega)),h (m+k) (by omega) (by omega)]
  simp
theorem valD_take {ds:List Nat} {m:Nat} (hm:m≤ds.length) (h : ∀j,m≤j→ds.getD j 0=0):valD (ds.take m)=valD ds:=by
 have h1:(ds.take m).length=m:=by simp[hm]
 rw[valD,h1]
 have h2:valT (ds.take m) m=valT ds m:=valT_congr fun j hj=>by rw[getD_take,if_pos hj]
 rw[h2]
 have:=valT_split ds m (ds.length - m) (fun j a _=>h j a)
 rw[show m+(ds.length - m)=ds.length from by omega] at this
 exact this.symm
theorem Norm.ge {ds:List Nat} (h:Norm ds) (hne:ds ≠ []):4294967296 ^ (ds.length - 1)≤valD ds:=by
 rcases h with h|h
 ·exact absurd h hne
 ·have hl:0<ds.length:=List.length_pos_iff.2 hne
  obtain⟨n,hn⟩ : ∃n,ds.length=n+1:=⟨ds.length - 1,by omega⟩
  rw[valD,hn,valT]
  rw[hn] at h
  simp only[Nat.add_sub_cancel] at h ⊢
  have:1*4294967296 ^ n≤ds.getD n 0*4294967296 ^ n:=Nat.mul_le_mul_right _ (by omega)
  omega
theorem lt_of_len {a b:List Nat} (ha:Digs a) (hb:Norm b) (hl:a.length<b.length):valD a<valD b:=by
 have h1:=valD_lt ha
 have h2:=hb.ge (by intro h;subst h;simp at hl)
 have h3:4294967296 ^ a.length≤4294967296 ^ (b.length - 1):=Nat.pow_le_pow_right (by omega) (by omega)
 omega
theorem valT_top {a b:List Nat} (ha:Digs a) {i:Nat} (hi:a.getD i 0<b.getD i 0) : ∀k,(∀j,i<j→j<i+1+k→a.getD j 0=b.getD j 0)→valT a (i+1+k)<valT b (i+1+k)
 | 0,_=>by
  have h1:=valT_lt ha i
  have h2:(a.getD i 0+1)*4294967296 ^ i≤b.getD i 0*4294967296 ^ i:=Nat.mul_le_mul_right _ (by omega)
  rw[Nat.add_mul] at h2
  rw[Nat.add_zero,valT,valT]
  omega
 | k+1,h=>by
  have:=valT_top ha hi k (fun j x y=>h j x (by omega))
  rw[show i+1+(k+1)=(i+1+k)+1 from rfl,valT,valT,h (i+1+k) (by omega) (by omega)]
  omega
theorem lt_of_top {a b:List Nat} (ha:Digs a) (hl:a.length=b.length) {i:Nat} (hn:i<a.length) (hi:a.getD i 0<b.getD i 0) (h : ∀j,i<j→j<a.length→a.getD j 0=b.getD j 0):valD a<valD b:=by
 have:=valT_top ha hi (a.length - (i+1)) (fun j x y=>h j x (by omega))
 rw[show i+1+(a.length - (i+1))=a.length from by omega] at this
 rw[valD,valD,←hl];exact this
theorem eq_of_all {a b:List Nat} (hl:a.length=b.length) (h : ∀j,j<a.length→a.getD j 0=b.getD j 0):valD a=valD b:=by
 rw[valD,valD,←hl];exact valT_congr h
theorem Norm.nil_iff {ds:List Nat} (h:Norm ds):valD ds=0↔ds = []:=by
 constructor
 ·intro h0
  apply Classical.byContradiction;intro hne
  have:=h.ge hne
  have:=pow_pos' (ds.length - 1)
  omega
 ·rintro rfl;rfl
theorem Norm.len_le {a b:List Nat} (ha:Norm a) (hb:Digs b) (h:valD a≤valD b):a.length≤b.length:=by
 apply Classical.byContradiction;intro hn
 have:=lt_of_len hb ha (by omega)
 omega
theorem valT_cons (d:Nat) (ds:List Nat) : ∀k,valT (d :: ds) (k+1)=d+4294967296*valT ds k
 | 0=>by simp[valT]
 | k+1=>by
  rw[valT,valT_cons d ds k,valT]
  simp only[List.getD_cons_succ,Nat.pow_succ]
  grind
theorem valD_cons (d:Nat) (ds:List Nat):valD (d :: ds)=d+4294967296*valD ds:=valT_cons d ds _
end Go.Id
