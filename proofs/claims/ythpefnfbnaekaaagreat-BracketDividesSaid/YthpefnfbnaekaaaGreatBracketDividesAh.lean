/-
  The types of this seat's program, as the machine asks of them; made by program (tools/mk.py). Digits to the base 2^32, the lowest first: plain numbers.
-/
import Derived.Test.YthpefnfbnaekaaaGreatBracketDividesAg
import Derived.Test.YthpefnfbnaekaaaGreatProg
import Derived.KernelRfl
import Init
set_option linter.unusedVariables false
set_option linter.unusedSimpArgs false
set_option linter.defProp false
set_option linter.deprecated false
namespace Go.Id
open Go
open Go.Proofs.Tryz (prog)
theorem ag115:isAggT prog 115=some true:=by kernel_rfl
theorem ag121:isAggT prog 121=some true:=by kernel_rfl
theorem ag123:isAggT prog 123=some true:=by kernel_rfl
theorem ag127:isAggT prog 127=some false:=by kernel_rfl
theorem ag128:isAggT prog 128=some false:=by kernel_rfl
theorem ag133:isAggT prog 133=some true:=by kernel_rfl
theorem ag135:isAggT prog 135=some true:=by kernel_rfl
theorem ag149:isAggT prog 149=some false:=by kernel_rfl
theorem ag152:isAggT prog 152=some false:=by kernel_rfl
theorem ag159:isAggT prog 159=some false:=by kernel_rfl
theorem ag182:isAggT prog 182=some false:=by kernel_rfl
theorem ag185:isAggT prog 185=some false:=by kernel_rfl
theorem ag206:isAggT prog 206=some true:=by kernel_rfl
theorem ag208:isAggT prog 208=some true:=by kernel_rfl
theorem ag22:isAggT prog 22=some false:=by kernel_rfl
theorem ag24:isAggT prog 24=some false:=by kernel_rfl
theorem ag26:isAggT prog 26=some true:=by kernel_rfl
theorem ag29:isAggT prog 29=some false:=by kernel_rfl
theorem ag3:isAggT prog 3=some false:=by kernel_rfl
theorem ag33:isAggT prog 33=some true:=by kernel_rfl
theorem ag4:isAggT prog 4=some false:=by kernel_rfl
theorem ag43:isAggT prog 43=some false:=by kernel_rfl
theorem ag45:isAggT prog 45=some true:=by kernel_rfl
theorem ag47:isAggT prog 47=some true:=by kernel_rfl
theorem ag49:isAggT prog 49=some true:=by kernel_rfl
theorem ag5:isAggT prog 5=some false:=by kernel_rfl
theorem ag78:isAggT prog 78=some false:=by kernel_rfl
theorem ag80:isAggT prog 80=some true:=by kernel_rfl
theorem ag92:isAggT prog 92=some false:=by kernel_rfl
theorem ag94:isAggT prog 94=some true:=by kernel_rfl
theorem ag96:isAggT prog 96=some true:=by kernel_rfl
theorem ap149:appT prog 149=some (1,8):=by kernel_rfl
theorem ap29:appT prog 29=some (1,8):=by kernel_rfl
theorem ap78:appT prog 78=some (3,24):=by kernel_rfl
theorem ap92:appT prog 92=some (1,8):=by kernel_rfl
theorem ar184:arrOf prog 184=some (5,1):=by kernel_rfl
theorem ar206:arrOf prog 206=some (8,1):=by kernel_rfl
theorem ar45:arrOf prog 45=some (8,1):=by kernel_rfl
theorem ar62:arrOf prog 62=some (4,1):=by kernel_rfl
theorem as115:allSized prog 115=true:=by kernel_rfl
theorem as121:allSized prog 121=true:=by kernel_rfl
theorem as123:allSized prog 123=true:=by kernel_rfl
theorem as133:allSized prog 133=true:=by kernel_rfl
theorem as135:allSized prog 135=true:=by kernel_rfl
theorem as151:allSized prog 151=true:=by kernel_rfl
theorem as154:allSized prog 154=true:=by kernel_rfl
theorem as156:allSized prog 156=true:=by kernel_rfl
theorem as184:allSized prog 184=true:=by kernel_rfl
theorem as206:allSized prog 206=true:=by kernel_rfl
theorem as208:allSized prog 208=true:=by kernel_rfl
theorem as45:allSized prog 45=true:=by kernel_rfl
theorem as47:allSized prog 47=true:=by kernel_rfl
theorem as49:allSized prog 49=true:=by kernel_rfl
theorem as62:allSized prog 62=true:=by kernel_rfl
theorem as80:allSized prog 80=true:=by kernel_rfl
theorem as94:allSized prog 94=true:=by kernel_rfl
theorem as96:allSized prog 96=true:=by kernel_rfl
theorem eg45:prog.eqGuardType prog.depth 45=false:=by kernel_rfl
theorem es149:elemSize prog 149=some 1:=by kernel_rfl
theorem es175:elemSize prog 175=some 16:=by kernel_rfl
theorem es22:elemSize prog 22=some 1:=by kernel_rfl
theorem es29:elemSize prog 29=some 1:=by kernel_rfl
theorem es78:elemSize prog 78=some 3:=by kernel_rfl
theorem es92:elemSize prog 92=some 1:=by kernel_rfl
theorem fa115_0:fieldAt prog 115 0=some 0:=by kernel_rfl
theorem fa115_1:fieldAt prog 115 1=some 1:=by kernel_rfl
theorem fa121_0:fieldAt prog 121 0=some 0:=by kernel_rfl
theorem fa121_1:fieldAt prog 121 1=some 1:=by kernel_rfl
theorem fa121_2:fieldAt prog 121 2=some 2:=by kernel_rfl
theorem fa123_0:fieldAt prog 123 0=some 0:=by kernel_rfl
theorem fa123_1:fieldAt prog 123 1=some 3:=by kernel_rfl
theorem fa133_0:fieldAt prog 133 0=some 0:=by kernel_rfl
theorem fa133_1:fieldAt prog 133 1=some 1:=by kernel_rfl
theorem fa135_0:fieldAt prog 135 0=some 0:=by kernel_rfl
theorem fa135_1:fieldAt prog 135 1=some 2:=by kernel_rfl
theorem fa151_0:fieldAt prog 151 0=some 0:=by kernel_rfl
theorem fa151_1:fieldAt prog 151 1=some 1:=by kernel_rfl
theorem fa151_2:fieldAt prog 151 2=some 2:=by kernel_rfl
theorem fa154_0:fieldAt prog 154 0=some 0:=by kernel_rfl
theorem fa154_1:fieldAt prog 154 1=some 1:=by kernel_rfl
theorem fa156_0:fieldAt prog 156 0=some 0:=by kernel_rfl
theorem fa156_1:fieldAt prog 156 1=some 2:=by kernel_rfl
theorem fa156_2:fieldAt prog 156 2=some 3:=by kernel_rfl
theorem fa208_0:fieldAt prog 208 0=some 0:=by kernel_rfl
theorem fa208_1:fieldAt prog 208 1=some 1:=by kernel_rfl
theorem fa26_0:fieldAt prog 26 0=some 0:=by kernel_rfl
theorem fa26_1:fieldAt prog 26 1=some 1:=by kernel_rfl
theorem fa26_3:fieldAt prog 26 3=some 3:=by kernel_rfl
theorem fa33_0:fieldAt prog 33 0=some 0:=by kernel_rfl
theorem fa33_1:fieldAt prog 33 1=some 1:=by kernel_rfl
theorem fa33_2:fieldAt prog 33 2=some 2:=by kernel_rfl
theorem fa47_0:fieldAt prog 47 0=some 0:=by kernel_rfl
theorem fa47_1:fieldAt prog 47 1=some 8:=by kernel_rfl
theorem fa49_0:fieldAt prog 49 0=some 0:=by kernel_rfl
theorem fa49_1:fieldAt prog 49 1=some 16:=by kernel_rfl
theorem fa49_2:fieldAt prog 49 2=some 32:=by kernel_rfl
theorem fa49_3:fieldAt prog 49 3=some 33:=by kernel_rfl
theorem fa49_4:fieldAt prog 49 4=some 34:=by kernel_rfl
theorem fa80_0:fieldAt prog 80 0=some 0:=by kernel_rfl
theorem fa80_1:fieldAt prog 80 1=some 1:=by kernel_rfl
theorem fa94_0:fieldAt prog 94 0=some 0:=by kernel_rfl
theorem fa94_1:fieldAt prog 94 1=some 1:=by kernel_rfl
theorem fa96_0:fieldAt prog 96 0=some 0:=by kernel_rfl
theorem fa96_1:fieldAt prog 96 1=some 2:=by kernel_rfl
theorem fp94_1:fieldPart prog 94 1=some (false,1,1):=by kernel_rfl
theorem is145:(Program.underlying prog 145).isSome=true:=by kernel_rfl
theorem is24:(Program.underlying prog 24).isSome=true:=by kernel_rfl
theorem is3:(Program.underlying prog 3).isSome=true:=by kernel_rfl
theorem is43:(Program.underlying prog 43).isSome=true:=by kernel_rfl
theorem is5:(Program.underlying prog 5).isSome=true:=by kernel_rfl
theorem mk149:makeT prog 149=some (1,8,[.pointer none]):=by kernel_rfl
theorem mk175:makeT prog 175=some (16,128,[.int .u64 (0),.int .u64 (0),.int .u64 (0),.int .u64 (0),.int .u64 (0),.int .u64 (0),.int .u64 (0),.int .u64 (0),.int .u64 (0),.int .u64 (0),.int .u64 (0),.int .u64 (0),.int .u64 (0),.int .u64 (0),.int .u64 (0),.int .u64 (0)]):=by kernel_rfl
theorem mk29:makeT prog 29=some (1,8,[.int .i64 (0)]):=by kernel_rfl
theorem mk78:makeT prog 78=some (3,24,[.int .i64 (0),.int .i64 (0),.int .i64 (0)]):=by kernel_rfl
theorem mk92:makeT prog 92=some (1,8,[.int .u64 (0)]):=by kernel_rfl
theorem pl115_0:placeOf prog 115 0=some (0,1):=by kernel_rfl
theorem pl115_1:placeOf prog 115 1=some (1,16):=by kernel_rfl
theorem pl121_0:placeOf prog 121 0=some (0,1):=by kernel_rfl
theorem pl121_1:placeOf prog 121 1=some (1,1):=by kernel_rfl
theorem pl121_2:placeOf prog 121 2=some (2,1):=by kernel_rfl
theorem pl123_0:placeOf prog 123 0=some (0,3):=by kernel_rfl
theorem pl123_1:placeOf prog 123 1=some (3,1):=by kernel_rfl
theorem pl133_0:placeOf prog 133 0=some (0,1):=by kernel_rfl
theorem pl133_1:placeOf prog 133 1=some (1,1):=by kernel_rfl
theorem pl135_0:placeOf prog 135 0=some (0,2):=by kernel_rfl
theorem pl135_1:placeOf prog 135 1=some (2,2):=by kernel_rfl
theorem pl151_0:placeOf prog 151 0=some (0,1):=by kernel_rfl
theorem pl151_2:placeOf prog 151 2=some (2,1):=by kernel_rfl
theorem pl154_0:placeOf prog 154 0=some (0,1):=by kernel_rfl
theorem pl154_1:placeOf prog 154 1=some (1,1):=by kernel_rfl
theorem pl156_0:placeOf prog 156 0=some (0,2):=by kernel_rfl
theorem pl156_1:placeOf prog 156 1=some (2,1):=by kernel_rfl
theorem pl156_2:placeOf prog 156 2=some (3,17):=by kernel_rfl
theorem pl184_0:placeOf prog 184 0=some (0,1):=by kernel_rfl
theorem pl184_1:placeOf prog 184 1=some (1,1):=by kernel_rfl
theorem pl184_2:placeOf prog 184 2=some (2,1):=by kernel_rfl
theorem pl184_3:placeOf prog 184 3=some (3,1):=by kernel_rfl
theorem pl184_4:placeOf prog 184 4=some (4,1):=by kernel_rfl
theorem pl206_7:placeOf prog 206 7=some (7,1):=by kernel_rfl
theorem pl208_0:placeOf prog 208 0=some (0,1):=by kernel_rfl
theorem pl208_1:placeOf prog 208 1=some (1,8):=by kernel_rfl
theorem pl45_0:placeOf prog 45 0=some (0,1):=by kernel_rfl
theorem pl47_0:placeOf prog 47 0=some (0,8):=by kernel_rfl
theorem pl47_1:placeOf prog 47 1=some (8,8):=by kernel_rfl
theorem pl49_0:placeOf prog 49 0=some (0,16):=by kernel_rfl
theorem pl49_1:placeOf prog 49 1=some (16,16):=by kernel_rfl
theorem pl49_2:placeOf prog 49 2=some (32,1):=by kernel_rfl
theorem pl49_4:placeOf prog 49 4=some (34,1):=by kernel_rfl
theorem pl62_0:placeOf prog 62 0=some (0,1):=by kernel_rfl
theorem pl62_1:placeOf prog 62 1=some (1,1):=by kernel_rfl
theorem pl62_2:placeOf prog 62 2=some (2,1):=by kernel_rfl
theorem pl62_3:placeOf prog 62 3=some (3,1):=by kernel_rfl
theorem pl80_0:placeOf prog 80 0=some (0,1):=by kernel_rfl
theorem pl94_0:placeOf prog 94 0=some (0,1):=by kernel_rfl
theorem pl94_1:placeOf prog 94 1=some (1,1):=by kernel_rfl
theorem pl96_0:placeOf prog 96 0=some (0,2):=by kernel_rfl
theorem pl96_1:placeOf prog 96 1=some (2,2):=by kernel_rfl
theorem sl149:isSliceT prog (some 149)=true:=by kernel_rfl
theorem sl175:isSliceT prog (some 175)=true:=by kernel_rfl
theorem sl22:isSliceT prog (some 22)=true:=by kernel_rfl
theorem sl29:isSliceT prog (some 29)=true:=by kernel_rfl
theorem sl78:isSliceT prog (some 78)=true:=by kernel_rfl
theorem sl92:isSliceT prog (some 92)=true:=by kernel_rfl
theorem sz115:sizeT prog 115=some 17:=by kernel_rfl
theorem sz121:sizeT prog 121=some 3:=by kernel_rfl
theorem sz123:sizeT prog 123=some 4:=by kernel_rfl
theorem sz128:sizeT prog 128=some 1:=by kernel_rfl
theorem sz133:sizeT prog 133=some 2:=by kernel_rfl
theorem sz135:sizeT prog 135=some 4:=by kernel_rfl
theorem sz149:sizeT prog 149=some 1:=by kernel_rfl
theorem sz151:sizeT prog 151=some 3:=by kernel_rfl
theorem sz152:sizeT prog 152=some 1:=by kernel_rfl
theorem sz184:sizeT prog 184=some 5:=by kernel_rfl
theorem sz206:sizeT prog 206=some 8:=by kernel_rfl
theorem sz208:sizeT prog 208=some 9:=by kernel_rfl
theorem sz26:sizeT prog 26=some 4:=by kernel_rfl
theorem sz29:sizeT prog 29=some 1:=by kernel_rfl
theorem sz3:sizeT prog 3=some 1:=by kernel_rfl
theorem sz33:sizeT prog 33=some 3:=by kernel_rfl
theorem sz4:sizeT prog 4=some 1:=by kernel_rfl
theorem sz43:sizeT prog 43=some 1:=by kernel_rfl
theorem sz45:sizeT prog 45=some 8:=by kernel_rfl
theorem sz47:sizeT prog 47=some 16:=by kernel_rfl
theorem sz49:sizeT prog 49=some 35:=by kernel_rfl
theorem sz62:sizeT prog 62=some 4:=by kernel_rfl
theorem sz78:sizeT prog 78=some 1:=by kernel_rfl
theorem sz80:sizeT prog 80=some 2:=by kernel_rfl
theorem sz94:sizeT prog 94=some 2:=by kernel_rfl
theorem sz96:sizeT prog 96=some 4:=by kernel_rfl
theorem u115:Program.underlying prog 115=some (.struct { toList:=[{ name := "endless",type:=4,offset:=0,embedded:=false,tag := "",pkgPath := "wardmote/divisor",byteOffset:=0 },{ name := "value",type:=47,offset:=1,embedded:=false,tag := "",pkgPath := "wardmote/divisor",byteOffset:=8 }] }):=by kernel_rfl
theorem u145:Program.underlying prog 145=some (.int .u64):=by kernel_rfl
theorem u149:Program.underlying prog 149=some (.slice 152):=by kernel_rfl
theorem u206:Program.underlying prog 206=some (.array 8 43):=by kernel_rfl
theorem u29:Program.underlying prog 29=some (.slice 3):=by kernel_rfl
theorem u3:Program.underlying prog 3=some (.int .i64):=by kernel_rfl
theorem u4:Program.underlying prog 4=some .bool:=by kernel_rfl
theorem u43:Program.underlying prog 43=some (.int .u64):=by kernel_rfl
theorem u45:Program.underlying prog 45=some (.array 8 43):=by kernel_rfl
theorem u49:Program.underlying prog 49=some (.struct { toList:=[{ name := "Low",type:=47,offset:=0,embedded:=false,tag := "",pkgPath := "",byteOffset:=0 },{ name := "High",type:=47,offset:=16,embedded:=false,tag := "",pkgPath := "",byteOffset:=128 },{ name := "Endless",type:=4,offset:=32,embedded:=false,tag := "",pkgPath := "",byteOffset:=256 },{ name := "Scarce",type:=4,offset:=33,embedded:=false,tag := "",pkgPath := "",byteOffset:=257 },{ name := "Squared",type:=4,offset:=34,embedded:=false,tag := "",pkgPath := "",byteOffset:=258 }] }):=by kernel_rfl
theorem u5:Program.underlying prog 5=some (.int .u8):=by kernel_rfl
theorem u9:Program.underlying prog 9=some .string:=by kernel_rfl
theorem u92:Program.underlying prog 92=some (.slice 43):=by kernel_rfl
theorem zc115:zeroCellsT prog 115=some [.bool false,.int .u64 (0),.int .u64 (0),.int .u64 (0),.int .u64 (0),.int .u64 (0),.int .u64 (0),.int .u64 (0),.int .u64 (0),.int .u64 (0),.int .u64 (0),.int .u64 (0),.int .u64 (0),.int .u64 (0),.int .u64 (0),.int .u64 (0),.int .u64 (0)]:=by kernel_rfl
theorem zc121:zeroCellsT prog 121=some [.int .i64 (0),.int .i64 (0),.int .i64 (0)]:=by kernel_rfl
theorem zc123:zeroCellsT prog 123=some [.int .i64 (0),.int .i64 (0),.int .i64 (0),.int .i64 (0)]:=by kernel_rfl
theorem zc128:zeroCellsT prog 128=some [.nilFunc]:=by kernel_rfl
theorem zc133:zeroCellsT prog 133=some [.bool false,.slice none 0 0]:=by kernel_rfl
theorem zc135:zeroCellsT prog 135=some [.bool false,.slice none 0 0,.bool false,.slice none 0 0]:=by kernel_rfl
theorem zc149:zeroCellsT prog 149=some [.slice none 0 0]:=by kernel_rfl
theorem zc151:zeroCellsT prog 151=some [.int .i64 (0),.slice none 0 0,.int .i64 (0)]:=by kernel_rfl
theorem zc154:zeroCellsT prog 154=some [.int .i64 (0),.int .i64 (0)]:=by kernel_rfl
theorem zc156:zeroCellsT prog 156=some [.int .i64 (0),.int .i64 (0),.int .i64 (0),.bool false,.int .u64 (0),.int .u64 (0),.int .u64 (0),.int .u64 (0),.int .u64 (0),.int .u64 (0),.int .u64 (0),.int .u64 (0),.int .u64 (0),.int .u64 (0),.int .u64 (0),.int .u64 (0),.int .u64 (0),.int .u64 (0),.int .u64 (0),.int .u64 (0)]:=by kernel_rfl
theorem zc184:zeroCellsT prog 184=some [.nilFunc,.nilFunc,.nilFunc,.nilFunc,.nilFunc]:=by kernel_rfl
theorem zc206:zeroCellsT prog 206=some [.int .u64 (0),.int .u64 (0),.int .u64 (0),.int .u64 (0),.int .u64 (0),.int .u64 (0),.int .u64 (0),.int .u64 (0)]:=by kernel_rfl
theorem zc208:zeroCellsT prog 208=some [.bool false,.int .u64 (0),.int .u64 (0),.int .u64 (0),.int .u64 (0),.int .u64 (0),.int .u64 (0),.int .u64 (0),.int .u64 (0)]:=by kernel_rfl
theorem zc29:zeroCellsT prog 29=some [.slice none 0 0]:=by kernel_rfl
theorem zc33:zeroCellsT prog 33=some [.slice none 0 0,.slice none 0 0,.int .i64 (0)]:=by kernel_rfl
theorem zc4:zeroCellsT prog 4=some [.bool false]:=by kernel_rfl
theorem zc45:zeroCellsT prog 45=some [.int .u64 (0),.int .u64 (0),.int .u64 (0),.int .u64 (0),.int .u64 (0),.int .u64 (0),.int .u64 (0),.int .u64 (0)]:=by kernel_rfl
theorem zc47:zeroCellsT prog 47=some [.int .u64 (0),.int .u64 (0),.int .u64 (0),.int .u64 (0),.int .u64 (0),.int .u64 (0),.int .u64 (0),.int .u64 (0),.int .u64 (0),.int .u64 (0),.int .u64 (0),.int .u64 (0),.int .u64 (0),.int .u64 (0),.int .u64 (0),.int .u64 (0)]:=by kernel_rfl
theorem zc49:zeroCellsT prog 49=some [.int .u64 (0),.int .u64 (0),.int .u64 (0),.int .u64 (0),.int .u64 (0),.int .u64 (0),.int .u64 (0),.int .u64 (0),.int .u64 (0),.int .u64 (0),.int .u64 (0),.int .u64 (0),.int .u64 (0),.int .u64 (0),.int .u64 (0),.int .u64 (0),.int .u64 (0),.int .u64 (0),.int .u64 (0),.int .u64 (0),.int .u64 (0),.int .u64 (0),.int .u64 (0),.int .u64 (0),.int .u64 (0),.int .u64 (0),.int .u64 (0),.int .u64 (0),.int .u64 (0),.int .u64 (0),.int .u64 (0),.int .u64 (0),.bool false,.bool false,.bool false]:=by kernel_rfl
theorem zc62:zeroCellsT prog 62=some [.int .i64 (0),.int .i64 (0),.int .i64 (0),.int .i64 (0)]:=by kernel_rfl
theorem zc80:zeroCellsT prog 80=some [.int .i64 (0),.slice none 0 0]:=by kernel_rfl
theorem zc94:zeroCellsT prog 94=some [.bool false,.slice none 0 0]:=by kernel_rfl
theorem zc96:zeroCellsT prog 96=some [.bool false,.slice none 0 0,.bool false,.slice none 0 0]:=by kernel_rfl
theorem ba149_149 (h:IH) (x y:Value):builtin prog h .append #[149,149] [x,y]=append prog h 149 x y:=builtin_append prog h 149 149 x y sl149
theorem ba29_29 (h:IH) (x y:Value):builtin prog h .append #[29,29] [x,y]=append prog h 29 x y:=builtin_append prog h 29 29 x y sl29
theorem ba78_78 (h:IH) (x y:Value):builtin prog h .append #[78,78] [x,y]=append prog h 78 x y:=builtin_append prog h 78 78 x y sl78
theorem ba92_92 (h:IH) (x y:Value):builtin prog h .append #[92,92] [x,y]=append prog h 92 x y:=builtin_append prog h 92 92 x y sl92
theorem be4 (ox oy:Operand) (a b:Bool):binop prog .eql 4 ox oy (.bool a) (.bool b)=some (.bool (a == b)):=binop_eql_bool u4 ox oy a b
theorem bn4 (ox oy:Operand) (a b:Bool):binop prog .neq 4 ox oy (.bool a) (.bool b)=some (.bool (!(a == b))):=binop_neq_bool u4 ox oy a b
theorem bs149 (h:IH) (len:Nat) (ps:List (Nat×Value)) (hl:len*1≤16777216):buildSlice prog h 149 len ps=(fillP (fun i=>some (i*1,1)) (repl len [.pointer none]) ps).map fun cells=>(.slice (some ⟨2*h.n,0,none⟩) len (2*len+1),h.new (.cells cells 1 none)):=buildSlice_eq mk149 h len ps hl
theorem bs175 (h:IH) (len:Nat) (ps:List (Nat×Value)) (hl:len*16≤16777216):buildSlice prog h 175 len ps=(fillP (fun i=>some (i*16,16)) (repl len [.int .u64 (0),.int .u64 (0),.int .u64 (0),.int .u64 (0),.int .u64 (0),.int .u64 (0),.int .u64 (0),.int .u64 (0),.int .u64 (0),.int .u64 (0),.int .u64 (0),.int .u64 (0),.int .u64 (0),.int .u64 (0),.int .u64 (0),.int .u64 (0)]) ps).map fun cells=>(.slice (some ⟨2*h.n,0,none⟩) len (2*len+1),h.new (.cells cells 16 none)):=buildSlice_eq mk175 h len ps hl
theorem bs29 (h:IH) (len:Nat) (ps:List (Nat×Value)) (hl:len*1≤16777216):buildSlice prog h 29 len ps=(fillP (fun i=>some (i*1,1)) (repl len [.int .i64 (0)]) ps).map fun cells=>(.slice (some ⟨2*h.n,0,none⟩) len (2*len+1),h.new (.cells cells 1 none)):=buildSlice_eq mk29 h len ps hl
theorem bs78 (h:IH) (len:Nat) (ps:List (Nat×Value)) (hl:len*3≤16777216):buildSlice prog h 78 len ps=(fillP (fun i=>some (i*3,3)) (repl len [.int .i64 (0),.int .i64 (0),.int .i64 (0)]) ps).map fun cells=>(.slice (some ⟨2*h.n,0,none⟩) len (2*len+1),h.new (.cells cells 3 none)):=buildSlice_eq mk78 h len ps hl
theorem bs92 (h:IH) (len:Nat) (ps:List (Nat×Value)) (hl:len*1≤16777216):buildSlice prog h 92 len ps=(fillP (fun i=>some (i*1,1)) (repl len [.int .u64 (0)]) ps).map fun cells=>(.slice (some ⟨2*h.n,0,none⟩) len (2*len+1),h.new (.cells cells 1 none)):=buildSlice_eq mk92 h len ps hl
theorem bv115 (ps:List (Nat×Value)):buildV prog 115 ps=(fillP (placeOf prog 115) [.bool false,.int .u64 (0),.int .u64 (0),.int .u64 (0),.int .u64 (0),.int .u64 (0),.int .u64 (0),.int .u64 (0),.int .u64 (0),.int .u64 (0),.int .u64 (0),.int .u64 (0),.int .u64 (0),.int .u64 (0),.int .u64 (0),.int .u64 (0),.int .u64 (0)] ps).map fun cs=>.agg cs.toArray:=buildV_eq zc115 as115 ps
theorem bv121 (ps:List (Nat×Value)):buildV prog 121 ps=(fillP (placeOf prog 121) [.int .i64 (0),.int .i64 (0),.int .i64 (0)] ps).map fun cs=>.agg cs.toArray:=buildV_eq zc121 as121 ps
theorem bv123 (ps:List (Nat×Value)):buildV prog 123 ps=(fillP (placeOf prog 123) [.int .i64 (0),.int .i64 (0),.int .i64 (0),.int .i64 (0)] ps).map fun cs=>.agg cs.toArray:=buildV_eq zc123 as123 ps
theorem bv133 (ps:List (Nat×Value)):buildV prog 133 ps=(fillP (placeOf prog 133) [.bool false,.slice none 0 0] ps).map fun cs=>.agg cs.toArray:=buildV_eq zc133 as133 ps
theorem bv135 (ps:List (Nat×Value)):buildV prog 135 ps=(fillP (placeOf prog 135) [.bool false,.slice none 0 0,.bool false,.slice none 0 0] ps).map fun cs=>.agg cs.toArray:=buildV_eq zc135 as135 ps
theorem bv151 (ps:List (Nat×Value)):buildV prog 151 ps=(fillP (placeOf prog 151) [.int .i64 (0),.slice none 0 0,.int .i64 (0)] ps).map fun cs=>.agg cs.toArray:=buildV_eq zc151 as151 ps
theorem bv154 (ps:List (Nat×Value)):buildV prog 154 ps=(fillP (placeOf prog 154) [.int .i64 (0),.int .i64 (0)] ps).map fun cs=>.agg cs.toArray:=buildV_eq zc154 as154 ps
theorem bv156 (ps:List (Nat×Value)):buildV prog 156 ps=(fillP (placeOf prog 156) [.int .i64 (0),.int .i64 (0),.int .i64 (0),.bool false,.int .u64 (0),.int .u64 (0),.int .u64 (0),.int .u64 (0),.int .u64 (0),.int .u64 (0),.int .u64 (0),.int .u64 (0),.int .u64 (0),.int .u64 (0),.int .u64 (0),.int .u64 (0),.int .u64 (0),.int .u64 (0),.int .u64 (0),.int .u64 (0)] ps).map fun cs=>.agg cs.toArray:=buildV_eq zc156 as156 ps
theorem bv184 (ps:List (Nat×Value)):buildV prog 184 ps=(fillP (placeOf prog 184) [.nilFunc,.nilFunc,.nilFunc,.nilFunc,.nilFunc] ps).map fun cs=>.agg cs.toArray:=buildV_eq zc184 as184 ps
theorem bv206 (ps:List (Nat×Value)):buildV prog 206 ps=(fillP (placeOf prog 206) [.int .u64 (0),.int .u64 (0),.int .u64 (0),.int .u64 (0),.int .u64 (0),.int .u64 (0),.int .u64 (0),.int .u64 (0)] ps).map fun cs=>.agg cs.toArray:=buildV_eq zc206 as206 ps
theorem bv208 (ps:List (Nat×Value)):buildV prog 208 ps=(fillP (placeOf prog 208) [.bool false,.int .u64 (0),.int .u64 (0),.int .u64 (0),.int .u64 (0),.int .u64 (0),.int .u64 (0),.int .u64 (0),.int .u64 (0)] ps).map fun cs=>.agg cs.toArray:=buildV_eq zc208 as208 ps
theorem bv45 (ps:List (Nat×Value)):buildV prog 45 ps=(fillP (placeOf prog 45) [.int .u64 (0),.int .u64 (0),.int .u64 (0),.int .u64 (0),.int .u64 (0),.int .u64 (0),.int .u64 (0),.int .u64 (0)] ps).map fun cs=>.agg cs.toArray:=buildV_eq zc45 as45 ps
theorem bv47 (ps:List (Nat×Value)):buildV prog 47 ps=(fillP (placeOf prog 47) [.int .u64 (0),.int .u64 (0),.int .u64 (0),.int .u64 (0),.int .u64 (0),.int .u64 (0),.int .u64 (0),.int .u64 (0),.int .u64 (0),.int .u64 (0),.int .u64 (0),.int .u64 (0),.int .u64 (0),.int .u64 (0),.int .u64 (0),.int .u64 (0)] ps).map fun cs=>.agg cs.toArray:=buildV_eq zc47 as47 ps
theorem bv49 (ps:List (Nat×Value)):buildV prog 49 ps=(fillP (placeOf prog 49) [.int .u64 (0),.int .u64 (0),.int .u64 (0),.int .u64 (0),.int .u64 (0),.int .u64 (0),.int .u64 (0),.int .u64 (0),.int .u64 (0),.int .u64 (0),.int .u64 (0),.int .u64 (0),.int .u64 (0),.int .u64 (0),.int .u64 (0),.int .u64 (0),.int .u64 (0),.int .u64 (0),.int .u64 (0),.int .u64 (0),.int .u64 (0),.int .u64 (0),.int .u64 (0),.int .u64 (0),.int .u64 (0),.int .u64 (0),.int .u64 (0),.int .u64 (0),.int .u64 (0),.int .u64 (0),.int .u64 (0),.int .u64 (0),.bool false,.bool false,.bool false] ps).map fun cs=>.agg cs.toArray:=buildV_eq zc49 as49 ps
theorem bv62 (ps:List (Nat×Value)):buildV prog 62 ps=(fillP (placeOf prog 62) [.int .i64 (0),.int .i64 (0),.int .i64 (0),.int .i64 (0)] ps).map fun cs=>.agg cs.toArray:=buildV_eq zc62 as62 ps
theorem bv80 (ps:List (Nat×Value)):buildV prog 80 ps=(fillP (placeOf prog 80) [.int .i64 (0),.slice none 0 0] ps).map fun cs=>.agg cs.toArray:=buildV_eq zc80 as80 ps
theorem bv94 (ps:List (Nat×Value)):buildV prog 94 ps=(fillP (placeOf prog 94) [.bool false,.slice none 0 0] ps).map fun cs=>.agg cs.toArray:=buildV_eq zc94 as94 ps
theorem bv96 (ps:List (Nat×Value)):buildV prog 96 ps=(fillP (placeOf prog 96) [.bool false,.slice none 0 0,.bool false,.slice none 0 0] ps).map fun cs=>.agg cs.toArray:=buildV_eq zc96 as96 ps
theorem cv145_3 (k:IntKind) (n:Int):convV prog 145 3 (.int k n)=some (.int .i64 (IntKind.i64.wrap n)):=convV_int is145 u3
theorem cv24_3 (k:IntKind) (n:Int):convV prog 24 3 (.int k n)=some (.int .i64 (IntKind.i64.wrap n)):=convV_int is24 u3
theorem cv3_145 (k:IntKind) (n:Int):convV prog 3 145 (.int k n)=some (.int .u64 (IntKind.u64.wrap n)):=convV_int is3 u145
theorem cv3_43 (k:IntKind) (n:Int):convV prog 3 43 (.int k n)=some (.int .u64 (IntKind.u64.wrap n)):=convV_int is3 u43
theorem cv43_3 (k:IntKind) (n:Int):convV prog 43 3 (.int k n)=some (.int .i64 (IntKind.i64.wrap n)):=convV_int is43 u3
theorem cv43_5 (k:IntKind) (n:Int):convV prog 43 5 (.int k n)=some (.int .u8 (IntKind.u8.wrap n)):=convV_int is43 u5
theorem cv5_3 (k:IntKind) (n:Int):convV prog 5 3 (.int k n)=some (.int .i64 (IntKind.i64.wrap n)):=convV_int is5 u3
theorem ld115 (h:IH) (b o:Nat):load prog h 115 (ptr b o)=(h.rd b o 17).map fun cs=>.agg cs.toArray:=load_agg ag115 sz115 h b o
theorem ld121 (h:IH) (b o:Nat):load prog h 121 (ptr b o)=(h.rd b o 3).map fun cs=>.agg cs.toArray:=load_agg ag121 sz121 h b o
theorem ld123 (h:IH) (b o:Nat):load prog h 123 (ptr b o)=(h.rd b o 4).map fun cs=>.agg cs.toArray:=load_agg ag123 sz123 h b o
theorem ld127 (h:IH) (b o:Nat):load prog h 127 (ptr b o)=ld h b o:=load_scal ag127 h b o
theorem ld128 (h:IH) (b o:Nat):load prog h 128 (ptr b o)=ld h b o:=load_scal ag128 h b o
theorem ld133 (h:IH) (b o:Nat):load prog h 133 (ptr b o)=(h.rd b o 2).map fun cs=>.agg cs.toArray:=load_agg ag133 sz133 h b o
theorem ld135 (h:IH) (b o:Nat):load prog h 135 (ptr b o)=(h.rd b o 4).map fun cs=>.agg cs.toArray:=load_agg ag135 sz135 h b o
theorem ld149 (h:IH) (b o:Nat):load prog h 149 (ptr b o)=ld h b o:=load_scal ag149 h b o
theorem ld159 (h:IH) (b o:Nat):load prog h 159 (ptr b o)=ld h b o:=load_scal ag159 h b o
theorem ld182 (h:IH) (b o:Nat):load prog h 182 (ptr b o)=ld h b o:=load_scal ag182 h b o
theorem ld185 (h:IH) (b o:Nat):load prog h 185 (ptr b o)=ld h b o:=load_scal ag185 h b o
theorem ld206 (h:IH) (b o:Nat):load prog h 206 (ptr b o)=(h.rd b o 8).map fun cs=>.agg cs.toArray:=load_agg ag206 sz206 h b o
theorem ld208 (h:IH) (b o:Nat):load prog h 208 (ptr b o)=(h.rd b o 9).map fun cs=>.agg cs.toArray:=load_agg ag208 sz208 h b o
theorem ld22 (h:IH) (b o:Nat):load prog h 22 (ptr b o)=ld h b o:=load_scal ag22 h b o
theorem ld24 (h:IH) (b o:Nat):load prog h 24 (ptr b o)=ld h b o:=load_scal ag24 h b o
theorem ld26 (h:IH) (b o:Nat):load prog h 26 (ptr b o)=(h.rd b o 4).map fun cs=>.agg cs.toArray:=load_agg ag26 sz26 h b o
theorem ld29 (h:IH) (b o:Nat):load prog h 29 (ptr b o)=ld h b o:=load_scal ag29 h b o
theorem ld3 (h:IH) (b o:Nat):load prog h 3 (ptr b o)=ld h b o:=load_scal ag3 h b o
theorem ld33 (h:IH) (b o:Nat):load prog h 33 (ptr b o)=(h.rd b o 3).map fun cs=>.agg cs.toArray:=load_agg ag33 sz33 h b o
theorem ld4 (h:IH) (b o:Nat):load prog h 4 (ptr b o)=ld h b o:=load_scal ag4 h b o
theorem ld43 (h:IH) (b o:Nat):load prog h 43 (ptr b o)=ld h b o:=load_scal ag43 h b o
theorem ld45 (h:IH) (b o:Nat):load prog h 45 (ptr b o)=(h.rd b o 8).map fun cs=>.agg cs.toArray:=load_agg ag45 sz45 h b o
theorem ld47 (h:IH) (b o:Nat):load prog h 47 (ptr b o)=(h.rd b o 16).map fun cs=>.agg cs.toArray:=load_agg ag47 sz47 h b o
theorem ld49 (h:IH) (b o:Nat):load prog h 49 (ptr b o)=(h.rd b o 35).map fun cs=>.agg cs.toArray:=load_agg ag49 sz49 h b o
theorem ld5 (h:IH) (b o:Nat):load prog h 5 (ptr b o)=ld h b o:=load_scal ag5 h b o
theorem ld78 (h:IH) (b o:Nat):load prog h 78 (ptr b o)=ld h b o:=load_scal ag78 h b o
theorem ld80 (h:IH) (b o:Nat):load prog h 80 (ptr b o)=(h.rd b o 2).map fun cs=>.agg cs.toArray:=load_agg ag80 sz80 h b o
theorem ld92 (h:IH) (b o:Nat):load prog h 92 (ptr b o)=ld h b o:=load_scal ag92 h b o
theorem ld94 (h:IH) (b o:Nat):load prog h 94 (ptr b o)=(h.rd b o 2).map fun cs=>.agg cs.toArray:=load_agg ag94 sz94 h b o
theorem ld96 (h:IH) (b o:Nat):load prog h 96 (ptr b o)=(h.rd b o 4).map fun cs=>.agg cs.toArray:=load_agg ag96 sz96 h b o
theorem ln29 (h:IH) (a:Option Addr) (n c:Nat):lenB prog h 29 (.slice a n c)=some (.int .i64 n):=lenB_slice sl29 h a n c
theorem ms29 (h:IH) (k j:IntKind) {l c:Int} (h0:0≤l) (h1:l≤c) (h2:c*9≤1099511627776):makeSlice prog h 29 (.int k l) (.int j c)=some (.slice (some ⟨2*h.n,0,none⟩) l.toNat (2*c.toNat+1),h.new (.cells (repl c.toNat [.int .i64 (0)]) 1 none)):=makeSlice_eq mk29 h k j h0 h1 h2
theorem ms92 (h:IH) (k j:IntKind) {l c:Int} (h0:0≤l) (h1:l≤c) (h2:c*9≤1099511627776):makeSlice prog h 92 (.int k l) (.int j c)=some (.slice (some ⟨2*h.n,0,none⟩) l.toNat (2*c.toNat+1),h.new (.cells (repl c.toNat [.int .u64 (0)]) 1 none)):=makeSlice_eq mk92 h k j h0 h1 h2
theorem st115 (h:IH) (k o:Nat) (v:Value):store prog h 115 (ptr (2*k) o) v=stE 17 h k o v.cells.toList (h.ext.get k):=store_stE sz115 h k o v
theorem st121 (h:IH) (k o:Nat) (v:Value):store prog h 121 (ptr (2*k) o) v=stE 3 h k o v.cells.toList (h.ext.get k):=store_stE sz121 h k o v
theorem st123 (h:IH) (k o:Nat) (v:Value):store prog h 123 (ptr (2*k) o) v=stE 4 h k o v.cells.toList (h.ext.get k):=store_stE sz123 h k o v
theorem st128 (h:IH) (k o:Nat) (v:Value):store prog h 128 (ptr (2*k) o) v=stE 1 h k o v.cells.toList (h.ext.get k):=store_stE sz128 h k o v
theorem st133 (h:IH) (k o:Nat) (v:Value):store prog h 133 (ptr (2*k) o) v=stE 2 h k o v.cells.toList (h.ext.get k):=store_stE sz133 h k o v
theorem st135 (h:IH) (k o:Nat) (v:Value):store prog h 135 (ptr (2*k) o) v=stE 4 h k o v.cells.toList (h.ext.get k):=store_stE sz135 h k o v
theorem st149 (h:IH) (k o:Nat) (v:Value):store prog h 149 (ptr (2*k) o) v=stE 1 h k o v.cells.toList (h.ext.get k):=store_stE sz149 h k o v
theorem st151 (h:IH) (k o:Nat) (v:Value):store prog h 151 (ptr (2*k) o) v=stE 3 h k o v.cells.toList (h.ext.get k):=store_stE sz151 h k o v
theorem st184 (h:IH) (k o:Nat) (v:Value):store prog h 184 (ptr (2*k) o) v=stE 5 h k o v.cells.toList (h.ext.get k):=store_stE sz184 h k o v
theorem st206 (h:IH) (k o:Nat) (v:Value):store prog h 206 (ptr (2*k) o) v=stE 8 h k o v.cells.toList (h.ext.get k):=store_stE sz206 h k o v
theorem st208 (h:IH) (k o:Nat) (v:Value):store prog h 208 (ptr (2*k) o) v=stE 9 h k o v.cells.toList (h.ext.get k):=store_stE sz208 h k o v
theorem st29 (h:IH) (k o:Nat) (v:Value):store prog h 29 (ptr (2*k) o) v=stE 1 h k o v.cells.toList (h.ext.get k):=store_stE sz29 h k o v
theorem st3 (h:IH) (k o:Nat) (v:Value):store prog h 3 (ptr (2*k) o) v=stE 1 h k o v.cells.toList (h.ext.get k):=store_stE sz3 h k o v
theorem st33 (h:IH) (k o:Nat) (v:Value):store prog h 33 (ptr (2*k) o) v=stE 3 h k o v.cells.toList (h.ext.get k):=store_stE sz33 h k o v
theorem st4 (h:IH) (k o:Nat) (v:Value):store prog h 4 (ptr (2*k) o) v=stE 1 h k o v.cells.toList (h.ext.get k):=store_stE sz4 h k o v
theorem st43 (h:IH) (k o:Nat) (v:Value):store prog h 43 (ptr (2*k) o) v=stE 1 h k o v.cells.toList (h.ext.get k):=store_stE sz43 h k o v
theorem st45 (h:IH) (k o:Nat) (v:Value):store prog h 45 (ptr (2*k) o) v=stE 8 h k o v.cells.toList (h.ext.get k):=store_stE sz45 h k o v
theorem st47 (h:IH) (k o:Nat) (v:Value):store prog h 47 (ptr (2*k) o) v=stE 16 h k o v.cells.toList (h.ext.get k):=store_stE sz47 h k o v
theorem st49 (h:IH) (k o:Nat) (v:Value):store prog h 49 (ptr (2*k) o) v=stE 35 h k o v.cells.toList (h.ext.get k):=store_stE sz49 h k o v
theorem st62 (h:IH) (k o:Nat) (v:Value):store prog h 62 (ptr (2*k) o) v=stE 4 h k o v.cells.toList (h.ext.get k):=store_stE sz62 h k o v
theorem st78 (h:IH) (k o:Nat) (v:Value):store prog h 78 (ptr (2*k) o) v=stE 1 h k o v.cells.toList (h.ext.get k):=store_stE sz78 h k o v
theorem st80 (h:IH) (k o:Nat) (v:Value):store prog h 80 (ptr (2*k) o) v=stE 2 h k o v.cells.toList (h.ext.get k):=store_stE sz80 h k o v
theorem st94 (h:IH) (k o:Nat) (v:Value):store prog h 94 (ptr (2*k) o) v=stE 2 h k o v.cells.toList (h.ext.get k):=store_stE sz94 h k o v
theorem st96 (h:IH) (k o:Nat) (v:Value):store prog h 96 (ptr (2*k) o) v=stE 4 h k o v.cells.toList (h.ext.get k):=store_stE sz96 h k o v
end Go.Id

namespace Go.Id
def valT (ds:List Nat):Nat→Nat
 | 0=>0
 | k+1=>valT ds k+ds.getD k 0*4294967296 ^ k
def valD (ds:List Nat):Nat:=valT ds ds.length
def Digs (ds:List Nat):Prop:=∀d∈ds,d<4294967296
def Norm (ds:List Nat):Prop:=ds = []∨ds.getD (ds.length - 1) 0≠0
theorem getD_lt {ds:List Nat} (h:Digs ds) (k:Nat):ds.getD k 0<4294967296:=by
 rw[List.getD_eq_getElem?_getD]
 cases hx:ds[k]? with
 | none=>simp
 | some x=>simpa using h x (List.mem_of_getElem? hx)
theorem getD_of_ge {ds:List Nat} {k:Nat} (h:ds.length≤k):ds.getD k 0=0:=by
 rw[List.getD_eq_getElem?_getD,List.getElem?_eq_none h];rfl
theorem pow_pos' (k:Nat):0<4294967296 ^ k:=Nat.pow_pos (by omega)
theorem valT_lt {ds:List Nat} (h:Digs ds) : ∀k,valT ds k<4294967296 ^ k
 | 0=>by simp[valT]
 | k+1=>by
  have ih:=valT_lt h k
  have hd:=getD_lt h k
  have h2:ds.getD k 0*4294967296 ^ k≤4294967295*4294967296 ^ k:=Nat.mul_le_mul_right _ (by omega)
  rw[valT,Nat.pow_succ]
  omega
theorem valT_ge {ds:List Nat} : ∀{k:Nat},ds.length≤k→valT ds k=valD ds
 | 0,h=>by
  have:ds = []:=List.length_eq_zero_iff.1 (by omega)
  subst this;rfl
 | k+1,h=>by
  by_cases hk:ds.length≤k
  ·rw[valT,valT_ge hk,getD_of_ge hk];simp
  ·have:ds.length=k+1:=by omega
   rw[valD,this]
theorem valT_congr {ds es:List Nat} : ∀{k:Nat},(∀j,j<k→ds.getD j 0=es.getD j 0)→valT ds k=valT es k
 | 0,_=>rfl
 | k+1,h=>by rw[valT,valT,valT_congr fun j hj=>h j (by omega),h k (by omega)]
theorem valD_lt {ds:List Nat} (h:Digs ds):valD ds<4294967296 ^ ds.length:=valT_lt h _
theorem getD_append {ds:List Nat} {x:Nat} (j:Nat):(ds ++ [x]).getD j 0=if j<ds.length then ds.getD j 0 else if j=ds.length then x else 0:=by
 simp only[List.getD_eq_getElem?_getD]
 by_cases h:j<ds.length
 ·rw[if_pos h,List.getElem?_append_left h]
 ·rw[if_neg h,List.getElem?_append_right (by omega)]
  by_cases h2:j=ds.length
  ·rw[if_pos h2];subst h2;simp
  ·rw[if_neg h2,List.getElem?_eq_none (by simp;omega)];rfl
theorem valD_append (ds:List Nat) (x:Nat):valD (ds ++ [x])=valD ds+x*4294967296 ^ ds.length:=by
 have h1:(ds ++ [x]).length=ds.length+1:=by simp
 rw[valD,h1,valT,getD_append,if_neg (by omega),if_pos rfl]
 congr 1
 refine valT_congr fun j hj=>?_
 rw[getD_append,if_pos hj]
theorem Digs.append {ds:List Nat} {x:Nat} (h:Digs ds) (hx:x<4294967296):Digs (ds ++ [x]):=by
 intro d hd
 rcases List.mem_append.1 hd with h1|h1
 ·exact h d h1
 ·simp at h1;omega
theorem Digs.take {ds:List Nat} (h:Digs ds) (n:Nat):Digs (ds.take n):=fun d hd=>h d (List.mem_of_mem_take hd)
theorem getD_take (ds:List Nat) (n j:Nat):(ds.take n).getD j 0=if j<n then ds.getD j 0 else 0:=by
 simp only[List.getD_eq_getElem?_getD,List.getElem?_take]
 split<;>rfl
theorem valT_split (ds:List Nat) (m:Nat) : ∀k,(∀j,m≤j→j<m+k→ds.getD j 0=0)→valT ds (m+k)=valT ds m
 | 0,_=>rfl
 | k+1,h=>by
  rw[show m+(k+1)=(m+k)+1 from rfl,valT,valT_split ds m k (fun j a b=>h j a (by omega)),h (m+k) (by omega) (by omega)]
  simp
theorem valD_take {ds:List Nat} {m:Nat} (hm:m≤ds.length) (h : ∀j,m≤j→ds.getD j 0=0):valD (ds.take m)=valD ds:=by
 have h1:(ds.take m).length=m:=by simp[hm]
 rw[valD,h1]
 have h2:valT (ds.take m) m=valT ds m:=valT_congr fun j hj=>by rw[getD_take,if_pos hj]
 rw[h2]
 have:=valT_split ds m (ds.length - m) (fun j a _=>h j a)
 rw[show m+(ds.length - m)=ds.length from by omega] at this
 exact this.symm
theorem Norm.ge {ds:List Nat} (h:Norm ds) (hne:ds ≠ []):4294967296 ^ (ds.length - 1)≤valD ds:=by
 rcases h with h|h
 ·exact absurd h hne
 ·have hl:0<ds.length:=List.length_pos_iff.2 hne
  obtain⟨n,hn⟩ : ∃n,ds.length=n+1:=⟨ds.length - 1,by omega⟩
  rw[valD,hn,valT]
  rw[hn] at h
  simp only[Nat.add_sub_cancel] at h ⊢
  have:1*4294967296 ^ n≤ds.getD n 0*4294967296 ^ n:=Nat.mul_le_mul_right _ (by omega)
  omega
theorem lt_of_len {a b:List Nat} (ha:Digs a) (hb:Norm b) (hl:a.length<b.length):valD a<valD b:=by
 have h1:=valD_lt ha
 have h2:=hb.ge (by intro h;subst h;simp at hl)
 have h3:4294967296 ^ a.length≤4294967296 ^ (b.length - 1):=Nat.pow_le_pow_right (by omega) (by omega)
 omega
theorem valT_top {a b:List Nat} (ha:Digs a) {i:Nat} (hi:a.getD i 0<b.getD i 0) : ∀k,(∀j,i<j→j<i+1+k→a.getD j 0=b.getD j 0)→valT a (i+1+k)<valT b (i+1+k)
 | 0,_=>by
  have h1:=valT_lt ha i
  have h2:(a.getD i 0+1)*4294967296 ^ i≤b.getD i 0*4294967296 ^ i:=Nat.mul_le_mul_right _ (by omega)
  rw[Nat.add_mul] at h2
  rw[Nat.add_zero,valT,valT]
  omega
 | k+1,h=>by
  have:=valT_top ha hi k (fun j x y=>h j x (by omega))
  rw[show i+1+(k+1)=(i+1+k)+1 from rfl,valT,valT,h (i+1+k) (by omega) (by omega)]
  omega
theorem lt_of_top {a b:List Nat} (ha:Digs a) (hl:a.length=b.length) {i:Nat} (hn:i<a.length) (hi:a.getD i 0<b.getD i 0) (h : ∀j,i<j→j<a.length→a.getD j 0=b.getD j 0):valD a<valD b:=by
 have:=valT_top ha hi (a.length - (i+1)) (fun j x y=>h j x (by omega))
 rw[show i+1+(a.length - (i+1))=a.length from by omega] at this
 rw[valD,valD,←hl];exact this
theorem eq_of_all {a b:List Nat} (hl:a.length=b.length) (h : ∀j,j<a.length→a.getD j 0=b.getD j 0):valD a=valD b:=by
 rw[valD,valD,←hl];exact valT_congr h
theorem Norm.nil_iff {ds:List Nat} (h:Norm ds):valD ds=0↔ds = []:=by
 constructor
 ·intro h0
  apply Classical.byContradiction;intro hne
  have:=h.ge hne
  have:=pow_pos' (ds.length - 1)
  omega
 ·rintro rfl;rfl
theorem Norm.len_le {a b:List Nat} (ha:Norm a) (hb:Digs b) (h:valD a≤valD b):a.length≤b.length:=by
 apply Classical.byContradiction;intro hn
 have:=lt_of_len hb ha (by omega)
 omega
theorem valT_cons (d:Nat) (ds:List Nat) : ∀k,valT (d :: ds) (k+1)=d+4294967296*valT ds k
 | 0=>by simp[valT]
 | k+1=>by
  rw[valT,valT_cons d ds k,valT]
  simp only[List.getD_cons_succ,Nat.pow_succ]
  grind
theorem valD_cons (d:Nat) (ds:List Nat):valD (d :: ds)=d+4294967296*valD ds:=valT_cons d ds _
end Go.Id

namespace Go.Id
open Go
open Go.Proofs.Tryz (prog)
open Nat (reduceAdd reduceEqDiff reduceLeDiff)
abbrev KN (n:Nat):Value:=.int .i64 (n:Int)
def DigU (h:IH) (v:Value) (ds:List Nat):Prop:=SlOf h 1 v ds.length (ds.map KN)∧Digs ds∧ds.length≤1100000
def Dig (h:IH) (v:Value) (x:Nat):Prop:=∃ds,DigU h v ds∧Norm ds∧valD ds=x
theorem DigU.keep {h h':IH} {v:Value} {ds:List Nat} (d:DigU h v ds) (e:Keep h h'):DigU h' v ds:=⟨d.1.keep e,d.2⟩
theorem Dig.keep {h h':IH} {v:Value} {x:Nat} (d:Dig h v x) (e:Keep h h'):Dig h' v x:=let ⟨ds,a,b⟩:=d;⟨ds,a.keep e,b⟩
theorem get_some {ds:List Nat} {i:Nat} (h:i<ds.length):ds[i]?=some (ds.getD i 0):=by
 rw[List.getD_eq_getElem?_getD,List.getElem?_eq_getElem h];rfl
theorem map_get {α β:Type} (f:α→β) (l:List α) (i:Nat):(l.map f)[i]?=(l[i]?).map f:=List.getElem?_map
theorem cut_ok {h:IH} {v:Value} {ds:List Nat} (hd:DigU h v ds):WV prog (.func (.func 166) #[] #[]) [v] h fun r h'=>h'=h∧Dig h r (valD ds):=by
 refine enter (nt:=21) (rs:=[.tmp 2]) Proofs.Tryz.func166 rfl rfl rfl (by simp) ?_
 simp -dsimp (maxSteps:=1000000) (disch:=try exact dx) only[wpS,reduceEqDiff,hd.1.len sl29]
 refine loop (fun m fr h1=>h1=h∧m≤ds.length∧fget fr 3=some (KN m)∧fget fr 0=some v ∧ ∀j,m≤j→ds.getD j 0=0) ds.length ⟨rfl,Nat.le_refl _,by simp,by simp,fun j hj=>getD_of_ge hj⟩ ?_
 rintro m fr h1 ⟨rfl,hm,f3,f0,hz⟩
 have fin : ∀n:Nat,n≤ds.length→(∀j,n≤j→ds.getD j 0=0)→(n=0∨ds.getD (n - 1) 0≠0) → ∃r,sliceOp prog h1 29 v none (some (KN n)) none=some r∧Dig h1 r (valD ds):=by
  intro n hn hz hne
  obtain⟨r,hr,hs⟩:=hd.1.slice (Keep.refl _) (P:=prog) (t:=29) u29 sz3 (l:=0) (m:=n) (Nat.zero_le _) hn (lo:=none) (hi:=some (KN n)) rfl (fun c hc=>natOf_nat (k:=.i64) (by omega))
  refine⟨r,hr,ds.take n,⟨?_,hd.2.1.take n,by simp;have:=hd.2.2;omega⟩,?_,valD_take hn hz⟩
  ·have hl:(ds.take n).length=n:=by simp[hn]
   rw[hl]
   simpa [List.map_take] using hs
  ·rcases hne with rfl|hne
   ·left;simp
   ·by_cases h0:n=0
    ·subst h0;left;simp
    ·right
     have hl:(ds.take n).length=n:=by simp[hn]
     rw[hl,getD_take,if_pos (by omega)];exact hne
 have hb:=hd.2.2
 rcases Nat.eq_zero_or_pos m with rfl|hp
 ·obtain⟨r,hr,hD⟩:=fin 0 hm hz (.inl rfl)
  simp -dsimp (maxSteps:=1000000) (disch:=try exact dx) only[wpS,wpT,reduceEqDiff,f3,f0,hr]
  exact hD
 ·obtain⟨k,rfl⟩ : ∃k,m=k+1:=⟨m - 1,by omega⟩
  have h2:IntKind.i64.wrap (((k+1:Nat):Int) - 1)=(k:Int):=by rw[wrap_i64 (by omega)];omega
  simp -dsimp (maxSteps:=1000000) (disch:=try exact dx) only[wpS,wpT,reduceEqDiff,f3,f0,h2,hd.1.idx es29 (show k<ds.length by omega),hd.1.ld (Keep.refl _) (P:=prog) (t:=3) (c:=k) (by simp<;>omega) ag3,map_get,get_some (show k<ds.length by omega)]
  refine bq_intro (fun hc=>?_) (fun hc=>?_)
  ·simp -dsimp (maxSteps:=1000000) (disch:=try exact dx) only[wpS,reduceEqDiff,f3,h2]
   refine⟨k,by omega,rfl,by omega,by simp,by simp[f0],fun j hj=>?_⟩
   by_cases hjk:j=k
   ·subst hjk;simpa using hc
   ·exact hz j (by omega)
  ·obtain⟨r,hr,hD⟩:=fin (k+1) hm hz (.inr (by simpa using hc))
   simp -dsimp (maxSteps:=1000000) (disch:=try exact dx) only[wpS,wpT,reduceEqDiff,f3,f0,hr]
   exact hD
theorem cut_block {h:IH} {v:Value} {ds:List Nat} (hd:DigU h v ds):WV prog (.func (.func 166) #[] #[]) [v] h fun r h'=>blockOf r=blockOf v:=by
 have hb:=hd.2.2
 refine enter (nt:=21) (rs:=[.tmp 2]) Proofs.Tryz.func166 rfl rfl rfl (by simp) ?_
 simp -dsimp (maxSteps:=1000000) (disch:=try exact dx) only[wpS,reduceEqDiff,hd.1.len sl29]
 refine loop (fun m fr h1=>h1=h∧m≤ds.length∧fget fr 3=some (KN m)∧fget fr 0=some v) ds.length ⟨rfl,Nat.le_refl _,by simp,by simp⟩ ?_
 rintro m fr h1 ⟨rfl,hm,f3,f0⟩
 have fin : ∀n:Nat,n≤ds.length → ∃r,sliceOp prog h1 29 v none (some (KN n)) none=some r∧blockOf r=blockOf v:=by
  intro n hn
  obtain⟨r,hr,hs⟩:=hd.1.slice (Keep.refl _) (P:=prog) (t:=29) u29 sz3 (l:=0) (m:=n) (Nat.zero_le _) hn (lo:=none) (hi:=some (KN n)) rfl (fun c hc=>natOf_nat (k:=.i64) (by omega))
  exact⟨r,hr,slice_block u29 hr⟩
 rcases Nat.eq_zero_or_pos m with rfl|hp
 ·obtain⟨r,hr,hD⟩:=fin 0 hm
  simp -dsimp (maxSteps:=1000000) (disch:=try exact dx) only[wpS,wpT,reduceEqDiff,f3,f0,hr]
  exact hD
 ·obtain⟨k,rfl⟩ : ∃k,m=k+1:=⟨m - 1,by omega⟩
  have h2:IntKind.i64.wrap (((k+1:Nat):Int) - 1)=(k:Int):=by rw[wrap_i64 (by omega)];omega
  simp -dsimp (maxSteps:=1000000) (disch:=try exact dx) only[wpS,wpT,reduceEqDiff,f3,f0,h2,hd.1.idx es29 (show k<ds.length by omega),hd.1.ld (Keep.refl _) (P:=prog) (t:=3) (c:=k) (by simp<;>omega) ag3,map_get,get_some (show k<ds.length by omega)]
  refine bq_intro (fun hc=>?_) (fun hc=>?_)
  ·simp -dsimp (maxSteps:=1000000) (disch:=try exact dx) only[wpS,reduceEqDiff,f3,h2]
   exact⟨k,by omega,rfl,by omega,by simp,by simp[f0]⟩
  ·obtain⟨r,hr,hD⟩:=fin (k+1) hm
   simp -dsimp (maxSteps:=1000000) (disch:=try exact dx) only[wpS,reduceEqDiff,f3,f0,hr]
   exact hD
def LongIs (h:IH) (v:Value) (z:Int):Prop:=∃s,v=.agg #[.bool (decide (z<0)),s]∧Dig h s z.natAbs
theorem LongIs.keep {h h':IH} {v:Value} {z:Int} (d:LongIs h v z) (e:Keep h h'):LongIs h' v z:=let ⟨s,a,b⟩:=d;⟨s,a,b.keep e⟩
theorem made_ok {h:IH} {v:Value} {ds:List Nat} (hd:DigU h v ds) (b:Bool):WV prog (.func (.func 156) #[] #[]) [.bool b,v] h fun r h'=>Ext h h'∧LongIs h' r (if b then -(valD ds:Int) else valD ds):=by
 refine enter (nt:=15) (rs:=[.cell 4 133]) Proofs.Tryz.func156 rfl rfl rfl (by simp) ?_
 simp -dsimp (maxSteps:=1000000) (disch:=try exact dx) only[wpS,reduceEqDiff,reduceAdd,zc133]
 refine call (cut_ok (hd.keep ((Keep.refl h).new _))) ?_
 rintro r h1 ⟨rfl,ds',hD,hN,hv⟩
 have hl:=hD.2.2
 have hz:=hN.nil_iff
 have hk : ∀o,Keep (h.new (.cells [.bool false,.slice none 0 0] 0 none)) ((h.new (.cells [.bool false,.slice none 0 0] 0 none)).put h.n o):=fun o=>(Keep.refl _).put (get_new_same _ _ rfl) o
 cases b
 ·simp -dsimp (maxSteps:=1000000) (disch:=try exact dx) only[wpS,wpT,reduceEqDiff,reduceLeDiff,reduceAdd,bv133,pl133_0,pl133_1,st133,ld133,hD.1.cells,hD.1.cok]
  refine⟨((Ext.refl h).new _).put (Nat.le_refl _) _,r,?_,ds',hD.keep (hk _),hN,?_⟩
  ·simp
  ·simp[hv]
 ·simp -dsimp (maxSteps:=1000000) (disch:=try exact dx) only[wpS,wpT,reduceEqDiff,reduceLeDiff,reduceAdd,bv133,pl133_0,pl133_1,st133,ld133,hD.1.cells,hD.1.cok,hD.1.len sl29]
  refine⟨((Ext.refl h).new _).put (Nat.le_refl _) _,r,?_,ds',hD.keep (hk _),hN,?_⟩
  ·rw[hv] at hz
   have:0<ds'.length↔0<valD ds:=by
    cases ds' with
    | nil=>simp at hz;simp[hz]
    | cons x l=>simp at hz;simp;omega
   simp[this]
  ·simp[hv]
theorem order_ok {h:IH} {v w:Value} {a b:List Nat} (ha:DigU h v a) (hb:DigU h w b) (na:Norm a) (nb:Norm b) :
  WV prog (.func (.func 152) #[] #[]) [v,w] h fun r h'=>h'=h ∧ ∃c:Int,r=KI c∧(c<0↔valD a<valD b)∧(c=0↔valD a=valD b) ∧ -9223372036854775808≤c∧c≤9223372036854775807:=by
 have la:=ha.2.2
 have lb:=hb.2.2
 refine enter (nt:=41) (rs:=[.tmp 4]) Proofs.Tryz.func152 rfl rfl rfl (by simp) ?_
 simp -dsimp (maxSteps:=1000000) (disch:=try exact dx) only[wpS,reduceEqDiff,reduceAdd,ha.1.len sl29,hb.1.len sl29]
 refine bq_intro ?_ ?_<;>intro hc<;>simp only[bne_iff_ne,bne_eq_false_iff_eq,ne_eq] at hc
 ·simp -dsimp (maxSteps:=1000000) (disch:=try exact dx) only[wpS,wpT,reduceEqDiff,ha.1.len sl29,hb.1.len sl29]
  refine⟨_,rfl,?_,?_,by omega,by omega⟩
  ·constructor
   ·intro h1;exact lt_of_len ha.2.1 nb (by omega)
   ·intro h1
    have:=na.len_le hb.2.1 (Nat.le_of_lt h1)
    omega
  ·constructor
   ·intro h1;omega
   ·intro h1
    have h2:=na.len_le hb.2.1 (Nat.le_of_eq h1)
    have h3:=nb.len_le ha.2.1 (Nat.le_of_eq h1.symm)
    omega
 ·have hl:a.length=b.length:=by omega
  simp -dsimp (maxSteps:=1000000) (disch:=try exact dx) only[wpS,wpT,reduceEqDiff,ha.1.len sl29]
  refine loop (fun m fr h1=>h1=h∧m≤a.length∧fget fr 5=some (KI ((m:Int) - 1))∧fget fr 0=some v∧fget fr 1=some w ∧ ∀j,m≤j→j<a.length→a.getD j 0=b.getD j 0) a.length ⟨rfl,Nat.le_refl _,by simp,by simp,by simp,fun j hj hj2=>by omega⟩ ?_
  rintro m fr h1 ⟨rfl,hm,f5,f0,f1,hz⟩
  rcases Nat.eq_zero_or_pos m with rfl|hp
  ·simp -dsimp (maxSteps:=1000000) (disch:=try exact dx) only[wpS,wpT,reduceEqDiff,f5]
   refine⟨_,rfl,?_,?_,by omega,by omega⟩
   ·have:=eq_of_all hl (fun j hj=>hz j (Nat.zero_le _) hj);omega
   ·have:=eq_of_all hl (fun j hj=>hz j (Nat.zero_le _) hj);omega
  ·obtain⟨k,rfl⟩ : ∃k,m=k+1:=⟨m - 1,by omega⟩
   have h2:(((k+1:Nat):Int) - 1)=(k:Int):=by omega
   rw[h2] at f5
   have da:=getD_lt ha.2.1 k
   have db:=getD_lt hb.2.1 k
   simp -dsimp (maxSteps:=1000000) (disch:=try exact dx) only[wpS,wpT,reduceEqDiff,f5,f0,f1,ha.1.idx es29 (show k<a.length by omega),ha.1.ld (Keep.refl _) (P:=prog) (t:=3) (c:=k) (by simp<;>omega) ag3,hb.1.idx es29 (show k<b.length by omega),hb.1.ld (Keep.refl _) (P:=prog) (t:=3) (c:=k) (by simp<;>omega) ag3,map_get,get_some (show k<a.length by omega),get_some (show k<b.length by omega)]
   refine bq_intro ?_ ?_<;>intro hc<;>simp only[bne_iff_ne,bne_eq_false_iff_eq,ne_eq] at hc
   ·simp -dsimp (maxSteps:=1000000) (disch:=try exact dx) only[wpS,wpT,reduceEqDiff,f5,f0,f1,ha.1.idx es29 (show k<a.length by omega),ha.1.ld (Keep.refl _) (P:=prog) (t:=3) (c:=k) (by simp<;>omega) ag3,hb.1.idx es29 (show k<b.length by omega),hb.1.ld (Keep.refl _) (P:=prog) (t:=3) (c:=k) (by simp<;>omega) ag3,map_get,get_some (show k<a.length by omega),get_some (show k<b.length by omega)]
    have key:(a.getD k 0<b.getD k 0→valD a<valD b)∧(b.getD k 0<a.getD k 0→valD b<valD a) :=
     ⟨fun h=>lt_of_top ha.2.1 hl (by omega) h (fun j x y=>hz j (by omega) y),fun h=>lt_of_top hb.2.1 hl.symm (by omega) h (fun j x y=>(hz j (by omega) (by omega)).symm)⟩
    refine⟨_,rfl,?_,?_,by omega,by omega⟩
    ·constructor
     ·intro h1;exact key.1 (by omega)
     ·intro h1
      apply Classical.byContradiction;intro h3
      have:=key.2 (by omega)
      omega
    ·constructor
     ·intro h1;omega
     ·intro h1
      rcases Nat.lt_or_ge (a.getD k 0) (b.getD k 0) with h3|h3
      ·have:=key.1 h3;omega
      ·have:=key.2 (by omega);omega
   ·simp -dsimp (maxSteps:=1000000) (disch:=try exact dx) only[wpS,wpT,reduceEqDiff,f5]
    refine⟨k,by omega,rfl,by omega,by simp,by simp[f0],by simp[f1],fun j h3 h4=>?_⟩
    by_cases hjk:j=k
    ·subst hjk;exact Int.ofNat.inj hc
    ·exact hz j (by omega) h4
end Go.Id

namespace Go.Id
open Go
open Go.Proofs.Tryz (prog)
open Nat (reduceAdd reduceEqDiff reduceLeDiff)
theorem map_snoc (os:List Nat) (d:Nat):os.map KN ++ [KN d]=(os ++ [d]).map KN:=by simp
theorem Acc.block {h:IH} {n0 sz:Nat} {v:Value} {n:Nat} {cs:List Value} (a:Acc h n0 sz v n cs) {k:Nat} (hk:k<n0):blockOf v≠some (2*k):=by
 obtain⟨hz,hl,⟨rfl,_⟩|⟨j,fam,rfl,hn,h1,h2,h3,h4⟩⟩:=a
 ·intro h;cases h
 ·intro h
  have:2*j=2*k:=Option.some.inj h
  omega
theorem less_at {h:IH} {v w:Value} {a b:List Nat} (ha:DigU h v a) (hb:DigU h w b) (nb:Norm b) (hle:valD b≤valD a) :
  WV prog (.func (.func 153) #[] #[]) [v,w] h fun r h'=>(Ext h h'∧Dig h' r (valD a - valD b)) ∧ ∀k,k<h.n→blockOf r≠some (2*k):=by
 have la:=ha.2.2
 have lb:=hb.2.2
 refine enter (nt:=41) (rs:=[.tmp 4]) Proofs.Tryz.func153 rfl rfl rfl (by simp) ?_
 simp -dsimp (maxSteps:=1000000) (disch:=try exact dx) only[wpS,reduceAdd]
 refine loop (fun m fr h1 => ∃(i bor:Nat) (os:List Nat) (out:Value),i+m=a.length∧fget fr 0=some v∧fget fr 1=some w∧fget fr 5=some out∧fget fr 6=some (KN bor)∧fget fr 7=some (KN i)∧bor≤1∧os.length=i∧Digs os ∧
  valT a i+bor*4294967296 ^ i=valT b i+valD os∧Acc h1 h.n 1 out i (os.map KN)∧Ext h h1) a.length ⟨0,0,[],.slice none 0 0,by simp,by simp,by simp,by simp,by simp,by simp,by omega,rfl,fun d hd=>(by cases hd),by simp[valT,valD],Acc.nil _ _ (by omega),Ext.refl _⟩ ?_
 rintro m fr h1 ⟨i,bor,os,out,him,f0,f1,f5,f6,f7,hbor,hos,hd,hv,hA,hE⟩
 simp -dsimp (maxSteps:=1000000) (disch:=try exact dx) only[wpS,reduceEqDiff,f0,f7,ha.1.len sl29]
 refine bq_intro ?_ ?_<;>intro hc<;>simp only[decide_eq_true_eq,decide_eq_false_iff_not] at hc
 ·have hi:i<a.length:=by omega
  have da:=getD_lt ha.2.1 i
  have db:=getD_lt hb.2.1 i
  simp -dsimp (maxSteps:=1000000) (disch:=try exact dx) only[wpS,wpT,reduceEqDiff,f0,f1,f6,f7,ha.1.idx es29 hi,ha.1.ld hE.keep (P:=prog) (t:=3) (c:=i) (by simpa using hi) ag3,map_get,get_some hi,hb.1.len sl29]
  refine bq_cut (fun fr2 h2=>h2=h1∧fget fr2 0=some v∧fget fr2 1=some w∧fget fr2 5=some out∧fget fr2 7=some (KN i)∧fget fr2 8=some (KI ((a.getD i 0:Int) - bor - (b.getD i 0:Int)))) (fun hc=>?_) (fun hc=>?_) ?_
  ·simp only[decide_eq_true_eq] at hc
   have hi2:i<b.length:=by omega
   simp -dsimp (maxSteps:=1000000) (disch:=try exact dx) only[wpS,wpT,reduceEqDiff,f1,f7,hb.1.idx es29 hi2,hb.1.ld hE.keep (P:=prog) (t:=3) (c:=i) (by simpa using hi2) ag3,map_get,get_some hi2]
   exact⟨rfl,by simp[f0],by simp[f1],by simp[f5],by simp[f7],by simp⟩
  ·simp only[decide_eq_false_iff_not] at hc
   simp -dsimp (maxSteps:=1000000) (disch:=try exact dx) only[wpS,wpT]
   exact⟨rfl,by simp[f0],by simp[f1],by simp[f5],by simp[f7],by rw[getD_of_ge (show b.length≤i by omega)];simp⟩
  ·rintro fr2 h2 ⟨rfl,f0,f1,f5,f7,f8⟩
   simp -dsimp (maxSteps:=1000000) (disch:=try exact dx) only[wpS,reduceEqDiff,f8]
   refine bq_cut (fun fr3 h3=>h3=h2∧fget fr3 0=some v∧fget fr3 1=some w∧fget fr3 5=some out∧fget fr3 7=some (KN i) ∧ ∃d bor':Nat,fget fr3 8=some (KN d)∧fget fr3 6=some (KN bor')∧d<4294967296∧bor'≤1∧a.getD i 0+bor'*4294967296=b.getD i 0+bor+d) (fun hc=>?_) (fun hc=>?_) ?_
   ·simp only[decide_eq_true_eq] at hc
    simp -dsimp (maxSteps:=1000000) (disch:=try exact dx) only[wpS,wpT,reduceEqDiff,f8]
    refine⟨rfl,by simp[f0],by simp[f1],by simp[f5],by simp[f7],a.getD i 0+4294967296 - bor - b.getD i 0,1,?_,by simp,by omega,by omega,by omega⟩
    simp only[fget_cons,reduceEqDiff,if_false,if_true]
    congr 2;omega
   ·simp only[decide_eq_false_iff_not] at hc
    simp -dsimp (maxSteps:=1000000) (disch:=try exact dx) only[wpS,wpT]
    refine⟨rfl,by simp[f0],by simp[f1],by simp[f5],by simp[f7],a.getD i 0 - bor - b.getD i 0,0,?_,by simp,by omega,by omega,by omega⟩
    simp only[fget_cons,reduceEqDiff,if_false,f8]
    congr 2;omega
   ·rintro fr3 h3 ⟨rfl,f0,f1,f5,f7,d,bor',f8,f6,hd2,hb2,hrel⟩
    obtain⟨out',h',hap,hA',hG,hE'⟩:=hA.app1 (P:=prog) (t:=29) ap29 (x:=KN d) rfl (by omega) hE.n hE (Nat.le_refl _)
    simp -dsimp (maxSteps:=1000000) (disch:=try exact dx) only[wpS,wpT,reduceEqDiff,reduceLeDiff,reduceAdd,bs29,ba29_29,f5,f7,f8,hap]
    refine⟨m - 1,by omega,i+1,bor',os ++ [d],out',by omega,by simp[f0],by simp[f1],by simp,by simp[f6],by simp,hb2,by simp[hos],hd.append hd2,?_,by rw[←map_snoc];exact hA',hE'⟩
    rw[valD_append,valT,valT,hos]
    grind
 ·obtain rfl:i=a.length:=by omega
  have hbl:=nb.len_le ha.2.1 hle
  rw[valT_ge hbl,valT_ge (Nat.le_refl _)] at hv
  have hlt:=valD_lt hd
  rw[hos] at hlt
  have hb0:bor=0:=by
   apply Classical.byContradiction;intro hne
   have:bor=1:=by omega
   subst this;omega
  subst hb0
  have hD:DigU h1 out os:=⟨by rw[hos];exact hA.sl,hd,by omega⟩
  simp -dsimp (maxSteps:=1000000) (disch:=try exact dx) only[wpS,wpT,reduceEqDiff,f5]
  refine call ((cut_ok hD).and (cut_block hD)) ?_
  rintro r h2 ⟨⟨rfl,hr⟩,hbk⟩
  simp -dsimp (maxSteps:=1000000) (disch:=try exact dx) only[wpS,reduceEqDiff]
  refine⟨⟨hE,?_⟩,fun k hk=>?_⟩
  ·rw[show valD a - valD b=valD os by omega];exact hr
  ·rw[hbk];exact hA.block hk
theorem less_ok {h:IH} {v w:Value} {a b:List Nat} (ha:DigU h v a) (hb:DigU h w b) (nb:Norm b) (hle:valD b≤valD a) :
  WV prog (.func (.func 153) #[] #[]) [v,w] h fun r h'=>Ext h h'∧Dig h' r (valD a - valD b):=(less_at ha hb nb hle).mono fun _ _ k=>k.1
theorem more_ok {h:IH} {v w:Value} {a b:List Nat} (ha:DigU h v a) (hb:DigU h w b) (la:a.length≤1000001) (lb:b.length≤1000001) :
  WV prog (.func (.func 175) #[] #[]) [v,w] h fun r h'=>Ext h h' ∧ ∃os,DigU h' r os∧valD os=valD a+valD b:=by
 refine enter (nt:=52) (rs:=[.tmp 4]) Proofs.Tryz.func175 rfl rfl rfl (by simp) ?_
 simp -dsimp (maxSteps:=1000000) (disch:=try exact dx) only[wpS,reduceAdd]
 refine loop (fun m fr h1 => ∃(i c:Nat) (os:List Nat) (out:Value),i+m=1000003∧fget fr 0=some v∧fget fr 1=some w∧fget fr 5=some out∧fget fr 6=some (KN c)∧fget fr 7=some (KN i)∧c≤1∧os.length=i∧Digs os∧i≤1000002∧(1000001<i→c=0) ∧
  valD os+c*4294967296 ^ i=valT a i+valT b i∧Acc h1 h.n 1 out i (os.map KN)∧Ext h h1) 1000003 ⟨0,0,[],.slice none 0 0,by simp,by simp,by simp,by simp,by simp,by simp,by omega,rfl,fun d hd=>(by cases hd),by omega,by omega,by simp[valT,valD],Acc.nil _ _ (by omega),Ext.refl _⟩ ?_
 rintro m fr h1 ⟨i,c,os,out,him,f0,f1,f5,f6,f7,hcc,hos,hd,hi2,hi3,hv,hA,hE⟩
 rw[d_seq]
 by_cases hcont:i<a.length∨i<b.length∨0<c
 ·refine cut (fun fr2 h2=>h2=h1∧fget fr2 0=some v∧fget fr2 1=some w∧fget fr2 5=some out∧fget fr2 6=some (KN c)∧fget fr2 7=some (KN i)) ?_ ?_
  ·by_cases c1:i<a.length
   ·simp -dsimp (maxSteps:=1000000) (disch:=try exact dx) only[wpS,wpT,reduceEqDiff,f0,f7,ha.1.len sl29]
    exact⟨rfl,by simp[f0],by simp[f1],by simp[f5],by simp[f6],by simp[f7]⟩
   ·by_cases c2:i<b.length
    ·simp -dsimp (maxSteps:=1000000) (disch:=try exact dx) only[wpS,wpT,reduceEqDiff,f0,f1,f7,ha.1.len sl29,hb.1.len sl29]
     exact⟨rfl,by simp[f0],by simp[f1],by simp[f5],by simp[f6],by simp[f7]⟩
    ·simp -dsimp (maxSteps:=1000000) (disch:=try exact dx) only[wpS,wpT,reduceEqDiff,f0,f1,f6,f7,ha.1.len sl29,hb.1.len sl29]
     exact⟨rfl,by simp[f0],by simp[f1],by simp[f5],by simp[f6],by simp[f7]⟩
  ·rintro fr2 h2 ⟨rfl,f0,f1,f5,f6,f7⟩
   have da:=getD_lt ha.2.1 i
   have db:=getD_lt hb.2.1 i
   simp -dsimp (maxSteps:=1000000) (disch:=try exact dx) only[wpS,reduceEqDiff,f0,f7,ha.1.len sl29]
   refine bq_cut (fun fr3 h3=>h3=h2∧fget fr3 0=some v∧fget fr3 1=some w∧fget fr3 5=some out∧fget fr3 7=some (KN i)∧fget fr3 6=some (KN (c+a.getD i 0))) (fun hc=>?_) (fun hc=>?_) ?_
   ·simp only[decide_eq_true_eq] at hc
    have hi:i<a.length:=by omega
    simp -dsimp (maxSteps:=1000000) (disch:=try exact dx) only[wpS,wpT,reduceEqDiff,f0,f6,f7,ha.1.idx es29 hi,ha.1.ld hE.keep (P:=prog) (t:=3) (c:=i) (by simpa using hi) ag3,map_get,get_some hi]
    exact⟨rfl,by simp[f0],by simp[f1],by simp[f5],by simp[f7],by simp⟩
   ·simp only[decide_eq_false_iff_not] at hc
    simp -dsimp (maxSteps:=1000000) (disch:=try exact dx) only[wpS,wpT]
    exact⟨rfl,by simp[f0],by simp[f1],by simp[f5],by simp[f7],by rw[getD_of_ge (show a.length≤i by omega)];simp[f6]⟩
   ·rintro fr3 h3 ⟨rfl,f0,f1,f5,f7,f6⟩
    simp -dsimp (maxSteps:=1000000) (disch:=try exact dx) only[wpS,reduceEqDiff,f1,f7,hb.1.len sl29]
    refine bq_cut (fun fr4 h4=>h4=h3∧fget fr4 0=some v∧fget fr4 1=some w∧fget fr4 5=some out∧fget fr4 7=some (KN i)∧fget fr4 6=some (KN (c+a.getD i 0+b.getD i 0))) (fun hc=>?_) (fun hc=>?_) ?_
    ·simp only[decide_eq_true_eq] at hc
     have hi:i<b.length:=by omega
     simp -dsimp (maxSteps:=1000000) (disch:=try exact dx) only[wpS,wpT,reduceEqDiff,f1,f6,f7,hb.1.idx es29 hi,hb.1.ld hE.keep (P:=prog) (t:=3) (c:=i) (by simpa using hi) ag3,map_get,get_some hi]
     exact⟨rfl,by simp[f0],by simp[f1],by simp[f5],by simp[f7],by simp⟩
    ·simp only[decide_eq_false_iff_not] at hc
     simp -dsimp (maxSteps:=1000000) (disch:=try exact dx) only[wpS,wpT]
     exact⟨rfl,by simp[f0],by simp[f1],by simp[f5],by simp[f7],by rw[getD_of_ge (show b.length≤i by omega)];simp[f6]⟩
    ·rintro fr4 h4 ⟨rfl,f0,f1,f5,f7,f6⟩
     have hi5:i≤1000001:=by
      apply Classical.byContradiction;intro hn
      have:=hi3 (by omega)
      omega
     generalize hs:c+a.getD i 0+b.getD i 0=s at f6
     have e1:((s:Int) % 4294967296)=((s % 4294967296:Nat):Int):=by omega
     have e2:((s:Int) / 4294967296)=((s / 4294967296:Nat):Int):=by omega
     obtain⟨out',h',hap,hA',hG,hE'⟩:=hA.app1 (P:=prog) (t:=29) ap29 (x:=KN (s % 4294967296)) rfl (by omega) hE.n hE (Nat.le_refl _)
     simp -dsimp (maxSteps:=1000000) (disch:=try exact dx) only[wpS,wpT,reduceEqDiff,reduceLeDiff,reduceAdd,bs29,ba29_29,f5,f6,f7,e1,hap,e2]
     refine⟨m - 1,by omega,i+1,s / 4294967296,os ++ [s % 4294967296],out',by omega,by simp[f0],by simp[f1],by simp,by simp,by simp,by omega,by simp[hos],hd.append (by omega),by omega,fun hh=>?_,?_,by rw[←map_snoc];exact hA',hE'⟩
     ·have h1:=getD_of_ge (ds:=a) (k:=i) (by omega)
      have h2:=getD_of_ge (ds:=b) (k:=i) (by omega)
      omega
     ·rw[valD_append,valT,valT,hos]
      have h5:s % 4294967296+s / 4294967296*4294967296=c+a.getD i 0+b.getD i 0:=by omega
      grind
 ·refine cut (fun fr2 h2=>False) ?_ (fun _ _ h=>h.elim)
  simp -dsimp (maxSteps:=1000000) (disch:=try exact dx) only[wpS,wpT,reduceEqDiff,f0,f1,f5,f6,f7,ha.1.len sl29,hb.1.len sl29]
  obtain rfl:c=0:=by omega
  rw[valT_ge (by omega),valT_ge (by omega)] at hv
  exact⟨hE,os,⟨by rw[hos];exact hA.sl,hd,by omega⟩,by omega⟩
end Go.Id

namespace Go.Id
open Go
open Nat (reduceAdd reduceEqDiff reduceLeDiff)
set_option maxHeartbeats 16000000
@[irreducible] def Small (x:Nat):Prop:=x<4294967296 ^ 1000000
theorem Small.lt {x:Nat} (h:Small x):x<4294967296 ^ 1000000:=by unfold Small at h;exact h
theorem Small.mk {x:Nat} (h:x<4294967296 ^ 1000000):Small x:=by unfold Small;exact h
theorem Small.le {x y:Nat} (h:Small x) (k:y≤x):Small y:=.mk (Nat.lt_of_le_of_lt k h.lt)
theorem Norm.small {ds:List Nat} (h:Norm ds) (hs:Small (valD ds)):ds.length≤1000000:=by
 by_cases hne:ds = []
 ·subst hne;simp
 ·have h1:=h.ge hne
  have h2:4294967296 ^ (ds.length - 1)<4294967296 ^ 1000000:=Nat.lt_of_le_of_lt h1 hs.lt
  have:=(Nat.pow_lt_pow_iff_right (a:=4294967296) (by omega)).1 h2
  omega
abbrev SmallI (z:Int):Prop:=Small z.natAbs
theorem turn_ok {h:IH} {v:Value} {z:Int} (hv:LongIs h v z):WV Proofs.Tryz.prog (.func (.func 154) #[] #[]) [v] h fun r h'=>Ext h h'∧LongIs h' r (-z):=by
 obtain⟨s,rfl,ds,hD,hN,hx⟩:=hv
 refine enter (nt:=9) (rs:=[.cell 2 133]) Proofs.Tryz.func154 rfl rfl rfl (by simp) ?_
 simp -dsimp (maxSteps:=1000000) (disch:=try exact dx) only[wpS,reduceEqDiff,zc133,fa133_0,ld4,fa133_1,ld29]
 refine call (made_ok (hD.keep (((Keep.refl h).new _).new _)) _) ?_
 rintro r h1 ⟨hE,s1,rfl,h2⟩
 have hg:h1.ext.get (h.n+1)=some (.cells [.bool false,.slice none 0 0] 0 none):=by
  rw[hE.get _ (by simp)];exact get_new_same _ _ rfl
 obtain⟨ds1,hD1,hr1⟩:=h2
 simp -dsimp (maxSteps:=1000000) (disch:=try exact dx) only[wpS,wpT,reduceEqDiff,reduceLeDiff,reduceAdd,st133,ld133,hg,hD1.1.cok]
 refine⟨((((Ext.refl h).new _).new _).trans hE).put (by omega) _,?_⟩
 have hz:(if (!decide (z<0))=true then -(valD ds:Int) else valD ds) = -z:=by
  by_cases h0:z<0<;>simp[h0]<;>omega
 rw[hz] at hr1 ⊢
 exact⟨s1,rfl,ds1,hD1.keep ((Keep.refl _).put hg _),hr1⟩
theorem plus_ok {h:IH} {v w:Value} {x y:Int} (hv:LongIs h v x) (hw:LongIs h w y) (sx:SmallI x) (sy:SmallI y) :
  WV Proofs.Tryz.prog (.func (.func 170) #[] #[]) [v,w] h fun r h'=>Ext h h'∧LongIs h' r (x+y):=by
 obtain⟨s,rfl,a,ha,na,hx⟩:=hv
 obtain⟨t,rfl,b,hb,nb,hy⟩:=hw
 have la:a.length≤1000000:=na.small (by rw[hx];exact sx)
 have lb:b.length≤1000000:=nb.small (by rw[hy];exact sy)
 refine enter (nt:=40) (rs:=[.cell 4 133]) Proofs.Tryz.func170 rfl rfl rfl (by simp) ?_
 simp -dsimp (maxSteps:=1000000) (disch:=try exact dx) only[wpS,reduceEqDiff,reduceAdd,zc133,fa133_0,ld4,be4]
 have kk : ∀o1 o2 o3,Keep h (((h.new o1).new o2).new o3):=fun o1 o2 o3=>(((Keep.refl h).new _).new _).new _
 have ee : ∀o1 o2 o3,Ext h (((h.new o1).new o2).new o3):=fun o1 o2 o3=>(((Ext.refl h).new _).new _).new _
 refine bq_intro (fun hc=>?_) (fun hc=>?_)
 ·have hc:(x<0↔y<0):=by simpa using hc
  simp -dsimp (maxSteps:=1000000) (disch:=try exact dx) only[wpS]
  refine drawn [(1,[7])] (by kernel_rfl) (by kernel_rfl) rfl ?_
  simp -dsimp (maxSteps:=1000000) (disch:=try exact dx) only[wpS,reduceEqDiff,fa133_0,ld4,fa133_1,ld29]
  refine call (more_ok (ha.keep (kk _ _ _)) (hb.keep (kk _ _ _)) (by omega) (by omega)) ?_
  rintro r h1 ⟨hE,os,hD,hval⟩
  simp -dsimp (maxSteps:=1000000) (disch:=try exact dx) only[wpS,reduceEqDiff]
  refine call (made_ok hD _) ?_
  rintro r2 h2 ⟨hE2,s1,rfl,ds1,hD1,hr1⟩
  have hg:h2.ext.get (h.n+1+1)=some (.cells [.bool false,.slice none 0 0] 0 none):=by
   rw[hE2.get _ (by have:=hE.n;simp at this;omega),hE.get _ (by simp)];exact get_new_same _ _ rfl
  have hrow : ∀k',k'≤h.n→True:=fun _ _=>trivial
  have hr0:h1.row (2*h.n)=some [.bool (decide (x<0)),s]:=by
   rw[hE.row (by simp<;>omega)];simp -dsimp (maxSteps:=1000000) (disch:=try exact dx) only[wpS]
  simp -dsimp (maxSteps:=1000000) (disch:=try exact dx) only[wpS,wpT,reduceEqDiff,reduceLeDiff,reduceAdd,st133,hg,hD1.1.cok]
  refine⟨wpSteady_one rfl rfl rfl rfl (steady_load (av:=ptr (2*h.n) 0) (v:=.bool (decide (x<0))) rfl ?_ ?_),?_⟩
  ·simp -dsimp (maxSteps:=1000000) (disch:=try exact dx) only[wpS,ld4]
  ·simp -dsimp (maxSteps:=1000000) (disch:=try exact dx) only[wpS,ld4,hr0]
  ·simp -dsimp (maxSteps:=1000000) (disch:=try exact dx) only[wpS,wpT,reduceEqDiff,reduceLeDiff,reduceAdd,ld133]
   refine⟨(((ee _ _ _).trans hE).trans hE2).put (by omega) _,?_⟩
   have hz:(if decide (x<0)=true then -(valD os:Int) else valD os)=x+y:=by
    by_cases h0:x<0<;>simp[h0]<;>omega
   rw[hz] at hr1 ⊢
   exact⟨s1,rfl,ds1,hD1.keep ((Keep.refl _).put hg _),hr1⟩
 ·have hc : ¬(x<0↔y<0):=by simpa using hc
  simp -dsimp (maxSteps:=1000000) (disch:=try exact dx) only[wpS,reduceEqDiff,fa133_1,ld29]
  refine call (order_ok (ha.keep (kk _ _ _)) (hb.keep (kk _ _ _)) na nb) ?_
  rintro r h1 ⟨rfl,c,rfl,hc1,hc2,hc3,hc4⟩
  simp -dsimp (maxSteps:=1000000) (disch:=try exact dx) only[wpS,reduceEqDiff]
  refine bq_intro ?_ ?_<;>intro hc5<;>simp only[decide_eq_true_eq,decide_eq_false_iff_not] at hc5
  ·simp -dsimp (maxSteps:=1000000) (disch:=try exact dx) only[wpS,wpT]
   refine drawn [(1,[7])] (by kernel_rfl) (by kernel_rfl) rfl ?_
   simp -dsimp (maxSteps:=1000000) (disch:=try exact dx) only[wpS,reduceEqDiff,fa133_0,ld4,fa133_1,ld29]
   refine call (less_ok (ha.keep (kk _ _ _)) (hb.keep (kk _ _ _)) nb (by omega)) ?_
   rintro r h1 ⟨hE,os,hD,hN,hval⟩
   simp -dsimp (maxSteps:=1000000) (disch:=try exact dx) only[wpS,reduceEqDiff]
   refine call (made_ok hD _) ?_
   rintro r2 h2 ⟨hE2,s1,rfl,ds1,hD1,hr1⟩
   have hg:h2.ext.get (h.n+1+1)=some (.cells [.bool false,.slice none 0 0] 0 none):=by
    rw[hE2.get _ (by have:=hE.n;simp at this;omega),hE.get _ (by simp)];exact get_new_same _ _ rfl
   have hr0:h1.row (2*h.n)=some [.bool (decide (x<0)),s]:=by
    rw[hE.row (by simp<;>omega)];simp -dsimp (maxSteps:=1000000) (disch:=try exact dx) only[wpS]
   simp -dsimp (maxSteps:=1000000) (disch:=try exact dx) only[wpS,wpT,reduceEqDiff,reduceLeDiff,reduceAdd,st133,hg,hD1.1.cok]
   refine⟨wpSteady_one rfl rfl rfl rfl (steady_load (av:=ptr (2*h.n) 0) (v:=.bool (decide (x<0))) rfl ?_ ?_),?_⟩
   ·simp -dsimp (maxSteps:=1000000) (disch:=try exact dx) only[wpS,ld4]
   ·simp -dsimp (maxSteps:=1000000) (disch:=try exact dx) only[wpS,ld4,hr0]
   ·simp -dsimp (maxSteps:=1000000) (disch:=try exact dx) only[wpS,wpT,reduceEqDiff,reduceLeDiff,reduceAdd,ld133]
    refine⟨(((ee _ _ _).trans hE).trans hE2).put (by omega) _,?_⟩
    have hz:(if decide (x<0)=true then -(valD os:Int) else valD os).natAbs=(x+y).natAbs∧((if decide (x<0)=true then -(valD os:Int) else valD os)<0↔x+y<0):=by
     by_cases h0:x<0<;>simp[h0]<;>omega
    rw[hz.1] at hr1
    refine⟨s1,?_,ds1,hD1.keep ((Keep.refl _).put hg _),hr1⟩
    simp only[hz.2]<;>rfl
  ·simp -dsimp (maxSteps:=1000000) (disch:=try exact dx) only[wpS,wpT]
   refine drawn [(1,[7])] (by kernel_rfl) (by kernel_rfl) rfl ?_
   simp -dsimp (maxSteps:=1000000) (disch:=try exact dx) only[wpS,reduceEqDiff,fa133_0,ld4,fa133_1,ld29]
   refine call (less_ok (hb.keep (kk _ _ _)) (ha.keep (kk _ _ _)) na (by omega)) ?_
   rintro r h1 ⟨hE,os,hD,hN,hval⟩
   simp -dsimp (maxSteps:=1000000) (disch:=try exact dx) only[wpS,reduceEqDiff]
   refine call (made_ok hD _) ?_
   rintro r2 h2 ⟨hE2,s1,rfl,ds1,hD1,hr1⟩
   have hg:h2.ext.get (h.n+1+1)=some (.cells [.bool false,.slice none 0 0] 0 none):=by
    rw[hE2.get _ (by have:=hE.n;simp at this;omega),hE.get _ (by simp)];exact get_new_same _ _ rfl
   have hr0:h1.row (2*(h.n+1))=some [.bool (decide (y<0)),t]:=by
    rw[hE.row (by simp<;>omega)];simp -dsimp (maxSteps:=1000000) (disch:=try exact dx) only[wpS]
   simp -dsimp (maxSteps:=1000000) (disch:=try exact dx) only[wpS,wpT,reduceEqDiff,reduceLeDiff,reduceAdd,st133,hg,hD1.1.cok]
   refine⟨wpSteady_one rfl rfl rfl rfl (steady_load (av:=ptr (2*(h.n+1)) 0) (v:=.bool (decide (y<0))) rfl ?_ ?_),?_⟩
   ·simp -dsimp (maxSteps:=1000000) (disch:=try exact dx) only[wpS,ld4]
   ·simp -dsimp (maxSteps:=1000000) (disch:=try exact dx) only[wpS,ld4,hr0]
   ·simp -dsimp (maxSteps:=1000000) (disch:=try exact dx) only[wpS,wpT,reduceEqDiff,reduceLeDiff,reduceAdd,ld133]
    refine⟨(((ee _ _ _).trans hE).trans hE2).put (by omega) _,?_⟩
    have hz:(if decide (y<0)=true then -(valD os:Int) else valD os).natAbs=(x+y).natAbs∧((if decide (y<0)=true then -(valD os:Int) else valD os)<0↔x+y<0):=by
     by_cases h0:y<0<;>simp[h0]<;>omega
    rw[hz.1] at hr1
    refine⟨s1,?_,ds1,hD1.keep ((Keep.refl _).put hg _),hr1⟩
    simp only[hz.2]<;>rfl
end Go.Id

namespace Go.Id
open Go
open Nat (reduceAdd reduceEqDiff reduceLeDiff)
set_option maxHeartbeats 16000000
theorem LongIs.form {h:IH} {v:Value} {z:Int} (d:LongIs h v z) : ∃s n,v=.agg #[.bool (decide (z<0)),s]∧s.cells = #[s]∧cellOK s=true∧(∀{P:Program} {t:TypeId} (_:isSliceT P (some t)=true) (h':IH),lenB P h' t s=some (.int .i64 ((n:Nat):Int)))∧(n=0↔z=0):=by
 obtain⟨s,rfl,ds,hD,hN,hx⟩:=d
 refine⟨s,ds.length,rfl,hD.1.cells,hD.1.cok,fun hT h'=>hD.1.len hT h',?_⟩
 have:=hN.nil_iff
 rw[hx] at this
 rw[List.length_eq_zero_iff,←this];omega
theorem minus_ok {h:IH} {v w:Value} {x y:Int} (hv:LongIs h v x) (hw:LongIs h w y) (sx:SmallI x) (sy:SmallI y) :
  WV Proofs.Tryz.prog (.func (.func 169) #[] #[]) [v,w] h fun r h'=>Ext h h'∧LongIs h' r (x - y):=by
 obtain⟨s,n1,rfl,c1,o1,l1,z1⟩:=hv.form
 obtain⟨t,n2,rfl,c2,o2,l2,z2⟩:=hw.form
 refine enter (nt:=9) (rs:=[.cell 4 133]) Proofs.Tryz.func169 rfl rfl rfl (by simp) ?_
 simp -dsimp (maxSteps:=1000000) (disch:=try exact dx) only[wpS,reduceEqDiff,reduceAdd,zc133]
 have kk : ∀o1 o2 o3,Keep h (((h.new o1).new o2).new o3):=fun o1 o2 o3=>(((Keep.refl h).new _).new _).new _
 have ee : ∀o1 o2 o3,Ext h (((h.new o1).new o2).new o3):=fun o1 o2 o3=>(((Ext.refl h).new _).new _).new _
 refine drawn [(0,[3])] (by kernel_rfl) (by kernel_rfl) rfl ?_
 simp -dsimp (maxSteps:=1000000) (disch:=try exact dx) only[wpS,wpT,reduceEqDiff,reduceLeDiff,reduceAdd,ld133]
 refine call (turn_ok (hw.keep (kk _ _ _))) ?_
 rintro r h1 ⟨hE,hT⟩
 simp -dsimp (maxSteps:=1000000) (disch:=try exact dx) only[wpS,reduceEqDiff]
 refine call (plus_ok (hv.keep ((kk _ _ _).trans hE.keep)) hT sx (by rw[SmallI,Int.natAbs_neg];exact sy)) ?_
 rintro r2 h2 ⟨hE2,hr⟩
 obtain⟨s1,n3,rfl,c3,o3,l3,z3⟩:=hr.form
 have hg:h2.ext.get (h.n+1+1)=some (.cells [.bool false,.slice none 0 0] 0 none):=by
  rw[hE2.get _ (by have:=hE.n;simp at this;omega),hE.get _ (by simp)];exact get_new_same _ _ rfl
 have hr0:h1.row (2*h.n)=some [.bool (decide (x<0)),s]:=by
  rw[hE.row (by simp<;>omega)];simp -dsimp (maxSteps:=1000000) (disch:=try exact dx) only[wpS]
 simp -dsimp (maxSteps:=1000000) (disch:=try exact dx) only[wpS,wpT,reduceEqDiff,reduceLeDiff,reduceAdd,st133,hg,o3]
 refine⟨wpSteady_one rfl rfl rfl rfl (steady_load (av:=ptr (2*h.n) 0) (v:=.agg #[.bool (decide (x<0)),s]) rfl ?_ ?_),?_⟩
 ·simp -dsimp (maxSteps:=1000000) (disch:=try exact dx) only[wpS,wpT,reduceLeDiff,reduceAdd,ld133]
  rfl
 ·simp -dsimp (maxSteps:=1000000) (disch:=try exact dx) only[wpS,wpT,reduceLeDiff,reduceAdd,ld133,hr0]
  rfl
 ·simp -dsimp (maxSteps:=1000000) (disch:=try exact dx) only[wpS,wpT,reduceEqDiff,reduceLeDiff,reduceAdd,ld133]
  refine⟨(((ee _ _ _).trans hE).trans hE2).put (by omega) _,?_⟩
  have:x + -y=x - y:=by omega
  rw[this] at hr ⊢
  exact hr.keep ((Keep.refl _).put hg _)
end Go.Id

namespace Go.Id
def wrd (n i:Nat):Nat:=n / 18446744073709551616 ^ i % 18446744073709551616
theorem wrd_lt (n i:Nat):wrd n i<18446744073709551616:=Nat.mod_lt _ (by omega)
theorem mod_wrd (n i:Nat):n % 18446744073709551616 ^ (i+1)=n % 18446744073709551616 ^ i+18446744073709551616 ^ i*wrd n i:=Nat.mod_pow_succ
theorem pow_two (i:Nat):4294967296 ^ (2*i)=18446744073709551616 ^ i:=by
 rw[Nat.pow_mul]
theorem pow_odd (i:Nat):4294967296 ^ (2*i+1)=4294967296*18446744073709551616 ^ i:=by
 rw[Nat.pow_succ,pow_two,Nat.mul_comm]
theorem wrd_high {n i j:Nat} (h:n<18446744073709551616 ^ i) (hj:i≤j):wrd n j=0:=by
 have:n<18446744073709551616 ^ j:=Nat.lt_of_lt_of_le h (Nat.pow_le_pow_right (by omega) hj)
 rw[wrd,Nat.div_eq_of_lt this]
theorem wrd_add_low {n x i j:Nat} (hj:j<i):wrd (n+x*18446744073709551616 ^ i) j=wrd n j:=by
 obtain⟨d,rfl⟩ : ∃d,i=j+1+d:=⟨i - j - 1,by omega⟩
 rw[wrd,wrd,show x*18446744073709551616 ^ (j+1+d)=18446744073709551616 ^ j*(18446744073709551616*(x*18446744073709551616 ^ d)) from by
  rw[Nat.pow_add,Nat.pow_add];grind]
 rw[Nat.add_mul_div_left _ _ (Nat.pow_pos (by omega)),Nat.add_mul_mod_self_left]
theorem wrd_add_at {n x i:Nat} (h:n<18446744073709551616 ^ (i+1)) (hx:wrd n i+x<18446744073709551616):wrd (n+x*18446744073709551616 ^ i) i=wrd n i+x:=by
 have h1:n / 18446744073709551616 ^ i<18446744073709551616:=by
  rw[Nat.div_lt_iff_lt_mul (Nat.pow_pos (by omega))]
  rw[Nat.pow_succ] at h;rw[Nat.mul_comm];exact h
 have h2:wrd n i=n / 18446744073709551616 ^ i:=Nat.mod_eq_of_lt h1
 rw[wrd,Nat.add_mul_div_right _ _ (Nat.pow_pos (by omega)),←h2,Nat.mod_eq_of_lt hx]
theorem add_at_lt {n x i:Nat} (h:n<18446744073709551616 ^ (i+1)) (hx:wrd n i+x<18446744073709551616):n+x*18446744073709551616 ^ i<18446744073709551616 ^ (i+1):=by
 have h1:n / 18446744073709551616 ^ i<18446744073709551616:=by
  rw[Nat.div_lt_iff_lt_mul (Nat.pow_pos (by omega))]
  rw[Nat.pow_succ] at h;rw[Nat.mul_comm];exact h
 have h2:wrd n i=n / 18446744073709551616 ^ i:=Nat.mod_eq_of_lt h1
 have hp:0<18446744073709551616 ^ i:=Nat.pow_pos (by omega)
 have h3:=Nat.div_add_mod n (18446744073709551616 ^ i)
 have h4:=Nat.mod_lt n hp
 rw[h2] at hx
 have h5:(n / 18446744073709551616 ^ i+x+1)*18446744073709551616 ^ i≤18446744073709551616*18446744073709551616 ^ i:=Nat.mul_le_mul_right _ (by omega)
 rw[Nat.pow_succ]
 generalize 18446744073709551616 ^ i=p at *
 have h6:(n / p+x+1)*p=p*(n / p)+x*p+p:=by grind
 rw[Nat.mul_comm 18446744073709551616 p] at h5
 omega
@[irreducible] def W8:Nat:=18446744073709551616 ^ 8
@[irreducible] def H8:Nat:=9223372036854775808*18446744073709551616 ^ 7
theorem W8_eq:W8=18446744073709551616 ^ 8:=by unfold W8;rfl
theorem W8_two:W8=2*H8:=by unfold W8 H8;rfl
theorem W8_dig:W8=4294967296 ^ 16:=by unfold W8;rfl
theorem H8_dig:H8=2147483648*4294967296 ^ 15:=by unfold H8;rfl
theorem H8_big:9223372036854775808<H8:=by unfold H8;decide
def wdI (n:Nat):Int:=if n<H8 then (n:Int) else (n:Int) - W8
theorem wrd7 {n:Nat} (h:n<W8):wrd n 7<9223372036854775808↔n<H8:=by
 rw[W8_eq] at h
 unfold H8
 have h1:n / 18446744073709551616 ^ 7<18446744073709551616:=by
  rw[Nat.div_lt_iff_lt_mul (Nat.pow_pos (by decide))];exact h
 rw[wrd,Nat.mod_eq_of_lt h1,Nat.div_lt_iff_lt_mul (Nat.pow_pos (by decide))]
end Go.Id

namespace Go.Id
open Go
def wdC (n:Nat):List Value:=(List.range 8).map fun i=>K64 (wrd n i)
def wdV (n:Nat):Value:=.agg (wdC n).toArray
theorem wdC_len (n:Nat):(wdC n).length=8:=by simp[wdC]
theorem wdC_get (n i:Nat) (hi:i<8):(wdC n)[i]?=some (K64 (wrd n i)):=by simp[wdC,hi]
theorem wdC_all (n:Nat):(wdC n).all cellOK=true:=by simp[wdC,cellOK]
end Go.Id

namespace Go.Id
open Go
theorem wd_take (n:Nat):List.take 8 (List.drop 0 (wdC n))=wdC n:=by
 rw[List.drop_zero,List.take_of_length_le (by rw[wdC_len];omega)]
end Go.Id

namespace Go.Id
open Go
open Nat (reduceAdd reduceEqDiff reduceLeDiff reduceMul)
set_option maxHeartbeats 16000000
def InW (z:Int):Prop:=-(H8:Int)≤z∧z<H8
instance (z:Int):Decidable (InW z):=inferInstanceAs (Decidable (_∧_))
def wideN (z:Int):Nat:=if 0≤z then z.toNat else W8 - z.natAbs
theorem wideN_lt {z:Int} (h:InW z):wideN z<W8:=by
 have:=W8_two
 unfold InW at h
 unfold wideN
 split<;>omega
theorem wdI_wideN {z:Int} (h:InW z):wdI (wideN z)=z:=by
 have:=W8_two
 unfold InW at h
 unfold wdI wideN
 split
 ·rw[if_pos (by omega)];omega
 ·rw[if_neg (by omega)];omega
abbrev wideV (z:Int):Value:=wdV (wideN z)
abbrev ZW:Value:=.int .u64 0
theorem wdC_zero:wdC 0 = [ZW,ZW,ZW,ZW,ZW,ZW,ZW,ZW]:=by
 simp[wdC,wrd,List.range_succ]
theorem lim_val:valD [0,0,0,0,0,0,0,0,0,0,0,0,0,0,0,2147483648]=H8:=by rw[H8_dig];simp[valD,valT]
theorem big_val:valD [0,0,0,0,0,0,0,0,0,0,0,0,0,0,0,0,1]=W8:=by rw[W8_dig];simp[valD,valT]
theorem wdC_set {n i x:Nat} (hi:i<8) (hn:n<18446744073709551616 ^ (i+1)) (hx:wrd n i+x<18446744073709551616):(wdC n).set i (K64 (wrd n i+x))=wdC (n+x*18446744073709551616 ^ i):=by
 apply List.ext_getElem?
 intro j
 rw[List.getElem?_set]
 by_cases hij:i=j
 ·subst hij
  rw[if_pos rfl,wdC_get _ _ hi,wdC_len,if_pos hi,wrd_add_at hn hx]
 ·rw[if_neg hij]
  by_cases hj:j<8
  ·rw[wdC_get _ _ hj,wdC_get _ _ hj]
   by_cases hlt:j<i
   ·rw[wrd_add_low hlt]
   ·rw[wrd_high hn (by omega),wrd_high (add_at_lt hn hx) (by omega)]
  ·rw[List.getElem?_eq_none (by rw[wdC_len];omega),List.getElem?_eq_none (by rw[wdC_len];omega)]
set_option maxRecDepth 100000 in
theorem out_ok {h:IH} {v:Value} {z:Int} (hv:LongIs h v z) :
  WV Proofs.Tryz.prog (.func (.func 121) #[] #[]) [v] h fun r h'=>Ext h h'∧r=if InW z then .tuple #[wideV z,KI 0] else .tuple #[wdV 0,KI 6]:=by
 obtain⟨s,rfl,ds,hD,hN,hx⟩:=hv
 have hl:=hD.2.2
 refine enter (nt:=63) (rs:=[.cell 2 45,.tmp 3]) Proofs.Tryz.func121 rfl rfl rfl (by simp) ?_
 simp -dsimp (maxSteps:=1000000) (disch:=try exact dx) only[wpS,wpT,reduceEqDiff,reduceLeDiff,reduceAdd,reduceMul,Int.reduceToNat,zc45,ms29,es29,st3,fa133_1,ld29,show idxAt 15 16=some 15 from rfl]
 have hL:DigU ((((h.new (.cells [.bool (decide (z<0)),s] 0 none)).new (.cells [ZW,ZW,ZW,ZW,ZW,ZW,ZW,ZW] 0 none)).new (.cells (List.map KN [0,0,0,0,0,0,0,0,0,0,0,0,0,0,0,0]) 1 none)).put (h.n+1+1) (.cells (List.map KN [0,0,0,0,0,0,0,0,0,0,0,0,0,0,0,2147483648]) 1 none)) (.slice (some ⟨2*(h.n+1+1),0,none⟩) 16 33) [0,0,0,0,0,0,0,0,0,0,0,0,0,0,0,2147483648] :=
  ⟨sl_block (f:=none) (get_put_same _ _ rfl) (by simp) (by omega) rfl (by omega) (by simp),by intro d hd;simp at hd;omega,by simp⟩
 have hE : ∀a b c d:IObj,Ext h ((((h.new a).new b).new c).put (h.n+1+1) d):=fun a b c d=>((((Ext.refl h).new _).new _).new _).put (by omega) _
 refine call (order_ok (hD.keep (hE _ _ _ _).keep) hL hN (.inr (by simp))) ?_
 rintro r h1 ⟨e1,c,rfl,hc1,hc2,hc3,hc4⟩
 have g1:h1.row (2*h.n)=some [.bool (decide (z<0)),s]:=by rw[e1];simp -dsimp (maxSteps:=1000000) (disch:=try exact dx) only[wpS]
 have g2:h1.ext.get (h.n+1)=some (.cells [ZW,ZW,ZW,ZW,ZW,ZW,ZW,ZW] 0 none):=by rw[e1];simp -dsimp (maxSteps:=1000000) (disch:=try exact dx) only[wpS]
 have g3:Ext h h1:=by rw[e1];exact hE _ _ _ _
 have g4:h.n+1<h1.n:=by rw[e1];simp
 clear e1 hL hE
 rw[lim_val,hx] at hc1 hc2
 have hW8:=W8_two
 by_cases hW:InW z
 ·have hc:c<0∨c=0∧z<0:=by unfold InW at hW;omega
  simp -dsimp (maxSteps:=1000000) (disch:=try exact dx) only[wpR,reduceEqDiff]
  rw[d_seq]
  refine cut (fun fr2 h2=>h2=h1∧fget fr2 2=some (ptr (2*(h.n+1)) 0)∧fget fr2 1=some (ptr (2*h.n) 0)) ?_ ?_
  ·rcases hc with hc|⟨rfl,hz⟩
   ·simp -dsimp (maxSteps:=1000000) (disch:=try exact dx) only[wpS,wpT,reduceEqDiff]
    exact⟨rfl,by simp,by simp⟩
   ·simp -dsimp (maxSteps:=1000000) (disch:=try exact dx) only[wpS,wpT,reduceEqDiff,fa133_0,ld4,g1,dec_lt_t hz]
    exact⟨rfl,by simp,by simp⟩
  ·rintro fr2 h2 ⟨rfl,f2,f1⟩
   simp -dsimp (maxSteps:=1000000) (disch:=try exact dx) only[wpS,reduceEqDiff,zc45,fa133_1,ld29,fa133_0,ld4,g1,f1]
   refine bq_cut (fun fr3 h3=>fget fr3 2=some (ptr (2*(h.n+1)) 0)∧Ext h2 h3 ∧ ∃d ds2,fget fr3 6=some d∧DigU h3 d ds2∧valD ds2=wideN z∧ds2.length≤16) (fun hz=>?_) (fun hz=>?_) ?_
   ·simp only[decide_eq_true_eq] at hz
    simp -dsimp (maxSteps:=1000000) (disch:=try exact dx) only[wpS,wpT,reduceEqDiff,reduceLeDiff,reduceAdd,reduceMul,Int.reduceToNat,ms29,es29,st3,show idxAt 16 17=some 16 from rfl]
    have hE3 : ∀a b:IObj,Ext h2 ((h2.new a).put h2.n b):=fun a b=>((Ext.refl h2).new _).put (Nat.le_refl _) _
    have hWW:DigU ((h2.new (.cells (List.map KN [0,0,0,0,0,0,0,0,0,0,0,0,0,0,0,0,0]) 1 none)).put h2.n (.cells (List.map KN [0,0,0,0,0,0,0,0,0,0,0,0,0,0,0,0,1]) 1 none)) (.slice (some ⟨2*h2.n,0,none⟩) 17 35) [0,0,0,0,0,0,0,0,0,0,0,0,0,0,0,0,1] :=
     ⟨sl_block (f:=none) (get_put_same _ _ rfl) (by simp) (by omega) rfl (by omega) (by simp),by intro d hd;simp at hd;omega,by simp⟩
    refine call (less_ok hWW (hD.keep (g3.trans (hE3 _ _)).keep) hN (by rw[big_val,hx];unfold InW at hW;omega)) ?_
    rintro e h3 ⟨hE4,es,hDe,hNe,hve⟩
    rw[big_val,hx] at hve
    have hv2:valD es=wideN z:=by rw[hve,wideN,if_neg (by omega)]
    simp -dsimp (maxSteps:=1000000) (disch:=try exact dx) only[wpS,reduceEqDiff]
    refine⟨by simp[f2],(hE3 _ _).trans hE4,e,es,by simp,hDe,hv2,?_⟩
    have h5:=wideN_lt hW
    rw[←hv2,W8_dig] at h5
    by_cases hne:es = []
    ·subst hne;simp
    ·have h6:=hNe.ge hne
     have h7:=(Nat.pow_lt_pow_iff_right (a:=4294967296) (by omega)).1 (Nat.lt_of_le_of_lt h6 h5)
     omega
   ·simp only[decide_eq_false_iff_not] at hz
    simp -dsimp (maxSteps:=1000000) (disch:=try exact dx) only[wpS,wpT]
    have hv2:valD ds=wideN z:=by rw[hx,wideN,if_pos (by omega)];omega
    refine⟨by simp[f2],Ext.refl _,s,ds,by simp,hD.keep g3.keep,hv2,?_⟩
    have h5:=wideN_lt hW
    rw[←hv2,W8_dig] at h5
    by_cases hne:ds = []
    ·subst hne;simp
    ·have h6:=hN.ge hne
     have h7:=(Nat.pow_lt_pow_iff_right (a:=4294967296) (by omega)).1 (Nat.lt_of_le_of_lt h6 h5)
     omega
   ·rintro fr3 h3 ⟨f2,hE3,d,ds2,f6,hD2,hv2,hl2⟩
    simp -dsimp (maxSteps:=1000000) (disch:=try exact dx) only[wpS,zc45]
    have hlen:=hD2.2.2
    refine loop (fun m fr h4 => ∃i:Nat,i+m=ds2.length∧fget fr 2=some (ptr (2*(h.n+1)) 0)∧fget fr 6=some d∧fget fr 8=some (ptr (2*h3.n) 0)∧fget fr 9=some (KN i)∧h3.n<h4.n∧h4.ext.get h3.n=some (.cells (wdC (valT ds2 i)) 0 none)∧Ext h3 h4) ds2.length ⟨0,by simp,by simp[f2],by simp[f6],by simp,by simp,by simp,by rw[valT,wdC_zero];exact get_new_same _ _ rfl,(Ext.refl h3).new _⟩ ?_
    rintro m fr h4 ⟨i,him,f2,f6,f8,f9,hn4,hg4,hE4⟩
    simp -dsimp (maxSteps:=1000000) (disch:=try exact dx) only[wpS,reduceEqDiff,f6,f9,hD2.1.len sl29]
    refine bq_intro ?_ ?_<;>intro hc<;>simp only[decide_eq_true_eq,decide_eq_false_iff_not] at hc
    ·have hi:i<ds2.length:=by omega
     have dd:=getD_lt hD2.2.1 i
     have hvl:=valT_lt hD2.2.1 i
     have hrow:h4.row (2*h3.n)=some (wdC (valT ds2 i)):=by rw[row_even];exact cells_of hg4
     have e1:((i:Int) / 2)=((i / 2:Nat):Int):=by omega
     have hi8:i / 2<8:=by omega
     obtain⟨x,hsh,hx1,hx2⟩ : ∃x:Nat,(∀t o1 o2,binop Proofs.Tryz.prog .shl t o1 o2 (K64 (ds2.getD i 0)) (.int .i64 (32*((i:Int) % 2)))=some (K64 x))∧valT ds2 (i+1)=valT ds2 i+x*18446744073709551616 ^ (i / 2)∧wrd (valT ds2 i) (i / 2)+x<18446744073709551616:=by
      rcases Nat.mod_two_eq_zero_or_one i with hm|hm
      ·obtain⟨k,rfl⟩ : ∃k,i=2*k:=⟨i / 2,by omega⟩
       have hk:2*k / 2=k:=by omega
       refine⟨ds2.getD (2*k) 0,fun t o1 o2=>?_,?_,?_⟩
       ·have e2:(32*(((2*k:Nat):Int) % 2))=((0:Nat):Int):=by omega
        rw[e2,shl_nat _ _ _ _ (by omega) (by omega)];simp
       ·rw[valT,hk,pow_two]
       ·rw[hk,wrd_high (by rw[←pow_two];exact hvl) (Nat.le_refl _)];omega
      ·obtain⟨k,rfl⟩ : ∃k,i=2*k+1:=⟨i / 2,by omega⟩
       have hk:(2*k+1) / 2=k:=by omega
       refine⟨ds2.getD (2*k+1) 0*4294967296,fun t o1 o2=>?_,?_,?_⟩
       ·have e2:(32*(((2*k+1:Nat):Int) % 2))=((32:Nat):Int):=by omega
        rw[e2,shl_nat _ _ _ _ (by omega) (by omega)]
       ·rw[valT,hk,pow_odd];grind
       ·rw[hk]
        rw[pow_odd] at hvl
        have h8:valT ds2 (2*k+1) / 18446744073709551616 ^ k<4294967296:=by
         rw[Nat.div_lt_iff_lt_mul (Nat.pow_pos (by omega))];exact hvl
        have h9:wrd (valT ds2 (2*k+1)) k≤valT ds2 (2*k+1) / 18446744073709551616 ^ k:=Nat.mod_le _ _
        omega
     have hwl:valT ds2 i<18446744073709551616 ^ (i / 2+1):=by
      have h8:4294967296 ^ i≤4294967296 ^ (2*(i / 2+1)):=Nat.pow_le_pow_right (by omega) (by omega)
      rw[pow_two] at h8
      omega
     have hset:=wdC_set hi8 hwl hx2
     rw[←hx1] at hset
     have hspl:IH.splice (wdC (valT ds2 i)) (i / 2) [.int .u64 ((wrd (valT ds2 i) (i / 2):Int)+(x:Int))]=wdC (valT ds2 (i+1)):=by
      rw[splice_set (by rw[wdC_len];exact hi8),←hset];rfl
     have hwr:=wrd_lt (valT ds2 i) (i / 2)
     simp -dsimp (maxSteps:=1000000) (disch:=try exact dx) only[wpS,wpT,reduceEqDiff,reduceLeDiff,ar45,ld43,cv3_43,st43,f6,f8,f9,e1,ar45,hrow,wdC_get _ _ hi8,hD2.1.idx es29 hi,hD2.1.ld hE4.keep (P:=Proofs.Tryz.prog) (t:=3) (c:=i) (by simpa using hi) ag3,map_get,get_some hi,hsh,hg4,wdC_len,hspl]
     refine⟨m - 1,by omega,i+1,by omega,by simp[f2],by simp[f6],by simp[f8],by simp,by simpa using hn4,get_put_same _ _ rfl,hE4.put (Nat.le_refl _) _⟩
    ·obtain rfl:i=ds2.length:=by omega
     have hgz:h4.ext.get (h.n+1)=some (.cells [ZW,ZW,ZW,ZW,ZW,ZW,ZW,ZW] 0 none):=by
      rw[hE4.get _ (by have:=hE3.n;omega),hE3.get _ g4];exact g2
     have hrow:h4.row (2*h3.n)=some (wdC (wideN z)):=by rw[row_even,←hv2];exact cells_of hg4
     have hspl:IH.splice [ZW,ZW,ZW,ZW,ZW,ZW,ZW,ZW] 0 (wdC (wideN z))=wdC (wideN z):=splice_all (by rw[wdC_len];rfl)
     simp -dsimp (maxSteps:=1000000) (disch:=try exact dx) only[wpS,wpT,reduceEqDiff,reduceLeDiff,reduceAdd,st45,ld45,f2,f8,hrow,hgz,wdC_len,wd_take,wdC_all,hspl]
     refine⟨((g3.trans hE3).trans hE4).put (by omega) _,?_⟩
     rw[if_pos hW];rfl
 ·have hc:0<c∨c=0 ∧ ¬z<0:=by unfold InW at hW;omega
  rcases hc with hc|⟨hc,hz⟩
  ·simp -dsimp (maxSteps:=1000000) (disch:=try exact dx) only[wpS,wpT,reduceEqDiff,reduceLeDiff,reduceAdd,bv45,st45,ld45,g2]
   refine⟨g3.put (by omega) _,?_⟩
   rw[if_neg hW,wdV,wdC_zero];rfl
  ·subst hc
   simp -dsimp (maxSteps:=1000000) (disch:=try exact dx) only[wpS,wpT,reduceEqDiff,reduceLeDiff,reduceAdd,fa133_0,ld4,bv45,st45,ld45,g1,g2,dec_lt_f hz]
   refine⟨g3.put (by omega) _,?_⟩
   rw[if_neg hW,wdV,wdC_zero];rfl
end Go.Id

namespace Go.Id
open Go
open Nat (reduceAdd reduceEqDiff reduceLeDiff reduceMul)
theorem wrapU (n:Int):IntKind.u64.wrap n=n % 18446744073709551616:=by simp[IntKind.wrap,IntKind.bits,IntKind.signed]
abbrev In64 (n:Int):Prop:=-9223372036854775808≤n∧n<9223372036854775808
theorem pow_up (b:Nat) (hb:0<b) (m k:Nat) (h:m≤k):b ^ m≤b ^ k:=Nat.pow_le_pow_right hb h
theorem small64 {n:Int} (h:n.natAbs≤18446744073709551616):SmallI n:=by
 have h1:=pow_up 4294967296 (by decide) 3 1000000 (by decide)
 have h2:(4294967296:Nat) ^ 3=79228162514264337593543950336:=by decide
 unfold SmallI Small
 refine Nat.lt_of_lt_of_le ?_ h1
 omega
theorem smallW {z:Int} (h:InW z):SmallI z:=by
 have h1:=pow_up 4294967296 (by decide) 16 1000000 (by decide)
 rw[←W8_dig] at h1
 have h2:=W8_two
 have h3:=H8_big
 unfold InW at h
 unfold SmallI Small
 refine Nat.lt_of_lt_of_le ?_ h1
 omega
set_option maxRecDepth 100000 in
theorem long1_ok {h:IH} (n:Int) (hn:In64 n):WV Proofs.Tryz.prog (.func (.func 123) #[] #[]) [KI n] h fun r h'=>Ext h h'∧LongIs h' r n:=by
 have hB : ∃u:Nat,u=n.natAbs:=⟨_,rfl⟩
 obtain⟨u,hu⟩:=hB
 refine enter (nt:=21) (rs:=[.cell 2 133]) Proofs.Tryz.func123 rfl rfl rfl (by simp) ?_
 simp -dsimp (maxSteps:=1000000) (disch:=try exact dx) only[wpR]
 rw[d_seq]
 simp -dsimp (maxSteps:=1000000) (disch:=try exact dx) only[wpR,zc133]
 rw[d_seq]
 simp -dsimp (maxSteps:=1000000) (disch:=try exact dx) only[wpR,reduceEqDiff]
 rw[d_seq]
 simp -dsimp (maxSteps:=1000000) (disch:=try exact dx) only[wpR,reduceEqDiff,cv3_43]
 rw[d_seq]
 refine cut (fun fr2 h2=>h2=h.new (.cells [.bool false,.slice none 0 0] 0 none)∧fget fr2 2=some (ptr (2*h.n) 0)∧fget fr2 3=some (.bool (decide (n<0)))∧fget fr2 4=some (K64 u)) ?_ ?_
 ·by_cases hz:n<0
  ·have e1:IntKind.u64.wrap n=n+18446744073709551616:=by rw[wrapU];omega
   have e2:IntKind.u64.wrap (-(n+18446744073709551616))=(u:Int):=by rw[wrapU];omega
   simp -dsimp (maxSteps:=1000000) (disch:=try exact dx) only[wpS,reduceEqDiff,dec_lt_t hz,e1,e2]
   exact⟨rfl,by simp,by simp[hz],by simp⟩
  ·have e1:n=(u:Int):=by omega
   simp -dsimp (maxSteps:=1000000) (disch:=try exact dx) only[wpS,reduceEqDiff,dec_lt_f hz]
   exact⟨rfl,by simp,by simp;omega,by simp;exact e1⟩
 ·rintro fr2 h2 ⟨rfl,f2,f3,f4⟩
  have e1:((u:Int) % 4294967296)=((u % 4294967296:Nat):Int):=by omega
  have e2:((u:Int) / 4294967296)=((u / 4294967296:Nat):Int):=by omega
  simp -dsimp (maxSteps:=1000000) (disch:=try exact dx) only[wpS,wpT,reduceEqDiff,reduceLeDiff,reduceAdd,reduceMul,cv43_3,bs29,f3,f4,e1,e2]
  have hD:DigU ((h.new (.cells [.bool false,.slice none 0 0] 0 none)).new (.cells (List.map KN [u % 4294967296,u / 4294967296]) 1 none)) (.slice (some ⟨2*(h.n+1),0,none⟩) 2 5) [u % 4294967296,u / 4294967296] :=
   ⟨sl_block (f:=none) (get_new_same _ _ rfl) (by simp) (by omega) rfl (by omega) (by simp),by intro d hd;simp at hd;omega,by simp⟩
  refine call (made_ok hD _) ?_
  rintro r h1 ⟨hE,hr⟩
  have hz:(if decide (n<0)=true then -(valD [u % 4294967296,u / 4294967296]:Int) else valD [u % 4294967296,u / 4294967296])=n:=by
   have:valD [u % 4294967296,u / 4294967296]=u:=by simp[valD,valT];omega
   rw[this]
   by_cases h0:n<0<;>simp[h0]<;>omega
  rw[hz] at hr
  obtain⟨s1,n3,rfl,c3,o3,l3,z3⟩:=hr.form
  have hg:h1.ext.get h.n=some (.cells [.bool false,.slice none 0 0] 0 none):=by
   rw[hE.get _ (by simp<;>omega)];simp -dsimp (maxSteps:=1000000) (disch:=try exact dx) only[wpS]
  simp -dsimp (maxSteps:=1000000) (disch:=try exact dx) only[wpS,wpT,reduceEqDiff,reduceLeDiff,reduceAdd,st133,ld133,f2,hg,o3]
  refine⟨((((Ext.refl h).new _).new _).trans hE).put (by omega) _,?_⟩
  exact hr.keep ((Keep.refl _).put hg _)
end Go.Id
