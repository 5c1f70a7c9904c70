/-  -/
import Derived.Shelf.Strings.Builder1
import Derived.Shelf.Strings.Builder2
import Derived.Shelf.Strings.OnBuilder
import Derived.Shelf.Small.Strs
import Derived.Shelf.Strings.BuilderF
import Derived.Shelf.Strings.BuilderK
import Derived.Shelf.Strings.Builder2Cap
import Derived.Shelf.Strconv.Atoi
import Derived.Shelf.Strconv.Itoa0
import Derived.Shelf.Strconv.Itoa1
import Derived.Shelf.LaysM
import Derived.Shelf.Strconv.Itoa2
import Derived.Shelf.Strconv.Itoa3
import Derived.Shelf.Strconv.AtoiErrFast
import Derived.Shelf.Strconv.ParseIntEmpty
import Derived.Shelf.Strconv.AtoiFail
import Derived.Shelf.Strconv.Clone
import Derived.Shelf.Strconv.SyntaxError
import Derived.Shelf.LaysC
import Derived.Shelf.Strconv.ToError
import Derived.Shelf.Strconv.AtoiErr
import Derived.Shelf.Strconv.ErrVar
import Derived.Shelf.Strconv.Lower
import Derived.Shelf.Strconv.ParseUint10
import Derived.Shelf.Strconv.ParseUint10Empty
import Derived.Shelf.Strconv.ParseUint10Any
import Derived.Shelf.Strconv.ParseInt10
import Derived.Shelf.Strconv.AtoiLong
import Derived.Shelf.Strconv.AtoiInnerAll
import Derived.Shelf.Strconv.RangeError
import Derived.Shelf.Strconv.ToErrorRange
import Derived.Shelf.Strconv.AtoiAll
import Derived.Shelf.Strconv.ErrVarAll
import Derived.Shelf.Strconv.ParseUintEmpty
import Derived.Shelf.Strconv.ParseUint10b64
import Derived.Shelf.Strconv.ParseUint10b32
import Derived.Shelf.Strconv.ParseUint10b16
import Derived.Shelf.Strconv.ParseUint10b8
import Derived.Shelf.Strconv.ParseUint10At
import Derived.Shelf.Strconv.ParseInt10At64
import Derived.Shelf.Strconv.ParseInt10At32
import Derived.Shelf.Strconv.ParseInt10At16
import Derived.Shelf.Strconv.ParseInt10At8
import Derived.Shelf.Strconv.ParseInt10All
import Derived.Shelf.Strings.Search1
import Derived.Shelf.Bits.Mul64
import Derived.Shelf.Strings.BuilderCap
import Derived.Shelf.Slices.Equal
import Derived.Shelf.Slices.Empties2
import Derived.Test.YtdfenhjibnfdeaaDoorProg
namespace Go.Proofs
open Go.Shelf
def Tryd.lays169_ren:Go.Shelf.Ren:=⟨fun | 169=>19 | n=>n,fun | 70=>46 | 9=>9 | 0=>0 | 72=>49 | 37=>47 | 127=>79 | 3=>3 | 5=>5 | n=>n,fun | n=>n⟩
theorem Tryd.lays169:Go.Proofs.Lays.n169 Tryd.prog Tryd.lays169_ren:={
 mixed:=by kernel_rfl
 f169:=Tryd.func19.trans (congrArg some (by kernel_rfl))
 t0:=Tryd.underlying0
 a0:=Tryd.isAgg0
 z0:=Tryd.sizeOf0
 v0:=Tryd.zeroValue0
 t3:=Tryd.underlying3
 a3:=Tryd.isAgg3
 z3:=Tryd.sizeOf3
 v3:=Tryd.zeroValue3
 t9:=Tryd.underlying9
 a9:=Tryd.isAgg9
 z9:=Tryd.sizeOf9
 v9:=Tryd.zeroValue9
 t37:=Tryd.underlying47
 a37:=Tryd.isAgg47
 z37:=Tryd.sizeOf47
 v37:=Tryd.zeroValue47
 t70:=Tryd.underlying46
 a70:=Tryd.isAgg46
 z70:=Tryd.sizeOf46
 v70:=Tryd.zeroValue46
 t72:=Tryd.underlying49
 a72:=Tryd.isAgg49
 z72:=Tryd.sizeOf49
 v72:=Tryd.zeroValue49
 t127:=Tryd.underlying79
 a127:=Tryd.isAgg79
 z127:=Tryd.sizeOf79
 v127:=Tryd.zeroValue79 }
theorem Tryd.Builder_Extra_169:Builder.Extra Tryd.prog Tryd.lays169_ren:={
 sizeBuilder:=by kernel_rfl
 liesBuilder:=by kernel_rfl
 t5:=Tryd.underlying5
 a5:=Tryd.isAgg5
 z5:=Tryd.sizeOf5
 v5:=Tryd.zeroValue5
 infoByte:=by kernel_rfl
 cellsByte:=by kernel_rfl
 sizeByte:=by kernel_rfl
 neB5:=by decide }
def Tryd.lays156_ren:Go.Shelf.Ren:=⟨fun | 156=>16 | 165=>34 | 166=>30 | 169=>19 | 240=>43 | 241=>48 | 276=>55 | 277=>61 | n=>n,fun | 31=>26 | 9=>9 | 3=>3 | 4=>4 | 0=>0 | 20=>20 | 72=>49 | 76=>71 | 70=>46 | 37=>47 | 75=>70 | 127=>79 | 164=>105 | 5=>5 | 80=>56 | n=>n,fun | n=>n⟩
theorem Tryd.lays156:Go.Proofs.Lays.n156 Tryd.prog Tryd.lays156_ren:={
 mixed:=by kernel_rfl
 f156:=Tryd.func16.trans (congrArg some (by kernel_rfl))
 f165:=Tryd.func34.trans (congrArg some (by kernel_rfl))
 f166:=Tryd.func30.trans (congrArg some (by kernel_rfl))
 f169:=Tryd.func19.trans (congrArg some (by kernel_rfl))
 f240:=Tryd.func43.trans (congrArg some (by kernel_rfl))
 f241:=Tryd.func48.trans (congrArg some (by kernel_rfl))
 f276:=Tryd.func55.trans (congrArg some (by kernel_rfl))
 f277:=Tryd.func61.trans (congrArg some (by kernel_rfl))
 t0:=Tryd.underlying0
 a0:=Tryd.isAgg0
 z0:=Tryd.sizeOf0
 v0:=Tryd.zeroValue0
 t3:=Tryd.underlying3
 a3:=Tryd.isAgg3
 z3:=Tryd.sizeOf3
 v3:=Tryd.zeroValue3
 t4:=Tryd.underlying4
 a4:=Tryd.isAgg4
 z4:=Tryd.sizeOf4
 v4:=Tryd.zeroValue4
 t9:=Tryd.underlying9
 a9:=Tryd.isAgg9
 z9:=Tryd.sizeOf9
 v9:=Tryd.zeroValue9
 t20:=Tryd.underlying20
 a20:=Tryd.isAgg20
 z20:=Tryd.sizeOf20
 v20:=Tryd.zeroValue20
 t31:=Tryd.underlying26
 a31:=Tryd.isAgg26
 z31:=Tryd.sizeOf26
 v31:=Tryd.zeroValue26
 t37:=Tryd.underlying47
 a37:=Tryd.isAgg47
 z37:=Tryd.sizeOf47
 v37:=Tryd.zeroValue47
 t70:=Tryd.underlying46
 a70:=Tryd.isAgg46
 z70:=Tryd.sizeOf46
 v70:=Tryd.zeroValue46
 t72:=Tryd.underlying49
 a72:=Tryd.isAgg49
 z72:=Tryd.sizeOf49
 v72:=Tryd.zeroValue49
 t75:=Tryd.underlying70
 a75:=Tryd.isAgg70
 z75:=Tryd.sizeOf70
 v75:=Tryd.zeroValue70
 t76:=Tryd.underlying71
 a76:=Tryd.isAgg71
 z76:=Tryd.sizeOf71
 v76:=Tryd.zeroValue71
 t127:=Tryd.underlying79
 a127:=Tryd.isAgg79
 z127:=Tryd.sizeOf79
 v127:=Tryd.zeroValue79
 t164:=Tryd.underlying105
 a164:=Tryd.isAgg105
 z164:=Tryd.sizeOf105
 v164:=Tryd.zeroValue105 }
theorem Tryd.Builder_Extra_156:Builder.Extra Tryd.prog Tryd.lays156_ren:={
 sizeBuilder:=by kernel_rfl
 liesBuilder:=by kernel_rfl
 t5:=Tryd.underlying5
 a5:=Tryd.isAgg5
 z5:=Tryd.sizeOf5
 v5:=Tryd.zeroValue5
 infoByte:=by kernel_rfl
 cellsByte:=by kernel_rfl
 sizeByte:=by kernel_rfl
 neB5:=by decide }
open Go.RowKit in
theorem Tryd.strings_Join (bk o c:Nat) (xs:List ByteArray) (sep:ByteArray) (w:World) (hcells:∀(j:Nat) x,xs[j]?=some x→w.cell? ⟨bk,o+j,none⟩=some (.string x)) (hbk:bk<w.heap.size) (hN:xs.length≤140737488355328) (hcap:xs.length≤c) (hlen:(Lib.join (xs.map (·.data.toList)) sep.data.toList).length≤140737488355328) :
  Calls Tryd.prog 16 #[.slice (some ⟨bk,o,none⟩) xs.length c,.string sep] w fun e w'=>e=.returned (.string ⟨(Lib.join (xs.map (·.data.toList)) sep.data.toList).toArray⟩)∧Below w.heap.size w w':=Any.strings_Join Tryd.lays156 Tryd.Builder_Extra_156 bk o c xs sep w hcells hbk hN hcap hlen
def Tryd.lays137_ren:Go.Shelf.Ren:=⟨fun | 137=>49 | 217=>62 | 266=>73 | n=>n,fun | 9=>9 | 5=>5 | 3=>3 | n=>n,fun | n=>n⟩
theorem Tryd.lays137:Go.Proofs.Lays.n137 Tryd.prog Tryd.lays137_ren:={
 mixed:=by kernel_rfl
 f137:=Tryd.func49.trans (congrArg some (by kernel_rfl))
 f217:=Tryd.func62.trans (congrArg some (by kernel_rfl))
 f266:=Tryd.func73.trans (congrArg some (by kernel_rfl))
 t3:=Tryd.underlying3
 a3:=Tryd.isAgg3
 z3:=Tryd.sizeOf3
 v3:=Tryd.zeroValue3
 t5:=Tryd.underlying5
 a5:=Tryd.isAgg5
 z5:=Tryd.sizeOf5
 v5:=Tryd.zeroValue5
 t9:=Tryd.underlying9
 a9:=Tryd.isAgg9
 z9:=Tryd.sizeOf9
 v9:=Tryd.zeroValue9 }
open Go.RowKit in
theorem Tryd.strings_IndexByte (s:ByteArray) (c:Int) (w:World) :
  Calls Tryd.prog 49 #[.string s,.int .u8 c] w fun e w'=>e=.returned (.int .i64 (Lib.indexByte s.data.toList c.toNat.toUInt8))∧w'=w:=Any.strings_IndexByte Tryd.lays137 s c w
open Go.RowKit in
theorem Tryd.Builder_String_any_k (B b:Nat) (l:List UInt8) (w:World) (h:Lib.IsBuilderF 49 5 B b (Lib.byteCells l) w) (hBw:B≤w.heap.size) :
  Calls Tryd.prog 19 #[.pointer (some ⟨b,0,none⟩)] w fun e w'=>e=.returned (.string ⟨l.toArray⟩)∧(Lib.IsBuilderF 49 5 B b (Lib.byteCells l) w'∧Below B w w'∧Lib.OthersKept 5 (some b) w w'):=Any.Builder_String_any_k Tryd.lays169 Tryd.Builder_Extra_169 B b l w h hBw
def Tryd.lays172_ren:Go.Shelf.Ren:=⟨fun | 172=>40 | 244=>53 | 245=>54 | 247=>63 | 279=>64 | 280=>65 | 281=>66 | 282=>67 | 287=>74 | 316=>75 | 171=>15 | 205=>76 | 321=>79 | 322=>80 | 243=>33 | 246=>47 | 283=>57 | 284=>58 | 285=>59 | 286=>60 | 129=>69 | 317=>68 | 318=>70 | 319=>71 | 320=>72 | 337=>77 | 338=>78 | n=>n,fun | 9=>9 | 3=>3 | 75=>70 | 76=>71 | 4=>4 | 5=>5 | 167=>115 | 37=>47 | 0=>0 | 85=>116 | 2=>2 | 168=>118 | 53=>45 | 175=>127 | 46=>94 | 210=>130 | 127=>79 | 145=>136 | 143=>134 | 21=>21 | 171=>109 | 173=>112 | 212=>122 | 51=>123 | 20=>20 | 213=>124 | 232=>137 | 233=>138 | 80=>56 | n=>n,fun | 15=>2 | 16=>3 | 17=>0 | 18=>4 | 19=>5 | n=>n⟩
theorem Tryd.lays172:Go.Proofs.Lays.n172 Tryd.prog Tryd.lays172_ren:={
 mixed:=by kernel_rfl
 f129:=Tryd.func69.trans (congrArg some (by kernel_rfl))
 f171:=Tryd.func15.trans (congrArg some (by kernel_rfl))
 f172:=Tryd.func40.trans (congrArg some (by kernel_rfl))
 f205:=Tryd.func76.trans (congrArg some (by kernel_rfl))
 f243:=Tryd.func33.trans (congrArg some (by kernel_rfl))
 f244:=Tryd.func53.trans (congrArg some (by kernel_rfl))
 f245:=Tryd.func54.trans (congrArg some (by kernel_rfl))
 f246:=Tryd.func47.trans (congrArg some (by kernel_rfl))
 f247:=Tryd.func63.trans (congrArg some (by kernel_rfl))
 f279:=Tryd.func64.trans (congrArg some (by kernel_rfl))
 f280:=Tryd.func65.trans (congrArg some (by kernel_rfl))
 f281:=Tryd.func66.trans (congrArg some (by kernel_rfl))
 f282:=Tryd.func67.trans (congrArg some (by kernel_rfl))
 f283:=Tryd.func57.trans (congrArg some (by kernel_rfl))
 f284:=Tryd.func58.trans (congrArg some (by kernel_rfl))
 f285:=Tryd.func59.trans (congrArg some (by kernel_rfl))
 f286:=Tryd.func60.trans (congrArg some (by kernel_rfl))
 f287:=Tryd.func74.trans (congrArg some (by kernel_rfl))
 f316:=Tryd.func75.trans (congrArg some (by kernel_rfl))
 f317:=Tryd.func68.trans (congrArg some (by kernel_rfl))
 f318:=Tryd.func70.trans (congrArg some (by kernel_rfl))
 f319:=Tryd.func71.trans (congrArg some (by kernel_rfl))
 f320:=Tryd.func72.trans (congrArg some (by kernel_rfl))
 f321:=Tryd.func79.trans (congrArg some (by kernel_rfl))
 f322:=Tryd.func80.trans (congrArg some (by kernel_rfl))
 f337:=Tryd.func77.trans (congrArg some (by kernel_rfl))
 f338:=Tryd.func78.trans (congrArg some (by kernel_rfl))
 t0:=Tryd.underlying0
 a0:=Tryd.isAgg0
 z0:=Tryd.sizeOf0
 v0:=Tryd.zeroValue0
 t2:=Tryd.underlying2
 a2:=Tryd.isAgg2
 z2:=Tryd.sizeOf2
 v2:=Tryd.zeroValue2
 t3:=Tryd.underlying3
 a3:=Tryd.isAgg3
 z3:=Tryd.sizeOf3
 v3:=Tryd.zeroValue3
 t4:=Tryd.underlying4
 a4:=Tryd.isAgg4
 z4:=Tryd.sizeOf4
 v4:=Tryd.zeroValue4
 t5:=Tryd.underlying5
 a5:=Tryd.isAgg5
 z5:=Tryd.sizeOf5
 v5:=Tryd.zeroValue5
 t9:=Tryd.underlying9
 a9:=Tryd.isAgg9
 z9:=Tryd.sizeOf9
 v9:=Tryd.zeroValue9
 t20:=Tryd.underlying20
 a20:=Tryd.isAgg20
 z20:=Tryd.sizeOf20
 v20:=Tryd.zeroValue20
 t21:=Tryd.underlying21
 a21:=Tryd.isAgg21
 z21:=Tryd.sizeOf21
 v21:=Tryd.zeroValue21
 t37:=Tryd.underlying47
 a37:=Tryd.isAgg47
 z37:=Tryd.sizeOf47
 v37:=Tryd.zeroValue47
 t46:=Tryd.underlying94
 a46:=Tryd.isAgg94
 z46:=Tryd.sizeOf94
 v46:=Tryd.zeroValue94
 t51:=Tryd.underlying123
 a51:=Tryd.isAgg123
 z51:=Tryd.sizeOf123
 v51:=Tryd.zeroValue123
 t53:=Tryd.underlying45
 a53:=Tryd.isAgg45
 z53:=Tryd.sizeOf45
 v53:=Tryd.zeroValue45
 t75:=Tryd.underlying70
 a75:=Tryd.isAgg70
 z75:=Tryd.sizeOf70
 v75:=Tryd.zeroValue70
 t76:=Tryd.underlying71
 a76:=Tryd.isAgg71
 z76:=Tryd.sizeOf71
 v76:=Tryd.zeroValue71
 t85:=Tryd.underlying116
 a85:=Tryd.isAgg116
 z85:=Tryd.sizeOf116
 v85:=Tryd.zeroValue116
 t127:=Tryd.underlying79
 a127:=Tryd.isAgg79
 z127:=Tryd.sizeOf79
 v127:=Tryd.zeroValue79
 t143:=Tryd.underlying134
 a143:=Tryd.isAgg134
 z143:=Tryd.sizeOf134
 v143:=Tryd.zeroValue134
 t145:=Tryd.underlying136
 a145:=Tryd.isAgg136
 z145:=Tryd.sizeOf136
 v145:=Tryd.zeroValue136
 t167:=Tryd.underlying115
 a167:=Tryd.isAgg115
 z167:=Tryd.sizeOf115
 v167:=Tryd.zeroValue115
 t168:=Tryd.underlying118
 a168:=Tryd.isAgg118
 z168:=Tryd.sizeOf118
 v168:=Tryd.zeroValue118
 t171:=Tryd.underlying109
 a171:=Tryd.isAgg109
 z171:=Tryd.sizeOf109
 v171:=Tryd.zeroValue109
 t173:=Tryd.underlying112
 a173:=Tryd.isAgg112
 z173:=Tryd.sizeOf112
 v173:=Tryd.zeroValue112
 t175:=Tryd.underlying127
 a175:=Tryd.isAgg127
 z175:=Tryd.sizeOf127
 v175:=Tryd.zeroValue127
 t210:=Tryd.underlying130
 a210:=Tryd.isAgg130
 z210:=Tryd.sizeOf130
 v210:=Tryd.zeroValue130
 t212:=Tryd.underlying122
 a212:=Tryd.isAgg122
 z212:=Tryd.sizeOf122
 v212:=Tryd.zeroValue122
 t213:=Tryd.underlying124
 a213:=Tryd.isAgg124
 z213:=Tryd.sizeOf124
 t232:=Tryd.underlying137
 a232:=Tryd.isAgg137
 z232:=Tryd.sizeOf137
 v232:=Tryd.zeroValue137
 t233:=Tryd.underlying138
 a233:=Tryd.isAgg138
 z233:=Tryd.sizeOf138
 v233:=Tryd.zeroValue138
 g15:=by kernel_rfl
 g16:=by kernel_rfl
 g17:=by kernel_rfl
 g18:=by kernel_rfl
 g19:=by kernel_rfl }
open Go.RowKit in
theorem Tryd.strconv_Atoi (s:ByteArray) (n:Int) (hl:s.size≤18) (h:Lib.atoi s.data.toList=some n) (w:World) :
  Calls Tryd.prog 40 #[.string s] w fun e w'=>e=.returned (.tuple #[.int .i64 n,.nilIface])∧∃t,w'=Lib.bytesWorld w 5 t:=Any.strconv_Atoi Tryd.lays172 s n hl h w
def Tryd.lays171_ren:Go.Shelf.Ren:=⟨fun | 171=>15 | 243=>33 | 246=>47 | 283=>57 | 284=>58 | 285=>59 | 286=>60 | 129=>69 | 317=>68 | 318=>70 | 319=>71 | 320=>72 | 337=>77 | 338=>78 | n=>n,fun | 3=>3 | 9=>9 | 2=>2 | 4=>4 | 171=>109 | 0=>0 | 53=>45 | 37=>47 | 5=>5 | 173=>112 | 212=>122 | 51=>123 | 20=>20 | 213=>124 | 46=>94 | 232=>137 | 233=>138 | n=>n,fun | 17=>0 | 18=>4 | 19=>5 | n=>n⟩
theorem Tryd.lays171:Go.Proofs.Lays.n171 Tryd.prog Tryd.lays171_ren:={
 mixed:=by kernel_rfl
 f129:=Tryd.func69.trans (congrArg some (by kernel_rfl))
 f171:=Tryd.func15.trans (congrArg some (by kernel_rfl))
 f243:=Tryd.func33.trans (congrArg some (by kernel_rfl))
 f246:=Tryd.func47.trans (congrArg some (by kernel_rfl))
 f283:=Tryd.func57.trans (congrArg some (by kernel_rfl))
 f284:=Tryd.func58.trans (congrArg some (by kernel_rfl))
 f285:=Tryd.func59.trans (congrArg some (by kernel_rfl))
 f286:=Tryd.func60.trans (congrArg some (by kernel_rfl))
 f317:=Tryd.func68.trans (congrArg some (by kernel_rfl))
 f318:=Tryd.func70.trans (congrArg some (by kernel_rfl))
 f319:=Tryd.func71.trans (congrArg some (by kernel_rfl))
 f320:=Tryd.func72.trans (congrArg some (by kernel_rfl))
 f337:=Tryd.func77.trans (congrArg some (by kernel_rfl))
 f338:=Tryd.func78.trans (congrArg some (by kernel_rfl))
 t0:=Tryd.underlying0
 a0:=Tryd.isAgg0
 z0:=Tryd.sizeOf0
 v0:=Tryd.zeroValue0
 t2:=Tryd.underlying2
 a2:=Tryd.isAgg2
 z2:=Tryd.sizeOf2
 v2:=Tryd.zeroValue2
 t3:=Tryd.underlying3
 a3:=Tryd.isAgg3
 z3:=Tryd.sizeOf3
 v3:=Tryd.zeroValue3
 t4:=Tryd.underlying4
 a4:=Tryd.isAgg4
 z4:=Tryd.sizeOf4
 v4:=Tryd.zeroValue4
 t5:=Tryd.underlying5
 a5:=Tryd.isAgg5
 z5:=Tryd.sizeOf5
 v5:=Tryd.zeroValue5
 t9:=Tryd.underlying9
 a9:=Tryd.isAgg9
 z9:=Tryd.sizeOf9
 v9:=Tryd.zeroValue9
 t20:=Tryd.underlying20
 a20:=Tryd.isAgg20
 z20:=Tryd.sizeOf20
 v20:=Tryd.zeroValue20
 t37:=Tryd.underlying47
 a37:=Tryd.isAgg47
 z37:=Tryd.sizeOf47
 v37:=Tryd.zeroValue47
 t46:=Tryd.underlying94
 a46:=Tryd.isAgg94
 z46:=Tryd.sizeOf94
 v46:=Tryd.zeroValue94
 t51:=Tryd.underlying123
 a51:=Tryd.isAgg123
 z51:=Tryd.sizeOf123
 v51:=Tryd.zeroValue123
 t53:=Tryd.underlying45
 a53:=Tryd.isAgg45
 z53:=Tryd.sizeOf45
 v53:=Tryd.zeroValue45
 t171:=Tryd.underlying109
 a171:=Tryd.isAgg109
 z171:=Tryd.sizeOf109
 v171:=Tryd.zeroValue109
 t173:=Tryd.underlying112
 a173:=Tryd.isAgg112
 z173:=Tryd.sizeOf112
 v173:=Tryd.zeroValue112
 t212:=Tryd.underlying122
 a212:=Tryd.isAgg122
 z212:=Tryd.sizeOf122
 v212:=Tryd.zeroValue122
 t213:=Tryd.underlying124
 a213:=Tryd.isAgg124
 z213:=Tryd.sizeOf124
 t232:=Tryd.underlying137
 a232:=Tryd.isAgg137
 z232:=Tryd.sizeOf137
 v232:=Tryd.zeroValue137
 t233:=Tryd.underlying138
 a233:=Tryd.isAgg138
 z233:=Tryd.sizeOf138
 v233:=Tryd.zeroValue138
 g17:=by kernel_rfl
 g18:=by kernel_rfl
 g19:=by kernel_rfl }
open Go.RowKit Go.Sort Go.Lib in
theorem Tryd.strconv_Itoa_small (i:Nat) (hi:i<100) (w:World) :
  Calls Tryd.prog 15 #[.int .i64 i] w fun e w'=>e=.returned (.string ⟨(Lib.decDigits i).toArray⟩)∧w'=w:=Any.strconv_Itoa_small Tryd.lays171 i hi w
def Tryd.lays264_ren:Go.Shelf.Ren:=⟨fun | 264=>56 | n=>n,fun | 53=>45 | 46=>94 | n=>n,fun | n=>n⟩
theorem Tryd.lays264:Go.Proofs.Lays.n264 Tryd.prog Tryd.lays264_ren:={
 mixed:=by kernel_rfl
 f264:=Tryd.func56.trans (congrArg some (by kernel_rfl))
 t46:=Tryd.underlying94
 a46:=Tryd.isAgg94
 z46:=Tryd.sizeOf94
 v46:=Tryd.zeroValue94
 t53:=Tryd.underlying45
 a53:=Tryd.isAgg45
 z53:=Tryd.sizeOf45
 v53:=Tryd.zeroValue45 }
open Go.RowKit Go.Lib in
theorem Tryd.bits_Mul64 (x y:Nat) (hx:x<18446744073709551616) (hy:y<18446744073709551616) (w:World) :
  Calls Tryd.prog 56 #[.int .u64 x,.int .u64 y] w fun e w'=>e=.returned (.tuple #[.int .u64 ((x * y / 18446744073709551616:Nat):Int),.int .u64 ((x * y % 18446744073709551616:Nat):Int)])∧w'=w:=Any.bits_Mul64 Tryd.lays264 x y hx hy w
end Go.Proofs
