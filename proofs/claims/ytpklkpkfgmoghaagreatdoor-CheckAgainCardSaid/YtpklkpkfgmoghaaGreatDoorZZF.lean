/- Contracts of Go's library at this program, as the kit's tool lays them. -/
import Derived.Shelf.Strings.Builder1
import Derived.Shelf.Strings.Builder2
import Derived.Shelf.Strings.OnBuilder
import Derived.Shelf.Strings.Trim
import Derived.Shelf.Small.Utf8
import Derived.Shelf.Small.Strs
import Derived.Shelf.Strings.BuilderF
import Derived.Shelf.Strings.BuilderK
import Derived.Shelf.Strings.Builder2Cap
import Derived.Shelf.Strconv.Itoa0
import Derived.Shelf.Strconv.Itoa1
import Derived.Shelf.LaysM
import Derived.Shelf.Strconv.Itoa2
import Derived.Shelf.Strconv.Itoa3
import Derived.Shelf.Strconv.Itoa4
import Derived.Shelf.Strconv.ParseIntEmpty
import Derived.Shelf.Strconv.Clone
import Derived.Shelf.Strconv.SyntaxError
import Derived.Shelf.LaysC
import Derived.Shelf.Strconv.ToError
import Derived.Shelf.Strconv.Lower
import Derived.Shelf.Strconv.ParseUint10
import Derived.Shelf.Strconv.ParseUint10Empty
import Derived.Shelf.Strconv.ParseUint10Any
import Derived.Shelf.Strconv.ParseInt10
import Derived.Shelf.Strconv.RangeError
import Derived.Shelf.Strconv.ToErrorRange
import Derived.Shelf.Strconv.ParseUintEmpty
import Derived.Shelf.Strconv.ParseUint10b64
import Derived.Shelf.Strconv.ParseUint10b32
import Derived.Shelf.Strconv.ParseUint10b16
import Derived.Shelf.Strconv.ParseUint10b8
import Derived.Shelf.Strconv.ParseUint10At
import Derived.Shelf.Strconv.ParseInt10At64
import Derived.Shelf.Strconv.ParseInt10At32
import Derived.Shelf.Strconv.ParseInt10At16
import Derived.Shelf.Strconv.ParseInt10At8
import Derived.Shelf.Strconv.ParseInt10All
import Derived.Shelf.Strconv.ParseIntPublic10
import Derived.Shelf.Strings.Search1
import Derived.Shelf.Strings.Search2
import Derived.Shelf.Strings.Cut
import Derived.Shelf.Strings.Shaped
import Derived.Shelf.Strings.Prefix
import Derived.Shelf.Unicode.Decode
import Derived.Shelf.Strings.Runes
import Derived.Shelf.Strings.AsciiSet
import Derived.Shelf.Unicode.DecodeSlow
import Derived.Shelf.Unicode.DecodeAny
import Derived.Shelf.Unicode.DecodeLast
import Derived.Shelf.Slices.Turned
import Derived.Test.YtpklkpkfgmoghaaGreatDoorProg
import Derived.Test.YtpklkpkfgmoghaaGreatDoorZL1
import Derived.Laws.RangeString
set_option linter.unnecessarySimpa false
set_option linter.unusedVariables false
set_option linter.unusedSimpArgs false
set_option maxRecDepth 20000
namespace Go.Proofs
open Go.Shelf
def Tryz.lays161_ren:Go.Shelf.Ren:=⟨fun | 161=>127 | 231=>134 | 227=>135 | 233=>136 | 235=>137 | 228=>142 | 197=>143 | 151=>144 | 260=>150 | 152=>151 | 137=>155 | 119=>156 | 224=>148 | 225=>147 | 217=>146 | 266=>153 | n=>n,fun | 9=>9 | 4=>4 | 3=>3 | 5=>5 | 117=>169 | 116=>168 | 0=>0 | 124=>172 | 105=>177 | 21=>21 | 119=>184 | 46=>131 | 139=>187 | 138=>186 | n=>n,fun | 3=>7 | 4=>8 | n=>n⟩
theorem Tryz.lays161:Go.Proofs.Lays.n161 Tryz.prog Tryz.lays161_ren:={
 mixed:=by kernel_rfl
 f119:=Tryz.func156.trans (congrArg some (by kernel_rfl))
 f137:=Tryz.func155.trans (congrArg some (by kernel_rfl))
 f151:=Tryz.func144.trans (congrArg some (by kernel_rfl))
 f152:=Tryz.func151.trans (congrArg some (by kernel_rfl))
 f161:=Tryz.func127.trans (congrArg some (by kernel_rfl))
 f197:=Tryz.func143.trans (congrArg some (by kernel_rfl))
 f217:=Tryz.func146.trans (congrArg some (by kernel_rfl))
 f224:=Tryz.func148.trans (congrArg some (by kernel_rfl))
 f225:=Tryz.func147.trans (congrArg some (by kernel_rfl))
 f227:=Tryz.func135.trans (congrArg some (by kernel_rfl))
 f228:=Tryz.func142.trans (congrArg some (by kernel_rfl))
 f231:=Tryz.func134.trans (congrArg some (by kernel_rfl))
 f233:=Tryz.func136.trans (congrArg some (by kernel_rfl))
 f235:=Tryz.func137.trans (congrArg some (by kernel_rfl))
 f260:=Tryz.func150.trans (congrArg some (by kernel_rfl))
 f266:=Tryz.func153.trans (congrArg some (by kernel_rfl))
 t0:=Tryz.underlying0
 a0:=Tryz.isAgg0
 z0:=Tryz.sizeOf0
 v0:=Tryz.zeroValue0
 t3:=Tryz.underlying3
 a3:=Tryz.isAgg3
 z3:=Tryz.sizeOf3
 v3:=Tryz.zeroValue3
 t4:=Tryz.underlying4
 a4:=Tryz.isAgg4
 z4:=Tryz.sizeOf4
 v4:=Tryz.zeroValue4
 t5:=Tryz.underlying5
 a5:=Tryz.isAgg5
 z5:=Tryz.sizeOf5
 v5:=Tryz.zeroValue5
 t9:=Tryz.underlying9
 a9:=Tryz.isAgg9
 z9:=Tryz.sizeOf9
 v9:=Tryz.zeroValue9
 t21:=Tryz.underlying21
 a21:=Tryz.isAgg21
 z21:=Tryz.sizeOf21
 v21:=Tryz.zeroValue21
 t46:=Tryz.underlying131
 a46:=Tryz.isAgg131
 z46:=Tryz.sizeOf131
 v46:=Tryz.zeroValue131
 t105:=Tryz.underlying177
 a105:=Tryz.isAgg177
 z105:=Tryz.sizeOf177
 v105:=Tryz.zeroValue177
 t116:=Tryz.underlying168
 a116:=Tryz.isAgg168
 z116:=Tryz.sizeOf168
 t117:=Tryz.underlying169
 a117:=Tryz.isAgg169
 z117:=Tryz.sizeOf169
 v117:=Tryz.zeroValue169
 t119:=Tryz.underlying184
 a119:=Tryz.isAgg184
 z119:=Tryz.sizeOf184
 t124:=Tryz.underlying172
 a124:=Tryz.isAgg172
 z124:=Tryz.sizeOf172
 v124:=Tryz.zeroValue172
 t138:=Tryz.underlying186
 a138:=Tryz.isAgg186
 z138:=Tryz.sizeOf186
 v138:=Tryz.zeroValue186
 t139:=Tryz.underlying187
 a139:=Tryz.isAgg187
 z139:=Tryz.sizeOf187
 v139:=Tryz.zeroValue187
 g3:=by kernel_rfl
 g4:=by kernel_rfl }
open Go.RowKit in
theorem Tryz.strings_TrimLeft_one (s:ByteArray) (c:UInt8) (hc:c.toNat<128) (w:World):
  Calls Tryz.prog 127 #[.string s,.string ⟨#[c]⟩] w fun e w'=>e=.returned (.string ⟨(Lib.trimLeftB s.data.toList c).toArray⟩)∧w'=w:=Any.strings_TrimLeft_one Tryz.lays161 s c hc w
def Tryz.lays162_ren:Go.Shelf.Ren:=⟨fun | 162=>128 | 232=>138 | 227=>135 | 234=>139 | 236=>140 | 228=>142 | 271=>145 | 151=>144 | 120=>152 | 197=>143 | 152=>151 | 260=>150 | 137=>155 | 119=>156 | 224=>148 | 225=>147 | 217=>146 | 266=>153 | n=>n,fun | 9=>9 | 4=>4 | 3=>3 | 5=>5 | 117=>169 | 116=>168 | 0=>0 | 124=>172 | 21=>21 | 105=>177 | 46=>131 | 119=>184 | 139=>187 | 138=>186 | n=>n,fun | 3=>7 | 4=>8 | n=>n⟩
theorem Tryz.lays162:Go.Proofs.Lays.n162 Tryz.prog Tryz.lays162_ren:={
 mixed:=by kernel_rfl
 f119:=Tryz.func156.trans (congrArg some (by kernel_rfl))
 f120:=Tryz.func152.trans (congrArg some (by kernel_rfl))
 f137:=Tryz.func155.trans (congrArg some (by kernel_rfl))
 f151:=Tryz.func144.trans (congrArg some (by kernel_rfl))
 f152:=Tryz.func151.trans (congrArg some (by kernel_rfl))
 f162:=Tryz.func128.trans (congrArg some (by kernel_rfl))
 f197:=Tryz.func143.trans (congrArg some (by kernel_rfl))
 f217:=Tryz.func146.trans (congrArg some (by kernel_rfl))
 f224:=Tryz.func148.trans (congrArg some (by kernel_rfl))
 f225:=Tryz.func147.trans (congrArg some (by kernel_rfl))
 f227:=Tryz.func135.trans (congrArg some (by kernel_rfl))
 f228:=Tryz.func142.trans (congrArg some (by kernel_rfl))
 f232:=Tryz.func138.trans (congrArg some (by kernel_rfl))
 f234:=Tryz.func139.trans (congrArg some (by kernel_rfl))
 f236:=Tryz.func140.trans (congrArg some (by kernel_rfl))
 f260:=Tryz.func150.trans (congrArg some (by kernel_rfl))
 f266:=Tryz.func153.trans (congrArg some (by kernel_rfl))
 f271:=Tryz.func145.trans (congrArg some (by kernel_rfl))
 t0:=Tryz.underlying0
 a0:=Tryz.isAgg0
 z0:=Tryz.sizeOf0
 v0:=Tryz.zeroValue0
 t3:=Tryz.underlying3
 a3:=Tryz.isAgg3
 z3:=Tryz.sizeOf3
 v3:=Tryz.zeroValue3
 t4:=Tryz.underlying4
 a4:=Tryz.isAgg4
 z4:=Tryz.sizeOf4
 v4:=Tryz.zeroValue4
 t5:=Tryz.underlying5
 a5:=Tryz.isAgg5
 z5:=Tryz.sizeOf5
 v5:=Tryz.zeroValue5
 t9:=Tryz.underlying9
 a9:=Tryz.isAgg9
 z9:=Tryz.sizeOf9
 v9:=Tryz.zeroValue9
 t21:=Tryz.underlying21
 a21:=Tryz.isAgg21
 z21:=Tryz.sizeOf21
 v21:=Tryz.zeroValue21
 t46:=Tryz.underlying131
 a46:=Tryz.isAgg131
 z46:=Tryz.sizeOf131
 v46:=Tryz.zeroValue131
 t105:=Tryz.underlying177
 a105:=Tryz.isAgg177
 z105:=Tryz.sizeOf177
 v105:=Tryz.zeroValue177
 t116:=Tryz.underlying168
 a116:=Tryz.isAgg168
 z116:=Tryz.sizeOf168
 t117:=Tryz.underlying169
 a117:=Tryz.isAgg169
 z117:=Tryz.sizeOf169
 v117:=Tryz.zeroValue169
 t119:=Tryz.underlying184
 a119:=Tryz.isAgg184
 z119:=Tryz.sizeOf184
 t124:=Tryz.underlying172
 a124:=Tryz.isAgg172
 z124:=Tryz.sizeOf172
 v124:=Tryz.zeroValue172
 t138:=Tryz.underlying186
 a138:=Tryz.isAgg186
 z138:=Tryz.sizeOf186
 v138:=Tryz.zeroValue186
 t139:=Tryz.underlying187
 a139:=Tryz.isAgg187
 z139:=Tryz.sizeOf187
 v139:=Tryz.zeroValue187
 g3:=by kernel_rfl
 g4:=by kernel_rfl }
open Go.RowKit in
theorem Tryz.strings_TrimRight_one (s:ByteArray) (c:UInt8) (hc:c.toNat<128) (w:World) (hs:s.size≤9223372036854775807):
  Calls Tryz.prog 128 #[.string s,.string ⟨#[c]⟩] w fun e w'=>e=.returned (.string ⟨(Lib.trimRightB s.data.toList c).toArray⟩)∧w'=w:=Any.strings_TrimRight_one Tryz.lays162 s c hc w hs
def Tryz.lays283_ren:Go.Shelf.Ren:=⟨fun | 283=>73 | n=>n,fun | 3=>3 | 9=>9 | 4=>4 | n=>n,fun | n=>n⟩
theorem Tryz.lays283:Go.Proofs.Lays.n283 Tryz.prog Tryz.lays283_ren:={
 mixed:=by kernel_rfl
 f283:=Tryz.func73.trans (congrArg some (by kernel_rfl))
 t3:=Tryz.underlying3
 a3:=Tryz.isAgg3
 z3:=Tryz.sizeOf3
 v3:=Tryz.zeroValue3
 t4:=Tryz.underlying4
 a4:=Tryz.isAgg4
 z4:=Tryz.sizeOf4
 v4:=Tryz.zeroValue4
 t9:=Tryz.underlying9
 a9:=Tryz.isAgg9
 z9:=Tryz.sizeOf9
 v9:=Tryz.zeroValue9 }
open Go.Lib in
theorem Tryz.internal_strconv_small (i:Nat) (h:i<100) (w:World):
  Calls Tryz.prog 73 #[.int .i64 i] w fun e w'=>e=.returned (.string ⟨(Lib.decDigits i).toArray⟩)∧w'=w:=Any.internal_strconv_small Tryz.lays283 i h w
def Tryz.laysM284_ren:Go.Shelf.Ren:=⟨fun | 284=>74 | 129=>93 | 317=>92 | 318=>94 | n=>n,fun | 53=>110 | 3=>3 | 212=>127 | 0=>0 | 4=>4 | 46=>131 | 5=>5 | 9=>9 | n=>n,fun | 17=>0 | n=>n⟩
theorem Tryz.laysM284:Go.Proofs.LaysM.n284 Tryz.prog Tryz.laysM284_ren:={
 mixed:=by kernel_rfl
 f129:=Tryz.func93.trans (congrArg some (by kernel_rfl))
 f284:=Tryz.func74.trans (congrArg some (by kernel_rfl))
 f317:=Tryz.func92.trans (congrArg some (by kernel_rfl))
 f318:=Tryz.func94.trans (congrArg some (by kernel_rfl))
 t0:=Tryz.underlying0
 a0:=Tryz.isAgg0
 z0:=Tryz.sizeOf0
 v0:=Tryz.zeroValue0
 t3:=Tryz.underlying3
 a3:=Tryz.isAgg3
 z3:=Tryz.sizeOf3
 v3:=Tryz.zeroValue3
 t4:=Tryz.underlying4
 a4:=Tryz.isAgg4
 z4:=Tryz.sizeOf4
 v4:=Tryz.zeroValue4
 t5:=Tryz.underlying5
 a5:=Tryz.isAgg5
 z5:=Tryz.sizeOf5
 v5:=Tryz.zeroValue5
 t9:=Tryz.underlying9
 a9:=Tryz.isAgg9
 z9:=Tryz.sizeOf9
 v9:=Tryz.zeroValue9
 t46:=Tryz.underlying131
 a46:=Tryz.isAgg131
 z46:=Tryz.sizeOf131
 v46:=Tryz.zeroValue131
 t53:=Tryz.underlying110
 a53:=Tryz.isAgg110
 z53:=Tryz.sizeOf110
 v53:=Tryz.zeroValue110
 t212:=Tryz.underlying127
 a212:=Tryz.isAgg127
 z212:=Tryz.sizeOf127
 v212:=Tryz.zeroValue127
 g17:=by kernel_rfl
 i0:=by kernel_rfl
 i3:=by kernel_rfl
 i4:=by kernel_rfl
 i5:=by kernel_rfl
 i9:=by kernel_rfl
 i46:=by kernel_rfl
 i53:=by kernel_rfl
 i212:=by kernel_rfl
 m17:=by kernel_rfl }
open Go.Lib in
theorem Tryz.internal_strconv_numDigits (u:Nat) (h1:1≤u) (h2:u<18446744073709551616) (w:World) (aeh:Lib.TabIs Tryz.prog w "internal/strconv.uint64pow10" .u64 Lib.pow10Tab):
  Calls Tryz.prog 74 #[.int .u64 u] w fun e w'=>e=.returned (.int .i64 (Lib.nDigits u))∧w'=w:=Any.internal_strconv_numDigits Tryz.laysM284 u h1 h2 w aeh
def Tryz.laysM173_ren:Go.Shelf.Ren:=⟨fun | 173=>40 | 246=>47 | 283=>73 | 284=>74 | 285=>75 | 286=>76 | 129=>93 | 317=>92 | 318=>94 | 319=>95 | 320=>96 | 337=>113 | 338=>114 | n=>n,fun | 2=>2 | 3=>3 | 9=>9 | 4=>4 | 171=>109 | 0=>0 | 53=>110 | 37=>96 | 5=>5 | 173=>113 | 212=>127 | 51=>128 | 20=>20 | 213=>129 | 46=>131 | 232=>151 | 233=>152 | n=>n,fun | 17=>0 | 18=>3 | 19=>4 | n=>n⟩
theorem Tryz.laysM173:Go.Proofs.LaysM.n173 Tryz.prog Tryz.laysM173_ren:={
 mixed:=by kernel_rfl
 f129:=Tryz.func93.trans (congrArg some (by kernel_rfl))
 f173:=Tryz.func40.trans (congrArg some (by kernel_rfl))
 f246:=Tryz.func47.trans (congrArg some (by kernel_rfl))
 f283:=Tryz.func73.trans (congrArg some (by kernel_rfl))
 f284:=Tryz.func74.trans (congrArg some (by kernel_rfl))
 f285:=Tryz.func75.trans (congrArg some (by kernel_rfl))
 f286:=Tryz.func76.trans (congrArg some (by kernel_rfl))
 f317:=Tryz.func92.trans (congrArg some (by kernel_rfl))
 f318:=Tryz.func94.trans (congrArg some (by kernel_rfl))
 f319:=Tryz.func95.trans (congrArg some (by kernel_rfl))
 f320:=Tryz.func96.trans (congrArg some (by kernel_rfl))
 f337:=Tryz.func113.trans (congrArg some (by kernel_rfl))
 f338:=Tryz.func114.trans (congrArg some (by kernel_rfl))
 t0:=Tryz.underlying0
 a0:=Tryz.isAgg0
 z0:=Tryz.sizeOf0
 v0:=Tryz.zeroValue0
 t2:=Tryz.underlying2
 a2:=Tryz.isAgg2
 z2:=Tryz.sizeOf2
 v2:=Tryz.zeroValue2
 t3:=Tryz.underlying3
 a3:=Tryz.isAgg3
 z3:=Tryz.sizeOf3
 v3:=Tryz.zeroValue3
 t4:=Tryz.underlying4
 a4:=Tryz.isAgg4
 z4:=Tryz.sizeOf4
 v4:=Tryz.zeroValue4
 t5:=Tryz.underlying5
 a5:=Tryz.isAgg5
 z5:=Tryz.sizeOf5
 v5:=Tryz.zeroValue5
 t9:=Tryz.underlying9
 a9:=Tryz.isAgg9
 z9:=Tryz.sizeOf9
 v9:=Tryz.zeroValue9
 t20:=Tryz.underlying20
 a20:=Tryz.isAgg20
 z20:=Tryz.sizeOf20
 v20:=Tryz.zeroValue20
 t37:=Tryz.underlying96
 a37:=Tryz.isAgg96
 z37:=Tryz.sizeOf96
 v37:=Tryz.zeroValue96
 t46:=Tryz.underlying131
 a46:=Tryz.isAgg131
 z46:=Tryz.sizeOf131
 v46:=Tryz.zeroValue131
 t51:=Tryz.underlying128
 a51:=Tryz.isAgg128
 z51:=Tryz.sizeOf128
 v51:=Tryz.zeroValue128
 t53:=Tryz.underlying110
 a53:=Tryz.isAgg110
 z53:=Tryz.sizeOf110
 v53:=Tryz.zeroValue110
 t171:=Tryz.underlying109
 a171:=Tryz.isAgg109
 z171:=Tryz.sizeOf109
 v171:=Tryz.zeroValue109
 t173:=Tryz.underlying113
 a173:=Tryz.isAgg113
 z173:=Tryz.sizeOf113
 v173:=Tryz.zeroValue113
 t212:=Tryz.underlying127
 a212:=Tryz.isAgg127
 z212:=Tryz.sizeOf127
 v212:=Tryz.zeroValue127
 t213:=Tryz.underlying129
 a213:=Tryz.isAgg129
 z213:=Tryz.sizeOf129
 t232:=Tryz.underlying151
 a232:=Tryz.isAgg151
 z232:=Tryz.sizeOf151
 v232:=Tryz.zeroValue151
 t233:=Tryz.underlying152
 a233:=Tryz.isAgg152
 z233:=Tryz.sizeOf152
 v233:=Tryz.zeroValue152
 g17:=by kernel_rfl
 g18:=by kernel_rfl
 g19:=by kernel_rfl
 i0:=by kernel_rfl
 i2:=by kernel_rfl
 i3:=by kernel_rfl
 i4:=by kernel_rfl
 i5:=by kernel_rfl
 i9:=by kernel_rfl
 i20:=by kernel_rfl
 i37:=by kernel_rfl
 i46:=by kernel_rfl
 i51:=by kernel_rfl
 i53:=by kernel_rfl
 i171:=by kernel_rfl
 i173:=by kernel_rfl
 i212:=by kernel_rfl
 i232:=by kernel_rfl
 i233:=by kernel_rfl
 m17:=by kernel_rfl
 m18:=by kernel_rfl
 m19:=by kernel_rfl }
open Go.RowKit Go.Sort Go.Lib in
theorem Tryz.strconv_FormatInt_10 (n:Int) (h0: -9223372036854775808≤n) (h1:n≤9223372036854775807) (w:World) (aeh:Lib.TabIs Tryz.prog w "internal/strconv.uint64pow10" .u64 Lib.pow10Tab):
  Calls Tryz.prog 40 #[.int .i64 n,.int .i64 10] w fun e w'=>e=.returned (.string ⟨(Lib.itoa n).toArray⟩)∧∃k os,w'=grow (w.drewN k) os:=Any.strconv_FormatInt_10 Tryz.laysM173 n h0 h1 w aeh
def Tryz.laysC174_ren:Go.Shelf.Ren:=⟨fun | 174=>98 | 247=>115 | 245=>116 | 287=>121 | 279=>122 | 280=>123 | 281=>124 | 282=>125 | 321=>129 | 322=>130 | 316=>131 | 171=>14 | 205=>132 | 243=>30 | 246=>47 | 283=>73 | 284=>74 | 285=>75 | 286=>76 | 129=>93 | 317=>92 | 318=>94 | 319=>95 | 320=>96 | 337=>113 | 338=>114 | n=>n,fun | 9=>9 | 3=>3 | 2=>2 | 75=>101 | 85=>134 | 4=>4 | 167=>153 | 5=>5 | 53=>110 | 175=>154 | 46=>131 | 168=>156 | 37=>96 | 0=>0 | 210=>164 | 21=>21 | 127=>122 | 145=>175 | 143=>173 | 171=>109 | 173=>113 | 212=>127 | 51=>128 | 20=>20 | 213=>129 | 232=>151 | 233=>152 | 80=>92 | n=>n,fun | 15=>5 | 16=>6 | 17=>0 | 18=>3 | 19=>4 | n=>n⟩
theorem Tryz.laysC174:Go.Proofs.LaysC.n174 Tryz.prog Tryz.laysC174_ren:={
 mixed:=by kernel_rfl
 f129:=Tryz.func93.trans (congrArg some (by kernel_rfl))
 f171:=Tryz.func14.trans (congrArg some (by kernel_rfl))
 f174:=Tryz.func98.trans (congrArg some (by kernel_rfl))
 f205:=Tryz.func132.trans (congrArg some (by kernel_rfl))
 f243:=Tryz.func30.trans (congrArg some (by kernel_rfl))
 f245:=Tryz.func116.trans (congrArg some (by kernel_rfl))
 f246:=Tryz.func47.trans (congrArg some (by kernel_rfl))
 f247:=Tryz.func115.trans (congrArg some (by kernel_rfl))
 f279:=Tryz.func122.trans (congrArg some (by kernel_rfl))
 f280:=Tryz.func123.trans (congrArg some (by kernel_rfl))
 f281:=Tryz.func124.trans (congrArg some (by kernel_rfl))
 f282:=Tryz.func125.trans (congrArg some (by kernel_rfl))
 f283:=Tryz.func73.trans (congrArg some (by kernel_rfl))
 f284:=Tryz.func74.trans (congrArg some (by kernel_rfl))
 f285:=Tryz.func75.trans (congrArg some (by kernel_rfl))
 f286:=Tryz.func76.trans (congrArg some (by kernel_rfl))
 f287:=Tryz.func121.trans (congrArg some (by kernel_rfl))
 f316:=Tryz.func131.trans (congrArg some (by kernel_rfl))
 f317:=Tryz.func92.trans (congrArg some (by kernel_rfl))
 f318:=Tryz.func94.trans (congrArg some (by kernel_rfl))
 f319:=Tryz.func95.trans (congrArg some (by kernel_rfl))
 f320:=Tryz.func96.trans (congrArg some (by kernel_rfl))
 f321:=Tryz.func129.trans (congrArg some (by kernel_rfl))
 f322:=Tryz.func130.trans (congrArg some (by kernel_rfl))
 f337:=Tryz.func113.trans (congrArg some (by kernel_rfl))
 f338:=Tryz.func114.trans (congrArg some (by kernel_rfl))
 t0:=Tryz.underlying0
 a0:=Tryz.isAgg0
 z0:=Tryz.sizeOf0
 v0:=Tryz.zeroValue0
 t2:=Tryz.underlying2
 a2:=Tryz.isAgg2
 z2:=Tryz.sizeOf2
 v2:=Tryz.zeroValue2
 t3:=Tryz.underlying3
 a3:=Tryz.isAgg3
 z3:=Tryz.sizeOf3
 v3:=Tryz.zeroValue3
 t4:=Tryz.underlying4
 a4:=Tryz.isAgg4
 z4:=Tryz.sizeOf4
 v4:=Tryz.zeroValue4
 t5:=Tryz.underlying5
 a5:=Tryz.isAgg5
 z5:=Tryz.sizeOf5
 v5:=Tryz.zeroValue5
 t9:=Tryz.underlying9
 a9:=Tryz.isAgg9
 z9:=Tryz.sizeOf9
 v9:=Tryz.zeroValue9
 t20:=Tryz.underlying20
 a20:=Tryz.isAgg20
 z20:=Tryz.sizeOf20
 v20:=Tryz.zeroValue20
 t21:=Tryz.underlying21
 a21:=Tryz.isAgg21
 z21:=Tryz.sizeOf21
 v21:=Tryz.zeroValue21
 t37:=Tryz.underlying96
 a37:=Tryz.isAgg96
 z37:=Tryz.sizeOf96
 v37:=Tryz.zeroValue96
 t46:=Tryz.underlying131
 a46:=Tryz.isAgg131
 z46:=Tryz.sizeOf131
 v46:=Tryz.zeroValue131
 t51:=Tryz.underlying128
 a51:=Tryz.isAgg128
 z51:=Tryz.sizeOf128
 v51:=Tryz.zeroValue128
 t53:=Tryz.underlying110
 a53:=Tryz.isAgg110
 z53:=Tryz.sizeOf110
 v53:=Tryz.zeroValue110
 t75:=Tryz.underlying101
 a75:=Tryz.isAgg101
 z75:=Tryz.sizeOf101
 v75:=Tryz.zeroValue101
 t85:=Tryz.underlying134
 a85:=Tryz.isAgg134
 z85:=Tryz.sizeOf134
 v85:=Tryz.zeroValue134
 t127:=Tryz.underlying122
 a127:=Tryz.isAgg122
 z127:=Tryz.sizeOf122
 v127:=Tryz.zeroValue122
 t143:=Tryz.underlying173
 a143:=Tryz.isAgg173
 z143:=Tryz.sizeOf173
 v143:=Tryz.zeroValue173
 t145:=Tryz.underlying175
 a145:=Tryz.isAgg175
 z145:=Tryz.sizeOf175
 v145:=Tryz.zeroValue175
 t167:=Tryz.underlying153
 a167:=Tryz.isAgg153
 z167:=Tryz.sizeOf153
 v167:=Tryz.zeroValue153
 t168:=Tryz.underlying156
 a168:=Tryz.isAgg156
 z168:=Tryz.sizeOf156
 v168:=Tryz.zeroValue156
 t171:=Tryz.underlying109
 a171:=Tryz.isAgg109
 z171:=Tryz.sizeOf109
 v171:=Tryz.zeroValue109
 t173:=Tryz.underlying113
 a173:=Tryz.isAgg113
 z173:=Tryz.sizeOf113
 v173:=Tryz.zeroValue113
 t175:=Tryz.underlying154
 a175:=Tryz.isAgg154
 z175:=Tryz.sizeOf154
 v175:=Tryz.zeroValue154
 t210:=Tryz.underlying164
 a210:=Tryz.isAgg164
 z210:=Tryz.sizeOf164
 v210:=Tryz.zeroValue164
 t212:=Tryz.underlying127
 a212:=Tryz.isAgg127
 z212:=Tryz.sizeOf127
 v212:=Tryz.zeroValue127
 t213:=Tryz.underlying129
 a213:=Tryz.isAgg129
 z213:=Tryz.sizeOf129
 t232:=Tryz.underlying151
 a232:=Tryz.isAgg151
 z232:=Tryz.sizeOf151
 v232:=Tryz.zeroValue151
 t233:=Tryz.underlying152
 a233:=Tryz.isAgg152
 z233:=Tryz.sizeOf152
 v233:=Tryz.zeroValue152
 g15:=by kernel_rfl
 g16:=by kernel_rfl
 g17:=by kernel_rfl
 g18:=by kernel_rfl
 g19:=by kernel_rfl
 t80:=Tryz.underlying92
 a80:=Tryz.isAgg92
 z80:=Tryz.sizeOf92
 v80:=Tryz.zeroValue92
 i0:=by kernel_rfl
 i2:=by kernel_rfl
 i3:=by kernel_rfl
 i4:=by kernel_rfl
 i5:=by kernel_rfl
 i9:=by kernel_rfl
 i20:=by kernel_rfl
 i21:=by kernel_rfl
 i37:=by kernel_rfl
 i46:=by kernel_rfl
 i51:=by kernel_rfl
 i53:=by kernel_rfl
 i75:=by kernel_rfl
 i80:=by kernel_rfl
 i85:=by kernel_rfl
 i127:=by kernel_rfl
 i143:=by kernel_rfl
 i145:=by kernel_rfl
 i167:=by kernel_rfl
 i168:=by kernel_rfl
 i171:=by kernel_rfl
 i173:=by kernel_rfl
 i175:=by kernel_rfl
 i210:=by kernel_rfl
 i212:=by kernel_rfl
 i232:=by kernel_rfl
 i233:=by kernel_rfl
 m15:=by kernel_rfl
 m16:=by kernel_rfl
 m17:=by kernel_rfl
 m18:=by kernel_rfl
 m19:=by kernel_rfl
 c0:=by kernel_rfl
 c2:=by kernel_rfl
 c3:=by kernel_rfl
 c4:=by kernel_rfl
 c5:=by kernel_rfl
 c9:=by kernel_rfl
 c20:=by kernel_rfl
 c21:=by kernel_rfl
 c37:=by kernel_rfl
 c46:=by kernel_rfl
 c51:=by kernel_rfl
 c53:=by kernel_rfl
 c75:=by kernel_rfl
 c80:=by kernel_rfl
 c85:=by kernel_rfl
 c127:=by kernel_rfl
 c143:=by kernel_rfl
 c145:=by kernel_rfl
 c167:=by kernel_rfl
 c168:=by kernel_rfl
 c171:=by kernel_rfl
 c173:=by kernel_rfl
 c175:=by kernel_rfl
 c210:=by kernel_rfl
 c212:=by kernel_rfl
 c213:=by kernel_rfl
 c232:=by kernel_rfl
 c233:=by kernel_rfl }
open Go.RowKit in
theorem Tryz.strconv_ParseInt_10_at64_ok (s:ByteArray) (alK:s.size≤9223372036854775806) (v:Int) (h:Lib.parseIntB 64 s.data.toList=.ok v) (w:World):
  Calls Tryz.prog 98 #[.string s,.int .i64 10,.int .i64 64] w fun e w'=>e=.returned (.tuple #[.int .i64 v,.nilIface])∧(w'=w∨∃t,w'=Lib.bytesWorld w 5 t):=Any.strconv_ParseInt_10_at64_ok Tryz.laysC174 s alK v h w
def Tryz.lays145_ren:Go.Shelf.Ren:=⟨fun | 145=>126 | 220=>133 | 219=>141 | 217=>146 | 225=>147 | 224=>148 | 267=>149 | 266=>153 | 314=>154 | n=>n,fun | 9=>9 | 4=>4 | 59=>159 | 3=>3 | 5=>5 | 46=>131 | 146=>182 | 51=>128 | n=>n,fun | 1=>2 | n=>n⟩
theorem Tryz.lays145:Go.Proofs.Lays.n145 Tryz.prog Tryz.lays145_ren:={
 mixed:=by kernel_rfl
 f145:=Tryz.func126.trans (congrArg some (by kernel_rfl))
 f217:=Tryz.func146.trans (congrArg some (by kernel_rfl))
 f219:=Tryz.func141.trans (congrArg some (by kernel_rfl))
 f220:=Tryz.func133.trans (congrArg some (by kernel_rfl))
 f224:=Tryz.func148.trans (congrArg some (by kernel_rfl))
 f225:=Tryz.func147.trans (congrArg some (by kernel_rfl))
 f266:=Tryz.func153.trans (congrArg some (by kernel_rfl))
 f267:=Tryz.func149.trans (congrArg some (by kernel_rfl))
 f314:=Tryz.func154.trans (congrArg some (by kernel_rfl))
 t3:=Tryz.underlying3
 a3:=Tryz.isAgg3
 z3:=Tryz.sizeOf3
 v3:=Tryz.zeroValue3
 t4:=Tryz.underlying4
 a4:=Tryz.isAgg4
 z4:=Tryz.sizeOf4
 v4:=Tryz.zeroValue4
 t5:=Tryz.underlying5
 a5:=Tryz.isAgg5
 z5:=Tryz.sizeOf5
 v5:=Tryz.zeroValue5
 t9:=Tryz.underlying9
 a9:=Tryz.isAgg9
 z9:=Tryz.sizeOf9
 v9:=Tryz.zeroValue9
 t46:=Tryz.underlying131
 a46:=Tryz.isAgg131
 z46:=Tryz.sizeOf131
 v46:=Tryz.zeroValue131
 t51:=Tryz.underlying128
 a51:=Tryz.isAgg128
 z51:=Tryz.sizeOf128
 v51:=Tryz.zeroValue128
 t59:=Tryz.underlying159
 a59:=Tryz.isAgg159
 z59:=Tryz.sizeOf159
 v59:=Tryz.zeroValue159
 t146:=Tryz.underlying182
 a146:=Tryz.isAgg182
 z146:=Tryz.sizeOf182
 v146:=Tryz.zeroValue182
 g1:=by kernel_rfl }
open Go.RowKit Go.Lib in
theorem Tryz.strings_Cut (s sep:ByteArray) (m:Int) (w:World) (hs:s.size<4294967281) (hm:w.cell? ⟨2,0,none⟩=some (.int .i64 m)):
  Calls Tryz.prog 126 #[.string s,.string sep] w fun e w'=>e=.returned (.tuple #[.string ⟨(Lib.cut s.data.toList sep.data.toList).1.toArray⟩,.string ⟨(Lib.cut s.data.toList sep.data.toList).2.1.toArray⟩,.bool (Lib.cut s.data.toList sep.data.toList).2.2])∧∃n,w'=w.drewN n:=Any.strings_Cut Tryz.lays145 s sep m w hs hm
end Go.Proofs
namespace Go.Proofs.YtpklkpkfgmoghaaGreatDoor.Zz
open Go.RowKit
theorem akd [aT] {κ:cT} {w:World} (h:iX κ w) (e:aT.of (Tryz.prog.globalNamed "internal/strconv.uint64pow10").get! =some (Lib.pow10Tab.map fun z=>.int .u64 z)):Lib.TabIs Tryz.prog w "internal/strconv.uint64pow10" .u64 Lib.pow10Tab:=
 afN h (by kernel_rfl) e
theorem pow_eq:aT.of (Tryz.prog.globalNamed "internal/strconv.uint64pow10").get! =some (Lib.pow10Tab.map fun z=>.int .u64 z):=by kernel_rfl
theorem tn:∀(k u:Nat),u<10 ^ (k+1)→Lib.nDigits u≤k+1
 | 0,u,h=>by rw [Lib.nDigits_small (by simpa using h)]; exact Nat.le_refl _
 | k+1,u,h=>by
  by_cases c:u<10
  ·rw [Lib.nDigits_small c]; omega
  ·rw [Lib.nDigits_big c]
   have:=tn k (u / 10) (by rw [Nat.div_lt_iff_lt_mul (by omega)]; rw [Nat.pow_succ] at h; exact h)
   omega
theorem VE (n:Int) (h0: -9223372036854775808≤n) (h1:n≤9223372036854775807):(Lib.itoa n).length≤21:=by
 unfold Lib.itoa
 have key:∀u:Nat,u≤9223372036854775808→(Lib.decDigits u).length≤20:=fun u hu=>by
  rw [Lib.decDigits_length]
  exact tn 19 u (by omega)
 split
 ·have:=key n.natAbs (by omega)
  simp only [List.length_cons]; omega
 ·have:=key n.toNat (by omega)
  omega
theorem SH:aT.ints (Tryz.prog.globalNamed "internal/bytealg.MaxLen").get! =some .i64:=by kernel_rfl
theorem U7 (n:Int) (h0: -9223372036854775808≤n) (h1:n≤9223372036854775807):aV Tryz.prog 40 [.int .i64 n,.int .i64 10] (.str (Lib.itoa n)):=by
 refine aV.mo (by kernel_rfl) fun κ w vs hg hr _=>?_
 obtain ⟨vl⟩:=vs
 cases hr with
 | cons r1 hr=>
  cases hr with
  | cons r2 hr=>
   cases hr
   rw [jJ r1,jJ r2]
   refine (Tryz.strconv_FormatInt_10 n h0 h1 w (akd hg pow_eq)).mono fun e w' ⟨e1,k,os,e2⟩=>⟨_,e1,fun _ _=>.str _ ?_,by rw [e2]; exact K7 w k os⟩
   have:=VE n h0 h1; omega
def aay:List D→Option D
 | [.int .i64 n,.int .i64 b]=>if b=10∧ -9223372036854775808≤n∧n≤9223372036854775807 then some (.str (Lib.itoa n)) else none
 | _=>none
theorem aaz (args:List D) (d:D) (h:aay args=some d):aV Tryz.prog 40 args d:=by
 unfold aay at h
 split at h
 ·split at h
  ·rename_i c
   cases h
   rw [c.1]
   exact U7 _ c.2.1 c.2.2
  ·cases h
 ·cases h
def yb:bh:=bh.zero.dR 40 aay
theorem Rh (g:FuncId) (args:List D):yb.q g args=if g=40 then aay args else bh.zero.q g args:=rfl
theorem Re:yb.a=bh.zero.a:=rfl
theorem Rf:yb.c=bh.zero.c:=rfl
theorem XX:yb.ok Tryz.prog:=bh.bE (bh.dJ _) aaz
theorem Rg:type_of% (And.intro @Rh (And.intro @Re @Rf)):=(And.intro @Rh (And.intro @Re @Rf))
theorem Ic (u:Int) (h:1≤u∧u<18446744073709551616):aV Tryz.prog 74 [.int .u64 u] (.int .i64 (Lib.nDigits u.toNat)):=by
 refine aV.mo (by kernel_rfl) fun κ w vs hg hr _=>?_
 obtain ⟨vl⟩:=vs
 cases hr with
 | cons r1 hr=>
  cases hr
  rw [jJ r1]
  have e0:u=((u.toNat:Nat):Int):=by omega
  have:=Tryz.internal_strconv_numDigits u.toNat (by omega) (by omega) w (akd hg pow_eq)
  rw [←e0] at this
  exact this.mono fun e w' ⟨e1,e2⟩=>⟨_,e1,fun _ _=>.int _ _,by rw [e2]; exact Below.refl _ _⟩
def aau:List D→Option D
 | [.int .u64 u]=>if 1≤u∧u<18446744073709551616 then some (.int .i64 (Lib.nDigits u.toNat)) else none
 | _=>none
theorem aav (args:List D) (d:D) (h:aau args=some d):aV Tryz.prog 74 args d:=by
 unfold aau at h
 split at h
 ·split at h
  ·cases h; exact Ic _ (by assumption)
  ·cases h
 ·cases h
def xO:bh:=yb.dR 74 aau
theorem P7 (g:FuncId) (args:List D):xO.q g args=if g=74 then aau args else yb.q g args:=rfl
theorem P3:xO.a=yb.a:=rfl
theorem P4:xO.c=yb.c:=rfl
theorem Xb:xO.ok Tryz.prog:=bh.bE XX aav
theorem P5:type_of% (And.intro (And.intro @P7 (And.intro @P3 @P4)) @Rg):=(And.intro (And.intro @P7 (And.intro @P3 @P4)) @Rg)
theorem aaS (u:Int) (h:0≤u∧u<100):aV Tryz.prog 73 [.int .i64 u] (.str (Lib.decDigits u.toNat)):=by
 refine aV.mo (by kernel_rfl) fun κ w vs hg hr _=>?_
 obtain ⟨vl⟩:=vs
 cases hr with
 | cons r1 hr=>
  cases hr
  rw [jJ r1]
  have e0:u=((u.toNat:Nat):Int):=by omega
  have:=Tryz.internal_strconv_small u.toNat (by omega) w
  rw [←e0] at this
  refine this.mono fun e w' ⟨e1,e2⟩=>⟨_,e1,fun _ _=>.str _ ?_,by rw [e2]; exact Below.refl _ _⟩
  rw [Lib.decDigits_length]
  have:=tn 1 u.toNat (by omega)
  omega
def Wm:List D→Option D
 | [.int .i64 u]=>if 0≤u∧u<100 then some (.str (Lib.decDigits u.toNat)) else none
 | _=>none
theorem aat (args:List D) (d:D) (h:Wm args=some d):aV Tryz.prog 73 args d:=by
 unfold Wm at h
 split at h
 ·split at h
  ·cases h; exact aaS _ (by assumption)
  ·cases h
 ·cases h
def xN:bh:=xO.dR 73 Wm
theorem P2 (g:FuncId) (args:List D):xN.q g args=if g=73 then Wm args else xO.q g args:=rfl
theorem P0:xN.a=xO.a:=rfl
theorem P1:xN.c=xO.c:=rfl
theorem JU:xN.ok Tryz.prog:=bh.bE Xb aat
theorem F0:type_of% (And.intro (And.intro @P2 (And.intro @P0 @P1)) @P5):=(And.intro (And.intro @P2 (And.intro @P0 @P1)) @P5)
theorem jo (p:UInt8→Bool):∀l:List UInt8,(l.dropWhile p).length≤l.length
 | []=>by simp
 | x::l=>by
  rw [List.dropWhile_cons]
  split
  ·have:=jo p l; simp; omega
  ·simp
theorem aa_ (s:List UInt8):aV Tryz.prog 127 [.str s,.str [48]] (.str (Lib.trimLeftB s 48)):=by
 refine aV.mo (by kernel_rfl) fun κ w vs hg hr him=>?_
 obtain ⟨vl⟩:=vs
 cases hr with
 | cons r1 hr=>
  cases hr with
  | cons r2 hr=>
   cases hr
   obtain ⟨e1,hl⟩:=jK r1
   rw [e1,(jK r2).1]
   refine (Tryz.strings_TrimLeft_one ⟨s.toArray⟩ 48 (by decide) w).mono fun e w' ⟨e1,e2⟩=>⟨_,e1,fun _ _=>.str (Lib.trimLeftB s 48) ?_,by rw [e2]; exact Below.refl _ _⟩
   have:(Lib.trimLeftB s 48).length≤s.length:=by unfold Lib.trimLeftB; exact jo _ _
   omega
theorem aba (s:List UInt8):aV Tryz.prog 128 [.str s,.str [48]] (.str (Lib.trimRightB s 48)):=by
 refine aV.mo (by kernel_rfl) fun κ w vs hg hr him=>?_
 obtain ⟨vl⟩:=vs
 cases hr with
 | cons r1 hr=>
  cases hr with
  | cons r2 hr=>
   cases hr
   obtain ⟨e1,hl⟩:=jK r1
   rw [e1,(jK r2).1]
   refine (Tryz.strings_TrimRight_one ⟨s.toArray⟩ 48 (by decide) w (by simpa [ByteArray.size] using hl)).mono fun e w' ⟨e1,e2⟩=>⟨_,e1,fun _ _=>.str (Lib.trimRightB s 48) ?_,by rw [e2]; exact Below.refl _ _⟩
   have:(Lib.trimRightB s 48).length≤s.length:=by
    unfold Lib.trimRightB
    have:=jo (fun b=>b==48) s.reverse
    simp at this ⊢
    omega
   omega
theorem ag7 (s sep:List UInt8) (hs:s.length<4294967281):aV Tryz.prog 126 [.str s,.str sep] (.tuple [.str (Lib.cut s sep).1,.str (Lib.cut s sep).2.1,.bool (Lib.cut s sep).2.2]):=by
 refine aV.mo (by kernel_rfl) fun κ w vs hg hr him=>?_
 obtain ⟨vl⟩:=vs
 cases hr with
 | cons r1 hr=>
  cases hr with
  | cons r2 hr=>
   cases hr
   rw [(jK r1).1,(jK r2).1]
   obtain ⟨_,m,hm⟩:=hg.ints _ _ SH
   refine (Tryz.strings_Cut ⟨s.toArray⟩ ⟨sep.toArray⟩ m w (by simpa [ByteArray.size] using hs) hm).mono fun e w' ⟨e1,n,e2⟩=>⟨_,e1,fun _ _=>.tuple rfl fun i d hd=>?_,by rw [e2]; exact GA w n⟩
   have h1:(Lib.cut s sep).1.length≤9223372036854775807:=by
    unfold Lib.cut
    split<;>simp<;>omega
   have h2:(Lib.cut s sep).2.1.length≤9223372036854775807:=by
    unfold Lib.cut
    split<;>simp<;>omega
   match i,hd with
   | 0,hd=>cases hd; exact .str _ h1
   | 1,hd=>cases hd; exact .str _ h2
   | 2,hd=>cases hd; exact .bool _
end Go.Proofs.YtpklkpkfgmoghaaGreatDoor.Zz
namespace Go.Proofs.YtpklkpkfgmoghaaGreatDoor.Zz
variable {T:bh} {h:aa} {K E:D→aa→Prop}
theorem LQ {neg:Bool} {xs:List (List D)}:eV T (.isNil neg (.sl xs)) h K E=((xs=[]→K (.bool (!neg)) h)∧K (.bool neg) h):=rfl
theorem yT {k:FuncId} {first cap args:List D}:eV T (.callR (.func (.func k) first cap) args) h K E=T.c k (first++args++cap) h K E:=rfl
theorem HN {t t':TypeId} {ok:Bool} {z d:D}:eV T (.typeAssert t ok z (.iface t' d)) h K E=(t'=t∧K (bif ok then .tuple [d,.bool true] else d) h):=rfl
theorem VA {s:List UInt8}:eV T (.pH (.str s)) h K E=∀id,h.f id=none→K (.iter id) (h.set id (.lH s 0)):=rfl
def snx (id:Nat) (h:aa) (K:D→aa→Prop):Option cJ→Prop
 | some (.lH s pos)=>(pos<s.length→K (.tuple [.bool true,.int .i64 (pos:Int),.int .i32 ((Utf8.decode ⟨s.toArray⟩ pos).1:Int)]) (h.set id (.lH s (pos+(Utf8.decode ⟨s.toArray⟩ pos).2))))∧(s.length≤pos→K (.tuple [.bool false]) h)
 | _=>False
theorem NJ {id:Nat}:eV T (.sX (.iter id)) h K E=snx id h K (h.f id):=by
 show (match h.f id with | some (.lH s pos)=>_ | _=>False)=_
 generalize h.f id=o
 cases o with
 | none=>rfl
 | some o=>cases o<;>rfl
theorem D9 {id:Nat} {s:List UInt8} {pos:Nat}:snx id h K (some (.lH s pos))=((pos<s.length→K (.tuple [.bool true,.int .i64 (pos:Int),.int .i32 ((Utf8.decode ⟨s.toArray⟩ pos).1:Int)]) (h.set id (.lH s (pos+(Utf8.decode ⟨s.toArray⟩ pos).2))))∧(s.length≤pos→K (.tuple [.bool false]) h)):=rfl
theorem Lv {s:List UInt8} {pos:Nat} {c:UInt8} (hc:s[pos]? =some c) (h7:c<128):Utf8.decode ⟨s.toArray⟩ pos=(c.toNat,1):=by
 have ig:pos<s.length:=(List.getElem?_eq_some_iff.1 hc).1
 have e:(⟨s.toArray⟩:ByteArray)[pos]'(by simpa [ByteArray.size] using ig)=c:=by
  have:s[pos]=c:=(List.getElem?_eq_some_iff.1 hc).2
  exact this
 rw [decode_ascii (⟨s.toArray⟩:ByteArray) pos (by simpa [ByteArray.size] using ig) (by rw [e]; exact UInt8.lt_iff_toNat_lt.1 h7),e]
end Go.Proofs.YtpklkpkfgmoghaaGreatDoor.Zz
namespace Go.Proofs.YtpklkpkfgmoghaaGreatDoor.Zz
theorem fxB:FloatKind.f64.format.binade=4503599627370496:=by decide
theorem fxI:FloatKind.f64.format.infRung=2047*4503599627370496:=by decide
theorem fxS:FloatKind.f64.format.signWeight=9223372036854775808:=by decide
theorem fxL:FloatKind.f64.format.leastPlace= -1074:=by decide
theorem fxF:FloatKind.f64.format.fractionBits=52:=rfl
def u9 (m:Nat):Nat:=FloatKind.f64.format.nearest false m 0
theorem ad0 {L k:Nat} (c:L≤52) (h:k<9007199254740992):min ((L+1022)*4503599627370496+k) (2047*4503599627370496)=(L+1022)*4503599627370496+k:=by omega
theorem Fi (m a:Nat) (h0:0<m) (h:m<9007199254740992):FloatKind.f64.format.nearest false (m*2 ^ a) (-(a:Int))=(m.log2+1022)*4503599627370496+m*2 ^ (52 - m.log2)∧4503599627370496≤m*2 ^ (52 - m.log2)∧m*2 ^ (52 - m.log2)<9007199254740992∧m.log2≤52:=by
 have l1:2 ^ m.log2≤m:=Nat.log2_self_le (by omega)
 have l2:m<2 ^ (m.log2+1):=Nat.lt_log2_self
 have l3:m.log2≤52:=by
  rcases Nat.lt_or_ge 52 m.log2 with h' | h'
  ·have:=Nat.pow_le_pow_right (show 0<2 by decide) (show 53≤m.log2 from h')
   omega
  ·exact h'
 have hlg:(m*2 ^ a).log2=m.log2+a:=by
  rw [Nat.log2_eq_iff (by have:=Nat.two_pow_pos a; exact Nat.ne_of_gt (Nat.mul_pos h0 this))]
  constructor
  ·rw [Nat.pow_add]; exact Nat.mul_le_mul_right _ l1
  ·rw [show m.log2+a+1=m.log2+1+a by omega,Nat.pow_add]; exact Nat.mul_lt_mul_of_pos_right l2 (Nat.two_pow_pos a)
 generalize hL:m.log2=L at*
 have p1:2 ^ L*2 ^ (52 - L)=4503599627370496:=by rw [←Nat.pow_add,show L+(52 - L)=52 by omega]
 have p2:2 ^ (L+1)*2 ^ (52 - L)=9007199254740992:=by rw [←Nat.pow_add,show L+1+(52 - L)=53 by omega]
 have k1:4503599627370496≤m*2 ^ (52 - L):=by rw [←p1]; exact Nat.mul_le_mul_right _ l1
 have k2:m*2 ^ (52 - L)<9007199254740992:=by rw [←p2]; exact Nat.mul_lt_mul_of_pos_right l2 (Nat.two_pow_pos _)
 refine ⟨?_,k1,k2,l3⟩
 have iy:m*2 ^ a≠0:=Nat.ne_of_gt (Nat.mul_pos h0 (Nat.two_pow_pos a))
 unfold Ieee.Format.nearest
 rw [if_neg iy,hlg]
 simp only [fxL,fxB,fxF,fxI]
 have ahF:max (-(a:Int)+((L+a:Nat):Int) - ((52:Nat):Int)) (-1074)=(L:Int) - 52:=by omega
 rw [ahF]
 have t3:((L:Int) - 52 - -1074).toNat=L+1022:=by omega
 rw [t3]
 have key:Ieee.Toward.even.cut false ((m*2 ^ a) <<< (-(a:Int) - ((L:Int) - 52)).toNat) ((L:Int) - 52 - -(a:Int)).toNat=m*2 ^ (52 - L):=by
  by_cases c:a≤52 - L
  ·have t1:(-(a:Int) - ((L:Int) - 52)).toNat=52 - L - a:=by omega
   have t2:((L:Int) - 52 - -(a:Int)).toNat=0:=by omega
   rw [t1,t2,Nat.shiftLeft_eq,Nat.mul_assoc,←Nat.pow_add,show a+(52 - L - a)=52 - L by omega]
   generalize m*2 ^ (52 - L)=k
   simp [Ieee.Toward.cut,Nat.mod_one]
  ·have t1:(-(a:Int) - ((L:Int) - 52)).toNat=0:=by omega
   have t2:((L:Int) - 52 - -(a:Int)).toNat=a - (52 - L):=by omega
   rw [t1,t2,Nat.shiftLeft_zero]
   obtain ⟨d,hd⟩:∃d,a=52 - L+d∧0<d:=⟨a - (52 - L),by omega,by omega⟩
   have e1:m*2 ^ a=m*2 ^ (52 - L)*2 ^ d:=by rw [hd.1,Nat.pow_add,Nat.mul_assoc]
   have e2:a - (52 - L)=d:=by omega
   rw [e2]
   unfold Ieee.Toward.cut
   have e3:min d ((m*2 ^ a).log2+2)=d:=by rw [hlg]; omega
   simp only [e3,Nat.one_shiftLeft]
   rw [e1,Nat.mul_div_cancel _ (Nat.two_pow_pos d),Nat.mul_mod_left]
   have h4:((2 ^ d==2*0)=false):=by have:=Nat.two_pow_pos d; simp
   have h5:decide (2 ^ d<2*0)=false:=by simp
   rw [h4,h5]
   simp only [Bool.false_and,Bool.or_false,Bool.toNat_false,Nat.add_zero]
 rw [key]
 unfold Ieee.Format.word
 rw [if_neg (by decide)]
 exact ad0 l3 k2
theorem Hy (m a:Nat) (h:m<9007199254740992):FloatKind.f64.format.nearest false (m*2 ^ a) (-(a:Int))=u9 m:=by
 by_cases h0:m=0
 ·subst h0; simp [u9,Ieee.Format.nearest]
 ·have h1:=(Fi m a (by omega) h).1
  have h2:=(Fi m 0 (by omega) h).1
  rw [h1]
  unfold u9
  simp only [Nat.pow_zero,Nat.mul_one,Int.natCast_zero,Int.neg_zero] at h2
  exact h2.symm
theorem rW (m:Nat) (h:m<9007199254740992):∃e:Nat,FloatKind.f64.format.read (u9 m)=.number false (m*2 ^ e) (-(e:Int)):=by
 by_cases h0:m=0
 ·subst h0
  have e0:u9 0=0:=by simp [u9,Ieee.Format.nearest,Ieee.Format.word]
  have e1:FloatKind.f64.format.read 0=.number false 0 (-1074):=by decide
  obtain ⟨e,he⟩:∃e:Nat,(-(e:Int))= -1074:=⟨1074,rfl⟩
  exact ⟨e,by rw [e0,e1,Nat.zero_mul,he]⟩
 ·obtain ⟨h1,h2,h3,h4⟩:=Fi m 0 (by omega) h
  simp only [Nat.pow_zero,Nat.mul_one,Int.natCast_zero,Int.neg_zero] at h1
  refine ⟨52 - m.log2,?_⟩
  have e:u9 m=(m.log2+1022)*4503599627370496+m*2 ^ (52 - m.log2):=h1
  rw [e]
  generalize m*2 ^ (52 - m.log2)=k at h2 h3
  generalize m.log2=L at h4
  unfold Ieee.Format.read
  simp only [fxS,fxB,fxI,fxL]
  have a1:((L+1022)*4503599627370496+k) / 9223372036854775808=0:=by omega
  have a2:((L+1022)*4503599627370496+k) % 9223372036854775808=(L+1022)*4503599627370496+k:=by omega
  have a3:((L+1022)*4503599627370496+k) % 4503599627370496=k - 4503599627370496:=by omega
  have a4:((L+1022)*4503599627370496+k) / 4503599627370496=L+1023:=by omega
  have b1:4503599627370496+(k - 4503599627370496)=k:=by omega
  have b2: -1074+((L+1023 - 1:Nat):Int)= -((52 - L:Nat):Int):=by omega
  rw [a1,a2,a3,a4,if_neg (by omega),if_pos (by omega),b1,b2]
  rfl
theorem U_ (m n:Nat) (hm:m<9007199254740992) (hn:n<9007199254740992) (h:m*n<9007199254740992):floatBits .mul .f64 (u9 m) (u9 n)=some (u9 (m*n)):=by
 obtain ⟨e,h1⟩:=rW m hm
 obtain ⟨f,h2⟩:=rW n hn
 show FloatKind.f64.format.mul _ _=_
 unfold Ieee.Format.mul
 rw [h1,h2]
 simp only [Ieee.Datum.product,Option.map_some,Ieee.Format.write,Bool.xor_self]
 have e1:m*2 ^ e*(n*2 ^ f)=m*n*2 ^ (e+f):=by rw [Nat.pow_add]; simp only [Nat.mul_assoc,Nat.mul_comm,Nat.mul_left_comm]
 have e2: -(e:Int)+ -(f:Int)= -((e+f:Nat):Int):=by omega
 rw [e1,e2,Hy _ _ h]
theorem adX (m n:Nat) (hm:m<9007199254740992) (hn:n<9007199254740992) (h:m+n<9007199254740992):floatBits .add .f64 (u9 m) (u9 n)=some (u9 (m+n)):=by
 obtain ⟨e,h1⟩:=rW m hm
 obtain ⟨f,h2⟩:=rW n hn
 show FloatKind.f64.format.add _ _=_
 unfold Ieee.Format.add
 rw [h1,h2]
 simp only [Ieee.Datum.sum,Option.map_some,Ieee.Format.write,Ieee.signed,Bool.false_eq_true,if_false,Nat.shiftLeft_eq]
 obtain ⟨g,hg,g1,g2⟩:∃g:Nat,min (-(e:Int)) (-(f:Int))= -(g:Int)∧e≤g∧f≤g:=⟨max e f,by omega,by omega,by omega⟩
 rw [hg]
 have t1:(-(e:Int) - -(g:Int)).toNat=g - e:=by omega
 have t2:(-(f:Int) - -(g:Int)).toNat=g - f:=by omega
 rw [t1,t2,Nat.mul_assoc,Nat.mul_assoc,←Nat.pow_add,←Nat.pow_add,show e+(g - e)=g by omega,show f+(g - f)=g by omega]
 have e1:((m*2 ^ g:Nat):Int)+((n*2 ^ g:Nat):Int)=(((m+n)*2 ^ g:Nat):Int):=by rw [Nat.add_mul]; omega
 rw [e1]
 have e2:((((m+n)*2 ^ g:Nat):Int).natAbs)=(m+n)*2 ^ g:=Int.natAbs_natCast _
 rw [e2]
 have e3:(if ((((m+n)*2 ^ g:Nat):Int)=0) then (false && false) else decide ((((m+n)*2 ^ g:Nat):Int)<0))=false:=by
  split
  ·rfl
  ·simp only [decide_eq_false_iff_not]; omega
 rw [e3,Hy _ _ h]
theorem ahn (mag:Nat) (p:Int):FloatKind.f64.format.nearest false mag p≤2047*4503599627370496:=by
 unfold Ieee.Format.nearest
 split
 ·simp [Ieee.Format.word]
 ·simp only [Ieee.Format.word,Bool.false_eq_true,if_false,fxI]
  exact Nat.min_le_right _ _
theorem adY (m n:Nat) (hm:m<9007199254740992) (hn:n<9007199254740992) (h0:0<n):∃r,floatBits .quo .f64 (u9 m) (u9 n)=some r∧r≤2047*4503599627370496:=by
 obtain ⟨e,h1⟩:=rW m hm
 obtain ⟨f,h2⟩:=rW n hn
 show ∃r,FloatKind.f64.format.div _ _=some r∧_
 unfold Ieee.Format.div
 rw [h1,h2]
 have iy:¬(n*2 ^ f=0):=Nat.ne_of_gt (Nat.mul_pos h0 (Nat.two_pow_pos f))
 simp only [Ieee.Datum.quotient,if_neg iy,Option.map_some,Ieee.Format.write,Bool.xor_self]
 exact ⟨_,rfl,ahn _ _⟩
theorem Va:u9 10=4621819117588971520:=by decide
theorem ad1:u9 1=4607182418800017408:=by decide
theorem Sq:u9 0=0:=by decide
theorem adZ (n:Nat):FloatKind.f64.nearest (n:Int)=u9 n:=by
 have:FloatKind.f64.nearest (n:Int)=FloatKind.f64.format.nearest (decide ((n:Int)<0)) (n:Int).natAbs 0:=rfl
 rw [this,show decide ((n:Int)<0)=false by simp,Int.natAbs_natCast]
 rfl
end Go.Proofs.YtpklkpkfgmoghaaGreatDoor.Zz
