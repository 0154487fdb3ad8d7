/- Contracts of Go's library at this program, as the kit's tool lays them. -/
import Derived.Shelf.Strings.Builder1
import Derived.Shelf.Strings.Builder2
import Derived.Shelf.Strings.OnBuilder
import Derived.Shelf.Strings.Trim
import Derived.Shelf.Small.Utf8
import Derived.Shelf.Small.Strs
import Derived.Shelf.Strconv.Itoa0
import Derived.Shelf.Strconv.Itoa1
import Derived.Shelf.LaysM
import Derived.Shelf.Strconv.Itoa2
import Derived.Shelf.Strconv.Itoa3
import Derived.Shelf.Strconv.Itoa4
import Derived.Shelf.Strings.Search1
import Derived.Shelf.Strings.Search2
import Derived.Shelf.Strings.Cut
import Derived.Shelf.Strings.Shaped
import Derived.Shelf.Unicode.Decode
import Derived.Shelf.Strings.Runes
import Derived.Shelf.Strings.AsciiSet
import Derived.Shelf.Unicode.DecodeSlow
import Derived.Shelf.Unicode.DecodeAny
import Derived.Shelf.Unicode.DecodeLast
import Derived.Test.YthpgepillaeldaaDoorProg
import Derived.Test.YthpgepillaeldaaDoorZG0
import Derived.KernelRfl
set_option linter.unnecessarySimpa false
namespace Go.Proofs
open Go.Shelf
def Tryd.lays156_ren : Go.Shelf.Ren := ⟨fun | 156 => 100 | 165 => 115 | 166 => 116 | 169 => 117 | 240 => 125 | 241 => 126 | 276 => 131 | 277 => 132 | n => n, fun | 31 => 101 | 9 => 9 | 3 => 3 | 4 => 4 | 0 => 0 | 20 => 20 | 72 => 144 | 76 => 147 | 70 => 142 | 37 => 60 | 75 => 146 | 127 => 153 | 164 => 161 | 5 => 5 | 80 => 79 | n => n, fun | n => n⟩
theorem Tryd.lays156 : Go.Proofs.Lays.n156 Tryd.prog Tryd.lays156_ren := {
  mixed := by kernel_rfl
  f156 := Tryd.func100.trans (congrArg some (by kernel_rfl))
  f165 := Tryd.func115.trans (congrArg some (by kernel_rfl))
  f166 := Tryd.func116.trans (congrArg some (by kernel_rfl))
  f169 := Tryd.func117.trans (congrArg some (by kernel_rfl))
  f240 := Tryd.func125.trans (congrArg some (by kernel_rfl))
  f241 := Tryd.func126.trans (congrArg some (by kernel_rfl))
  f276 := Tryd.func131.trans (congrArg some (by kernel_rfl))
  f277 := Tryd.func132.trans (congrArg some (by kernel_rfl))
  t0 := Tryd.underlying0
  a0 := Tryd.isAgg0
  z0 := Tryd.sizeOf0
  v0 := Tryd.zeroValue0
  t3 := Tryd.underlying3
  a3 := Tryd.isAgg3
  z3 := Tryd.sizeOf3
  v3 := Tryd.zeroValue3
  t4 := Tryd.underlying4
  a4 := Tryd.isAgg4
  z4 := Tryd.sizeOf4
  v4 := Tryd.zeroValue4
  t9 := Tryd.underlying9
  a9 := Tryd.isAgg9
  z9 := Tryd.sizeOf9
  v9 := Tryd.zeroValue9
  t20 := Tryd.underlying20
  a20 := Tryd.isAgg20
  z20 := Tryd.sizeOf20
  v20 := Tryd.zeroValue20
  t31 := Tryd.underlying101
  a31 := Tryd.isAgg101
  z31 := Tryd.sizeOf101
  v31 := Tryd.zeroValue101
  t37 := Tryd.underlying60
  a37 := Tryd.isAgg60
  z37 := Tryd.sizeOf60
  v37 := Tryd.zeroValue60
  t70 := Tryd.underlying142
  a70 := Tryd.isAgg142
  z70 := Tryd.sizeOf142
  v70 := Tryd.zeroValue142
  t72 := Tryd.underlying144
  a72 := Tryd.isAgg144
  z72 := Tryd.sizeOf144
  v72 := Tryd.zeroValue144
  t75 := Tryd.underlying146
  a75 := Tryd.isAgg146
  z75 := Tryd.sizeOf146
  v75 := Tryd.zeroValue146
  t76 := Tryd.underlying147
  a76 := Tryd.isAgg147
  z76 := Tryd.sizeOf147
  v76 := Tryd.zeroValue147
  t127 := Tryd.underlying153
  a127 := Tryd.isAgg153
  z127 := Tryd.sizeOf153
  v127 := Tryd.zeroValue153
  t164 := Tryd.underlying161
  a164 := Tryd.isAgg161
  z164 := Tryd.sizeOf161
  v164 := Tryd.zeroValue161 }
theorem Tryd.Builder_Extra_156 : Builder.Extra Tryd.prog Tryd.lays156_ren := {
  sizeBuilder := by kernel_rfl
  liesBuilder := by kernel_rfl
  t5 := Tryd.underlying5
  a5 := Tryd.isAgg5
  z5 := Tryd.sizeOf5
  v5 := Tryd.zeroValue5
  infoByte := by kernel_rfl
  cellsByte := by kernel_rfl
  sizeByte := by kernel_rfl
  neB5 := by decide }
open Go.RowKit in
theorem Tryd.strings_Join_none (a : Option Addr) (c : Nat) (sep : ByteArray) (w : World) :
    Calls Tryd.prog 100 #[.slice a 0 c, .string sep] w fun e w' => e = .returned (.string ⟨#[]⟩) ∧ w' = w := Any.strings_Join_none Tryd.lays156 Tryd.Builder_Extra_156 a c sep w
open Go.RowKit in
theorem Tryd.strings_Join (bk o c : Nat) (xs : List ByteArray) (sep : ByteArray) (w : World) (hcells : ∀ (j : Nat) x, xs[j]? = some x → w.cell? ⟨bk, o + j, none⟩ = some (.string x)) (hbk : bk < w.heap.size) (hN : xs.length ≤ 140737488355328) (hcap : xs.length ≤ c) (hlen : (Lib.join (xs.map (·.data.toList)) sep.data.toList).length ≤ 140737488355328) :
    Calls Tryd.prog 100 #[.slice (some ⟨bk, o, none⟩) xs.length c, .string sep] w fun e w' => e = .returned (.string ⟨(Lib.join (xs.map (·.data.toList)) sep.data.toList).toArray⟩) ∧ Below w.heap.size w w' := Any.strings_Join Tryd.lays156 Tryd.Builder_Extra_156 bk o c xs sep w hcells hbk hN hcap hlen
def Tryd.lays161_ren : Go.Shelf.Ren := ⟨fun | 161 => 50 | 231 => 79 | 227 => 80 | 233 => 81 | 235 => 82 | 228 => 105 | 197 => 106 | 151 => 107 | 260 => 122 | 152 => 123 | 137 => 129 | 119 => 130 | 224 => 120 | 225 => 119 | 217 => 118 | 266 => 127 | n => n, fun | 9 => 9 | 4 => 4 | 3 => 3 | 5 => 5 | 117 => 119 | 116 => 118 | 0 => 0 | 124 => 122 | 105 => 137 | 21 => 21 | 119 => 156 | 46 => 129 | 139 => 159 | 138 => 158 | n => n, fun | 3 => 5 | 4 => 6 | n => n⟩
theorem Tryd.lays161 : Go.Proofs.Lays.n161 Tryd.prog Tryd.lays161_ren := {
  mixed := by kernel_rfl
  f119 := Tryd.func130.trans (congrArg some (by kernel_rfl))
  f137 := Tryd.func129.trans (congrArg some (by kernel_rfl))
  f151 := Tryd.func107.trans (congrArg some (by kernel_rfl))
  f152 := Tryd.func123.trans (congrArg some (by kernel_rfl))
  f161 := Tryd.func50.trans (congrArg some (by kernel_rfl))
  f197 := Tryd.func106.trans (congrArg some (by kernel_rfl))
  f217 := Tryd.func118.trans (congrArg some (by kernel_rfl))
  f224 := Tryd.func120.trans (congrArg some (by kernel_rfl))
  f225 := Tryd.func119.trans (congrArg some (by kernel_rfl))
  f227 := Tryd.func80.trans (congrArg some (by kernel_rfl))
  f228 := Tryd.func105.trans (congrArg some (by kernel_rfl))
  f231 := Tryd.func79.trans (congrArg some (by kernel_rfl))
  f233 := Tryd.func81.trans (congrArg some (by kernel_rfl))
  f235 := Tryd.func82.trans (congrArg some (by kernel_rfl))
  f260 := Tryd.func122.trans (congrArg some (by kernel_rfl))
  f266 := Tryd.func127.trans (congrArg some (by kernel_rfl))
  t0 := Tryd.underlying0
  a0 := Tryd.isAgg0
  z0 := Tryd.sizeOf0
  v0 := Tryd.zeroValue0
  t3 := Tryd.underlying3
  a3 := Tryd.isAgg3
  z3 := Tryd.sizeOf3
  v3 := Tryd.zeroValue3
  t4 := Tryd.underlying4
  a4 := Tryd.isAgg4
  z4 := Tryd.sizeOf4
  v4 := Tryd.zeroValue4
  t5 := Tryd.underlying5
  a5 := Tryd.isAgg5
  z5 := Tryd.sizeOf5
  v5 := Tryd.zeroValue5
  t9 := Tryd.underlying9
  a9 := Tryd.isAgg9
  z9 := Tryd.sizeOf9
  v9 := Tryd.zeroValue9
  t21 := Tryd.underlying21
  a21 := Tryd.isAgg21
  z21 := Tryd.sizeOf21
  v21 := Tryd.zeroValue21
  t46 := Tryd.underlying129
  a46 := Tryd.isAgg129
  z46 := Tryd.sizeOf129
  v46 := Tryd.zeroValue129
  t105 := Tryd.underlying137
  a105 := Tryd.isAgg137
  z105 := Tryd.sizeOf137
  v105 := Tryd.zeroValue137
  t116 := Tryd.underlying118
  a116 := Tryd.isAgg118
  z116 := Tryd.sizeOf118
  t117 := Tryd.underlying119
  a117 := Tryd.isAgg119
  z117 := Tryd.sizeOf119
  v117 := Tryd.zeroValue119
  t119 := Tryd.underlying156
  a119 := Tryd.isAgg156
  z119 := Tryd.sizeOf156
  t124 := Tryd.underlying122
  a124 := Tryd.isAgg122
  z124 := Tryd.sizeOf122
  v124 := Tryd.zeroValue122
  t138 := Tryd.underlying158
  a138 := Tryd.isAgg158
  z138 := Tryd.sizeOf158
  v138 := Tryd.zeroValue158
  t139 := Tryd.underlying159
  a139 := Tryd.isAgg159
  z139 := Tryd.sizeOf159
  v139 := Tryd.zeroValue159
  g3 := by kernel_rfl
  g4 := by kernel_rfl }
open Go.RowKit in
theorem Tryd.strings_TrimLeft_one (s : ByteArray) (c : UInt8) (hc : c.toNat < 128) (w : World) :
    Calls Tryd.prog 50 #[.string s, .string ⟨#[c]⟩] w fun e w' => e = .returned (.string ⟨(Lib.trimLeftB s.data.toList c).toArray⟩) ∧ w' = w := Any.strings_TrimLeft_one Tryd.lays161 s c hc w
def Tryd.lays162_ren : Go.Shelf.Ren := ⟨fun | 162 => 51 | 232 => 83 | 227 => 80 | 234 => 84 | 236 => 85 | 228 => 105 | 271 => 108 | 151 => 107 | 120 => 124 | 197 => 106 | 152 => 123 | 260 => 122 | 137 => 129 | 119 => 130 | 224 => 120 | 225 => 119 | 217 => 118 | 266 => 127 | n => n, fun | 9 => 9 | 4 => 4 | 3 => 3 | 5 => 5 | 117 => 119 | 116 => 118 | 0 => 0 | 124 => 122 | 21 => 21 | 105 => 137 | 46 => 129 | 119 => 156 | 139 => 159 | 138 => 158 | n => n, fun | 3 => 5 | 4 => 6 | n => n⟩
theorem Tryd.lays162 : Go.Proofs.Lays.n162 Tryd.prog Tryd.lays162_ren := {
  mixed := by kernel_rfl
  f119 := Tryd.func130.trans (congrArg some (by kernel_rfl))
  f120 := Tryd.func124.trans (congrArg some (by kernel_rfl))
  f137 := Tryd.func129.trans (congrArg some (by kernel_rfl))
  f151 := Tryd.func107.trans (congrArg some (by kernel_rfl))
  f152 := Tryd.func123.trans (congrArg some (by kernel_rfl))
  f162 := Tryd.func51.trans (congrArg some (by kernel_rfl))
  f197 := Tryd.func106.trans (congrArg some (by kernel_rfl))
  f217 := Tryd.func118.trans (congrArg some (by kernel_rfl))
  f224 := Tryd.func120.trans (congrArg some (by kernel_rfl))
  f225 := Tryd.func119.trans (congrArg some (by kernel_rfl))
  f227 := Tryd.func80.trans (congrArg some (by kernel_rfl))
  f228 := Tryd.func105.trans (congrArg some (by kernel_rfl))
  f232 := Tryd.func83.trans (congrArg some (by kernel_rfl))
  f234 := Tryd.func84.trans (congrArg some (by kernel_rfl))
  f236 := Tryd.func85.trans (congrArg some (by kernel_rfl))
  f260 := Tryd.func122.trans (congrArg some (by kernel_rfl))
  f266 := Tryd.func127.trans (congrArg some (by kernel_rfl))
  f271 := Tryd.func108.trans (congrArg some (by kernel_rfl))
  t0 := Tryd.underlying0
  a0 := Tryd.isAgg0
  z0 := Tryd.sizeOf0
  v0 := Tryd.zeroValue0
  t3 := Tryd.underlying3
  a3 := Tryd.isAgg3
  z3 := Tryd.sizeOf3
  v3 := Tryd.zeroValue3
  t4 := Tryd.underlying4
  a4 := Tryd.isAgg4
  z4 := Tryd.sizeOf4
  v4 := Tryd.zeroValue4
  t5 := Tryd.underlying5
  a5 := Tryd.isAgg5
  z5 := Tryd.sizeOf5
  v5 := Tryd.zeroValue5
  t9 := Tryd.underlying9
  a9 := Tryd.isAgg9
  z9 := Tryd.sizeOf9
  v9 := Tryd.zeroValue9
  t21 := Tryd.underlying21
  a21 := Tryd.isAgg21
  z21 := Tryd.sizeOf21
  v21 := Tryd.zeroValue21
  t46 := Tryd.underlying129
  a46 := Tryd.isAgg129
  z46 := Tryd.sizeOf129
  v46 := Tryd.zeroValue129
  t105 := Tryd.underlying137
  a105 := Tryd.isAgg137
  z105 := Tryd.sizeOf137
  v105 := Tryd.zeroValue137
  t116 := Tryd.underlying118
  a116 := Tryd.isAgg118
  z116 := Tryd.sizeOf118
  t117 := Tryd.underlying119
  a117 := Tryd.isAgg119
  z117 := Tryd.sizeOf119
  v117 := Tryd.zeroValue119
  t119 := Tryd.underlying156
  a119 := Tryd.isAgg156
  z119 := Tryd.sizeOf156
  t124 := Tryd.underlying122
  a124 := Tryd.isAgg122
  z124 := Tryd.sizeOf122
  v124 := Tryd.zeroValue122
  t138 := Tryd.underlying158
  a138 := Tryd.isAgg158
  z138 := Tryd.sizeOf158
  v138 := Tryd.zeroValue158
  t139 := Tryd.underlying159
  a139 := Tryd.isAgg159
  z139 := Tryd.sizeOf159
  v139 := Tryd.zeroValue159
  g3 := by kernel_rfl
  g4 := by kernel_rfl }
open Go.RowKit in
theorem Tryd.strings_TrimRight_one (s : ByteArray) (c : UInt8) (hc : c.toNat < 128) (w : World) (hs : s.size ≤ 9223372036854775807) :
    Calls Tryd.prog 51 #[.string s, .string ⟨#[c]⟩] w fun e w' => e = .returned (.string ⟨(Lib.trimRightB s.data.toList c).toArray⟩) ∧ w' = w := Any.strings_TrimRight_one Tryd.lays162 s c hc w hs
def Tryd.lays283_ren : Go.Shelf.Ren := ⟨fun | 283 => 53 | n => n, fun | 3 => 3 | 9 => 9 | 4 => 4 | n => n, fun | n => n⟩
theorem Tryd.lays283 : Go.Proofs.Lays.n283 Tryd.prog Tryd.lays283_ren := {
  mixed := by kernel_rfl
  f283 := Tryd.func53.trans (congrArg some (by kernel_rfl))
  t3 := Tryd.underlying3
  a3 := Tryd.isAgg3
  z3 := Tryd.sizeOf3
  v3 := Tryd.zeroValue3
  t4 := Tryd.underlying4
  a4 := Tryd.isAgg4
  z4 := Tryd.sizeOf4
  v4 := Tryd.zeroValue4
  t9 := Tryd.underlying9
  a9 := Tryd.isAgg9
  z9 := Tryd.sizeOf9
  v9 := Tryd.zeroValue9 }
open Go.Lib in
theorem Tryd.internal_strconv_small (i : Nat) (h : i < 100) (w : World) :
    Calls Tryd.prog 53 #[.int .i64 i] w fun e w' => e = .returned (.string ⟨(Lib.decDigits i).toArray⟩) ∧ w' = w := Any.internal_strconv_small Tryd.lays283 i h w
def Tryd.laysM284_ren : Go.Shelf.Ren := ⟨fun | 284 => 54 | 129 => 87 | 317 => 86 | 318 => 88 | n => n, fun | 53 => 22 | 3 => 3 | 212 => 125 | 0 => 0 | 4 => 4 | 46 => 129 | 5 => 5 | 9 => 9 | n => n, fun | 17 => 1 | n => n⟩
theorem Tryd.laysM284 : Go.Proofs.LaysM.n284 Tryd.prog Tryd.laysM284_ren := {
  mixed := by kernel_rfl
  f129 := Tryd.func87.trans (congrArg some (by kernel_rfl))
  f284 := Tryd.func54.trans (congrArg some (by kernel_rfl))
  f317 := Tryd.func86.trans (congrArg some (by kernel_rfl))
  f318 := Tryd.func88.trans (congrArg some (by kernel_rfl))
  t0 := Tryd.underlying0
  a0 := Tryd.isAgg0
  z0 := Tryd.sizeOf0
  v0 := Tryd.zeroValue0
  t3 := Tryd.underlying3
  a3 := Tryd.isAgg3
  z3 := Tryd.sizeOf3
  v3 := Tryd.zeroValue3
  t4 := Tryd.underlying4
  a4 := Tryd.isAgg4
  z4 := Tryd.sizeOf4
  v4 := Tryd.zeroValue4
  t5 := Tryd.underlying5
  a5 := Tryd.isAgg5
  z5 := Tryd.sizeOf5
  v5 := Tryd.zeroValue5
  t9 := Tryd.underlying9
  a9 := Tryd.isAgg9
  z9 := Tryd.sizeOf9
  v9 := Tryd.zeroValue9
  t46 := Tryd.underlying129
  a46 := Tryd.isAgg129
  z46 := Tryd.sizeOf129
  v46 := Tryd.zeroValue129
  t53 := Tryd.underlying22
  a53 := Tryd.isAgg22
  z53 := Tryd.sizeOf22
  v53 := Tryd.zeroValue22
  t212 := Tryd.underlying125
  a212 := Tryd.isAgg125
  z212 := Tryd.sizeOf125
  v212 := Tryd.zeroValue125
  g17 := by kernel_rfl
  i0 := by kernel_rfl
  i3 := by kernel_rfl
  i4 := by kernel_rfl
  i5 := by kernel_rfl
  i9 := by kernel_rfl
  i46 := by kernel_rfl
  i53 := by kernel_rfl
  i212 := by kernel_rfl
  m17 := by kernel_rfl }
open Go.Lib in
theorem Tryd.internal_strconv_numDigits (u : Nat) (h1 : 1 ≤ u) (h2 : u < 18446744073709551616) (w : World) (htab : Lib.TabIs Tryd.prog w "internal/strconv.uint64pow10" .u64 Lib.pow10Tab) :
    Calls Tryd.prog 54 #[.int .u64 u] w fun e w' => e = .returned (.int .i64 (Lib.nDigits u)) ∧ w' = w := Any.internal_strconv_numDigits Tryd.laysM284 u h1 h2 w htab
def Tryd.lays285_ren : Go.Shelf.Ren := ⟨fun | 285 => 55 | n => n, fun | 37 => 60 | 53 => 22 | 3 => 3 | 4 => 4 | 51 => 126 | 9 => 9 | 5 => 5 | 0 => 0 | n => n, fun | n => n⟩
theorem Tryd.lays285 : Go.Proofs.Lays.n285 Tryd.prog Tryd.lays285_ren := {
  mixed := by kernel_rfl
  f285 := Tryd.func55.trans (congrArg some (by kernel_rfl))
  t0 := Tryd.underlying0
  a0 := Tryd.isAgg0
  z0 := Tryd.sizeOf0
  v0 := Tryd.zeroValue0
  t3 := Tryd.underlying3
  a3 := Tryd.isAgg3
  z3 := Tryd.sizeOf3
  v3 := Tryd.zeroValue3
  t4 := Tryd.underlying4
  a4 := Tryd.isAgg4
  z4 := Tryd.sizeOf4
  v4 := Tryd.zeroValue4
  t5 := Tryd.underlying5
  a5 := Tryd.isAgg5
  z5 := Tryd.sizeOf5
  v5 := Tryd.zeroValue5
  t9 := Tryd.underlying9
  a9 := Tryd.isAgg9
  z9 := Tryd.sizeOf9
  v9 := Tryd.zeroValue9
  t37 := Tryd.underlying60
  a37 := Tryd.isAgg60
  z37 := Tryd.sizeOf60
  v37 := Tryd.zeroValue60
  t51 := Tryd.underlying126
  a51 := Tryd.isAgg126
  z51 := Tryd.sizeOf126
  v51 := Tryd.zeroValue126
  t53 := Tryd.underlying22
  a53 := Tryd.isAgg22
  z53 := Tryd.sizeOf22
  v53 := Tryd.zeroValue22 }
open Go.RowKit Go.Sort Go.Lib in
theorem Tryd.internal_strconv_formatBase10 (blk off cap : Nat) (u : Nat) (d : Array UInt8) (w : World) (hH : Holds (fun (b : UInt8) => Value.int .u8 (b.toNat : Int)) w blk off d) (hu : u < 10 ^ d.size) (hu64 : u < 18446744073709551616) (hsz : d.size < 4611686018427387904) :
    Calls Tryd.prog 55 #[.slice (some ⟨blk, off, none⟩) d.size cap, .int .u64 u] w fun e w' =>
      e = .returned (.tuple #[]) ∧ ∃ (n v' : Nat) (dk : Array UInt8), w' = (putRow (fun (b : UInt8) => Value.int .u8 (b.toNat : Int)) w blk off dk).drewN n ∧ FmtInv d.size u 0 v' dk := Any.internal_strconv_formatBase10 Tryd.lays285 blk off cap u d w hH hu hu64 hsz
def Tryd.laysM173_ren : Go.Shelf.Ren := ⟨fun | 173 => 97 | 246 => 114 | 283 => 53 | 284 => 54 | 285 => 55 | 286 => 56 | 129 => 87 | 317 => 86 | 318 => 88 | 319 => 89 | 320 => 90 | 337 => 109 | 338 => 110 | n => n, fun | 2 => 2 | 3 => 3 | 9 => 9 | 4 => 4 | 171 => 93 | 0 => 0 | 53 => 22 | 37 => 60 | 5 => 5 | 173 => 96 | 212 => 125 | 51 => 126 | 20 => 20 | 213 => 127 | 46 => 129 | 232 => 151 | 233 => 152 | n => n, fun | 17 => 1 | 18 => 3 | 19 => 4 | n => n⟩
theorem Tryd.laysM173 : Go.Proofs.LaysM.n173 Tryd.prog Tryd.laysM173_ren := {
  mixed := by kernel_rfl
  f129 := Tryd.func87.trans (congrArg some (by kernel_rfl))
  f173 := Tryd.func97.trans (congrArg some (by kernel_rfl))
  f246 := Tryd.func114.trans (congrArg some (by kernel_rfl))
  f283 := Tryd.func53.trans (congrArg some (by kernel_rfl))
  f284 := Tryd.func54.trans (congrArg some (by kernel_rfl))
  f285 := Tryd.func55.trans (congrArg some (by kernel_rfl))
  f286 := Tryd.func56.trans (congrArg some (by kernel_rfl))
  f317 := Tryd.func86.trans (congrArg some (by kernel_rfl))
  f318 := Tryd.func88.trans (congrArg some (by kernel_rfl))
  f319 := Tryd.func89.trans (congrArg some (by kernel_rfl))
  f320 := Tryd.func90.trans (congrArg some (by kernel_rfl))
  f337 := Tryd.func109.trans (congrArg some (by kernel_rfl))
  f338 := Tryd.func110.trans (congrArg some (by kernel_rfl))
  t0 := Tryd.underlying0
  a0 := Tryd.isAgg0
  z0 := Tryd.sizeOf0
  v0 := Tryd.zeroValue0
  t2 := Tryd.underlying2
  a2 := Tryd.isAgg2
  z2 := Tryd.sizeOf2
  v2 := Tryd.zeroValue2
  t3 := Tryd.underlying3
  a3 := Tryd.isAgg3
  z3 := Tryd.sizeOf3
  v3 := Tryd.zeroValue3
  t4 := Tryd.underlying4
  a4 := Tryd.isAgg4
  z4 := Tryd.sizeOf4
  v4 := Tryd.zeroValue4
  t5 := Tryd.underlying5
  a5 := Tryd.isAgg5
  z5 := Tryd.sizeOf5
  v5 := Tryd.zeroValue5
  t9 := Tryd.underlying9
  a9 := Tryd.isAgg9
  z9 := Tryd.sizeOf9
  v9 := Tryd.zeroValue9
  t20 := Tryd.underlying20
  a20 := Tryd.isAgg20
  z20 := Tryd.sizeOf20
  v20 := Tryd.zeroValue20
  t37 := Tryd.underlying60
  a37 := Tryd.isAgg60
  z37 := Tryd.sizeOf60
  v37 := Tryd.zeroValue60
  t46 := Tryd.underlying129
  a46 := Tryd.isAgg129
  z46 := Tryd.sizeOf129
  v46 := Tryd.zeroValue129
  t51 := Tryd.underlying126
  a51 := Tryd.isAgg126
  z51 := Tryd.sizeOf126
  v51 := Tryd.zeroValue126
  t53 := Tryd.underlying22
  a53 := Tryd.isAgg22
  z53 := Tryd.sizeOf22
  v53 := Tryd.zeroValue22
  t171 := Tryd.underlying93
  a171 := Tryd.isAgg93
  z171 := Tryd.sizeOf93
  v171 := Tryd.zeroValue93
  t173 := Tryd.underlying96
  a173 := Tryd.isAgg96
  z173 := Tryd.sizeOf96
  v173 := Tryd.zeroValue96
  t212 := Tryd.underlying125
  a212 := Tryd.isAgg125
  z212 := Tryd.sizeOf125
  v212 := Tryd.zeroValue125
  t213 := Tryd.underlying127
  a213 := Tryd.isAgg127
  z213 := Tryd.sizeOf127
  t232 := Tryd.underlying151
  a232 := Tryd.isAgg151
  z232 := Tryd.sizeOf151
  v232 := Tryd.zeroValue151
  t233 := Tryd.underlying152
  a233 := Tryd.isAgg152
  z233 := Tryd.sizeOf152
  v233 := Tryd.zeroValue152
  g17 := by kernel_rfl
  g18 := by kernel_rfl
  g19 := by kernel_rfl
  i0 := by kernel_rfl
  i2 := by kernel_rfl
  i3 := by kernel_rfl
  i4 := by kernel_rfl
  i5 := by kernel_rfl
  i9 := by kernel_rfl
  i20 := by kernel_rfl
  i37 := by kernel_rfl
  i46 := by kernel_rfl
  i51 := by kernel_rfl
  i53 := by kernel_rfl
  i171 := by kernel_rfl
  i173 := by kernel_rfl
  i212 := by kernel_rfl
  i232 := by kernel_rfl
  i233 := by kernel_rfl
  m17 := by kernel_rfl
  m18 := by kernel_rfl
  m19 := by kernel_rfl }
open Go.RowKit Go.Sort Go.Lib in
theorem Tryd.strconv_FormatInt_10 (n : Int) (h0 : -9223372036854775808 ≤ n) (h1 : n ≤ 9223372036854775807) (w : World) (htab : Lib.TabIs Tryd.prog w "internal/strconv.uint64pow10" .u64 Lib.pow10Tab) :
    Calls Tryd.prog 97 #[.int .i64 n, .int .i64 10] w fun e w' => e = .returned (.string ⟨(Lib.itoa n).toArray⟩) ∧ ∃ k os, w' = grow (w.drewN k) os := Any.strconv_FormatInt_10 Tryd.laysM173 n h0 h1 w htab
def Tryd.lays145_ren : Go.Shelf.Ren := ⟨fun | 145 => 49 | 220 => 78 | 219 => 104 | 217 => 118 | 225 => 119 | 224 => 120 | 267 => 121 | 266 => 127 | 314 => 128 | n => n, fun | 9 => 9 | 4 => 4 | 59 => 88 | 3 => 3 | 5 => 5 | 46 => 129 | 146 => 154 | 51 => 126 | n => n, fun | 1 => 2 | n => n⟩
theorem Tryd.lays145 : Go.Proofs.Lays.n145 Tryd.prog Tryd.lays145_ren := {
  mixed := by kernel_rfl
  f145 := Tryd.func49.trans (congrArg some (by kernel_rfl))
  f217 := Tryd.func118.trans (congrArg some (by kernel_rfl))
  f219 := Tryd.func104.trans (congrArg some (by kernel_rfl))
  f220 := Tryd.func78.trans (congrArg some (by kernel_rfl))
  f224 := Tryd.func120.trans (congrArg some (by kernel_rfl))
  f225 := Tryd.func119.trans (congrArg some (by kernel_rfl))
  f266 := Tryd.func127.trans (congrArg some (by kernel_rfl))
  f267 := Tryd.func121.trans (congrArg some (by kernel_rfl))
  f314 := Tryd.func128.trans (congrArg some (by kernel_rfl))
  t3 := Tryd.underlying3
  a3 := Tryd.isAgg3
  z3 := Tryd.sizeOf3
  v3 := Tryd.zeroValue3
  t4 := Tryd.underlying4
  a4 := Tryd.isAgg4
  z4 := Tryd.sizeOf4
  v4 := Tryd.zeroValue4
  t5 := Tryd.underlying5
  a5 := Tryd.isAgg5
  z5 := Tryd.sizeOf5
  v5 := Tryd.zeroValue5
  t9 := Tryd.underlying9
  a9 := Tryd.isAgg9
  z9 := Tryd.sizeOf9
  v9 := Tryd.zeroValue9
  t46 := Tryd.underlying129
  a46 := Tryd.isAgg129
  z46 := Tryd.sizeOf129
  v46 := Tryd.zeroValue129
  t51 := Tryd.underlying126
  a51 := Tryd.isAgg126
  z51 := Tryd.sizeOf126
  v51 := Tryd.zeroValue126
  t59 := Tryd.underlying88
  a59 := Tryd.isAgg88
  z59 := Tryd.sizeOf88
  v59 := Tryd.zeroValue88
  t146 := Tryd.underlying154
  a146 := Tryd.isAgg154
  z146 := Tryd.sizeOf154
  v146 := Tryd.zeroValue154
  g1 := by kernel_rfl }
open Go.RowKit Go.Lib in
theorem Tryd.strings_Cut (s sep : ByteArray) (m : Int) (w : World) (hs : s.size < 4294967281) (hm : w.cell? ⟨2, 0, none⟩ = some (.int .i64 m)) :
    Calls Tryd.prog 49 #[.string s, .string sep] w fun e w' => e = .returned (.tuple #[.string ⟨(Lib.cut s.data.toList sep.data.toList).1.toArray⟩, .string ⟨(Lib.cut s.data.toList sep.data.toList).2.1.toArray⟩, .bool (Lib.cut s.data.toList sep.data.toList).2.2]) ∧ ∃ n, w' = w.drewN n := Any.strings_Cut Tryd.lays145 s sep m w hs hm
def Tryd.lays197_ren : Go.Shelf.Ren := ⟨fun | 197 => 106 | 260 => 122 | n => n, fun | 9 => 9 | 21 => 21 | 3 => 3 | 4 => 4 | 5 => 5 | 105 => 137 | 119 => 156 | 0 => 0 | 46 => 129 | 139 => 159 | 138 => 158 | n => n, fun | 3 => 5 | 4 => 6 | n => n⟩
theorem Tryd.lays197 : Go.Proofs.Lays.n197 Tryd.prog Tryd.lays197_ren := {
  mixed := by kernel_rfl
  f197 := Tryd.func106.trans (congrArg some (by kernel_rfl))
  f260 := Tryd.func122.trans (congrArg some (by kernel_rfl))
  t0 := Tryd.underlying0
  a0 := Tryd.isAgg0
  z0 := Tryd.sizeOf0
  v0 := Tryd.zeroValue0
  t3 := Tryd.underlying3
  a3 := Tryd.isAgg3
  z3 := Tryd.sizeOf3
  v3 := Tryd.zeroValue3
  t4 := Tryd.underlying4
  a4 := Tryd.isAgg4
  z4 := Tryd.sizeOf4
  v4 := Tryd.zeroValue4
  t5 := Tryd.underlying5
  a5 := Tryd.isAgg5
  z5 := Tryd.sizeOf5
  v5 := Tryd.zeroValue5
  t9 := Tryd.underlying9
  a9 := Tryd.isAgg9
  z9 := Tryd.sizeOf9
  v9 := Tryd.zeroValue9
  t21 := Tryd.underlying21
  a21 := Tryd.isAgg21
  z21 := Tryd.sizeOf21
  v21 := Tryd.zeroValue21
  t46 := Tryd.underlying129
  a46 := Tryd.isAgg129
  z46 := Tryd.sizeOf129
  v46 := Tryd.zeroValue129
  t105 := Tryd.underlying137
  a105 := Tryd.isAgg137
  z105 := Tryd.sizeOf137
  v105 := Tryd.zeroValue137
  t119 := Tryd.underlying156
  a119 := Tryd.isAgg156
  z119 := Tryd.sizeOf156
  t138 := Tryd.underlying158
  a138 := Tryd.isAgg158
  z138 := Tryd.sizeOf158
  v138 := Tryd.zeroValue158
  t139 := Tryd.underlying159
  a139 := Tryd.isAgg159
  z139 := Tryd.sizeOf159
  v139 := Tryd.zeroValue159
  g3 := by kernel_rfl
  g4 := by kernel_rfl }
open Go.RowKit Go.Lib in
theorem Tryd.utf8_DecodeRuneInString_ascii (s : ByteArray) (x : UInt8) (w : World) (h0 : s.data.toList[0]? = some x) (hx : x.toNat < 128) :
    Calls Tryd.prog 106 #[.string s] w fun e w' => e = .returned (.tuple #[.int .i32 x.toNat, .int .i64 1]) ∧ w' = w := Any.utf8_DecodeRuneInString_ascii Tryd.lays197 s x w h0 hx
end Go.Proofs
/- Contracts: numbers as texts, texts joined, cut and trimmed (Go's library). -/
namespace Go.Proofs.YthpgepillaeldaaDoor.Zz
open Go.RowKit
set_option linter.unusedVariables false
set_option linter.unusedSimpArgs false
set_option maxRecDepth 20000
def p33n : Plan := ⟨⟨[], [(6, 3)], [], [], [], []⟩, [], [], false⟩
/-- internal/strconv.FormatUint (2 parameters, 0 captured) -/
def s33n : Stm :=
  .seq (.ops [⟨.mov (.c (.str [])), (some 4), none, true⟩])
  (.seq (.seq (.ops [⟨.mov (.t 1), (some 9), none, true⟩,
      ⟨.bin .eql (.t 9) (.c (.int .i64 10)), (some 10), none, true⟩])
   (.cond (.t 10)
    (.seq (.seq (.ops [⟨.mov (.t 0), (some 11), none, true⟩,
         ⟨.bin .lss (.t 11) (.c (.int .u64 100)), (some 12), none, true⟩])
      (.cond (.t 12)
       (.seq (.ops [⟨.mov (.t 0), (some 13), none, true⟩,
           ⟨.conv (.intInt .i64) (.t 13), (some 14), none, true⟩,
           ⟨.qcall (.f 53) [(.t 14)], (some 15), none, false⟩,
           ⟨.mov (.t 15), (some 4), none, true⟩])
        (.ret))
       (.skip)))
     (.seq (.ops [⟨.alloc [(.int .u8 0), (.int .u8 0), (.int .u8 0), (.int .u8 0), (.int .u8 0), (.int .u8 0), (.int .u8 0), (.int .u8 0), (.int .u8 0), (.int .u8 0), (.int .u8 0), (.int .u8 0), (.int .u8 0), (.int .u8 0), (.int .u8 0), (.int .u8 0), (.int .u8 0), (.int .u8 0), (.int .u8 0), (.int .u8 0), (.int .u8 0), (.int .u8 0), (.int .u8 0), (.int .u8 0)], (some 5), none, false⟩])
     (.seq (.ops [⟨.mov (.t 0), (some 16), none, true⟩,
        ⟨.qcall (.f 54) [(.t 16)], (some 17), none, false⟩,
        ⟨.mov (.t 17), (some 6), none, true⟩])
     (.seq (.ops [⟨.mov (.t 6), (some 18), none, true⟩,
        ⟨.slice (.arr 24) (.t 5) none (some (.t 18)) none, (some 19), none, false⟩,
        ⟨.mov (.t 0), (some 20), none, true⟩,
        ⟨.call (.f 55) [(.t 19), (.t 20)], (some 21), none, false⟩])
     (.seq (.ops [⟨.mov (.t 6), (some 22), none, true⟩,
        ⟨.slice (.arr 24) (.t 5) none (some (.t 22)) none, (some 23), none, false⟩,
        ⟨.conv .bytesStr (.t 23), (some 24), none, false⟩,
        ⟨.mov (.t 24), (some 4), none, true⟩])
     (.ret))))))
    (.skip)))
  (.seq (.ops [⟨.mov (.t 0), (some 26), none, true⟩,
     ⟨.mov (.t 1), (some 27), none, true⟩,
     ⟨.qcall (.f 56) [(.c .nilsl), (.t 26), (.t 27), (.c (.bool false)), (.c (.bool false))], (some 28), none, false⟩,
     ⟨.mov (.t 28), (some 25), none, true⟩,
     ⟨.extract (.t 25) 0, (some 29), none, true⟩,
     ⟨.extract (.t 25) 1, (some 30), none, true⟩,
     ⟨.mov (.t 29), (some 7), none, true⟩,
     ⟨.mov (.t 30), (some 8), none, true⟩])
  (.seq (.ops [⟨.mov (.t 8), (some 31), none, true⟩,
     ⟨.mov (.t 31), (some 4), none, true⟩])
  (.ret))))
theorem st33n : stmOf Tryd.prog 33 p33n = some (s33n, [.tmp 4], 32) := by kernel_rfl

def p8n : Plan := ⟨⟨[], [], [], [], [], []⟩, [], [], false⟩
/-- strconv.FormatUint (2 parameters, 0 captured) -/
def s8n : Stm :=
  .seq (.ops [⟨.mov (.c (.str [])), (some 4), none, true⟩])
  (.seq (.ops [⟨.mov (.t 0), (some 5), none, true⟩,
     ⟨.mov (.t 1), (some 6), none, true⟩,
     ⟨.qcall (.f 33) [(.t 5), (.t 6)], (some 7), none, false⟩,
     ⟨.mov (.t 7), (some 4), none, true⟩])
  (.ret))
theorem st8n : stmOf Tryd.prog 8 p8n = some (s8n, [.tmp 4], 8) := by kernel_rfl

theorem tabP [Globs] {κ : Kap} {w : World} (h : GlobRep κ w) (e : Globs.of (Tryd.prog.globalNamed "internal/strconv.uint64pow10").get! = some (Lib.pow10Tab.map fun z => .int .u64 z)) : Lib.TabIs Tryd.prog w "internal/strconv.uint64pow10" .u64 Lib.pow10Tab :=
  tab_of h (by kernel_rfl) e
theorem pow_eq : Globs.of (Tryd.prog.globalNamed "internal/strconv.uint64pow10").get! = some (Lib.pow10Tab.map fun z => .int .u64 z) := by kernel_rfl
theorem nDigits_le : ∀ (k u : Nat), u < 10 ^ (k + 1) → Lib.nDigits u ≤ k + 1
  | 0, u, h => by rw [Lib.nDigits_small (by simpa using h)]; exact Nat.le_refl _
  | k + 1, u, h => by
    by_cases c : u < 10
    · rw [Lib.nDigits_small c]; omega
    · rw [Lib.nDigits_big c]
      have := nDigits_le k (u / 10) (by rw [Nat.div_lt_iff_lt_mul (by omega)]; rw [Nat.pow_succ] at h; exact h)
      omega
theorem itoa_len (n : Int) (h0 : -9223372036854775808 ≤ n) (h1 : n ≤ 9223372036854775807) : (Lib.itoa n).length ≤ 21 := by
  unfold Lib.itoa
  have key : ∀ u : Nat, u ≤ 9223372036854775808 → (Lib.decDigits u).length ≤ 20 := fun u hu => by
    rw [Lib.decDigits_length]
    exact nDigits_le 19 u (by omega)
  split
  · have := key n.natAbs (by omega)
    simp only [List.length_cons]; omega
  · have := key n.toNat (by omega)
    omega
theorem maxLen_eq : Globs.ints (Tryd.prog.globalNamed "internal/bytealg.MaxLen").get! = some .i64 := by kernel_rfl
theorem fmtInt_c (n : Int) (h0 : -9223372036854775808 ≤ n) (h1 : n ≤ 9223372036854775807) : PCall Tryd.prog 97 [.int .i64 n, .int .i64 10] (.str (Lib.itoa n)) := by
  refine PCall.of_below (by kernel_rfl) fun κ w vs hg hr _ => ?_
  obtain ⟨vl⟩ := vs
  cases hr with
  | cons r1 hr =>
    cases hr with
    | cons r2 hr =>
      cases hr
      rw [rep_int_inv r1, rep_int_inv r2]
      refine (Tryd.strconv_FormatInt_10 n h0 h1 w (tabP hg pow_eq)).mono fun e w' ⟨e1, k, os, e2⟩ => ⟨_, e1, fun _ _ => .str _ ?_, by rw [e2]; exact below_grow w k os⟩
      have := itoa_len n h0 h1; omega
def q97n : List D → Option D
  | [.int .i64 n, .int .i64 b] => if b = 10 ∧ -9223372036854775808 ≤ n ∧ n ≤ 9223372036854775807 then some (.str (Lib.itoa n)) else none
  | _ => none
theorem q97n_ok (args : List D) (d : D) (h : q97n args = some d) : PCall Tryd.prog 97 args d := by
  unfold q97n at h
  split at h
  · split at h
    · rename_i c
      cases h
      rw [c.1]
      exact fmtInt_c _ c.2.1 c.2.2
    · cases h
  · cases h
theorem q97n_eq {n : Int} (h0 : -9223372036854775808 ≤ n) (h1 : n ≤ 9223372036854775807) : q97n [.int .i64 n, .int .i64 10] = some (.str (Lib.itoa n)) := by
  simp only [q97n]
  rw [if_pos ⟨trivial, h0, h1⟩]
def tb97n : Tab := Tab.zero.addQ 97 q97n
theorem tb97n_q (g : FuncId) (args : List D) : tb97n.q g args = if g = 97 then q97n args else Tab.zero.q g args := rfl
theorem tb97n_a : tb97n.a = Tab.zero.a := rfl
theorem tb97n_c : tb97n.c = Tab.zero.c := rfl
theorem tb97n_ok : tb97n.ok Tryd.prog := Tab.addQ_ok (Tab.zero_ok _) q97n_ok
theorem tb97n_e : type_of% (And.intro @tb97n_q (And.intro @tb97n_a @tb97n_c)) := (And.intro @tb97n_q (And.intro @tb97n_a @tb97n_c))

theorem numDigits_c (u : Int) (h : 1 ≤ u ∧ u < 18446744073709551616) : PCall Tryd.prog 54 [.int .u64 u] (.int .i64 (Lib.nDigits u.toNat)) := by
  refine PCall.of_below (by kernel_rfl) fun κ w vs hg hr _ => ?_
  obtain ⟨vl⟩ := vs
  cases hr with
  | cons r1 hr =>
    cases hr
    rw [rep_int_inv r1]
    have e0 : u = ((u.toNat : Nat) : Int) := by omega
    have := Tryd.internal_strconv_numDigits u.toNat (by omega) (by omega) w (tabP hg pow_eq)
    rw [← e0] at this
    exact this.mono fun e w' ⟨e1, e2⟩ => ⟨_, e1, fun _ _ => .int _ _, by rw [e2]; exact Below.refl _ _⟩
def q54n : List D → Option D
  | [.int .u64 u] => if 1 ≤ u ∧ u < 18446744073709551616 then some (.int .i64 (Lib.nDigits u.toNat)) else none
  | _ => none
theorem q54n_ok (args : List D) (d : D) (h : q54n args = some d) : PCall Tryd.prog 54 args d := by
  unfold q54n at h
  split at h
  · split at h
    · cases h; exact numDigits_c _ (by assumption)
    · cases h
  · cases h

def tb54n : Tab := tb97n.addQ 54 q54n
theorem tb54n_q (g : FuncId) (args : List D) : tb54n.q g args = if g = 54 then q54n args else tb97n.q g args := rfl
theorem tb54n_a : tb54n.a = tb97n.a := rfl
theorem tb54n_c : tb54n.c = tb97n.c := rfl
theorem tb54n_ok : tb54n.ok Tryd.prog := Tab.addQ_ok tb97n_ok q54n_ok
theorem tb54n_e : type_of% (And.intro (And.intro @tb54n_q (And.intro @tb54n_a @tb54n_c)) @tb97n_e) := (And.intro (And.intro @tb54n_q (And.intro @tb54n_a @tb54n_c)) @tb97n_e)

theorem small_c (u : Int) (h : 0 ≤ u ∧ u < 100) : PCall Tryd.prog 53 [.int .i64 u] (.str (Lib.decDigits u.toNat)) := by
  refine PCall.of_below (by kernel_rfl) fun κ w vs hg hr _ => ?_
  obtain ⟨vl⟩ := vs
  cases hr with
  | cons r1 hr =>
    cases hr
    rw [rep_int_inv r1]
    have e0 : u = ((u.toNat : Nat) : Int) := by omega
    have := Tryd.internal_strconv_small u.toNat (by omega) w
    rw [← e0] at this
    refine this.mono fun e w' ⟨e1, e2⟩ => ⟨_, e1, fun _ _ => .str _ ?_, by rw [e2]; exact Below.refl _ _⟩
    rw [Lib.decDigits_length]
    have := nDigits_le 1 u.toNat (by omega)
    omega
def q53n : List D → Option D
  | [.int .i64 u] => if 0 ≤ u ∧ u < 100 then some (.str (Lib.decDigits u.toNat)) else none
  | _ => none
theorem q53n_ok (args : List D) (d : D) (h : q53n args = some d) : PCall Tryd.prog 53 args d := by
  unfold q53n at h
  split at h
  · split at h
    · cases h; exact small_c _ (by assumption)
    · cases h
  · cases h

def tb53n : Tab := tb54n.addQ 53 q53n
theorem tb53n_q (g : FuncId) (args : List D) : tb53n.q g args = if g = 53 then q53n args else tb54n.q g args := rfl
theorem tb53n_a : tb53n.a = tb54n.a := rfl
theorem tb53n_c : tb53n.c = tb54n.c := rfl
theorem tb53n_ok : tb53n.ok Tryd.prog := Tab.addQ_ok tb54n_ok q53n_ok
theorem tb53n_e : type_of% (And.intro (And.intro @tb53n_q (And.intro @tb53n_a @tb53n_c)) @tb54n_e) := (And.intro (And.intro @tb53n_q (And.intro @tb53n_a @tb53n_c)) @tb54n_e)

def digs (u n : Nat) : List UInt8 := (List.range n).map fun t => Lib.dg u (n - 1 - t)
theorem base10_c (h : AHeap) (id n u : Nat) (l : List UInt8) (hid : h.f id = some (.cells (encC l))) (hn : n ≤ l.length) (h0 : 0 < n) (hu : u < 10 ^ n) (hu2 : u < 18446744073709551616) (hl : l.length < 4611686018427387904) :
    ACalls Tryd.prog 55 [.csl id 0 n, .int .u64 u] h fun o h' => o = .ret (.tuple []) ∧ h' = h.set id (.cells (encC (digs u n ++ l.drop n))) := by
  refine (ACalls.of_bytes (Q := fun r => r = digs u n) (by kernel_rfl) hid (by omega) h0 fun κ w vs blk cap hg hr hold => ?_).mono fun o h' ⟨e1, r, e2, e3, e4⟩ => ⟨e1, by rw [e4, e2]; simp⟩
  cases hr with
  | cons r1 hr =>
    cases hr
    rw [rep_int_inv r1]
    have hs : ((l.drop 0).take n).toArray.size = n := by simp; omega
    have := Tryd.internal_strconv_formatBase10 blk 0 cap u ((l.drop 0).take n).toArray w hold (by rw [hs]; exact hu) hu2 (by rw [hs]; omega)
    rw [hs] at this
    refine this.mono fun e w' ⟨e1, N, v', dk, e2, e3⟩ => ⟨e1, N, dk, e2, e3.size, ?_⟩
    have hd := e3.done
    have hz := e3.size
    apply List.ext_getElem
    · simp [digs, hz]
    · intro t t1 t2
      have h1 : t < n := by simp [hz] at t1; exact t1
      have := hd t (Nat.zero_le _) h1
      rw [getElem!_pos _ t (by omega)] at this
      simp only [digs, List.getElem_map, List.getElem_range, ← this, Array.getElem_toList]
def c55n (args : List D) (h : AHeap) (K : D → AHeap → Prop) : Prop :=
  ∃ (id n u : Nat) (l : List UInt8), args = [.csl id 0 n, .int .u64 u] ∧ h.f id = some (.cells (encC l)) ∧ n ≤ l.length ∧ 0 < n ∧ u < 10 ^ n ∧ u < 18446744073709551616 ∧ l.length < 4611686018427387904 ∧ K (.tuple []) (h.set id (.cells (encC (digs u n ++ l.drop n))))
theorem c55n_mono (args : List D) (h : AHeap) (K K' : D → AHeap → Prop) (hk : ∀ d h, K d h → K' d h) (c : c55n args h K) : c55n args h K' := by
  obtain ⟨id, n, u, l, e, h1, h2, h3, h4, h5, h6, k⟩ := c
  exact ⟨id, n, u, l, e, h1, h2, h3, h4, h5, h6, hk _ _ k⟩
theorem c55n_ok (args : List D) (h : AHeap) (K : D → AHeap → Prop) (c : c55n args h K) : ACalls Tryd.prog 55 args h fun o h' => ∃ d, o = .ret d ∧ K d h' := by
  obtain ⟨id, n, u, l, rfl, h1, h2, h3, h4, h5, h6, k⟩ := c
  refine (base10_c h id n u l h1 h2 h3 h4 h5 h6).mono fun o h' ⟨e1, e2⟩ => ⟨_, e1, by rw [e2]; exact k⟩
def tb55n : Tab := tb53n.addW 55 c55n c55n_mono
theorem tb55n_q : tb55n.q = tb53n.q := rfl
theorem tb55n_a : tb55n.a = tb53n.a := rfl
theorem tb55n_c (g : FuncId) (args : List D) (h : AHeap) (K E : D → AHeap → Prop) : tb55n.c g args h K E = if g = 55 then c55n args h K else tb53n.c g args h K E := rfl
theorem tb55n_ok : tb55n.ok Tryd.prog := Tab.addW_ok tb53n_ok c55n_ok
theorem tb55n_e : type_of% (And.intro (And.intro @tb55n_q (And.intro @tb55n_a @tb55n_c)) @tb53n_e) := (And.intro (And.intro @tb55n_q (And.intro @tb55n_a @tb55n_c)) @tb53n_e)

theorem fmtUint_c (u : Nat) (hu : u < 18446744073709551616) : PCall Tryd.prog 33 [.int .u64 u, .int .i64 10] (.str (Lib.decDigits u)) := by
  refine PCall.run tb55n_ok st33n (by simp) fun E => ?_
  by_cases c : u < 100
  · have g : ((u : Int) < 100) = True := eq_true (by omega)
    have w : IntKind.i64.wrap (u : Int) = u := by rw [wrap_i64 (by omega) (by omega)]
    have q : q53n [.int .i64 u] = some (.str (Lib.decDigits u)) := by
      simp only [q53n]
      rw [if_pos ⟨by omega, by omega⟩, Int.toNat_natCast]
    simp (config := {maxSteps := 1000000}) only [s33n, g, w, q, tb55n_e, i_callNe, Int.natCast_nonneg, Nat.le_refl, Int.le_refl, List.take_succ_cons, List.take_zero, decide_true, decide_false, Bool.and_false, Bool.false_and, zz, zzN, zzF, zzD, zzM, cond_true, cond_false, ↓reduceIte, Nat.reduceEqDiff, Nat.reduceBEq, Int.reduceLT, Int.reduceLE, Int.reduceToNat, Int.reduceEq, Int.reduceAdd, Int.reduceSub, Int.reduceMul, Int.reduceNeg, Nat.reduceMul, Nat.reduceSub, Nat.reduceLeDiff, Nat.reduceLT, Int.reduceGT, Int.reduceGE, Int.reduceBEq, Int.reduceBNe, reduceCtorEq, Nat.reduceAdd]
  · have g : ((u : Int) < 100) = False := eq_false (by omega)
    have q : q54n [.int .u64 u] = some (.int .i64 (Lib.nDigits u)) := by
      simp only [q54n]
      rw [if_pos ⟨by omega, by omega⟩, Int.toNat_natCast]
    have hd := nDigits_le 19 u (by omega)
    have h1 := Lib.nDigits_pos u
    have h2 := Lib.lt_pow_nDigits u
    have ed : Lib.decDigits u = digs u (Lib.nDigits u) := Lib.decDigits_eq u
    generalize Lib.nDigits u = n at *
    have hs : ∀ e : Nat, sliceEv (.arr 24) (.ptr e 1 0) none (some (.int .i64 n)) none = some (.csl e 0 n) := fun e => by
      simp [sliceEv, bounds, intOfD]
      omega
    simp (config := {maxSteps := 1000000}) only [s33n, g, q, hs, tb55n_e, i_callNe, Int.natCast_nonneg, Nat.le_refl, Int.le_refl, List.take_succ_cons, List.take_zero, decide_true, decide_false, Bool.and_false, Bool.false_and, zz, zzN, zzF, zzD, zzM, cond_true, cond_false, ↓reduceIte, Nat.reduceEqDiff, Nat.reduceBEq, Int.reduceLT, Int.reduceLE, Int.reduceToNat, Int.reduceEq, Int.reduceAdd, Int.reduceSub, Int.reduceMul, Int.reduceNeg, Nat.reduceMul, Nat.reduceSub, Nat.reduceLeDiff, Nat.reduceLT, Int.reduceGT, Int.reduceGE, Int.reduceBEq, Int.reduceBNe, reduceCtorEq, Nat.reduceAdd]
    intro e
    refine ⟨e, n, u, List.replicate 24 0, rfl, ?_, by simp; omega, h1, h2, hu, by simp, ?_⟩
    · simp [encC, List.replicate]
    rw [AHeap.set_set]
    have hl : (digs u n ++ (List.replicate 24 (0 : UInt8)).drop n).take n = digs u n := by
      rw [List.take_append_of_le_length (by simp [digs]), List.take_of_length_le (by simp [digs])]
    generalize hX : digs u n ++ (List.replicate 24 (0 : UInt8)).drop n = X at *
    have hXl : n ≤ X.length := by rw [← hX]; simp [digs]
    have hc : ∀ (K E : D → AHeap → Prop), vcI tb55n (.conv .bytesStr (.csl e 0 n)) (AHeap.emp.set e (.cells (encC X))) K E = K (.str ((X.drop 0).take n)) (AHeap.emp.set e (.cells (encC X))) := fun K E => i_str_cslAt (by simp) (by omega)
    simp (config := {maxSteps := 1000000}) only [hs, hc, hl, ed, tb55n_e, i_callNe, Int.natCast_nonneg, Nat.le_refl, Int.le_refl, List.take_succ_cons, List.take_zero, decide_true, decide_false, Bool.and_false, Bool.false_and, zz, zzN, zzF, zzD, zzM, cond_true, cond_false, ↓reduceIte, Nat.reduceEqDiff, Nat.reduceBEq, Int.reduceLT, Int.reduceLE, Int.reduceToNat, Int.reduceEq, Int.reduceAdd, Int.reduceSub, Int.reduceMul, Int.reduceNeg, Nat.reduceMul, Nat.reduceSub, Nat.reduceLeDiff, Nat.reduceLT, Int.reduceGT, Int.reduceGE, Int.reduceBEq, Int.reduceBNe, reduceCtorEq, Nat.reduceAdd]
theorem of_nat10 {f : FuncId} (k : ∀ u : Nat, u < 18446744073709551616 → PCall Tryd.prog f [.int .u64 u, .int .i64 10] (.str (Lib.decDigits u))) (u b : Int) (h : b = 10 ∧ 0 ≤ u ∧ u < 18446744073709551616) : PCall Tryd.prog f [.int .u64 u, .int .i64 b] (.str (Lib.decDigits u.toNat)) := by
  obtain ⟨rfl, c1n, c2n⟩ := h
  have := k u.toNat (by omega)
  rwa [show ((u.toNat : Nat) : Int) = u by omega] at this
theorem len_dropWhile (p : UInt8 → Bool) : ∀ l : List UInt8, (l.dropWhile p).length ≤ l.length
  | [] => by simp
  | x :: l => by
    rw [List.dropWhile_cons]
    split
    · have := len_dropWhile p l; simp; omega
    · simp
def q33n : List D → Option D
  | [.int .u64 u, .int .i64 b] => if b = 10 ∧ 0 ≤ u ∧ u < 18446744073709551616 then some (.str (Lib.decDigits u.toNat)) else none
  | _ => none
theorem q33n_ok (args : List D) (d : D) (h : q33n args = some d) : PCall Tryd.prog 33 args d := by
  unfold q33n at h
  split at h
  · split at h
    · cases h; exact of_nat10 (fun u hu => fmtUint_c u hu) _ _ (by assumption)
    · cases h
  · cases h

def tb33n : Tab := tb55n.addQ 33 q33n
theorem tb33n_q (g : FuncId) (args : List D) : tb33n.q g args = if g = 33 then q33n args else tb55n.q g args := rfl
theorem tb33n_a : tb33n.a = tb55n.a := rfl
theorem tb33n_c : tb33n.c = tb55n.c := rfl
theorem tb33n_ok : tb33n.ok Tryd.prog := Tab.addQ_ok tb55n_ok q33n_ok
theorem tb33n_e : type_of% (And.intro (And.intro @tb33n_q (And.intro @tb33n_a @tb33n_c)) @tb55n_e) := (And.intro (And.intro @tb33n_q (And.intro @tb33n_a @tb33n_c)) @tb55n_e)

theorem fmtUint8_c (u : Nat) (hu : u < 18446744073709551616) : PCall Tryd.prog 8 [.int .u64 u, .int .i64 10] (.str (Lib.decDigits u)) := by
  refine PCall.run tb33n_ok st8n (by simp) fun E => ?_
  have q : q33n [.int .u64 u, .int .i64 10] = some (.str (Lib.decDigits u)) := by
    simp only [q33n]
    rw [if_pos ⟨trivial, by omega, by omega⟩, Int.toNat_natCast]
  simp (config := {maxSteps := 1000000}) only [s8n, q, tb33n_e, i_callNe, Int.natCast_nonneg, Nat.le_refl, Int.le_refl, List.take_succ_cons, List.take_zero, decide_true, decide_false, Bool.and_false, Bool.false_and, zz, zzN, zzF, zzD, zzM, cond_true, cond_false, ↓reduceIte, Nat.reduceEqDiff, Nat.reduceBEq, Int.reduceLT, Int.reduceLE, Int.reduceToNat, Int.reduceEq, Int.reduceAdd, Int.reduceSub, Int.reduceMul, Int.reduceNeg, Nat.reduceMul, Nat.reduceSub, Nat.reduceLeDiff, Nat.reduceLT, Int.reduceGT, Int.reduceGE, Int.reduceBEq, Int.reduceBNe, reduceCtorEq, Nat.reduceAdd]
def q8n : List D → Option D
  | [.int .u64 u, .int .i64 b] => if b = 10 ∧ 0 ≤ u ∧ u < 18446744073709551616 then some (.str (Lib.decDigits u.toNat)) else none
  | _ => none
theorem q8n_ok (args : List D) (d : D) (h : q8n args = some d) : PCall Tryd.prog 8 args d := by
  unfold q8n at h
  split at h
  · split at h
    · cases h; exact of_nat10 (fun u hu => fmtUint8_c u hu) _ _ (by assumption)
    · cases h
  · cases h

theorem q8n_eqN {u : Nat} (hu : u < 18446744073709551616) : q8n [.int .u64 u, .int .i64 10] = some (.str (Lib.decDigits u)) := by
  simp only [q8n]
  rw [if_pos ⟨trivial, by omega, by omega⟩, Int.toNat_natCast]
def tb8n : Tab := tb33n.addQ 8 q8n
theorem tb8n_q (g : FuncId) (args : List D) : tb8n.q g args = if g = 8 then q8n args else tb33n.q g args := rfl
theorem tb8n_a : tb8n.a = tb33n.a := rfl
theorem tb8n_c : tb8n.c = tb33n.c := rfl
theorem tb8n_ok : tb8n.ok Tryd.prog := Tab.addQ_ok tb33n_ok q8n_ok
theorem tb8n_e : type_of% (And.intro (And.intro @tb8n_q (And.intro @tb8n_a @tb8n_c)) @tb33n_e) := (And.intro (And.intro @tb8n_q (And.intro @tb8n_a @tb8n_c)) @tb33n_e)

theorem join_map (l : List (List UInt8)) : (l.map fun s => (⟨s.toArray⟩ : ByteArray)).map (·.data.toList) = l := by
  rw [List.map_map]
  exact (List.map_congr_left fun _ _ => rfl).trans (List.map_id l)
theorem join_c (l : List (List UInt8)) (sep : List UInt8) (h : l.length ≤ 140737488355328 ∧ (Lib.join l sep).length ≤ 140737488355328) : PCall Tryd.prog 100 [.sl (encS l), .str sep] (.str (Lib.join l sep)) := by
  refine PCall.of_below (by kernel_rfl) fun κ w vs hg hr him => ?_
  obtain ⟨vl⟩ := vs
  cases hr with
  | cons r1 hr =>
    cases hr with
    | cons r2 hr =>
      cases hr
      rw [(rep_str_inv r2).1]
      rcases rep_encS_inv r1 with ⟨e, a, c, hv⟩ | ⟨b, o, cap, hv, hc, hcell⟩
      · subst e hv
        exact (Tryd.strings_Join_none a c ⟨sep.toArray⟩ w).mono fun e w' ⟨e1, e2⟩ => ⟨_, e1, fun _ _ => .str [] (by simp), by rw [e2]; exact Below.refl _ _⟩
      · subst hv
        by_cases h0 : l = []
        · subst h0
          exact (Tryd.strings_Join_none (some ⟨b, o, none⟩) cap ⟨sep.toArray⟩ w).mono fun e w' ⟨e1, e2⟩ => ⟨_, e1, fun _ _ => .str [] (by simp), by rw [e2]; exact Below.refl _ _⟩
        obtain ⟨x, hx⟩ : ∃ x, l[0]? = some x := by
          cases l with
          | nil => exact absurd rfl h0
          | cons x l => exact ⟨x, rfl⟩
        have key := Tryd.strings_Join b o cap (l.map fun s => (⟨s.toArray⟩ : ByteArray)) ⟨sep.toArray⟩ w (fun j x hj => by
          simp only [List.getElem?_map, Option.map_eq_some_iff] at hj
          obtain ⟨s, hs, rfl⟩ := hj
          exact (hcell j s hs).2) (him b (hcell 0 x hx).1) (by simpa using h.1) (by simpa using hc) (by rw [join_map]; exact h.2)
        rw [join_map, List.length_map] at key
        exact key.mono fun e w' ⟨e1, e2⟩ => ⟨_, e1, fun _ _ => .str (Lib.join l sep) (by have := h.2; omega), e2⟩
def q100n : List D → Option D
  | [.sl l', .str s] => match decS l' with
    | some l => if l.length ≤ 140737488355328 ∧ (Lib.join l s).length ≤ 140737488355328 then some (.str (Lib.join l s)) else none
    | _ => none
  | _ => none
theorem q100n_ok (args : List D) (d : D) (h : q100n args = some d) : PCall Tryd.prog 100 args d := by
  unfold q100n at h
  split at h
  · split at h
    · rename_i e0
      cases decS_some e0
      split at h
      · cases h; exact join_c _ _ (by assumption)
      · cases h
    · cases h
  · cases h

theorem q100n_eq {l : List (List UInt8)} {s : List UInt8} (h : l.length ≤ 140737488355328 ∧ (Lib.join l s).length ≤ 140737488355328) : q100n [.sl (encS l), .str s] = some (.str (Lib.join l s)) := by
  simp only [q100n, decS_enc]
  rw [if_pos h]
def tb100n : Tab := tb8n.addQ 100 q100n
theorem tb100n_q (g : FuncId) (args : List D) : tb100n.q g args = if g = 100 then q100n args else tb8n.q g args := rfl
theorem tb100n_a : tb100n.a = tb8n.a := rfl
theorem tb100n_c : tb100n.c = tb8n.c := rfl
theorem tb100n_ok : tb100n.ok Tryd.prog := Tab.addQ_ok tb8n_ok q100n_ok
theorem tb100n_e : type_of% (And.intro (And.intro @tb100n_q (And.intro @tb100n_a @tb100n_c)) @tb8n_e) := (And.intro (And.intro @tb100n_q (And.intro @tb100n_a @tb100n_c)) @tb8n_e)

theorem trimL_c (s : List UInt8) : PCall Tryd.prog 50 [.str s, .str [48]] (.str (Lib.trimLeftB s 48)) := by
  refine PCall.of_below (by kernel_rfl) fun κ w vs hg hr him => ?_
  obtain ⟨vl⟩ := vs
  cases hr with
  | cons r1 hr =>
    cases hr with
    | cons r2 hr =>
      cases hr
      obtain ⟨e1, hl⟩ := rep_str_inv r1
      rw [e1, (rep_str_inv r2).1]
      refine (Tryd.strings_TrimLeft_one ⟨s.toArray⟩ 48 (by decide) w).mono fun e w' ⟨e1, e2⟩ => ⟨_, e1, fun _ _ => .str (Lib.trimLeftB s 48) ?_, by rw [e2]; exact Below.refl _ _⟩
      have : (Lib.trimLeftB s 48).length ≤ s.length := by unfold Lib.trimLeftB; exact len_dropWhile _ _
      omega
theorem trimR_c (s : List UInt8) : PCall Tryd.prog 51 [.str s, .str [48]] (.str (Lib.trimRightB s 48)) := by
  refine PCall.of_below (by kernel_rfl) fun κ w vs hg hr him => ?_
  obtain ⟨vl⟩ := vs
  cases hr with
  | cons r1 hr =>
    cases hr with
    | cons r2 hr =>
      cases hr
      obtain ⟨e1, hl⟩ := rep_str_inv r1
      rw [e1, (rep_str_inv r2).1]
      refine (Tryd.strings_TrimRight_one ⟨s.toArray⟩ 48 (by decide) w (by simpa [ByteArray.size] using hl)).mono fun e w' ⟨e1, e2⟩ => ⟨_, e1, fun _ _ => .str (Lib.trimRightB s 48) ?_, by rw [e2]; exact Below.refl _ _⟩
      have : (Lib.trimRightB s 48).length ≤ s.length := by
        unfold Lib.trimRightB
        have := len_dropWhile (fun b => b == 48) s.reverse
        simp at this ⊢
        omega
      omega
theorem cut_c (s sep : List UInt8) (hs : s.length < 4294967281) : PCall Tryd.prog 49 [.str s, .str sep] (.tuple [.str (Lib.cut s sep).1, .str (Lib.cut s sep).2.1, .bool (Lib.cut s sep).2.2]) := by
  refine PCall.of_below (by kernel_rfl) fun κ w vs hg hr him => ?_
  obtain ⟨vl⟩ := vs
  cases hr with
  | cons r1 hr =>
    cases hr with
    | cons r2 hr =>
      cases hr
      rw [(rep_str_inv r1).1, (rep_str_inv r2).1]
      obtain ⟨_, m, hm⟩ := hg.ints _ _ maxLen_eq
      refine (Tryd.strings_Cut ⟨s.toArray⟩ ⟨sep.toArray⟩ m w (by simpa [ByteArray.size] using hs) hm).mono fun e w' ⟨e1, n, e2⟩ => ⟨_, e1, fun _ _ => .tuple rfl fun i d hd => ?_, by rw [e2]; exact below_drewN w n⟩
      have h1 : (Lib.cut s sep).1.length ≤ 9223372036854775807 := by
        unfold Lib.cut
        split <;> simp <;> omega
      have h2 : (Lib.cut s sep).2.1.length ≤ 9223372036854775807 := by
        unfold Lib.cut
        split <;> simp <;> omega
      match i, hd with
      | 0, hd => cases hd; exact .str _ h1
      | 1, hd => cases hd; exact .str _ h2
      | 2, hd => cases hd; exact .bool _
end Go.Proofs.YthpgepillaeldaaDoor.Zz
/- The program, and what lies ahead of its contracts. -/
