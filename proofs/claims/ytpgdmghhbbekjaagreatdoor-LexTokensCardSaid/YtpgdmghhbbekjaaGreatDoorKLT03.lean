/- Part 3 of the proof of the law LT. The conditions: none. (Its parts: Shelf Lxb Lxc Lxd Lxe Lxf Lxg.) -/
import Derived.Shelf.Small.Strs
import Derived.Shelf.Utf8.RuneCount
import Derived.Shelf.Strconv.Itoa0
import Derived.Shelf.Strconv.Itoa1
import Derived.Shelf.LaysM
import Derived.Shelf.Strconv.Itoa2
import Derived.Shelf.Strconv.Itoa3
import Derived.Shelf.Strconv.ParseIntEmpty
import Derived.Shelf.Strconv.Clone
import Derived.Shelf.Strconv.SyntaxError
import Derived.Shelf.LaysC
import Derived.Shelf.Strconv.ToError
import Derived.Shelf.Strconv.Lower
import Derived.Shelf.Strconv.ParseUint10
import Derived.Shelf.Strconv.ParseUint10Empty
import Derived.Shelf.Strconv.ParseUint10Any
import Derived.Shelf.Strconv.ParseInt10
import Derived.Shelf.Strconv.RangeError
import Derived.Shelf.Strconv.ToErrorRange
import Derived.Shelf.Strconv.ParseUintEmpty
import Derived.Shelf.Strconv.ParseUint10b64
import Derived.Shelf.Strconv.ParseUint10b32
import Derived.Shelf.Strconv.ParseUint10b16
import Derived.Shelf.Strconv.ParseUint10b8
import Derived.Shelf.Strconv.ParseUint10At
import Derived.Shelf.Strconv.ParseInt10At64
import Derived.Shelf.Strconv.ParseInt10At32
import Derived.Shelf.Strconv.ParseInt10At16
import Derived.Shelf.Strconv.ParseInt10At8
import Derived.Shelf.Strconv.ParseInt10All
import Derived.Shelf.Strconv.ParseIntPublic10
import Derived.Shelf.Strconv.ErrVarParseInt
import Derived.Shelf.Strings.Search1
import Derived.Shelf.Strings.Search2
import Derived.Shelf.Strings.Search3
import Derived.Shelf.Strings.Count
import Derived.Shelf.Strings.Shaped
import Derived.Shelf.Strings.LastIndex
import Derived.Shelf.Strings.Prefix
import Derived.Shelf.Strings.Split
import Derived.Shelf.Strings.Fields
import Derived.Shelf.Strings.SplitShaped
import Derived.Shelf.Unicode.Latin
import Derived.Shelf.Strings.RuneCount
import Derived.Shelf.Unicode.Is16White
import Derived.Shelf.Unicode.IsSpaceAny
import Derived.Shelf.Unicode.Is16Any
import Derived.Shelf.Unicode.Is32Any
import Derived.Shelf.Unicode.ExclAny
import Derived.Test.YtpgdmghhbbekjaaGreatDoorProg
import Derived.Maps.Own
import Derived.Maps.Views
import Derived.Maps.OwnSet
import Derived.StringKeys
import Derived.Lib.AppendIntMem
import Derived.Deep.MidRow
import Derived.Laws.Tables
import Derived.Test.YtpgdmghhbbekjaaGreatDoorKLT02
section
namespace Go.Proofs
open Go.Shelf
def Tryz.lays137_ren : Go.Shelf.Ren := ⟨fun | 137 => 51 | 217 => 64 | 266 => 74 | n => n, fun | 9 => 9 | 5 => 5 | 3 => 3 | n => n, fun | n => n⟩
theorem Tryz.lays137 : Go.Proofs.Lays.n137 Tryz.prog Tryz.lays137_ren := {
  mixed := by kernel_rfl
  f137 := Tryz.func51.trans (congrArg some (by kernel_rfl))
  f217 := Tryz.func64.trans (congrArg some (by kernel_rfl))
  f266 := Tryz.func74.trans (congrArg some (by kernel_rfl))
  t3 := Tryz.underlying3
  a3 := Tryz.isAgg3
  z3 := Tryz.sizeOf3
  v3 := Tryz.zeroValue3
  t5 := Tryz.underlying5
  a5 := Tryz.isAgg5
  z5 := Tryz.sizeOf5
  v5 := Tryz.zeroValue5
  t9 := Tryz.underlying9
  a9 := Tryz.isAgg9
  z9 := Tryz.sizeOf9
  v9 := Tryz.zeroValue9 }
open Go.RowKit in
theorem Tryz.strings_IndexByte (s : ByteArray) (c : Int) (w : World) :
    Calls Tryz.prog 51 #[.string s, .int .u8 c] w fun e w' => e = .returned (.int .i64 (Lib.indexByte s.data.toList c.toNat.toUInt8)) ∧ w' = w := Any.strings_IndexByte Tryz.lays137 s c w
def Tryz.laysC174_ren : Go.Shelf.Ren := ⟨fun | 174 => 31 | 247 => 48 | 245 => 49 | 287 => 59 | 279 => 60 | 280 => 61 | 281 => 62 | 282 => 63 | 321 => 69 | 322 => 70 | 316 => 71 | 171 => 73 | 205 => 72 | 243 => 78 | 246 => 79 | 283 => 80 | 284 => 81 | 285 => 82 | 286 => 83 | 129 => 85 | 317 => 84 | 318 => 86 | 319 => 87 | 320 => 88 | 337 => 89 | 338 => 90 | n => n, fun | 9 => 9 | 3 => 3 | 2 => 2 | 75 => 25 | 85 => 65 | 4 => 4 | 167 => 105 | 5 => 5 | 53 => 96 | 175 => 106 | 46 => 108 | 168 => 109 | 37 => 37 | 0 => 0 | 210 => 122 | 21 => 21 | 127 => 138 | 145 => 141 | 143 => 139 | 171 => 145 | 173 => 148 | 212 => 151 | 51 => 116 | 20 => 20 | 213 => 152 | 232 => 156 | 233 => 157 | 80 => 158 | n => n, fun | 15 => 4 | 16 => 5 | 17 => 6 | 18 => 7 | 19 => 8 | n => n⟩
theorem Tryz.laysC174 : Go.Proofs.LaysC.n174 Tryz.prog Tryz.laysC174_ren := {
  mixed := by kernel_rfl
  f129 := Tryz.func85.trans (congrArg some (by kernel_rfl))
  f171 := Tryz.func73.trans (congrArg some (by kernel_rfl))
  f174 := Tryz.func31.trans (congrArg some (by kernel_rfl))
  f205 := Tryz.func72.trans (congrArg some (by kernel_rfl))
  f243 := Tryz.func78.trans (congrArg some (by kernel_rfl))
  f245 := Tryz.func49.trans (congrArg some (by kernel_rfl))
  f246 := Tryz.func79.trans (congrArg some (by kernel_rfl))
  f247 := Tryz.func48.trans (congrArg some (by kernel_rfl))
  f279 := Tryz.func60.trans (congrArg some (by kernel_rfl))
  f280 := Tryz.func61.trans (congrArg some (by kernel_rfl))
  f281 := Tryz.func62.trans (congrArg some (by kernel_rfl))
  f282 := Tryz.func63.trans (congrArg some (by kernel_rfl))
  f283 := Tryz.func80.trans (congrArg some (by kernel_rfl))
  f284 := Tryz.func81.trans (congrArg some (by kernel_rfl))
  f285 := Tryz.func82.trans (congrArg some (by kernel_rfl))
  f286 := Tryz.func83.trans (congrArg some (by kernel_rfl))
  f287 := Tryz.func59.trans (congrArg some (by kernel_rfl))
  f316 := Tryz.func71.trans (congrArg some (by kernel_rfl))
  f317 := Tryz.func84.trans (congrArg some (by kernel_rfl))
  f318 := Tryz.func86.trans (congrArg some (by kernel_rfl))
  f319 := Tryz.func87.trans (congrArg some (by kernel_rfl))
  f320 := Tryz.func88.trans (congrArg some (by kernel_rfl))
  f321 := Tryz.func69.trans (congrArg some (by kernel_rfl))
  f322 := Tryz.func70.trans (congrArg some (by kernel_rfl))
  f337 := Tryz.func89.trans (congrArg some (by kernel_rfl))
  f338 := Tryz.func90.trans (congrArg some (by kernel_rfl))
  t0 := Tryz.underlying0
  a0 := Tryz.isAgg0
  z0 := Tryz.sizeOf0
  v0 := Tryz.zeroValue0
  t2 := Tryz.underlying2
  a2 := Tryz.isAgg2
  z2 := Tryz.sizeOf2
  v2 := Tryz.zeroValue2
  t3 := Tryz.underlying3
  a3 := Tryz.isAgg3
  z3 := Tryz.sizeOf3
  v3 := Tryz.zeroValue3
  t4 := Tryz.underlying4
  a4 := Tryz.isAgg4
  z4 := Tryz.sizeOf4
  v4 := Tryz.zeroValue4
  t5 := Tryz.underlying5
  a5 := Tryz.isAgg5
  z5 := Tryz.sizeOf5
  v5 := Tryz.zeroValue5
  t9 := Tryz.underlying9
  a9 := Tryz.isAgg9
  z9 := Tryz.sizeOf9
  v9 := Tryz.zeroValue9
  t20 := Tryz.underlying20
  a20 := Tryz.isAgg20
  z20 := Tryz.sizeOf20
  v20 := Tryz.zeroValue20
  t21 := Tryz.underlying21
  a21 := Tryz.isAgg21
  z21 := Tryz.sizeOf21
  v21 := Tryz.zeroValue21
  t37 := Tryz.underlying37
  a37 := Tryz.isAgg37
  z37 := Tryz.sizeOf37
  v37 := Tryz.zeroValue37
  t46 := Tryz.underlying108
  a46 := Tryz.isAgg108
  z46 := Tryz.sizeOf108
  v46 := Tryz.zeroValue108
  t51 := Tryz.underlying116
  a51 := Tryz.isAgg116
  z51 := Tryz.sizeOf116
  v51 := Tryz.zeroValue116
  t53 := Tryz.underlying96
  a53 := Tryz.isAgg96
  z53 := Tryz.sizeOf96
  v53 := Tryz.zeroValue96
  t75 := Tryz.underlying25
  a75 := Tryz.isAgg25
  z75 := Tryz.sizeOf25
  v75 := Tryz.zeroValue25
  t85 := Tryz.underlying65
  a85 := Tryz.isAgg65
  z85 := Tryz.sizeOf65
  v85 := Tryz.zeroValue65
  t127 := Tryz.underlying138
  a127 := Tryz.isAgg138
  z127 := Tryz.sizeOf138
  v127 := Tryz.zeroValue138
  t143 := Tryz.underlying139
  a143 := Tryz.isAgg139
  z143 := Tryz.sizeOf139
  v143 := Tryz.zeroValue139
  t145 := Tryz.underlying141
  a145 := Tryz.isAgg141
  z145 := Tryz.sizeOf141
  v145 := Tryz.zeroValue141
  t167 := Tryz.underlying105
  a167 := Tryz.isAgg105
  z167 := Tryz.sizeOf105
  v167 := Tryz.zeroValue105
  t168 := Tryz.underlying109
  a168 := Tryz.isAgg109
  z168 := Tryz.sizeOf109
  v168 := Tryz.zeroValue109
  t171 := Tryz.underlying145
  a171 := Tryz.isAgg145
  z171 := Tryz.sizeOf145
  v171 := Tryz.zeroValue145
  t173 := Tryz.underlying148
  a173 := Tryz.isAgg148
  z173 := Tryz.sizeOf148
  v173 := Tryz.zeroValue148
  t175 := Tryz.underlying106
  a175 := Tryz.isAgg106
  z175 := Tryz.sizeOf106
  v175 := Tryz.zeroValue106
  t210 := Tryz.underlying122
  a210 := Tryz.isAgg122
  z210 := Tryz.sizeOf122
  v210 := Tryz.zeroValue122
  t212 := Tryz.underlying151
  a212 := Tryz.isAgg151
  z212 := Tryz.sizeOf151
  v212 := Tryz.zeroValue151
  t213 := Tryz.underlying152
  a213 := Tryz.isAgg152
  z213 := Tryz.sizeOf152
  t232 := Tryz.underlying156
  a232 := Tryz.isAgg156
  z232 := Tryz.sizeOf156
  v232 := Tryz.zeroValue156
  t233 := Tryz.underlying157
  a233 := Tryz.isAgg157
  z233 := Tryz.sizeOf157
  v233 := Tryz.zeroValue157
  g15 := by kernel_rfl
  g16 := by kernel_rfl
  g17 := by kernel_rfl
  g18 := by kernel_rfl
  g19 := by kernel_rfl
  t80 := Tryz.underlying158
  a80 := Tryz.isAgg158
  z80 := Tryz.sizeOf158
  v80 := Tryz.zeroValue158
  i0 := by kernel_rfl
  i2 := by kernel_rfl
  i3 := by kernel_rfl
  i4 := by kernel_rfl
  i5 := by kernel_rfl
  i9 := by kernel_rfl
  i20 := by kernel_rfl
  i21 := by kernel_rfl
  i37 := by kernel_rfl
  i46 := by kernel_rfl
  i51 := by kernel_rfl
  i53 := by kernel_rfl
  i75 := by kernel_rfl
  i80 := by kernel_rfl
  i85 := by kernel_rfl
  i127 := by kernel_rfl
  i143 := by kernel_rfl
  i145 := by kernel_rfl
  i167 := by kernel_rfl
  i168 := by kernel_rfl
  i171 := by kernel_rfl
  i173 := by kernel_rfl
  i175 := by kernel_rfl
  i210 := by kernel_rfl
  i212 := by kernel_rfl
  i232 := by kernel_rfl
  i233 := by kernel_rfl
  m15 := by kernel_rfl
  m16 := by kernel_rfl
  m17 := by kernel_rfl
  m18 := by kernel_rfl
  m19 := by kernel_rfl
  c0 := by kernel_rfl
  c2 := by kernel_rfl
  c3 := by kernel_rfl
  c4 := by kernel_rfl
  c5 := by kernel_rfl
  c9 := by kernel_rfl
  c20 := by kernel_rfl
  c21 := by kernel_rfl
  c37 := by kernel_rfl
  c46 := by kernel_rfl
  c51 := by kernel_rfl
  c53 := by kernel_rfl
  c75 := by kernel_rfl
  c80 := by kernel_rfl
  c85 := by kernel_rfl
  c127 := by kernel_rfl
  c143 := by kernel_rfl
  c145 := by kernel_rfl
  c167 := by kernel_rfl
  c168 := by kernel_rfl
  c171 := by kernel_rfl
  c173 := by kernel_rfl
  c175 := by kernel_rfl
  c210 := by kernel_rfl
  c212 := by kernel_rfl
  c213 := by kernel_rfl
  c232 := by kernel_rfl
  c233 := by kernel_rfl }
open Go.RowKit in
theorem Tryz.strconv_ParseInt_10_at64_ok (s : ByteArray) (hmax : s.size ≤ 9223372036854775806) (v : Int) (h : Lib.parseIntB 64 s.data.toList = .ok v) (w : World) :
    Calls Tryz.prog 31 #[.string s, .int .i64 10, .int .i64 64] w fun e w' => e = .returned (.tuple #[.int .i64 v, .nilIface]) ∧ (w' = w ∨ ∃ t, w' = Lib.bytesWorld w 5 t) := Any.strconv_ParseInt_10_at64_ok Tryz.laysC174 s hmax v h w
open Go.RowKit in
theorem Tryz.strconv_ParseInt_10_at64_syntax_var (s : ByteArray) (hlim : s.size ≤ 281474976710656) (h : Lib.parseIntB 64 s.data.toList = Lib.NumEnd.syntax) (tp : TypeId) (p : Value) (w : World) (hvar : w.var? Tryz.prog "strconv.ErrSyntax" = some #[.iface tp p]) :
    Calls Tryz.prog 31 #[.string s, .int .i64 10, .int .i64 64] w fun e w' => ∃ N, e = .returned (.tuple #[.int .i64 (0), .iface 109 (.pointer (some ⟨N, 0, none⟩))]) ∧ w.heap.size ≤ N ∧ w'.heap[N]? = some (.cells #[.string ⟨#[80, 97, 114, 115, 101, 73, 110, 116]⟩, .string s, .iface tp p] 122 (0, 0)) ∧ Below w.heap.size w w' := Any.strconv_ParseInt_10_at64_syntax_var Tryz.laysC174 s hlim h tp p w hvar
open Go.RowKit in
theorem Tryz.strconv_ParseInt_10_at64_range_var (s : ByteArray) (hlim : s.size ≤ 281474976710656) (h : Lib.parseIntB 64 s.data.toList = .range) (tp : TypeId) (p : Value) (w : World) (hvar : w.var? Tryz.prog "strconv.ErrRange" = some #[.iface tp p]) :
    Calls Tryz.prog 31 #[.string s, .int .i64 10, .int .i64 64] w fun e w' => ∃ N, e = .returned (.tuple #[.int .i64 (Lib.intSat 64 s.data.toList), .iface 109 (.pointer (some ⟨N, 0, none⟩))]) ∧ w.heap.size ≤ N ∧ w'.heap[N]? = some (.cells #[.string ⟨#[80, 97, 114, 115, 101, 73, 110, 116]⟩, .string s, .iface tp p] 122 (0, 0)) ∧ Below w.heap.size w w' := Any.strconv_ParseInt_10_at64_range_var Tryz.laysC174 s hlim h tp p w hvar
def Tryz.lays138_ren : Go.Shelf.Ren := ⟨fun | 138 => 20 | 195 => 42 | 218 => 43 | 143 => 44 | 219 => 56 | 217 => 64 | 225 => 65 | 224 => 66 | 267 => 67 | 266 => 74 | 314 => 75 | n => n, fun | 9 => 9 | 3 => 3 | 4 => 4 | 5 => 5 | 0 => 0 | 46 => 108 | 146 => 125 | 51 => 116 | n => n, fun | 1 => 1 | n => n⟩
theorem Tryz.lays138 : Go.Proofs.Lays.n138 Tryz.prog Tryz.lays138_ren := {
  mixed := by kernel_rfl
  f138 := Tryz.func20.trans (congrArg some (by kernel_rfl))
  f143 := Tryz.func44.trans (congrArg some (by kernel_rfl))
  f195 := Tryz.func42.trans (congrArg some (by kernel_rfl))
  f217 := Tryz.func64.trans (congrArg some (by kernel_rfl))
  f218 := Tryz.func43.trans (congrArg some (by kernel_rfl))
  f219 := Tryz.func56.trans (congrArg some (by kernel_rfl))
  f224 := Tryz.func66.trans (congrArg some (by kernel_rfl))
  f225 := Tryz.func65.trans (congrArg some (by kernel_rfl))
  f266 := Tryz.func74.trans (congrArg some (by kernel_rfl))
  f267 := Tryz.func67.trans (congrArg some (by kernel_rfl))
  f314 := Tryz.func75.trans (congrArg some (by kernel_rfl))
  t0 := Tryz.underlying0
  a0 := Tryz.isAgg0
  z0 := Tryz.sizeOf0
  v0 := Tryz.zeroValue0
  t3 := Tryz.underlying3
  a3 := Tryz.isAgg3
  z3 := Tryz.sizeOf3
  v3 := Tryz.zeroValue3
  t4 := Tryz.underlying4
  a4 := Tryz.isAgg4
  z4 := Tryz.sizeOf4
  v4 := Tryz.zeroValue4
  t5 := Tryz.underlying5
  a5 := Tryz.isAgg5
  z5 := Tryz.sizeOf5
  v5 := Tryz.zeroValue5
  t9 := Tryz.underlying9
  a9 := Tryz.isAgg9
  z9 := Tryz.sizeOf9
  v9 := Tryz.zeroValue9
  t46 := Tryz.underlying108
  a46 := Tryz.isAgg108
  z46 := Tryz.sizeOf108
  v46 := Tryz.zeroValue108
  t51 := Tryz.underlying116
  a51 := Tryz.isAgg116
  z51 := Tryz.sizeOf116
  v51 := Tryz.zeroValue116
  t146 := Tryz.underlying125
  a146 := Tryz.isAgg125
  z146 := Tryz.sizeOf125
  v146 := Tryz.zeroValue125
  g1 := by kernel_rfl }
open Go.RowKit Go.Lib in
theorem Tryz.strings_Count_one (s : ByteArray) (c : UInt8) (w : World) :
    Calls Tryz.prog 20 #[.string s, .string ⟨#[c]⟩] w fun e w' => e = .returned (.int .i64 (Lib.countByte s.data.toList c)) ∧ w' = w := Any.strings_Count_one Tryz.lays138 s c w
def Tryz.lays149_ren : Go.Shelf.Ren := ⟨fun | 149 => 21 | 222 => 45 | n => n, fun | 9 => 9 | 5 => 5 | 3 => 3 | 4 => 4 | n => n, fun | n => n⟩
theorem Tryz.lays149 : Go.Proofs.Lays.n149 Tryz.prog Tryz.lays149_ren := {
  mixed := by kernel_rfl
  f149 := Tryz.func21.trans (congrArg some (by kernel_rfl))
  f222 := Tryz.func45.trans (congrArg some (by kernel_rfl))
  t3 := Tryz.underlying3
  a3 := Tryz.isAgg3
  z3 := Tryz.sizeOf3
  v3 := Tryz.zeroValue3
  t4 := Tryz.underlying4
  a4 := Tryz.isAgg4
  z4 := Tryz.sizeOf4
  v4 := Tryz.zeroValue4
  t5 := Tryz.underlying5
  a5 := Tryz.isAgg5
  z5 := Tryz.sizeOf5
  v5 := Tryz.zeroValue5
  t9 := Tryz.underlying9
  a9 := Tryz.isAgg9
  z9 := Tryz.sizeOf9
  v9 := Tryz.zeroValue9 }
open Go.RowKit Go.Lib in
theorem Tryz.strings_LastIndexByte (s : ByteArray) (c : Int) (hs : s.size < 4611686018427387904) (w : World) :
    Calls Tryz.prog 21 #[.string s, .int .u8 c] w fun e w' => e = .returned (.int .i64 (Lib.lastIndexByte s c)) ∧ w' = w := Any.strings_LastIndexByte Tryz.lays149 s c hs w
def Tryz.lays99_ren : Go.Shelf.Ren := ⟨fun | 99 => 28 | 206 => 47 | n => n, fun | 9 => 9 | 4 => 4 | 3 => 3 | n => n, fun | n => n⟩
theorem Tryz.lays99 : Go.Proofs.Lays.n99 Tryz.prog Tryz.lays99_ren := {
  mixed := by kernel_rfl
  f99 := Tryz.func28.trans (congrArg some (by kernel_rfl))
  f206 := Tryz.func47.trans (congrArg some (by kernel_rfl))
  t3 := Tryz.underlying3
  a3 := Tryz.isAgg3
  z3 := Tryz.sizeOf3
  v3 := Tryz.zeroValue3
  t4 := Tryz.underlying4
  a4 := Tryz.isAgg4
  z4 := Tryz.sizeOf4
  v4 := Tryz.zeroValue4
  t9 := Tryz.underlying9
  a9 := Tryz.isAgg9
  z9 := Tryz.sizeOf9
  v9 := Tryz.zeroValue9 }
open Go.RowKit Go.Lib in
theorem Tryz.strings_HasPrefix (s p : ByteArray) (w : World) :
    Calls Tryz.prog 28 #[.string s, .string p] w fun e w' => e = .returned (.bool (Lib.hasPrefix s.data.toList p.data.toList)) ∧ w' = w := Any.strings_HasPrefix Tryz.lays99 s p w
def Tryz.laysM157_ren : Go.Shelf.Ren := ⟨fun | 157 => 46 | 229 => 57 | 199 => 58 | 261 => 68 | 311 => 76 | 312 => 77 | n => n, fun | 9 => 9 | 31 => 70 | 3 => 3 | 5 => 5 | 4 => 4 | 119 => 102 | 0 => 0 | 40 => 104 | 152 => 113 | 21 => 21 | 154 => 115 | 51 => 116 | 141 => 118 | 196 => 130 | 193 => 127 | 198 => 133 | 49 => 131 | 194 => 128 | 201 => 136 | 226 => 142 | 46 => 108 | 227 => 143 | n => n, fun | 0 => 2 | 6 => 3 | n => n⟩
theorem Tryz.laysM157 : Go.Proofs.LaysM.n157 Tryz.prog Tryz.laysM157_ren := {
  mixed := by kernel_rfl
  f157 := Tryz.func46.trans (congrArg some (by kernel_rfl))
  f199 := Tryz.func58.trans (congrArg some (by kernel_rfl))
  f229 := Tryz.func57.trans (congrArg some (by kernel_rfl))
  f261 := Tryz.func68.trans (congrArg some (by kernel_rfl))
  f311 := Tryz.func76.trans (congrArg some (by kernel_rfl))
  f312 := Tryz.func77.trans (congrArg some (by kernel_rfl))
  t0 := Tryz.underlying0
  a0 := Tryz.isAgg0
  z0 := Tryz.sizeOf0
  v0 := Tryz.zeroValue0
  t3 := Tryz.underlying3
  a3 := Tryz.isAgg3
  z3 := Tryz.sizeOf3
  v3 := Tryz.zeroValue3
  t4 := Tryz.underlying4
  a4 := Tryz.isAgg4
  z4 := Tryz.sizeOf4
  v4 := Tryz.zeroValue4
  t5 := Tryz.underlying5
  a5 := Tryz.isAgg5
  z5 := Tryz.sizeOf5
  v5 := Tryz.zeroValue5
  t9 := Tryz.underlying9
  a9 := Tryz.isAgg9
  z9 := Tryz.sizeOf9
  v9 := Tryz.zeroValue9
  t21 := Tryz.underlying21
  a21 := Tryz.isAgg21
  z21 := Tryz.sizeOf21
  v21 := Tryz.zeroValue21
  t31 := Tryz.underlying70
  a31 := Tryz.isAgg70
  z31 := Tryz.sizeOf70
  v31 := Tryz.zeroValue70
  t40 := Tryz.underlying104
  a40 := Tryz.isAgg104
  z40 := Tryz.sizeOf104
  v40 := Tryz.zeroValue104
  t46 := Tryz.underlying108
  a46 := Tryz.isAgg108
  z46 := Tryz.sizeOf108
  v46 := Tryz.zeroValue108
  t49 := Tryz.underlying131
  a49 := Tryz.isAgg131
  z49 := Tryz.sizeOf131
  v49 := Tryz.zeroValue131
  t51 := Tryz.underlying116
  a51 := Tryz.isAgg116
  z51 := Tryz.sizeOf116
  v51 := Tryz.zeroValue116
  t119 := Tryz.underlying102
  a119 := Tryz.isAgg102
  z119 := Tryz.sizeOf102
  t141 := Tryz.underlying118
  a141 := Tryz.isAgg118
  z141 := Tryz.sizeOf118
  v141 := Tryz.zeroValue118
  t152 := Tryz.underlying113
  a152 := Tryz.isAgg113
  z152 := Tryz.sizeOf113
  v152 := Tryz.zeroValue113
  t154 := Tryz.underlying115
  a154 := Tryz.isAgg115
  z154 := Tryz.sizeOf115
  v154 := Tryz.zeroValue115
  t193 := Tryz.underlying127
  a193 := Tryz.isAgg127
  z193 := Tryz.sizeOf127
  v193 := Tryz.zeroValue127
  t194 := Tryz.underlying128
  a194 := Tryz.isAgg128
  z194 := Tryz.sizeOf128
  v194 := Tryz.zeroValue128
  t196 := Tryz.underlying130
  a196 := Tryz.isAgg130
  z196 := Tryz.sizeOf130
  v196 := Tryz.zeroValue130
  t198 := Tryz.underlying133
  a198 := Tryz.isAgg133
  z198 := Tryz.sizeOf133
  v198 := Tryz.zeroValue133
  t201 := Tryz.underlying136
  a201 := Tryz.isAgg136
  z201 := Tryz.sizeOf136
  v201 := Tryz.zeroValue136
  t226 := Tryz.underlying142
  a226 := Tryz.isAgg142
  z226 := Tryz.sizeOf142
  v226 := Tryz.zeroValue142
  t227 := Tryz.underlying143
  a227 := Tryz.isAgg143
  z227 := Tryz.sizeOf143
  v227 := Tryz.zeroValue143
  g0 := by kernel_rfl
  g6 := by kernel_rfl
  i0 := by kernel_rfl
  i3 := by kernel_rfl
  i4 := by kernel_rfl
  i5 := by kernel_rfl
  i9 := by kernel_rfl
  i21 := by kernel_rfl
  i31 := by kernel_rfl
  i40 := by kernel_rfl
  i46 := by kernel_rfl
  i49 := by kernel_rfl
  i51 := by kernel_rfl
  i141 := by kernel_rfl
  i152 := by kernel_rfl
  i154 := by kernel_rfl
  i193 := by kernel_rfl
  i194 := by kernel_rfl
  i196 := by kernel_rfl
  i198 := by kernel_rfl
  i201 := by kernel_rfl
  i226 := by kernel_rfl
  i227 := by kernel_rfl
  m0 := by kernel_rfl
  m6 := by kernel_rfl }
open Go.RowKit Go.Lib in
theorem Tryz.strings_Fields_laid (s : ByteArray) (w : World) (hs : s.size < 4294967281) (hascii : ∀ (j : Nat) b, s.data.toList[j]? = some b → b.toNat < 128) (htab : Lib.TabIs Tryz.prog w "strings.asciiSpace" .u8 Lib.asciiSpaceTab) :
    Calls Tryz.prog 46 #[.string s] w fun e w' =>
      e = .returned (.slice (some ⟨w.heap.size, 0, none⟩) (Lib.fields s.data.toList).length (Lib.fields s.data.toList).length) ∧ w' = w.alloc (.cells ((Lib.fields s.data.toList).map fun l => Value.string ⟨l.toArray⟩).toArray 9) := Any.strings_Fields_laid Tryz.laysM157 s w hs hascii htab
end Go.Proofs
end
section
set_option linter.unusedVariables false
set_option linter.unusedSimpArgs false
namespace Go.Proofs.YtpgdmghhbbekjaaGreatDoor.L
open Go.RowKit Go.Proofs.YtpgdmghhbbekjaaGreatDoorW.PrintWords Go.Proofs.YtpgdmghhbbekjaaGreatDoorW.PrintLast Go.Maps
def wordsL : List (List UInt8) := [[110, 111, 100, 101], [102, 108, 111, 119], [114, 101, 116, 117, 114, 110, 115], [118, 97, 114], [108, 101, 116], [116, 101, 108], [105, 110, 116], [98, 111, 111, 108], [114, 97, 116, 101], [100, 117, 101], [105, 102], [116, 104, 101, 110], [101, 108, 115, 101], [97, 110, 100], [111, 114], [110, 111, 116], [116, 114, 117, 101], [102, 97, 108, 115, 101], [102, 98, 121], [116, 97, 105, 108]]
def Tb (w : World) : Prop := Lib.TabIs Tryz.prog w "strings.asciiSpace" .u8 Lib.asciiSpaceTab
theorem Tb.below {w w' : World} (h : Tb w) (hb : Below w.heap.size w w') : Tb w' := Lib.tabBelow_of_tabIs h w' hb
def boolR : Value → Option (DataW Unit × List MemPlace)
  | .bool x => some (.lit (.bool x), [])
  | _ => none
theorem boolR_inv {v : Value} {x : Bool} {ps : List MemPlace} (h : boolR v = some (.lit (.bool x), ps)) : v = .bool x := by
  unfold boolR at h
  split at h
  · simp at h
    rw [h.1]
  · simp at h
theorem keyS : Keyed Tryz.prog 9 := string_keyed Tryz.underlying9
theorem underM : Tryz.prog.underlying 58 = some (.map 9 4) := by kernel_rfl
theorem zeroB (w : World) : (zeroValue 4).run Tryz.prog w = .ok (.bool false) w := by kernel_rfl
theorem key_of {s : ByteArray} (hs : s.size ≤ maxLen) : keyOf Tryz.prog 9 (.string s) = some (.string s.data.toList) := WideMaps.keyOf_string_mk Tryz.underlying9 hs
def HS (W : World) (M n : Nat) (ks : List (List UInt8)) : Prop := ∃ D : DataW Unit, W.ownsMap Tryz.prog 9 boolR M n D ∧ ∀ k : List UInt8, D.atKey (.string k) (.lit (.bool false)) = .lit (.bool (decide (k ∈ ks)))
theorem HS.made (w : World) : HS (w.alloc (.map #[] 0)) w.heap.size 0 [] := ⟨_, World.ownsMap_made w Tryz.prog 9 boolR, fun k => (by rfl)⟩
theorem HS.lt {W : World} {M n : Nat} {ks : List (List UInt8)} (h : HS W M n ks) : M < W.heap.size := by
  obtain ⟨D, hD, _⟩ := h
  exact hD.lt
theorem HS.below {W W' : World} {M n : Nat} {ks : List (List UInt8)} (h : HS W M n ks) (hb : Below W.heap.size W W') : HS W' M n ks := by
  have hlt := h.lt
  obtain ⟨D, ⟨es, c, hh, r⟩, hD⟩ := h
  exact ⟨D, ⟨es, c, (hb.block M hlt).trans hh, r⟩, hD⟩
theorem HS.look {W : World} {M n : Nat} {ks : List (List UInt8)} (h : HS W M n ks) {s : ByteArray} (hs : s.size ≤ maxLen) : (Instr.lookup 58 (.map (some M)) (.string s) false).run Tryz.prog W = .ok (.bool (decide (s.data.toList ∈ ks))) W := by
  obtain ⟨D, hD, hat⟩ := h
  obtain ⟨v, ps, hrun, hv⟩ := hD.lookup keyS underM (zeroB W) (zd := .lit (.bool false)) (zp := []) rfl (key_of hs)
  rw [hat] at hv
  rw [hrun, boolR_inv hv]
theorem HS.put {W : World} {M n : Nat} {ks : List (List UInt8)} (h : HS W M n ks) (hn : n < 100000) {s : ByteArray} (hs : s.size ≤ maxLen) :
    ∃ W', (Instr.mapUpdate 58 (.map (some M)) (.string s) (.bool true)).run Tryz.prog W = .ok () W' ∧ HS W' M (n + 1) (ks ++ [s.data.toList]) ∧ W.grownBy W' (some M) := by
  obtain ⟨D, hD, hat⟩ := h
  obtain ⟨W', r, hD', hg⟩ := hD.update keyS underM (by unfold maxLen; omega) (key_of hs) (rfl : boolR (.bool true) = some (.lit (.bool true), []))
  refine ⟨W', r, ⟨_, hD', fun j => ?_⟩, hg⟩
  by_cases e : j = s.data.toList
  · subst e
    rw [atKey_put_same hD.isMap (keyS.key (key_of hs))]
    simp
  · rw [atKey_put_other (by simpa using e), hat j]
    simp [e]
theorem grown_below {B M : Nat} {w W W' : World} (hb : Below B w W) (hg : W.grownBy W' (some M)) (hM : B ≤ M) (hB : B ≤ w.heap.size) : Below B w W' :=
  ⟨hg.os.trans hb.os, hg.tape.trans hb.tape, hg.output.trans hb.output, Nat.le_trans hb.size hg.size, fun k hk => (hg.block k (Nat.lt_of_lt_of_le (Nat.lt_of_lt_of_le hk hB) hb.size) (fun e => by injection e with e; omega)).trans (hb.block k hk)⟩
def WordsIs (w : World) (e : Ending) (w' : World) : Prop := ∃ M n, e = .returned (.map (some M)) ∧ HS w' M n wordsL ∧ Below w.heap.size w w'
set_option maxHeartbeats 4000000 in
set_option maxRecDepth 100000 in
theorem words_calls (w : World) (htab : Tb w) : Calls Tryz.prog 24 #[] w (WordsIs w) := by
  have hmm := @run_makeMap Tryz.prog
  have HT := Aside0.mk (htab.below ((Below.refl _ _).alloc (Nat.le_refl _) (.map #[] 0)))
  have HM := Aside0.mk (HS.made w)
  have HB := Aside0.mk ((Below.refl w.heap.size w).alloc (Nat.le_refl _) (.map #[] 0))
  have HZ : Aside0 (w.heap.size < (w.alloc (.map #[] 0)).heap.size) := ⟨by simp⟩
  clear htab
  go_enter Tryz.func24, Tryz.ntmps24
  go_wp2_with fail
  refine (Tryz.strings_Fields_laid _ _ ?_ ?_ HT.out).mono ?_
  · decide +kernel
  · intro j b hj
    exact of_decide_eq_true (List.all_eq_true.1 (show List.all _ (fun b : UInt8 => decide (b.toNat < 128)) = true by decide +kernel) b (List.mem_of_getElem? hj))
  rintro e w' ⟨rfl, rfl⟩
  generalize hF : Lib.fields _ = F
  obtain rfl : wordsL = F := by rw [← hF]; decide +kernel
  clear hF
  have hlen : wordsL.length = 20 := rfl
  rw [hlen]
  have HM1 : Aside0 (HS ((w.alloc (.map #[] 0)).alloc (.cells (wordsL.map fun l => Value.string ⟨l.toArray⟩).toArray 9)) w.heap.size 0 []) := ⟨HM.out.below ((Below.refl _ _).alloc (Nat.le_refl _) _)⟩
  have HB1 : Aside0 (Below w.heap.size w ((w.alloc (.map #[] 0)).alloc (.cells (wordsL.map fun l => Value.string ⟨l.toArray⟩).toArray 9))) := ⟨HB.out.alloc (by simp) _⟩
  have HX : Aside0 (((w.alloc (.map #[] 0)).alloc (.cells (wordsL.map fun l => Value.string ⟨l.toArray⟩).toArray 9)).heap[w.heap.size + 1]? = some (.cells (wordsL.map fun l => Value.string ⟨l.toArray⟩).toArray 9 (0, 0))) := ⟨by
    have := heap_alloc_new (w.alloc (.map #[] 0)) (.cells (wordsL.map fun l => Value.string ⟨l.toArray⟩).toArray 9)
    simpa using this⟩
  clear HM HB HT hmm hlen
  have hbz : (w.alloc (.map #[] 0)).heap.size = w.heap.size + 1 := by simp
  rw [hbz]
  clear hbz
  generalize (w.alloc (.map #[] 0)).alloc (.cells (wordsL.map fun l => Value.string ⟨l.toArray⟩).toArray 9) = W1 at HM1 HB1 HX ⊢
  obtain ⟨post, hpost⟩ : ∃ p, WordsIs w = p := ⟨_, rfl⟩
  have HPO := Aside0.mk hpost
  clear hpost HZ
  obtain ⟨M, hM⟩ : ∃ M, w.heap.size = M := ⟨_, rfl⟩
  have HMM := Aside0.mk hM
  rw [hM] at HM1 HX ⊢
  clear hM
  go_wp2
  go_loopg [7] (20) (fun kq v7 wr => ∃ (i : Nat), v7 = .int .i64 (i : Int) ∧ Aside0 (kq + i = 20) ∧ Aside0 (HS wr M i (wordsL.take i)) ∧ Aside0 (Below w.heap.size w wr) ∧ Aside0 (wr.heap[M + 1]? = some (.cells (wordsL.map fun l => Value.string ⟨l.toArray⟩).toArray 9 (0, 0))))
  case atStart => exact ⟨0, rfl, ⟨rfl⟩, HM1, HB1, HX⟩
  case round =>
    obtain ⟨i, rfl, HK, HI, HBB, HXX⟩ := hrel
    by_cases hi : i < 20
    · have dl : decide ((i : Int) < 20) = true := decide_eq_true (by omega)
      obtain ⟨go, rfl⟩ : ∃ go, gk = go + 1 := ⟨gk - 1, by have := HK.out; omega⟩
      have hiw : i < wordsL.length := hi
      obtain ⟨u, hu⟩ : ∃ u, wordsL[i] = u := ⟨_, rfl⟩
      have hsz : u.length ≤ 100 := by
        have : ∀ v ∈ wordsL, v.length ≤ 100 := by decide
        exact this u (by rw [← hu]; exact List.getElem_mem hiw)
      obtain ⟨W2, hrun, hs2, hg⟩ := HI.out.put (by omega) (s := ⟨u.toArray⟩) (by show u.toArray.size ≤ _; simp [maxLen]; omega)
      have hcell : wr.cell? ⟨M + 1, i, none⟩ = some (.string ⟨u.toArray⟩) := by
        simp [World.cell?, HXX.out, ← hu, hiw]
      have hB2 := grown_below HBB.out hg (by rw [HMM.out]; exact Nat.le_refl _) (Nat.le_refl _)
      have e1 : wordsL.take i ++ [u] = wordsL.take (i + 1) := by rw [List.take_add_one, List.getElem?_eq_getElem hiw, hu]; rfl
      have e2 : (⟨u.toArray⟩ : ByteArray).data.toList = u := by simp
      rw [e2, e1] at hs2
      have HS2 := Aside0.mk hs2
      have HB2 := Aside0.mk hB2
      have HX2 : Aside0 (W2.heap[M + 1]? = some (.cells (wordsL.map fun l => Value.string ⟨l.toArray⟩).toArray 9 (0, 0))) := ⟨(hg.block (M + 1) (Array.getElem?_eq_some_iff.1 HXX.out).1 (by simp)).trans HXX.out⟩
      have hi2 : (i : Int) < 20 := by omega
      clear hs2 hB2 hg e1 e2 hu hsz HI HBB HXX hiw
      go_wp2
      go_roundg go
      case measure => omega
      case rel => exact ⟨i + 1, by simp, ⟨by have := HK.out; omega⟩, HS2, HB2, HX2⟩
    · have dl : decide ((i : Int) < 20) = false := decide_eq_false (by omega)
      have hi2 : i = 20 := by have := HK.out; omega
      have HI2 : Aside0 (HS wr M 20 wordsL) := ⟨by have := HI.out; rw [hi2] at this; exact this⟩
      clear hi2 HI hi
      go_wp2
      go_ret
      exact ⟨M, 20, rfl, HI2.out, HBB.out⟩
def wordB (s : ByteArray) : Bool := decide (s.data.toList ∈ wordsL)
theorem word_calls (s : ByteArray) (hs : s.size ≤ maxLen) (w : World) (htab : Tb w) : Calls Tryz.prog 12 #[.string s] w fun e w' => e = .returned (.bool (wordB s)) ∧ Below w.heap.size w w' := by
  have HT := Aside0.mk htab
  have HS0 := Aside0.mk hs
  clear htab hs
  obtain ⟨b, hb⟩ : ∃ b, wordB s = b := ⟨_, rfl⟩
  have HB := Aside0.mk hb
  rw [hb]
  clear hb
  go_enter Tryz.func12, Tryz.ntmps12
  go_wp2_with fail
  refine (words_calls w HT.out).mono ?_
  rintro e w' ⟨M, n, rfl, hs, hb⟩
  have hl := hs.look HS0.out
  rw [show decide (s.data.toList ∈ wordsL) = b from HB.out] at hl
  have HBB := Aside0.mk hb
  clear hs hb
  go_wp2
  go_ret
  exact ⟨rfl, HBB.out⟩
end Go.Proofs.YtpgdmghhbbekjaaGreatDoor.L
end
section
set_option linter.unusedVariables false
set_option linter.unusedSimpArgs false
namespace Go.Proofs.YtpgdmghhbbekjaaGreatDoor.L
open Go.RowKit Go.Proofs.YtpgdmghhbbekjaaGreatDoorW.PrintWords Go.Proofs.YtpgdmghhbbekjaaGreatDoorW.PrintLast Go.Maps
theorem len_list (s : ByteArray) : s.data.toList.length = s.size := by rw [Array.length_toList]; rfl
theorem bt_list (s : ByteArray) (i : Nat) : bt s (i : Int) = ((s.data.toList.getD i 0).toNat : Int) := by
  unfold bt
  by_cases h : i < s.size
  · have h' : ((i : Int)).toNat < s.size := by simpa using h
    rw [dif_pos h', List.getD_eq_getElem?_getD, List.getElem?_eq_getElem (by rw [len_list]; exact h)]
    rfl
  · have h' : ¬ ((i : Int)).toNat < s.size := by simpa using h
    rw [dif_neg h', List.getD_eq_getElem?_getD, List.getElem?_eq_none (by rw [len_list]; omega)]
    rfl
theorem ext_list (s : ByteArray) (a b : Nat) : (s.extract a b).data.toList = (s.data.toList.take b).drop a := by
  simp [ByteArray.data_extract, Array.toList_extract, List.extract, List.drop_take]
theorem ext_size (s : ByteArray) (a b : Nat) (h : b ≤ s.size) : (s.extract a b).size = b - a := by
  rw [← len_list, ext_list, List.length_drop, List.length_take, len_list]
  omega
theorem bt_ext (s : ByteArray) (a b i : Nat) (h : a + i < b) : bt (s.extract a b) (i : Int) = bt s ((a + i : Nat) : Int) := by
  rw [bt_list, bt_list, ext_list]
  simp only [List.getD_eq_getElem?_getD, List.getElem?_drop, List.getElem?_take]
  rw [if_pos h]
theorem spn_ext (p : Int → Bool) (s : ByteArray) (a b : Nat) : ∀ n i, a + i + n ≤ b → a + spn p (s.extract a b) n i = spn p s n (a + i)
  | 0, i, _ => rfl
  | n + 1, i, h => by
    rw [spn, spn, bt_ext s a b i (by omega)]
    split
    · rw [spn_ext p s a b n (i + 1) (by omega)]; rfl
    · rfl
def dash (s : ByteArray) (i : Nat) : Bool := decide (i + 1 < s.size) && (bt s (i : Int) == 45 && bt s ((i + 1 : Nat) : Int) == 45)
theorem dash_prefix (x : ByteArray) : Lib.hasPrefix x.data.toList [45, 45] = dash x 0 := by
  unfold dash Lib.hasPrefix
  rw [bt_list, bt_list]
  rw [← len_list]
  rcases x.data.toList with _ | ⟨a, _ | ⟨b, r⟩⟩
  · rfl
  · simp [List.isPrefixOf]
  · have key : ∀ c : UInt8, ((45 : UInt8) == c) = (((c.toNat : Nat) : Int) == 45) := by
      intro c
      by_cases e : c = 45
      · subst e; rfl
      · have h1 : ((45 : UInt8) == c) = false := by simpa using fun h => e h.symm
        have h2 : (((c.toNat : Nat) : Int) == 45) = false := by
          have : c.toNat ≠ 45 := fun h => e (by apply UInt8.toNat_inj.1; simpa using h)
          simp; omega
        rw [h1, h2]
    simp [List.isPrefixOf, key]
theorem dash_ext (s : ByteArray) (i : Nat) (hi : i ≤ s.size) : dash (s.extract i s.size) 0 = dash s i := by
  unfold dash
  rw [ext_size s i s.size (Nat.le_refl _)]
  by_cases h : i + 1 < s.size
  · rw [bt_ext s i s.size 0 (by omega), bt_ext s i s.size (0 + 1) (by omega)]
    simp [h]
    omega
  · have h1 : ¬ (0 + 1 < s.size - i) := by omega
    simp [h]
    omega
def blankB (c : Int) : Bool := decide (c = 32 ∨ c = 9 ∨ c = 10 ∨ c = 13)
def skp (s : ByteArray) : Nat → Nat → Nat
  | 0, i => i
  | n + 1, i => if i < s.size then (if bt s (i : Int) = 45 then (if dash s i = true then skp s n (spn lineB s (s.size - i) i) else i) else if blankB (bt s (i : Int)) = true then skp s n (i + 1) else i) else i
theorem spn_dash {s : ByteArray} {i : Nat} (h : dash s i = true) : i + 2 ≤ spn lineB s (s.size - i) i ∧ spn lineB s (s.size - i) i ≤ s.size := by
  unfold dash at h
  simp only [Bool.and_eq_true, decide_eq_true_eq, beq_iff_eq] at h
  obtain ⟨h1, h2, h3⟩ := h
  obtain ⟨k, hk⟩ : ∃ k, s.size - i = k + 2 := ⟨s.size - i - 2, by omega⟩
  rw [hk, spn, if_pos (by rw [h2]; rfl), spn, if_pos (by rw [show ((i + 1 : Nat) : Int) = ((i + 1 : Nat) : Int) from rfl, h3]; rfl)]
  have := spn_le lineB s k (i + 1 + 1)
  omega
theorem skp_le (s : ByteArray) : ∀ n i, i ≤ s.size → i ≤ skp s n i ∧ skp s n i ≤ s.size
  | 0, i, h => ⟨Nat.le_refl _, h⟩
  | n + 1, i, h => by
    rw [skp]
    by_cases h1 : i < s.size
    · rw [if_pos h1]
      by_cases h2 : bt s (i : Int) = 45
      · rw [if_pos h2]
        by_cases h3 : dash s i = true
        · rw [if_pos h3]
          have := spn_dash h3
          have := skp_le s n _ this.2
          omega
        · rw [if_neg h3]; omega
      · rw [if_neg h2]
        split
        · have := skp_le s n (i + 1) (by omega)
          omega
        · omega
    · rw [if_neg h1]; omega
end Go.Proofs.YtpgdmghhbbekjaaGreatDoor.L
end
section
set_option linter.unusedVariables false
set_option linter.unusedSimpArgs false
namespace Go.Proofs.YtpgdmghhbbekjaaGreatDoor.L
open Go.RowKit Go.Proofs.YtpgdmghhbbekjaaGreatDoorW.PrintWords Go.Proofs.YtpgdmghhbbekjaaGreatDoorW.PrintLast Go.Maps
theorem rest_calls (s : ByteArray) (hs : s.size ≤ 140737488355328) (i : Nat) (hi : i ≤ s.size) (w : World) :
    Calls Tryz.prog 26 #[.string (s.extract i s.size), .func (.func 29) #[] #[]] w fun e w' => e = .returned (.int .i64 ((spn lineB s (s.size - i) i : Nat) - (i : Int))) ∧ w = w' := by
  have hz := ext_size s i s.size (Nat.le_refl _)
  refine (span_calls 29 lineB (fun c w _ _ => line_calls w) (enters_of Tryz.func29 (by kernel_rfl) rfl) (s.extract i s.size) (by omega) w).mono ?_
  rintro e w' ⟨rfl, rfl⟩
  have := spn_ext lineB s i s.size (s.size - i) 0 (by omega)
  rw [hz]
  refine ⟨?_, rfl⟩
  congr 2
  rw [Nat.add_zero] at this
  omega
set_option maxHeartbeats 4000000 in
set_option maxRecDepth 100000 in
theorem skip_calls (s : ByteArray) (hs : s.size ≤ 140737488355328) (i0 : Nat) (hi0 : i0 ≤ s.size) (w : World) :
    Calls Tryz.prog 15 #[.string s, .int .i64 (i0 : Int)] w fun e w' => e = .returned (.int .i64 (skp s s.size i0 : Nat)) ∧ w = w' := by
  obtain ⟨res, hres⟩ : ∃ r : Nat, skp s s.size i0 = r := ⟨_, rfl⟩
  rw [hres]
  have HR := Aside0.mk hres
  have HS := Aside0.mk hs
  have H0 := Aside0.mk hi0
  clear hres hs hi0
  go_enter Tryz.func15, Tryz.ntmps15
  go_wp2
  go_loopg [1] (s.size) (fun kq v1 wr => ∃ (i : Nat), v1 = .int .i64 (i : Int) ∧ Aside0 (s.size ≤ kq + i ∧ i ≤ s.size) ∧ Aside0 (skp s kq i = res) ∧ w = wr)
  case atStart => exact ⟨i0, rfl, ⟨by omega, H0.out⟩, HR, rfl⟩
  case round =>
    clear H0 HR
    obtain ⟨i, rfl, HK, HI, rfl⟩ := hrel
    have hsz := HS.out
    by_cases hi : i < s.size
    · have dl : decide (i < s.size) = true := decide_eq_true hi
      have dl2 : decide ((i : Int) < (s.size : Int)) = true := decide_eq_true (by omega)
      obtain ⟨go, rfl⟩ : ∃ go, gk = go + 1 := ⟨gk - 1, by have := HK.out; omega⟩
      have hsp := HI.out
      rw [skp, if_pos hi] at hsp
      obtain ⟨c, hc⟩ : ∃ c, bt s (i : Int) = c := ⟨_, rfl⟩
      have hx6 : ((s[i]'hi).toNat : Int) = c := by have := bt_at s (i : Int) (by simpa using hi); rw [← hc]; simpa using this
      rw [hc] at hsp
      have HC := Aside0.mk hc
      clear hc
      have q6 : ((i : Int) < (s.size : Int)) = True := eq_true (by omega)
      have q7 : ((i : Int) ≤ (s.size : Int)) = True := eq_true (by omega)
      have q8 : i ≤ s.size := by omega
      have p6 : (0 ≤ (i : Int)) = True := eq_true (by omega)
      by_cases h45 : c = 45
      · rw [if_pos h45] at hsp
        have d45 : (c == 45) = true := by simpa using h45
        have HSP := Aside0.mk hsp
        clear hsp h45 HI
        go_wp2_with fail
        refine (Tryz.strings_HasPrefix (s.extract i s.size) ⟨#[45, 45]⟩ w).mono ?_
        rintro e w' ⟨rfl, rfl⟩
        have hd : Lib.hasPrefix (s.extract i s.size).data.toList (⟨#[45, 45]⟩ : ByteArray).data.toList = dash s i := (dash_prefix _).trans (dash_ext s i q8)
        rw [hd]
        clear hd
        cases hb : dash s i with
        | true =>
          have HD := Aside0.mk hb
          have hsp := HSP.out
          rw [if_pos hb] at hsp
          obtain ⟨m, hm⟩ : ∃ m, spn lineB s (s.size - i) i = m := ⟨_, rfl⟩
          have hrc := rest_calls s hsz i q8 w'
          have hmd := spn_dash hb
          rw [hm] at hsp hrc hmd
          have HM := Aside0.mk hmd
          have HSP2 := Aside0.mk hsp
          have HRC := Aside0.mk hrc
          have hmi : (i : Int) ≤ (m : Int) := by omega
          have hmi2 : (m : Int) ≤ 140737488355328 := by omega
          clear hb hsp hm HSP hrc hmd
          go_wp2_with fail
          refine HRC.out.mono ?_
          rintro e w'' ⟨rfl, rfl⟩
          clear hx6 HC HRC
          have hsum : wrap64 ((i : Int) + ((m : Int) - (i : Int))) = (m : Int) := by unfold wrap64; omega
          go_wp2
          go_roundg go
          case measure => omega
          case rel => exact ⟨m, by first | rfl | (congr 1; omega), ⟨by have := HK.out; have := HM.out; omega⟩, HSP2, rfl⟩
        | false =>
          have hsp := HSP.out
          rw [if_neg (by rw [hb]; decide)] at hsp
          subst hsp
          clear hb HSP hx6 HC
          go_wp2
          go_ret
          exact ⟨rfl, rfl⟩
      · rw [if_neg h45] at hsp
        have d45 : (c == 45) = false := by simpa using h45
        cases hb : blankB c with
        | true =>
          rw [hb, if_pos rfl] at hsp
          have HSP := Aside0.mk hsp
          have hb2 : c = 32 ∨ c = 9 ∨ c = 10 ∨ c = 13 := by simpa [blankB] using hb
          clear hsp h45 hb HI HC
          rcases hb2 with rfl | rfl | rfl | rfl
          all_goals
            go_wp2
            go_roundg go
            case measure => omega
            case rel => exact ⟨i + 1, by simp, ⟨by have := HK.out; omega⟩, HSP, rfl⟩
        | false =>
          rw [hb, if_neg (by decide)] at hsp
          have hb2 : ¬ (c = 32 ∨ c = 9 ∨ c = 10 ∨ c = 13) := by simpa [blankB] using hb
          have e1 : (c == 32) = false := by simp; omega
          have e2 : (c == 9) = false := by simp; omega
          have e3 : (c == 10) = false := by simp; omega
          have e4 : (c == 13) = false := by simp; omega
          subst hsp
          clear h45 hb hb2 HI HC
          go_wp2
          go_ret
          exact ⟨rfl, rfl⟩
    · have dl : decide (i < s.size) = false := decide_eq_false hi
      have dl2 : decide ((i : Int) < (s.size : Int)) = false := decide_eq_false (by omega)
      have hsp : i = res := by
        have := HI.out
        cases gk with
        | zero => rw [skp] at this; exact this
        | succ n => rw [skp, if_neg hi] at this; exact this
      subst hsp
      clear HI hi
      go_wp2
      go_ret
      exact ⟨rfl, rfl⟩
end Go.Proofs.YtpgdmghhbbekjaaGreatDoor.L
end
section
set_option linter.unusedVariables false
set_option linter.unusedSimpArgs false
namespace Go.Proofs.YtpgdmghhbbekjaaGreatDoor.L
open Go.RowKit Go.Proofs.YtpgdmghhbbekjaaGreatDoorW.PrintWords Go.Proofs.YtpgdmghhbbekjaaGreatDoorW.PrintLast Go.Maps
def secB (s : ByteArray) (x : UInt8) : Bool := decide (1 < s.size) && (bt s 1 == (x.toNat : Int))
def secN (b : Bool) : Int := if b = true then 2 else 1
theorem idx_one (x : UInt8) (c : Int) (h0 : 0 ≤ c) (h1 : c ≤ 255) : decide (0 ≤ Lib.indexByte (⟨#[x]⟩ : ByteArray).data.toList c.toNat.toUInt8) = (c == (x.toNat : Int)) := by
  have hx : x.toNat < 256 := x.toNat_lt
  by_cases e : c = (x.toNat : Int)
  · subst e
    simp [Lib.indexByte]
  · have h2 : x ≠ c.toNat.toUInt8 := fun h => e (by
      have := congrArg UInt8.toNat h
      simp at this
      omega)
    have h3 : (c == (x.toNat : Int)) = false := by simpa using e
    rw [h3]
    simp [Lib.indexByte, h2, Ne.symm h2]
theorem sec_calls (s : ByteArray) (x : UInt8) (B : Nat) (w : World) (hc : w.cell? ⟨B, 0, none⟩ = some (.string s)) :
    Calls Tryz.prog 50 #[.string ⟨#[x]⟩, .pointer (some ⟨B, 0, none⟩)] w fun e w' => e = .returned (.int .i64 (secN (secB s x))) ∧ w = w' := by
  by_cases h1 : 1 < s.size
  · have d1 : decide (1 < s.size) = true := decide_eq_true h1
    have d2 : decide ((1 : Int) < (s.size : Int)) = true := decide_eq_true (by omega)
    obtain ⟨c, hbc⟩ : ∃ c, bt s 1 = c := ⟨_, rfl⟩
    have hx6 : ((s[1]'h1).toNat : Int) = c := by have := bt_at s 1 (by simpa using h1); rw [← hbc]; simpa using this
    have q6 : ((1 : Int) < (s.size : Int)) = True := eq_true (by omega)
    obtain ⟨b0, b1⟩ := bt_range s 1
    rw [hbc] at b0 b1
    have hix := idx_one x c b0 b1
    have e0 : secB s x = (c == (x.toNat : Int)) := by unfold secB; rw [d1, hbc]; simp
    rw [e0]
    obtain ⟨b, hb⟩ : ∃ b, (c == (x.toNat : Int)) = b := ⟨_, rfl⟩
    rw [hb] at hix ⊢
    obtain ⟨y, hy⟩ : ∃ y, Lib.indexByte (⟨#[x]⟩ : ByteArray).data.toList c.toNat.toUInt8 = y := ⟨_, rfl⟩
    rw [hy] at hix
    have HY := Aside0.mk hy
    clear hy e0 hb b0 b1 hbc
    cases b with
    | true =>
      go_enter Tryz.func50, Tryz.ntmps50
      go_wp2_with fail
      refine (Tryz.strings_IndexByte _ _ _).mono ?_
      rintro e w' ⟨rfl, rfl⟩
      rw [HY.out]
      go_wp2
      go_ret
      exact ⟨rfl, rfl⟩
    | false =>
      go_enter Tryz.func50, Tryz.ntmps50
      go_wp2_with fail
      refine (Tryz.strings_IndexByte _ _ _).mono ?_
      rintro e w' ⟨rfl, rfl⟩
      rw [HY.out]
      go_wp2
      go_ret
      exact ⟨rfl, rfl⟩
  · have d1 : decide (1 < s.size) = false := decide_eq_false h1
    have d2 : decide ((1 : Int) < (s.size : Int)) = false := decide_eq_false (by omega)
    have e0 : secB s x = false := by unfold secB; rw [d1]; rfl
    rw [e0]
    clear h1 e0
    go_enter Tryz.func50, Tryz.ntmps50
    go_wp2
    go_ret
    exact ⟨rfl, rfl⟩
def sgnN (s : ByteArray) : Nat :=
  if bt s 0 = 126 then (if secB s 62 = true then 2 else 0)
  else if bt s 0 = 42 ∨ bt s 0 = 47 then (if secB s 94 = true then 2 else 1)
  else if bt s 0 = 58 then (if secB s 58 = true then 2 else 1)
  else if bt s 0 = 60 then (if secB s 62 = true then 2 else if secB s 61 = true then 2 else 1)
  else if bt s 0 = 62 then (if secB s 61 = true then 2 else 1)
  else if bt s 0 = 40 ∨ bt s 0 = 41 ∨ bt s 0 = 59 ∨ bt s 0 = 44 ∨ bt s 0 = 61 ∨ bt s 0 = 43 ∨ bt s 0 = 45 ∨ bt s 0 = 37 then 1
  else 0
theorem sgn_le (s : ByteArray) (h : 0 < s.size) : sgnN s ≤ s.size := by
  have key : ∀ x, secB s x = true → 2 ≤ s.size := fun x hx => by
    unfold secB at hx
    simp at hx
    omega
  have k62 := key 62
  have k94 := key 94
  have k58 := key 58
  have k61 := key 61
  unfold sgnN
  repeat' split
  all_goals first | omega | (rename_i hh; have := k62 hh; omega) | (rename_i hh; have := k94 hh; omega) | (rename_i hh; have := k58 hh; omega) | (rename_i hh; have := k61 hh; omega)
end Go.Proofs.YtpgdmghhbbekjaaGreatDoor.L
end
section
set_option linter.unusedVariables false
set_option linter.unusedSimpArgs false
namespace Go.Proofs.YtpgdmghhbbekjaaGreatDoor.L
open Go.RowKit Go.Proofs.YtpgdmghhbbekjaaGreatDoorW.PrintWords Go.Proofs.YtpgdmghhbbekjaaGreatDoorW.PrintLast Go.Maps
set_option maxHeartbeats 8000000 in
set_option maxRecDepth 100000 in
theorem sign_calls (s : ByteArray) (h0 : 0 < s.size) (w : World) : Calls Tryz.prog 32 #[.string s] w fun e w' => e = .returned (.int .i64 (sgnN s : Nat)) ∧ Below w.heap.size w w' := by
  have hmf : ∀ (fn : Fn) (first cap : Array Value) (w : World), (Instr.makeFunc fn first cap).run Tryz.prog w = .ok (.func fn first cap) w := fun _ _ _ _ => rfl
  have HB := Aside0.mk ((Below.refl w.heap.size w).alloc (Nat.le_refl _) (.cells #[.string s] (9 : Nat)))
  have hcell : (w.alloc (.cells #[.string s] (9 : Nat))).cell? ⟨w.heap.size, 0, none⟩ = some (.string s) := by simp
  have HC := Aside0.mk hcell
  obtain ⟨c, hbc⟩ : ∃ c, bt s 0 = c := ⟨_, rfl⟩
  have hx6 : ((s[0]'h0).toNat : Int) = c := by have := bt_at s 0 (by simpa using h0); rw [← hbc]; simpa using this
  have q6 : ((0 : Int) < (s.size : Int)) = True := eq_true (by omega)
  obtain ⟨res, hres⟩ : ∃ r : Nat, sgnN s = r := ⟨_, rfl⟩
  rw [hres]
  unfold sgnN at hres
  rw [hbc] at hres
  clear hcell hbc
  by_cases e126 : c = 126
  · subst e126
    cases hb : secB s 62 with
    | true =>
      obtain rfl : 2 = res := by rw [hb] at hres; simpa using hres
      have HBB := Aside0.mk hb
      clear hres hb
      go_enter Tryz.func32, Tryz.ntmps32
      go_wp2_with fail
      refine (sec_calls s 62 _ _ HC.out).mono ?_
      rintro e w' ⟨rfl, rfl⟩
      rw [HBB.out]
      unfold secN
      go_wp2
      go_ret
      exact ⟨rfl, HB.out⟩
    | false =>
      obtain rfl : 0 = res := by rw [hb] at hres; simpa using hres
      have HBB := Aside0.mk hb
      clear hres hb
      go_enter Tryz.func32, Tryz.ntmps32
      go_wp2_with fail
      refine (sec_calls s 62 _ _ HC.out).mono ?_
      rintro e w' ⟨rfl, rfl⟩
      rw [HBB.out]
      unfold secN
      go_wp2
      go_ret
      exact ⟨rfl, HB.out⟩
  by_cases e42 : c = 42
  · subst e42
    cases hb : secB s 94 with
    | true =>
      obtain rfl : 2 = res := by rw [hb] at hres; simpa using hres
      have HBB := Aside0.mk hb
      clear hres hb
      go_enter Tryz.func32, Tryz.ntmps32
      go_wp2_with fail
      refine (sec_calls s 94 _ _ HC.out).mono ?_
      rintro e w' ⟨rfl, rfl⟩
      rw [HBB.out]
      unfold secN
      go_wp2
      go_ret
      exact ⟨rfl, HB.out⟩
    | false =>
      obtain rfl : 1 = res := by rw [hb] at hres; simpa using hres
      have HBB := Aside0.mk hb
      clear hres hb
      go_enter Tryz.func32, Tryz.ntmps32
      go_wp2_with fail
      refine (sec_calls s 94 _ _ HC.out).mono ?_
      rintro e w' ⟨rfl, rfl⟩
      rw [HBB.out]
      unfold secN
      go_wp2
      go_ret
      exact ⟨rfl, HB.out⟩
  by_cases e47 : c = 47
  · subst e47
    cases hb : secB s 94 with
    | true =>
      obtain rfl : 2 = res := by rw [hb] at hres; simpa using hres
      have HBB := Aside0.mk hb
      clear hres hb
      go_enter Tryz.func32, Tryz.ntmps32
      go_wp2_with fail
      refine (sec_calls s 94 _ _ HC.out).mono ?_
      rintro e w' ⟨rfl, rfl⟩
      rw [HBB.out]
      unfold secN
      go_wp2
      go_ret
      exact ⟨rfl, HB.out⟩
    | false =>
      obtain rfl : 1 = res := by rw [hb] at hres; simpa using hres
      have HBB := Aside0.mk hb
      clear hres hb
      go_enter Tryz.func32, Tryz.ntmps32
      go_wp2_with fail
      refine (sec_calls s 94 _ _ HC.out).mono ?_
      rintro e w' ⟨rfl, rfl⟩
      rw [HBB.out]
      unfold secN
      go_wp2
      go_ret
      exact ⟨rfl, HB.out⟩
  by_cases e58 : c = 58
  · subst e58
    cases hb : secB s 58 with
    | true =>
      obtain rfl : 2 = res := by rw [hb] at hres; simpa using hres
      have HBB := Aside0.mk hb
      clear hres hb
      go_enter Tryz.func32, Tryz.ntmps32
      go_wp2_with fail
      refine (sec_calls s 58 _ _ HC.out).mono ?_
      rintro e w' ⟨rfl, rfl⟩
      rw [HBB.out]
      unfold secN
      go_wp2
      go_ret
      exact ⟨rfl, HB.out⟩
    | false =>
      obtain rfl : 1 = res := by rw [hb] at hres; simpa using hres
      have HBB := Aside0.mk hb
      clear hres hb
      go_enter Tryz.func32, Tryz.ntmps32
      go_wp2_with fail
      refine (sec_calls s 58 _ _ HC.out).mono ?_
      rintro e w' ⟨rfl, rfl⟩
      rw [HBB.out]
      unfold secN
      go_wp2
      go_ret
      exact ⟨rfl, HB.out⟩
  by_cases e60 : c = 60
  · subst e60
    cases hb : secB s 62 with
    | true =>
      obtain rfl : 2 = res := by rw [hb] at hres; simpa using hres
      have HBB := Aside0.mk hb
      clear hres hb
      go_enter Tryz.func32, Tryz.ntmps32
      go_wp2_with fail
      refine (sec_calls s 62 _ _ HC.out).mono ?_
      rintro e w' ⟨rfl, rfl⟩
      rw [HBB.out]
      unfold secN
      go_wp2
      go_ret
      exact ⟨rfl, HB.out⟩
    | false =>
      cases hb2 : secB s 61 with
      | true =>
        obtain rfl : 2 = res := by rw [hb, hb2] at hres; simpa using hres
        have HBB := Aside0.mk hb
        have HBC := Aside0.mk hb2
        clear hres hb hb2
        go_enter Tryz.func32, Tryz.ntmps32
        go_wp2_with fail
        refine (sec_calls s 62 _ _ HC.out).mono ?_
        rintro e w' ⟨rfl, rfl⟩
        rw [HBB.out]
        unfold secN
        go_wp2_with fail
        refine (sec_calls s 61 _ _ HC.out).mono ?_
        rintro e w' ⟨rfl, rfl⟩
        rw [HBC.out]
        unfold secN
        go_wp2
        go_ret
        exact ⟨rfl, HB.out⟩
      | false =>
        obtain rfl : 1 = res := by rw [hb, hb2] at hres; simpa using hres
        have HBB := Aside0.mk hb
        have HBC := Aside0.mk hb2
        clear hres hb hb2
        go_enter Tryz.func32, Tryz.ntmps32
        go_wp2_with fail
        refine (sec_calls s 62 _ _ HC.out).mono ?_
        rintro e w' ⟨rfl, rfl⟩
        rw [HBB.out]
        unfold secN
        go_wp2_with fail
        refine (sec_calls s 61 _ _ HC.out).mono ?_
        rintro e w' ⟨rfl, rfl⟩
        rw [HBC.out]
        unfold secN
        go_wp2
        go_ret
        exact ⟨rfl, HB.out⟩
  by_cases e62 : c = 62
  · subst e62
    cases hb : secB s 61 with
    | true =>
      obtain rfl : 2 = res := by rw [hb] at hres; simpa using hres
      have HBB := Aside0.mk hb
      clear hres hb
      go_enter Tryz.func32, Tryz.ntmps32
      go_wp2_with fail
      refine (sec_calls s 61 _ _ HC.out).mono ?_
      rintro e w' ⟨rfl, rfl⟩
      rw [HBB.out]
      unfold secN
      go_wp2
      go_ret
      exact ⟨rfl, HB.out⟩
    | false =>
      obtain rfl : 1 = res := by rw [hb] at hres; simpa using hres
      have HBB := Aside0.mk hb
      clear hres hb
      go_enter Tryz.func32, Tryz.ntmps32
      go_wp2_with fail
      refine (sec_calls s 61 _ _ HC.out).mono ?_
      rintro e w' ⟨rfl, rfl⟩
      rw [HBB.out]
      unfold secN
      go_wp2
      go_ret
      exact ⟨rfl, HB.out⟩
  by_cases e40 : c = 40
  · subst e40
    obtain rfl : 1 = res := by simpa using hres
    clear hres
    go_enter Tryz.func32, Tryz.ntmps32
    go_wp2
    go_ret
    exact ⟨rfl, HB.out⟩
  by_cases e41 : c = 41
  · subst e41
    obtain rfl : 1 = res := by simpa using hres
    clear hres
    go_enter Tryz.func32, Tryz.ntmps32
    go_wp2
    go_ret
    exact ⟨rfl, HB.out⟩
  by_cases e59 : c = 59
  · subst e59
    obtain rfl : 1 = res := by simpa using hres
    clear hres
    go_enter Tryz.func32, Tryz.ntmps32
    go_wp2
    go_ret
    exact ⟨rfl, HB.out⟩
  by_cases e44 : c = 44
  · subst e44
    obtain rfl : 1 = res := by simpa using hres
    clear hres
    go_enter Tryz.func32, Tryz.ntmps32
    go_wp2
    go_ret
    exact ⟨rfl, HB.out⟩
  by_cases e61 : c = 61
  · subst e61
    obtain rfl : 1 = res := by simpa using hres
    clear hres
    go_enter Tryz.func32, Tryz.ntmps32
    go_wp2
    go_ret
    exact ⟨rfl, HB.out⟩
  by_cases e43 : c = 43
  · subst e43
    obtain rfl : 1 = res := by simpa using hres
    clear hres
    go_enter Tryz.func32, Tryz.ntmps32
    go_wp2
    go_ret
    exact ⟨rfl, HB.out⟩
  by_cases e45 : c = 45
  · subst e45
    obtain rfl : 1 = res := by simpa using hres
    clear hres
    go_enter Tryz.func32, Tryz.ntmps32
    go_wp2
    go_ret
    exact ⟨rfl, HB.out⟩
  by_cases e37 : c = 37
  · subst e37
    obtain rfl : 1 = res := by simpa using hres
    clear hres
    go_enter Tryz.func32, Tryz.ntmps32
    go_wp2
    go_ret
    exact ⟨rfl, HB.out⟩
  obtain rfl : 0 = res := by simpa [e126, e42, e47, e58, e60, e62, e40, e41, e59, e44, e61, e43, e45, e37] using hres
  have d126 : (c == 126) = false := by simpa using e126
  have d42 : (c == 42) = false := by simpa using e42
  have d47 : (c == 47) = false := by simpa using e47
  have d58 : (c == 58) = false := by simpa using e58
  have d60 : (c == 60) = false := by simpa using e60
  have d62 : (c == 62) = false := by simpa using e62
  have d40 : (c == 40) = false := by simpa using e40
  have d41 : (c == 41) = false := by simpa using e41
  have d59 : (c == 59) = false := by simpa using e59
  have d44 : (c == 44) = false := by simpa using e44
  have d61 : (c == 61) = false := by simpa using e61
  have d43 : (c == 43) = false := by simpa using e43
  have d45 : (c == 45) = false := by simpa using e45
  have d37 : (c == 37) = false := by simpa using e37
  clear hres e126 e42 e47 e58 e60 e62 e40 e41 e59 e44 e61 e43 e45 e37
  go_enter Tryz.func32, Tryz.ntmps32
  go_wp2
  go_ret
  exact ⟨rfl, HB.out⟩
end Go.Proofs.YtpgdmghhbbekjaaGreatDoor.L
end
section
set_option linter.unusedVariables false
set_option linter.unusedSimpArgs false
namespace Go.Proofs.YtpgdmghhbbekjaaGreatDoor.L
open Go.RowKit Go.Proofs.YtpgdmghhbbekjaaGreatDoorW.PrintWords Go.Proofs.YtpgdmghhbbekjaaGreatDoorW.PrintLast Go.Maps
structure Tk where
  k : Int
  t : ByteArray
  n : Int
  a : Int
def tkA (t : Tk) : Array Value := #[.int .u8 t.k, .string t.t, .int .i64 t.n, .int .i64 t.a]
def errV (at_ e : Int) : Value := .iface 63 (.agg #[.int .i64 at_, .int .i64 e])
theorem fault_calls (at_ e0 : Int) (w : World) : Calls Tryz.prog 14 #[.int .i64 at_, .int .i64 e0] w fun e w' => e = .returned (errV at_ e0) ∧ w = w' := by
  go_enter Tryz.func14, Tryz.ntmps14
  go_wp2
  go_ret
  exact ⟨rfl, rfl⟩
theorem underT : ∃ fs, Tryz.prog.underlying 39 = some (.struct fs) := by
  have h : (Tryz.prog.underlying 39).map (fun d => match d with | .struct _ => true | _ => false) = some true := by kernel_rfl
  cases hd : Tryz.prog.underlying 39 with
  | none => rw [hd] at h; cases h
  | some d =>
    rw [hd] at h
    cases d <;> simp at h
    exact ⟨_, rfl⟩
theorem infoT : (Tryz.prog.info? 39).map (·.size) = some 4 := by kernel_rfl
theorem zeroT (w : World) : (zeroValue 39).run Tryz.prog w = .ok (.agg #[.int .u8 0, .string ⟨#[]⟩, .int .i64 0, .int .i64 0]) w := by kernel_rfl
theorem tk_store {W : World} {g : Nat} {t : TypeId} {cs cs' : Array Value} (h : W.heap[g]? = some (.cells cs t (0, 0))) (h4 : cs.size = 4) (h4' : cs'.size = 4) (h1 : cs'.all (·.oneCell') = true) : (Instr.storeAt 39 (.pointer (some ⟨g, 0, none⟩)) (.agg cs')).run Tryz.prog W = .ok () (W.setRow g cs') := by
  have := run_storeVar_row (P := Tryz.prog) W g t 39 cs cs' h (by rw [infoT, h4']) (by rw [h4, h4']) h1
  simp only [Instr.storeAt, Instr.sureAddr, Sem.run_bind, Sem.run_pure, Result.andThen]
  exact this
theorem tk_load {W : World} {g : Nat} {t : TypeId} {cs : Array Value} (h : W.heap[g]? = some (.cells cs t (0, 0))) (h4 : cs.size = 4) : (Instr.loadAt 39 (.pointer (some ⟨g, 0, none⟩))).run Tryz.prog W = .ok (.agg cs) W := by
  obtain ⟨fs, hu⟩ := underT
  have := run_loadAt_mid (P := Tryz.prog) W g 0 39 cs.toList (.struct fs) (fun j v hv => by
    have hv' : cs[j]? = some v := by simpa using hv
    simp [World.cell?, h, hv']) hu rfl (by rw [infoT, Array.length_toList, h4])
  simpa using this
theorem wpList_tkstore {ops : Array Oper} {rest : List Oper} {op : Oper} {a : Act} {w : World} {Q : Exit → Act → World → Prop} (hgd : op.guard = none) (x y : Operand) (ho : op.op = .store 39 x y) {g : Nat} (hx : a.eval x = .pointer (some ⟨g, 0, none⟩)) {t : TypeId} {cs cs' : Array Value}
    (hy : a.eval y = .agg cs') (hb : w.heap[g]? = some (.cells cs t (0, 0))) (h4 : cs.size = 4) (h4' : cs'.size = 4) (h1 : cs'.all (·.oneCell') = true) (h : wpList Tryz.prog ops Q rest (a.put op.dst undef) (w.setRow g cs')) : wpList Tryz.prog ops Q (op :: rest) a w := by
  refine wpList_plain hgd fun _ hK => ?_
  unfold Oper.wp execOp
  simp only [ho, hx, hy, Sem.run_bind, Result.andThen_ok, tk_store hb h4 h4' h1]
  exact hK _ _ h
theorem wpList_tkload {ops : Array Oper} {rest : List Oper} {op : Oper} {a : Act} {w : World} {Q : Exit → Act → World → Prop} (hgd : op.guard = none) (x : Operand) (ho : op.op = .load 39 x) {g : Nat} (hx : a.eval x = .pointer (some ⟨g, 0, none⟩)) {t : TypeId} {cs : Array Value}
    (hb : w.heap[g]? = some (.cells cs t (0, 0))) (h4 : cs.size = 4) (h : wpList Tryz.prog ops Q rest (a.put op.dst (.agg cs)) w) : wpList Tryz.prog ops Q (op :: rest) a w := by
  refine wpList_plain hgd fun _ hK => ?_
  unfold Oper.wp execOp
  simp only [ho, hx, Sem.run_bind, Result.andThen_ok, tk_load hb h4]
  exact hK _ _ h
theorem tk_store_run {oi : Oper} {a : Act} {W : World} (x y : Operand) (ho : oi.op = .store 39 x y) {g : Nat} (hx : a.eval x = .pointer (some ⟨g, 0, none⟩)) {t : TypeId} {cs cs' : Array Value} (hy : a.eval y = .agg cs') (hb : W.heap[g]? = some (.cells cs t (0, 0))) (h4 : cs.size = 4) (h4' : cs'.size = 4) (h1 : cs'.all (·.oneCell') = true) :
    (execOp a.eval oi).run Tryz.prog W = .ok .skip (W.setRow g cs') := by
  unfold execOp
  simp only [ho, hx, hy, Sem.run_bind, Result.andThen_ok, tk_store hb h4 h4' h1, Sem.run_pure]
theorem cells4 {W : World} {g : Nat} {t : TypeId} {a b c d : Value} (h : W.heap[g]? = some (.cells #[a, b, c, d] t (0, 0))) : (W.cell? ⟨g, 0, none⟩ = some a ∧ W.cell? ⟨g, 1, none⟩ = some b ∧ W.cell? ⟨g, 2, none⟩ = some c ∧ W.cell? ⟨g, 3, none⟩ = some d) ∧ ∀ j, W.frozen? ⟨g, j, none⟩ = false := by
  refine ⟨by simp [World.cell?, h], fun j => by simp [World.frozen?, h]⟩
theorem set4 {W : World} {g : Nat} {t : TypeId} {a b c d : Value} (h : W.heap[g]? = some (.cells #[a, b, c, d] t (0, 0))) (v : Value) :
    (W.setCell ⟨g, 0, none⟩ v).heap[g]? = some (.cells #[v, b, c, d] t (0, 0)) ∧ (W.setCell ⟨g, 1, none⟩ v).heap[g]? = some (.cells #[a, v, c, d] t (0, 0)) ∧ (W.setCell ⟨g, 2, none⟩ v).heap[g]? = some (.cells #[a, b, v, d] t (0, 0)) := by
  refine ⟨by simp [World.setCell, Array.getElem?_modify, h], by simp [World.setCell, Array.getElem?_modify, h], by simp [World.setCell, Array.getElem?_modify, h]⟩
theorem setRow_new (w : World) (cs cs' : Array Value) (t : TypeId) : (w.alloc (.cells cs t)).setRow w.heap.size cs' = w.alloc (.cells cs' t) := by
  have h : ((w.alloc (.cells cs t)).setRow w.heap.size cs').heap = (w.alloc (.cells cs' t)).heap := by
    apply Array.ext_getElem?
    intro j
    by_cases e : j = w.heap.size
    · subst e
      rw [setRow_heap _ _ cs cs' t (0, 0) (heap_alloc_new _ _)]
      exact (heap_alloc_new w (.cells cs' t)).symm
    · rw [setRow_other _ _ _ _ e]
      by_cases h2 : j < w.heap.size
      · rw [heap_alloc_old _ _ h2, heap_alloc_old _ _ h2]
      · rw [Array.getElem?_eq_none (by simp; omega), Array.getElem?_eq_none (by simp; omega)]
  have e : ∀ u v : World, u.heap = v.heap → u.tape = v.tape → u.drawn = v.drawn → u.os = v.os → u.output = v.output → u = v := fun u v h1 h2 h3 h4 h5 => by
    cases u; cases v; simp at h1 h2 h3 h4 h5; subst h1 h2 h3 h4 h5; rfl
  exact e _ _ h rfl rfl rfl rfl
def numV (d : ByteArray) : Option Int := if 1 < d.size ∧ bt d 0 = 48 then none else match Lib.parseIntB 64 d.data.toList with | .ok v => some v | _ => none
def tkE (x : ByteArray) : Int :=
  if letterB (bt x 0) = true then (if 32 < spn namedB x x.size 0 then 32 else 0)
  else if digitB (bt x 0) = true then (if (numV (x.extract 0 (spn digitB x x.size 0))).isSome = true then 0 else 31)
  else (if sgnN x = 0 then 30 else 0)
def tkT (x : ByteArray) (i : Int) : Tk :=
  if letterB (bt x 0) = true then ⟨if wordB (x.extract 0 (spn namedB x x.size 0)) = true then 3 else 1, x.extract 0 (spn namedB x x.size 0), 0, i⟩
  else if digitB (bt x 0) = true then ⟨2, x.extract 0 (spn digitB x x.size 0), (numV (x.extract 0 (spn digitB x x.size 0))).getD 0, i⟩
  else ⟨4, x.extract 0 (sgnN x), 0, i⟩
def TokPost (x : ByteArray) (i : Int) (w : World) (e : Ending) (w' : World) : Prop :=
  (∃ t : Tk, e = .returned (.tuple #[.agg (tkA t), if tkE x = 0 then .nilIface else errV i (tkE x)]) ∧ (tkE x = 0 → t = tkT x i)) ∧ Below w.heap.size w w'
end Go.Proofs.YtpgdmghhbbekjaaGreatDoor.L
end
