import Derived.Shelf.Strings.Repeat
import Derived.Shelf.Strings.Search2
import Derived.Shelf.Strconv.Itoa2
import Derived.Shelf.LaysM
import Derived.Shelf.Strconv.Itoa1
import Derived.Shelf.Strconv.Itoa3
import Derived.Shelf.Strconv.AtoiAll
import Derived.Shelf.Strings.SlTrimAscii
import Derived.Shelf.Strings.Search3
import Derived.Shelf.Strings.Prefix
import Derived.Ground.NamesProg
import Derived.KernelRfl
import Derived.Test.YtpfignfgfhbblaaGreatDoorProg
import Derived.Lib.Agree
import Derived.Lib.Walk
import Derived.Lib.ItoaWalk
import Derived.Lib.ItoaMem
import Derived.Lib.AppendIntMem
import Derived.Lib.BufferKept
import Derived.Lib.Slices
import Derived.Lib.OwnKind
import Derived.Lib.Hide
import Derived.OwnWalk
import Derived.WalkKit
import Derived.BigCall
import Derived.BigGuard
import Derived.CellFam
import Derived.Test.YtpfignfgfhbblaaGreatDoorMu04
import Derived.Lib.LaidTab
import Derived.Shelf.Unicode.ValidAny
import Derived.Lib.ValidLaws
import Derived.Lib.DecodeN
import Derived.Lib.TrimUEq
import Derived.Laws.RangeAny
import Derived.LoopTactic
import Derived.Laws.RangeString
import Derived.Laws.Strings
import Derived.Laws.Strings2
import Derived.Laws.Strings3
import Derived.Test.YtpfignfgfhbblaaGreatDoorMu06
/-
  DERIVED: THE SHELF's CONTRACTS AT THIS DUMP, IN PLAIN WORDS (tools/lay-plain.mjs out of 'YtpfignfgfhbblaaGreatDoorXLx.lean', which tools/lay-shelf.mjs wrote): THE SAME DECLARATIONS UNDER THE SAME NAMES: 'import', 'namespace', 'open', 'def', 'theorem' AND NOTHING ELSE: no command of the shelf's: FOR A HAND-IN. Each laying: the table of numbers ('.._ren') and one theorem, a field a fact of the dump's own or the kernel's comparison; each contract: ONE APPLICATION.
-/
namespace Go.Proofs
open Go.Shelf
def Tryz.laysRepeat_ren : Go.Shelf.Ren := ⟨fun | 105 => 108 | 212 => 158 | 99 => 159 | 165 => 121 | 166 => 122 | 170 => 160 | 169 => 123 | 263 => 190 | 264 => 137 | 206 => 191 | 240 => 166 | 241 => 167 | 276 => 196 | 277 => 197 | n => n, fun | 9 => 9 | 3 => 3 | 4 => 4 | 20 => 20 | 0 => 0 | 46 => 172 | 109 => 201 | 5 => 5 | 72 => 159 | 76 => 163 | 51 => 222 | 146 => 223 | 53 => 121 | 148 => 180 | 70 => 157 | 37 => 56 | 75 => 162 | 127 => 206 | 164 => 226 | 80 => 115 | n => n, fun | n => n⟩
theorem Tryz.laysRepeat : Go.Proofs.Lays.n105 Tryz.prog Tryz.laysRepeat_ren := {
  mixed := by kernel_rfl
  f99 := Tryz.func159.trans (congrArg some (by kernel_rfl))
  f105 := Tryz.func108.trans (congrArg some (by kernel_rfl))
  f165 := Tryz.func121.trans (congrArg some (by kernel_rfl))
  f166 := Tryz.func122.trans (congrArg some (by kernel_rfl))
  f169 := Tryz.func123.trans (congrArg some (by kernel_rfl))
  f170 := Tryz.func160.trans (congrArg some (by kernel_rfl))
  f206 := Tryz.func191.trans (congrArg some (by kernel_rfl))
  f212 := Tryz.func158.trans (congrArg some (by kernel_rfl))
  f240 := Tryz.func166.trans (congrArg some (by kernel_rfl))
  f241 := Tryz.func167.trans (congrArg some (by kernel_rfl))
  f263 := Tryz.func190.trans (congrArg some (by kernel_rfl))
  f264 := Tryz.func137.trans (congrArg some (by kernel_rfl))
  f276 := Tryz.func196.trans (congrArg some (by kernel_rfl))
  f277 := Tryz.func197.trans (congrArg some (by kernel_rfl))
  t0 := Tryz.underlying0
  a0 := Tryz.isAgg0
  z0 := Tryz.sizeOf0
  v0 := Tryz.zeroValue0
  t3 := Tryz.underlying3
  a3 := Tryz.isAgg3
  z3 := Tryz.sizeOf3
  v3 := Tryz.zeroValue3
  t4 := Tryz.underlying4
  a4 := Tryz.isAgg4
  z4 := Tryz.sizeOf4
  v4 := Tryz.zeroValue4
  t5 := Tryz.underlying5
  a5 := Tryz.isAgg5
  z5 := Tryz.sizeOf5
  v5 := Tryz.zeroValue5
  t9 := Tryz.underlying9
  a9 := Tryz.isAgg9
  z9 := Tryz.sizeOf9
  v9 := Tryz.zeroValue9
  t20 := Tryz.underlying20
  a20 := Tryz.isAgg20
  z20 := Tryz.sizeOf20
  v20 := Tryz.zeroValue20
  t37 := Tryz.underlying56
  a37 := Tryz.isAgg56
  z37 := Tryz.sizeOf56
  v37 := Tryz.zeroValue56
  t46 := Tryz.underlying172
  a46 := Tryz.isAgg172
  z46 := Tryz.sizeOf172
  v46 := Tryz.zeroValue172
  t51 := Tryz.underlying222
  a51 := Tryz.isAgg222
  z51 := Tryz.sizeOf222
  v51 := Tryz.zeroValue222
  t53 := Tryz.underlying121
  a53 := Tryz.isAgg121
  z53 := Tryz.sizeOf121
  v53 := Tryz.zeroValue121
  t70 := Tryz.underlying157
  a70 := Tryz.isAgg157
  z70 := Tryz.sizeOf157
  v70 := Tryz.zeroValue157
  t72 := Tryz.underlying159
  a72 := Tryz.isAgg159
  z72 := Tryz.sizeOf159
  v72 := Tryz.zeroValue159
  t75 := Tryz.underlying162
  a75 := Tryz.isAgg162
  z75 := Tryz.sizeOf162
  v75 := Tryz.zeroValue162
  t76 := Tryz.underlying163
  a76 := Tryz.isAgg163
  z76 := Tryz.sizeOf163
  v76 := Tryz.zeroValue163
  t109 := Tryz.underlying201
  a109 := Tryz.isAgg201
  z109 := Tryz.sizeOf201
  v109 := Tryz.zeroValue201
  t127 := Tryz.underlying206
  a127 := Tryz.isAgg206
  z127 := Tryz.sizeOf206
  v127 := Tryz.zeroValue206
  t146 := Tryz.underlying223
  a146 := Tryz.isAgg223
  z146 := Tryz.sizeOf223
  v146 := Tryz.zeroValue223
  t148 := Tryz.underlying180
  a148 := Tryz.isAgg180
  z148 := Tryz.sizeOf180
  v148 := Tryz.zeroValue180
  t164 := Tryz.underlying226
  a164 := Tryz.isAgg226
  z164 := Tryz.sizeOf226
  v164 := Tryz.zeroValue226 }
def Tryz.laysIndex_ren : Go.Shelf.Ren := ⟨fun | 219 => 185 | 217 => 115 | 225 => 208 | 224 => 209 | 267 => 210 | 266 => 164 | 314 => 221 | n => n, fun | 9 => 9 | 3 => 3 | 4 => 4 | 5 => 5 | 46 => 172 | 146 => 223 | 51 => 222 | n => n, fun | 1 => 2 | n => n⟩
theorem Tryz.laysIndex : Go.Proofs.Lays.n219 Tryz.prog Tryz.laysIndex_ren := {
  mixed := by kernel_rfl
  f217 := Tryz.func115.trans (congrArg some (by kernel_rfl))
  f219 := Tryz.func185.trans (congrArg some (by kernel_rfl))
  f224 := Tryz.func209.trans (congrArg some (by kernel_rfl))
  f225 := Tryz.func208.trans (congrArg some (by kernel_rfl))
  f266 := Tryz.func164.trans (congrArg some (by kernel_rfl))
  f267 := Tryz.func210.trans (congrArg some (by kernel_rfl))
  f314 := Tryz.func221.trans (congrArg some (by kernel_rfl))
  t3 := Tryz.underlying3
  a3 := Tryz.isAgg3
  z3 := Tryz.sizeOf3
  v3 := Tryz.zeroValue3
  t4 := Tryz.underlying4
  a4 := Tryz.isAgg4
  z4 := Tryz.sizeOf4
  v4 := Tryz.zeroValue4
  t5 := Tryz.underlying5
  a5 := Tryz.isAgg5
  z5 := Tryz.sizeOf5
  v5 := Tryz.zeroValue5
  t9 := Tryz.underlying9
  a9 := Tryz.isAgg9
  z9 := Tryz.sizeOf9
  v9 := Tryz.zeroValue9
  t46 := Tryz.underlying172
  a46 := Tryz.isAgg172
  z46 := Tryz.sizeOf172
  v46 := Tryz.zeroValue172
  t51 := Tryz.underlying222
  a51 := Tryz.isAgg222
  z51 := Tryz.sizeOf222
  v51 := Tryz.zeroValue222
  t146 := Tryz.underlying223
  a146 := Tryz.isAgg223
  z146 := Tryz.sizeOf223
  v146 := Tryz.zeroValue223
  g1 := by kernel_rfl }
def Tryz.laysFmt_ren : Go.Shelf.Ren := ⟨fun | 285 => 188 | n => n, fun | 37 => 56 | 53 => 121 | 3 => 3 | 4 => 4 | 51 => 222 | 9 => 9 | 5 => 5 | 0 => 0 | n => n, fun | n => n⟩
theorem Tryz.laysFmt : Go.Proofs.Lays.n285 Tryz.prog Tryz.laysFmt_ren := {
  mixed := by kernel_rfl
  f285 := Tryz.func188.trans (congrArg some (by kernel_rfl))
  t0 := Tryz.underlying0
  a0 := Tryz.isAgg0
  z0 := Tryz.sizeOf0
  v0 := Tryz.zeroValue0
  t3 := Tryz.underlying3
  a3 := Tryz.isAgg3
  z3 := Tryz.sizeOf3
  v3 := Tryz.zeroValue3
  t4 := Tryz.underlying4
  a4 := Tryz.isAgg4
  z4 := Tryz.sizeOf4
  v4 := Tryz.zeroValue4
  t5 := Tryz.underlying5
  a5 := Tryz.isAgg5
  z5 := Tryz.sizeOf5
  v5 := Tryz.zeroValue5
  t9 := Tryz.underlying9
  a9 := Tryz.isAgg9
  z9 := Tryz.sizeOf9
  v9 := Tryz.zeroValue9
  t37 := Tryz.underlying56
  a37 := Tryz.isAgg56
  z37 := Tryz.sizeOf56
  v37 := Tryz.zeroValue56
  t51 := Tryz.underlying222
  a51 := Tryz.isAgg222
  z51 := Tryz.sizeOf222
  v51 := Tryz.zeroValue222
  t53 := Tryz.underlying121
  a53 := Tryz.isAgg121
  z53 := Tryz.sizeOf121
  v53 := Tryz.zeroValue121 }
def Tryz.laysSmall_ren : Go.Shelf.Ren := ⟨fun | 283 => 186 | n => n, fun | 3 => 3 | 9 => 9 | 4 => 4 | n => n, fun | n => n⟩
theorem Tryz.laysSmall : Go.Proofs.Lays.n283 Tryz.prog Tryz.laysSmall_ren := {
  mixed := by kernel_rfl
  f283 := Tryz.func186.trans (congrArg some (by kernel_rfl))
  t3 := Tryz.underlying3
  a3 := Tryz.isAgg3
  z3 := Tryz.sizeOf3
  v3 := Tryz.zeroValue3
  t4 := Tryz.underlying4
  a4 := Tryz.isAgg4
  z4 := Tryz.sizeOf4
  v4 := Tryz.zeroValue4
  t9 := Tryz.underlying9
  a9 := Tryz.isAgg9
  z9 := Tryz.sizeOf9
  v9 := Tryz.zeroValue9 }
def Tryz.laysDigits_ren : Go.Shelf.Ren := ⟨fun | 284 => 187 | 129 => 212 | 317 => 211 | 318 => 213 | n => n, fun | 53 => 121 | 3 => 3 | 212 => 238 | 0 => 0 | 4 => 4 | 46 => 172 | 5 => 5 | 9 => 9 | n => n, fun | 17 => 4 | n => n⟩
theorem Tryz.laysDigits : Go.Proofs.LaysM.n284 Tryz.prog Tryz.laysDigits_ren := {
  mixed := by kernel_rfl
  f129 := Tryz.func212.trans (congrArg some (by kernel_rfl))
  f284 := Tryz.func187.trans (congrArg some (by kernel_rfl))
  f317 := Tryz.func211.trans (congrArg some (by kernel_rfl))
  f318 := Tryz.func213.trans (congrArg some (by kernel_rfl))
  t0 := Tryz.underlying0
  a0 := Tryz.isAgg0
  z0 := Tryz.sizeOf0
  v0 := Tryz.zeroValue0
  t3 := Tryz.underlying3
  a3 := Tryz.isAgg3
  z3 := Tryz.sizeOf3
  v3 := Tryz.zeroValue3
  t4 := Tryz.underlying4
  a4 := Tryz.isAgg4
  z4 := Tryz.sizeOf4
  v4 := Tryz.zeroValue4
  t5 := Tryz.underlying5
  a5 := Tryz.isAgg5
  z5 := Tryz.sizeOf5
  v5 := Tryz.zeroValue5
  t9 := Tryz.underlying9
  a9 := Tryz.isAgg9
  z9 := Tryz.sizeOf9
  v9 := Tryz.zeroValue9
  t46 := Tryz.underlying172
  a46 := Tryz.isAgg172
  z46 := Tryz.sizeOf172
  v46 := Tryz.zeroValue172
  t53 := Tryz.underlying121
  a53 := Tryz.isAgg121
  z53 := Tryz.sizeOf121
  v53 := Tryz.zeroValue121
  t212 := Tryz.underlying238
  a212 := Tryz.isAgg238
  z212 := Tryz.sizeOf238
  v212 := Tryz.zeroValue238
  g17 := by kernel_rfl
  i0 := by kernel_rfl
  i3 := by kernel_rfl
  i4 := by kernel_rfl
  i5 := by kernel_rfl
  i9 := by kernel_rfl
  i46 := by kernel_rfl
  i53 := by kernel_rfl
  i212 := by kernel_rfl
  m17 := by kernel_rfl }
def Tryz.laysItoa_ren : Go.Shelf.Ren := ⟨fun | 171 => 110 | 243 => 163 | 246 => 195 | 283 => 186 | 284 => 187 | 285 => 188 | 286 => 189 | 129 => 212 | 317 => 211 | 318 => 213 | 319 => 214 | 320 => 215 | 337 => 222 | 338 => 223 | n => n, fun | 3 => 3 | 9 => 9 | 2 => 2 | 4 => 4 | 171 => 217 | 0 => 0 | 53 => 121 | 37 => 56 | 5 => 5 | 173 => 220 | 212 => 238 | 51 => 222 | 20 => 20 | 213 => 239 | 46 => 172 | 232 => 254 | 233 => 255 | n => n, fun | 17 => 4 | 18 => 7 | 19 => 8 | n => n⟩
theorem Tryz.laysItoa : Go.Proofs.LaysM.n171 Tryz.prog Tryz.laysItoa_ren := {
  mixed := by kernel_rfl
  f129 := Tryz.func212.trans (congrArg some (by kernel_rfl))
  f171 := Tryz.func110.trans (congrArg some (by kernel_rfl))
  f243 := Tryz.func163.trans (congrArg some (by kernel_rfl))
  f246 := Tryz.func195.trans (congrArg some (by kernel_rfl))
  f283 := Tryz.func186.trans (congrArg some (by kernel_rfl))
  f284 := Tryz.func187.trans (congrArg some (by kernel_rfl))
  f285 := Tryz.func188.trans (congrArg some (by kernel_rfl))
  f286 := Tryz.func189.trans (congrArg some (by kernel_rfl))
  f317 := Tryz.func211.trans (congrArg some (by kernel_rfl))
  f318 := Tryz.func213.trans (congrArg some (by kernel_rfl))
  f319 := Tryz.func214.trans (congrArg some (by kernel_rfl))
  f320 := Tryz.func215.trans (congrArg some (by kernel_rfl))
  f337 := Tryz.func222.trans (congrArg some (by kernel_rfl))
  f338 := Tryz.func223.trans (congrArg some (by kernel_rfl))
  t0 := Tryz.underlying0
  a0 := Tryz.isAgg0
  z0 := Tryz.sizeOf0
  v0 := Tryz.zeroValue0
  t2 := Tryz.underlying2
  a2 := Tryz.isAgg2
  z2 := Tryz.sizeOf2
  v2 := Tryz.zeroValue2
  t3 := Tryz.underlying3
  a3 := Tryz.isAgg3
  z3 := Tryz.sizeOf3
  v3 := Tryz.zeroValue3
  t4 := Tryz.underlying4
  a4 := Tryz.isAgg4
  z4 := Tryz.sizeOf4
  v4 := Tryz.zeroValue4
  t5 := Tryz.underlying5
  a5 := Tryz.isAgg5
  z5 := Tryz.sizeOf5
  v5 := Tryz.zeroValue5
  t9 := Tryz.underlying9
  a9 := Tryz.isAgg9
  z9 := Tryz.sizeOf9
  v9 := Tryz.zeroValue9
  t20 := Tryz.underlying20
  a20 := Tryz.isAgg20
  z20 := Tryz.sizeOf20
  v20 := Tryz.zeroValue20
  t37 := Tryz.underlying56
  a37 := Tryz.isAgg56
  z37 := Tryz.sizeOf56
  v37 := Tryz.zeroValue56
  t46 := Tryz.underlying172
  a46 := Tryz.isAgg172
  z46 := Tryz.sizeOf172
  v46 := Tryz.zeroValue172
  t51 := Tryz.underlying222
  a51 := Tryz.isAgg222
  z51 := Tryz.sizeOf222
  v51 := Tryz.zeroValue222
  t53 := Tryz.underlying121
  a53 := Tryz.isAgg121
  z53 := Tryz.sizeOf121
  v53 := Tryz.zeroValue121
  t171 := Tryz.underlying217
  a171 := Tryz.isAgg217
  z171 := Tryz.sizeOf217
  v171 := Tryz.zeroValue217
  t173 := Tryz.underlying220
  a173 := Tryz.isAgg220
  z173 := Tryz.sizeOf220
  v173 := Tryz.zeroValue220
  t212 := Tryz.underlying238
  a212 := Tryz.isAgg238
  z212 := Tryz.sizeOf238
  v212 := Tryz.zeroValue238
  t213 := Tryz.underlying239
  a213 := Tryz.isAgg239
  z213 := Tryz.sizeOf239
  t232 := Tryz.underlying254
  a232 := Tryz.isAgg254
  z232 := Tryz.sizeOf254
  v232 := Tryz.zeroValue254
  t233 := Tryz.underlying255
  a233 := Tryz.isAgg255
  z233 := Tryz.sizeOf255
  v233 := Tryz.zeroValue255
  g17 := by kernel_rfl
  g18 := by kernel_rfl
  g19 := by kernel_rfl
  i0 := by kernel_rfl
  i2 := by kernel_rfl
  i3 := by kernel_rfl
  i4 := by kernel_rfl
  i5 := by kernel_rfl
  i9 := by kernel_rfl
  i20 := by kernel_rfl
  i37 := by kernel_rfl
  i46 := by kernel_rfl
  i51 := by kernel_rfl
  i53 := by kernel_rfl
  i171 := by kernel_rfl
  i173 := by kernel_rfl
  i212 := by kernel_rfl
  i232 := by kernel_rfl
  i233 := by kernel_rfl
  m17 := by kernel_rfl
  m18 := by kernel_rfl
  m19 := by kernel_rfl }
def Tryz.laysAtoi_ren : Go.Shelf.Ren := ⟨fun | 172 => 148 | 244 => 178 | 245 => 179 | 247 => 202 | 279 => 203 | 280 => 204 | 281 => 205 | 282 => 206 | 287 => 217 | 316 => 218 | 171 => 110 | 205 => 219 | 321 => 224 | 322 => 225 | 243 => 163 | 246 => 195 | 283 => 186 | 284 => 187 | 285 => 188 | 286 => 189 | 129 => 212 | 317 => 211 | 318 => 213 | 319 => 214 | 320 => 215 | 337 => 222 | 338 => 223 | n => n, fun | 9 => 9 | 3 => 3 | 75 => 162 | 76 => 163 | 4 => 4 | 5 => 5 | 167 => 230 | 37 => 56 | 0 => 0 | 85 => 231 | 2 => 2 | 168 => 233 | 53 => 121 | 175 => 242 | 46 => 172 | 210 => 245 | 127 => 206 | 145 => 253 | 143 => 251 | 21 => 21 | 171 => 217 | 173 => 220 | 212 => 238 | 51 => 222 | 20 => 20 | 213 => 239 | 232 => 254 | 233 => 255 | 80 => 115 | n => n, fun | 15 => 5 | 16 => 6 | 17 => 4 | 18 => 7 | 19 => 8 | n => n⟩
theorem Tryz.laysAtoi : Go.Proofs.LaysC.n172 Tryz.prog Tryz.laysAtoi_ren := {
  mixed := by kernel_rfl
  f129 := Tryz.func212.trans (congrArg some (by kernel_rfl))
  f171 := Tryz.func110.trans (congrArg some (by kernel_rfl))
  f172 := Tryz.func148.trans (congrArg some (by kernel_rfl))
  f205 := Tryz.func219.trans (congrArg some (by kernel_rfl))
  f243 := Tryz.func163.trans (congrArg some (by kernel_rfl))
  f244 := Tryz.func178.trans (congrArg some (by kernel_rfl))
  f245 := Tryz.func179.trans (congrArg some (by kernel_rfl))
  f246 := Tryz.func195.trans (congrArg some (by kernel_rfl))
  f247 := Tryz.func202.trans (congrArg some (by kernel_rfl))
  f279 := Tryz.func203.trans (congrArg some (by kernel_rfl))
  f280 := Tryz.func204.trans (congrArg some (by kernel_rfl))
  f281 := Tryz.func205.trans (congrArg some (by kernel_rfl))
  f282 := Tryz.func206.trans (congrArg some (by kernel_rfl))
  f283 := Tryz.func186.trans (congrArg some (by kernel_rfl))
  f284 := Tryz.func187.trans (congrArg some (by kernel_rfl))
  f285 := Tryz.func188.trans (congrArg some (by kernel_rfl))
  f286 := Tryz.func189.trans (congrArg some (by kernel_rfl))
  f287 := Tryz.func217.trans (congrArg some (by kernel_rfl))
  f316 := Tryz.func218.trans (congrArg some (by kernel_rfl))
  f317 := Tryz.func211.trans (congrArg some (by kernel_rfl))
  f318 := Tryz.func213.trans (congrArg some (by kernel_rfl))
  f319 := Tryz.func214.trans (congrArg some (by kernel_rfl))
  f320 := Tryz.func215.trans (congrArg some (by kernel_rfl))
  f321 := Tryz.func224.trans (congrArg some (by kernel_rfl))
  f322 := Tryz.func225.trans (congrArg some (by kernel_rfl))
  f337 := Tryz.func222.trans (congrArg some (by kernel_rfl))
  f338 := Tryz.func223.trans (congrArg some (by kernel_rfl))
  t0 := Tryz.underlying0
  a0 := Tryz.isAgg0
  z0 := Tryz.sizeOf0
  v0 := Tryz.zeroValue0
  t2 := Tryz.underlying2
  a2 := Tryz.isAgg2
  z2 := Tryz.sizeOf2
  v2 := Tryz.zeroValue2
  t3 := Tryz.underlying3
  a3 := Tryz.isAgg3
  z3 := Tryz.sizeOf3
  v3 := Tryz.zeroValue3
  t4 := Tryz.underlying4
  a4 := Tryz.isAgg4
  z4 := Tryz.sizeOf4
  v4 := Tryz.zeroValue4
  t5 := Tryz.underlying5
  a5 := Tryz.isAgg5
  z5 := Tryz.sizeOf5
  v5 := Tryz.zeroValue5
  t9 := Tryz.underlying9
  a9 := Tryz.isAgg9
  z9 := Tryz.sizeOf9
  v9 := Tryz.zeroValue9
  t20 := Tryz.underlying20
  a20 := Tryz.isAgg20
  z20 := Tryz.sizeOf20
  v20 := Tryz.zeroValue20
  t21 := Tryz.underlying21
  a21 := Tryz.isAgg21
  z21 := Tryz.sizeOf21
  v21 := Tryz.zeroValue21
  t37 := Tryz.underlying56
  a37 := Tryz.isAgg56
  z37 := Tryz.sizeOf56
  v37 := Tryz.zeroValue56
  t46 := Tryz.underlying172
  a46 := Tryz.isAgg172
  z46 := Tryz.sizeOf172
  v46 := Tryz.zeroValue172
  t51 := Tryz.underlying222
  a51 := Tryz.isAgg222
  z51 := Tryz.sizeOf222
  v51 := Tryz.zeroValue222
  t53 := Tryz.underlying121
  a53 := Tryz.isAgg121
  z53 := Tryz.sizeOf121
  v53 := Tryz.zeroValue121
  t75 := Tryz.underlying162
  a75 := Tryz.isAgg162
  z75 := Tryz.sizeOf162
  v75 := Tryz.zeroValue162
  t76 := Tryz.underlying163
  a76 := Tryz.isAgg163
  z76 := Tryz.sizeOf163
  v76 := Tryz.zeroValue163
  t85 := Tryz.underlying231
  a85 := Tryz.isAgg231
  z85 := Tryz.sizeOf231
  v85 := Tryz.zeroValue231
  t127 := Tryz.underlying206
  a127 := Tryz.isAgg206
  z127 := Tryz.sizeOf206
  v127 := Tryz.zeroValue206
  t143 := Tryz.underlying251
  a143 := Tryz.isAgg251
  z143 := Tryz.sizeOf251
  v143 := Tryz.zeroValue251
  t145 := Tryz.underlying253
  a145 := Tryz.isAgg253
  z145 := Tryz.sizeOf253
  v145 := Tryz.zeroValue253
  t167 := Tryz.underlying230
  a167 := Tryz.isAgg230
  z167 := Tryz.sizeOf230
  v167 := Tryz.zeroValue230
  t168 := Tryz.underlying233
  a168 := Tryz.isAgg233
  z168 := Tryz.sizeOf233
  v168 := Tryz.zeroValue233
  t171 := Tryz.underlying217
  a171 := Tryz.isAgg217
  z171 := Tryz.sizeOf217
  v171 := Tryz.zeroValue217
  t173 := Tryz.underlying220
  a173 := Tryz.isAgg220
  z173 := Tryz.sizeOf220
  v173 := Tryz.zeroValue220
  t175 := Tryz.underlying242
  a175 := Tryz.isAgg242
  z175 := Tryz.sizeOf242
  v175 := Tryz.zeroValue242
  t210 := Tryz.underlying245
  a210 := Tryz.isAgg245
  z210 := Tryz.sizeOf245
  v210 := Tryz.zeroValue245
  t212 := Tryz.underlying238
  a212 := Tryz.isAgg238
  z212 := Tryz.sizeOf238
  v212 := Tryz.zeroValue238
  t213 := Tryz.underlying239
  a213 := Tryz.isAgg239
  z213 := Tryz.sizeOf239
  t232 := Tryz.underlying254
  a232 := Tryz.isAgg254
  z232 := Tryz.sizeOf254
  v232 := Tryz.zeroValue254
  t233 := Tryz.underlying255
  a233 := Tryz.isAgg255
  z233 := Tryz.sizeOf255
  v233 := Tryz.zeroValue255
  g15 := by kernel_rfl
  g16 := by kernel_rfl
  g17 := by kernel_rfl
  g18 := by kernel_rfl
  g19 := by kernel_rfl
  t80 := Tryz.underlying115
  a80 := Tryz.isAgg115
  z80 := Tryz.sizeOf115
  v80 := Tryz.zeroValue115
  i0 := by kernel_rfl
  i2 := by kernel_rfl
  i3 := by kernel_rfl
  i4 := by kernel_rfl
  i5 := by kernel_rfl
  i9 := by kernel_rfl
  i20 := by kernel_rfl
  i21 := by kernel_rfl
  i37 := by kernel_rfl
  i46 := by kernel_rfl
  i51 := by kernel_rfl
  i53 := by kernel_rfl
  i75 := by kernel_rfl
  i76 := by kernel_rfl
  i80 := by kernel_rfl
  i85 := by kernel_rfl
  i127 := by kernel_rfl
  i143 := by kernel_rfl
  i145 := by kernel_rfl
  i167 := by kernel_rfl
  i168 := by kernel_rfl
  i171 := by kernel_rfl
  i173 := by kernel_rfl
  i175 := by kernel_rfl
  i210 := by kernel_rfl
  i212 := by kernel_rfl
  i232 := by kernel_rfl
  i233 := by kernel_rfl
  m15 := by kernel_rfl
  m16 := by kernel_rfl
  m17 := by kernel_rfl
  m18 := by kernel_rfl
  m19 := by kernel_rfl
  c0 := by kernel_rfl
  c2 := by kernel_rfl
  c3 := by kernel_rfl
  c4 := by kernel_rfl
  c5 := by kernel_rfl
  c9 := by kernel_rfl
  c20 := by kernel_rfl
  c21 := by kernel_rfl
  c37 := by kernel_rfl
  c46 := by kernel_rfl
  c51 := by kernel_rfl
  c53 := by kernel_rfl
  c75 := by kernel_rfl
  c76 := by kernel_rfl
  c80 := by kernel_rfl
  c85 := by kernel_rfl
  c127 := by kernel_rfl
  c143 := by kernel_rfl
  c145 := by kernel_rfl
  c167 := by kernel_rfl
  c168 := by kernel_rfl
  c171 := by kernel_rfl
  c173 := by kernel_rfl
  c175 := by kernel_rfl
  c210 := by kernel_rfl
  c212 := by kernel_rfl
  c213 := by kernel_rfl
  c232 := by kernel_rfl
  c233 := by kernel_rfl }
def Tryz.laysTrim_ren : Go.Shelf.Ren := ⟨fun | 160 => 65 | 232 => 125 | 231 => 124 | 227 => 126 | 234 => 128 | 233 => 127 | 236 => 130 | 235 => 129 | 228 => 168 | 271 => 170 | 151 => 169 | 197 => 162 | 120 => 199 | 152 => 198 | 260 => 194 | 137 => 60 | 119 => 216 | 224 => 209 | 225 => 208 | 217 => 115 | 266 => 164 | n => n, fun | 9 => 9 | 4 => 4 | 3 => 3 | 5 => 5 | 117 => 168 | 116 => 167 | 0 => 0 | 124 => 171 | 21 => 21 | 105 => 203 | 46 => 172 | 119 => 197 | 139 => 200 | 138 => 199 | n => n, fun | 3 => 0 | 4 => 1 | n => n⟩
theorem Tryz.laysTrim : Go.Proofs.Lays.n160 Tryz.prog Tryz.laysTrim_ren := {
  mixed := by kernel_rfl
  f119 := Tryz.func216.trans (congrArg some (by kernel_rfl))
  f120 := Tryz.func199.trans (congrArg some (by kernel_rfl))
  f137 := Tryz.func60.trans (congrArg some (by kernel_rfl))
  f151 := Tryz.func169.trans (congrArg some (by kernel_rfl))
  f152 := Tryz.func198.trans (congrArg some (by kernel_rfl))
  f160 := Tryz.func65.trans (congrArg some (by kernel_rfl))
  f197 := Tryz.func162.trans (congrArg some (by kernel_rfl))
  f217 := Tryz.func115.trans (congrArg some (by kernel_rfl))
  f224 := Tryz.func209.trans (congrArg some (by kernel_rfl))
  f225 := Tryz.func208.trans (congrArg some (by kernel_rfl))
  f227 := Tryz.func126.trans (congrArg some (by kernel_rfl))
  f228 := Tryz.func168.trans (congrArg some (by kernel_rfl))
  f231 := Tryz.func124.trans (congrArg some (by kernel_rfl))
  f232 := Tryz.func125.trans (congrArg some (by kernel_rfl))
  f233 := Tryz.func127.trans (congrArg some (by kernel_rfl))
  f234 := Tryz.func128.trans (congrArg some (by kernel_rfl))
  f235 := Tryz.func129.trans (congrArg some (by kernel_rfl))
  f236 := Tryz.func130.trans (congrArg some (by kernel_rfl))
  f260 := Tryz.func194.trans (congrArg some (by kernel_rfl))
  f266 := Tryz.func164.trans (congrArg some (by kernel_rfl))
  f271 := Tryz.func170.trans (congrArg some (by kernel_rfl))
  t0 := Tryz.underlying0
  a0 := Tryz.isAgg0
  z0 := Tryz.sizeOf0
  v0 := Tryz.zeroValue0
  t3 := Tryz.underlying3
  a3 := Tryz.isAgg3
  z3 := Tryz.sizeOf3
  v3 := Tryz.zeroValue3
  t4 := Tryz.underlying4
  a4 := Tryz.isAgg4
  z4 := Tryz.sizeOf4
  v4 := Tryz.zeroValue4
  t5 := Tryz.underlying5
  a5 := Tryz.isAgg5
  z5 := Tryz.sizeOf5
  v5 := Tryz.zeroValue5
  t9 := Tryz.underlying9
  a9 := Tryz.isAgg9
  z9 := Tryz.sizeOf9
  v9 := Tryz.zeroValue9
  t21 := Tryz.underlying21
  a21 := Tryz.isAgg21
  z21 := Tryz.sizeOf21
  v21 := Tryz.zeroValue21
  t46 := Tryz.underlying172
  a46 := Tryz.isAgg172
  z46 := Tryz.sizeOf172
  v46 := Tryz.zeroValue172
  t105 := Tryz.underlying203
  a105 := Tryz.isAgg203
  z105 := Tryz.sizeOf203
  v105 := Tryz.zeroValue203
  t116 := Tryz.underlying167
  a116 := Tryz.isAgg167
  z116 := Tryz.sizeOf167
  t117 := Tryz.underlying168
  a117 := Tryz.isAgg168
  z117 := Tryz.sizeOf168
  v117 := Tryz.zeroValue168
  t119 := Tryz.underlying197
  a119 := Tryz.isAgg197
  z119 := Tryz.sizeOf197
  t124 := Tryz.underlying171
  a124 := Tryz.isAgg171
  z124 := Tryz.sizeOf171
  v124 := Tryz.zeroValue171
  t138 := Tryz.underlying199
  a138 := Tryz.isAgg199
  z138 := Tryz.sizeOf199
  v138 := Tryz.zeroValue199
  t139 := Tryz.underlying200
  a139 := Tryz.isAgg200
  z139 := Tryz.sizeOf200
  v139 := Tryz.zeroValue200
  g3 := by kernel_rfl
  g4 := by kernel_rfl }
def Tryz.laysContains_ren : Go.Shelf.Ren := ⟨fun | 144 => 96 | 143 => 154 | 219 => 185 | 217 => 115 | 225 => 208 | 224 => 209 | 267 => 210 | 266 => 164 | 314 => 221 | n => n, fun | 9 => 9 | 4 => 4 | 3 => 3 | 5 => 5 | 46 => 172 | 146 => 223 | 51 => 222 | n => n, fun | 1 => 2 | n => n⟩
theorem Tryz.laysContains : Go.Proofs.Lays.n144 Tryz.prog Tryz.laysContains_ren := {
  mixed := by kernel_rfl
  f143 := Tryz.func154.trans (congrArg some (by kernel_rfl))
  f144 := Tryz.func96.trans (congrArg some (by kernel_rfl))
  f217 := Tryz.func115.trans (congrArg some (by kernel_rfl))
  f219 := Tryz.func185.trans (congrArg some (by kernel_rfl))
  f224 := Tryz.func209.trans (congrArg some (by kernel_rfl))
  f225 := Tryz.func208.trans (congrArg some (by kernel_rfl))
  f266 := Tryz.func164.trans (congrArg some (by kernel_rfl))
  f267 := Tryz.func210.trans (congrArg some (by kernel_rfl))
  f314 := Tryz.func221.trans (congrArg some (by kernel_rfl))
  t3 := Tryz.underlying3
  a3 := Tryz.isAgg3
  z3 := Tryz.sizeOf3
  v3 := Tryz.zeroValue3
  t4 := Tryz.underlying4
  a4 := Tryz.isAgg4
  z4 := Tryz.sizeOf4
  v4 := Tryz.zeroValue4
  t5 := Tryz.underlying5
  a5 := Tryz.isAgg5
  z5 := Tryz.sizeOf5
  v5 := Tryz.zeroValue5
  t9 := Tryz.underlying9
  a9 := Tryz.isAgg9
  z9 := Tryz.sizeOf9
  v9 := Tryz.zeroValue9
  t46 := Tryz.underlying172
  a46 := Tryz.isAgg172
  z46 := Tryz.sizeOf172
  v46 := Tryz.zeroValue172
  t51 := Tryz.underlying222
  a51 := Tryz.isAgg222
  z51 := Tryz.sizeOf222
  v51 := Tryz.zeroValue222
  t146 := Tryz.underlying223
  a146 := Tryz.isAgg223
  z146 := Tryz.sizeOf223
  v146 := Tryz.zeroValue223
  g1 := by kernel_rfl }
def Tryz.laysTrimSuffix_ren : Go.Shelf.Ren := ⟨fun | 102 => 95 | 209 => 153 | 207 => 184 | n => n, fun | 9 => 9 | 4 => 4 | 3 => 3 | n => n, fun | n => n⟩
theorem Tryz.laysTrimSuffix : Go.Proofs.Lays.n102 Tryz.prog Tryz.laysTrimSuffix_ren := {
  mixed := by kernel_rfl
  f102 := Tryz.func95.trans (congrArg some (by kernel_rfl))
  f207 := Tryz.func184.trans (congrArg some (by kernel_rfl))
  f209 := Tryz.func153.trans (congrArg some (by kernel_rfl))
  t3 := Tryz.underlying3
  a3 := Tryz.isAgg3
  z3 := Tryz.sizeOf3
  v3 := Tryz.zeroValue3
  t4 := Tryz.underlying4
  a4 := Tryz.isAgg4
  z4 := Tryz.sizeOf4
  v4 := Tryz.zeroValue4
  t9 := Tryz.underlying9
  a9 := Tryz.isAgg9
  z9 := Tryz.sizeOf9
  v9 := Tryz.zeroValue9 }
end Go.Proofs
namespace Go.Proofs
open Go.Shelf Go.RowKit
theorem Tryz.extra : Builder.Extra Tryz.prog Tryz.laysRepeat_ren where
  sizeBuilder := by kernel_rfl
  liesBuilder := by kernel_rfl
  t5 := Tryz.laysRepeat.t5
  a5 := Tryz.laysRepeat.a5
  z5 := Tryz.laysRepeat.z5
  v5 := Tryz.laysRepeat.v5
  infoByte := by kernel_rfl
  cellsByte := by kernel_rfl
  sizeByte := by kernel_rfl
  neB5 := by decide
end Go.Proofs
namespace Go.Proofs
open Go.Shelf Go.RowKit Go.Sort Go.Lib
theorem Tryz.small_does (i : Nat) (h : i < 100) (w : World) : Calls Tryz.prog 186 #[.int .i64 i] w fun e w' => e = .returned (.string ⟨(Lib.decDigits i).toArray⟩) ∧ w' = w :=
  Any.internal_strconv_small Tryz.laysSmall i h w
theorem Tryz.digits_does (u : Nat) (h1 : 1 ≤ u) (h2 : u < 18446744073709551616) (w : World)
    (htab : Lib.TabIs Tryz.prog w "internal/strconv.uint64pow10" .u64 Lib.pow10Tab) :
    Calls Tryz.prog 187 #[.int .u64 u] w fun e w' => e = .returned (.int .i64 (Lib.nDigits u)) ∧ w' = w :=
  Any.internal_strconv_numDigits Tryz.laysDigits u h1 h2 w htab
set_option maxHeartbeats 6400000 in
set_option maxRecDepth 100000 in
theorem Tryz.fmt_small (i : Nat) (hi : i < 100) (w : World) : Calls Tryz.prog 157 #[.int .u64 i, .int .i64 10] w fun e w' => e = .returned (.string ⟨(Lib.decDigits i).toArray⟩) ∧ w' = w := by
  go_enter Tryz.func157, Tryz.ntmps157
  go_wp2_with (go_at_call 186; refine (Tryz.small_does i hi _).mono ?_; rintro e w' ⟨rfl, rfl⟩)
  go_ret
  exact ⟨rfl, rfl⟩
set_option maxHeartbeats 12800000 in
set_option maxRecDepth 100000 in
theorem Tryz.fmt_big (u : Nat) (hu : 100 ≤ u) (hu64 : u < 18446744073709551616) (w : World)
    (htab : Lib.TabIs Tryz.prog w "internal/strconv.uint64pow10" .u64 Lib.pow10Tab) :
    Calls Tryz.prog 157 #[.int .u64 u, .int .i64 10] w fun e w' => e = .returned (.string ⟨(Lib.decDigits u).toArray⟩) ∧ ∃ k os, w' = grow (w.drewN k) os := by
  have hu1 : 1 ≤ u := by omega
  have hnd20 : Lib.nDigits u ≤ 20 := by have := Lib.numDigits_eq u hu1 hu64; split at this <;> omega
  have hb : Lib.nDigits u ≤ 24 := by omega
  have hsl : ∀ W, (Instr.sliceAt 217 (.pointer (some ⟨w.heap.size, 0, none⟩)) none (some (.int .i64 (Lib.nDigits u : Int))) none).run Tryz.prog W = .ok (.slice (some ⟨w.heap.size, 0, none⟩) (Lib.nDigits u) 24) W := fun W => by
    rw [run_sliceAt_array_h W 217 ⟨w.heap.size, 0, none⟩ (by kernel_rfl) .i64 (Lib.nDigits u : Int) (by omega) (by rw [show Tryz.prog.arrayLen 217 = 24 by kernel_rfl]; omega)]
    rw [show Tryz.prog.arrayLen 217 = 24 by kernel_rfl]
    go_simp
  have hH0 := Lib.holds_zero0 w 217 (Lib.nDigits u) (by omega)
  have hfmt : Calls Tryz.prog 188 _ _ _ := Any.internal_strconv_formatBase10 Tryz.laysFmt w.heap.size 0 24 u (Array.replicate (Lib.nDigits u) 0) (w.alloc (.cells Lib.zeros24 217)) hH0 (by rw [Array.size_replicate]; exact Lib.lt_pow_nDigits u) hu64 (by rw [Array.size_replicate]; omega)
  rw [Array.size_replicate] at hfmt
  have HH0 := Lib.hid hH0
  have iu : (100 : Int) ≤ (u : Int) := by omega
  clear hH0
  go_enter Tryz.func157, Tryz.ntmps157
  go_wp2_with (first
    | (go_at_call 187; refine (Tryz.digits_does u hu1 hu64 _ (Lib.tabIs_alloc htab _)).mono ?_; rintro e w' ⟨rfl, rfl⟩))
  go_at_call 188
  refine hfmt.mono ?_
  rintro e w' ⟨rfl, k, v', dk, rfl, hF⟩
  have hcv : (convert 56 9 (.slice (some ⟨w.heap.size, 0, none⟩) (nDigits u) 24)).run Tryz.prog ((putRow (fun (b : UInt8) => Value.int .u8 (b.toNat : Int)) (w.alloc (.cells zeros24 217)) w.heap.size 0 dk).drewN k) = .ok (.string ⟨(decDigits u).toArray⟩) ((putRow (fun (b : UInt8) => Value.int .u8 (b.toNat : Int)) (w.alloc (.cells zeros24 217)) w.heap.size 0 dk).drewN k) := by
    have h := run_convert_bytes_back (P := Tryz.prog) ((putRow (fun (b : UInt8) => Value.int .u8 (b.toNat : Int)) (w.alloc (.cells zeros24 217)) w.heap.size 0 dk).drewN k) 56 9 5 ⟨w.heap.size, 0, none⟩ 24 (decDigits u) (by kernel_rfl) (by kernel_rfl) (by kernel_rfl) (fun j hj => by
      rw [row_is_numeral hF j hj, add_plain, World.cell?_drewN]
      exact cell?_putRow (fun (b : UInt8) => Value.int .u8 (b.toNat : Int)) _ w.heap.size 0 _ dk HH0.out (by rw [hF.size, Array.size_replicate]) j (by rw [hF.size]; rw [decDigits_length] at hj; exact hj))
    rw [decDigits_length] at h
    exact h
  go_wp2
  go_ret
  obtain ⟨os, eo⟩ := fin_at w (.cells zeros24 217) dk k 0
  exact ⟨rfl, k, os, eo⟩
end Go.Proofs
/- The table of powers of ten that strconv has, as a whole. -/
namespace Go.Proofs.YtpfignfgfhbblaaGreatDoorC
open Go.Proofs Go.Proofs.YtpfignfgfhbblaaGreatDoorSx
set_option maxRecDepth 100000
theorem gTens : Tryz.prog.globalNamed "internal/strconv.uint64pow10" = some 4 := by kernel_rfl
theorem tab_back {P : Program} {w : World} {n : String} {k : IntKind} {zs : List Int} {g : Nat} {t : TypeId} {f : Nat × Nat} (hg : P.globalNamed n = some g) (h : w.heap[g]? = some (.cells (zs.map (Value.int k)).toArray t f)) : Lib.TabIs P w n k zs := by
  unfold Lib.TabIs World.var?
  rw [hg]
  simp only [Option.bind_some, h]
theorem tens_in {W : World} (h : GlobIn cE W) : Lib.TabIs Tryz.prog W "internal/strconv.uint64pow10" .u64 Lib.pow10Tab := by
  obtain ⟨t, f, hb⟩ := h.1 4 _ rfl
  exact tab_back gTens hb
end Go.Proofs.YtpfignfgfhbblaaGreatDoorC
/- Each path of each function: on which conditions it is taken, what it gives. Printed by a program (wip/tools/sxexp2.lean); Lean checks each. -/
namespace Go.Proofs.YtpfignfgfhbblaaGreatDoorC
open Go.Proofs Go.Proofs.YtpfignfgfhbblaaGreatDoorSx
set_option maxRecDepth 100000
set_option linter.unusedVariables false

theorem prgt_1 (u sc : Int) (b0 : Bool) (h0 : Does cE 155 [(0, .ro 3 ([sc]) false)] 1 [.o 0] (.v (.bool (b0))) [] 1) : Does cE 97 [] 0 [.v (dc u sc)] (.v (.bool (b0))) [] 0 :=
  does_path (ct := ct) ctOk mixed (fn := Tryz.f97) rfl (by kernel_rfl) 2000 [.c (.v (.bool (b0))) [] 1] (by kernel_rfl) (cj h0 cj0)
end Go.Proofs.YtpfignfgfhbblaaGreatDoorC
/- Right of points, walked. Printed by a program (wip/tools); Lean checks each. -/
namespace Go.Proofs.YtpfignfgfhbblaaGreatDoorC
open Go.Proofs Go.Proofs.YtpfignfgfhbblaaGreatDoorSx Go.Lib
set_option maxRecDepth 100000
set_option maxHeartbeats 4000000
set_option linter.unusedVariables false
noncomputable def grP (x y : Int) : Option Rs :=
  bif (decide (x ≥ (-1048576 : Int))) then bif (decide (x ≤ (1048576 : Int))) then bif (decide (y ≥ (-1048576 : Int))) then some ((.v (.bool (decide (y ≤ (1048576 : Int)))) : SV), ([] : Tab cE), 0)
      else some ((.v (.bool (false)) : SV), ([] : Tab cE), 0)
    else some ((.v (.bool (false)) : SV), ([] : Tab cE), 0)
  else some ((.v (.bool (false)) : SV), ([] : Tab cE), 0)
theorem grP_does (x y : Int) {r : Rs} (h : grP x y = some r) : Does cE 99 [] 0 [.v (dc x y)] r.1 r.2.1 r.2.2 := by
  unfold grP at h
  refine does_of_fin (fn := Tryz.f99) (c := bd Tryz.f99) rfl (by kernel_rfl) rfl ?_
  refine obif h (fun c1 h => ?_) (fun c1 h => ?_)
  · refine obif h (fun c2 h => ?_) (fun c2 h => ?_)
    · refine obif h (fun c3 h => ?_) (fun c3 h => ?_)
      · exact osome h (sfin (keep := []) (by decide) [.t, .t, .t, .t, .t, .t, .t, .t, .t, .t, .t, .t] (by kernel_rfl) (cj c1 (cj c1 (cj c1 (cj c1 (cj c2 (cj c2 (cj c2 (cj c2 (cj c3 (cj c3 (cj c3 (cj c3 cj0)))))))))))))
      · exact osome h (sfin (keep := []) (by decide) [.t, .t, .t, .t, .t, .t, .t, .t, .f, .f, .f, .f] (by kernel_rfl) (cj c1 (cj c1 (cj c1 (cj c1 (cj c2 (cj c2 (cj c2 (cj c2 (cj c3 (cj c3 (cj c3 (cj c3 cj0)))))))))))))
    · exact osome h (sfin (keep := []) (by decide) [.t, .t, .t, .t, .f, .f, .f, .f, .l, .l, .l, .l] (by kernel_rfl) (cj c1 (cj c1 (cj c1 (cj c1 (cj c2 (cj c2 (cj c2 (cj c2 cj0)))))))))
  · exact osome h (sfin (keep := []) (by decide) [.f, .f, .f, .f, .l, .l, .l, .l, .l, .l, .l, .l] (by kernel_rfl) (cj c1 (cj c1 (cj c1 (cj c1 cj0)))))
noncomputable def grR (x y : Int) : Option Rs :=
  bif (decide (x ≥ (-1048576 : Int))) then bif (decide (x ≤ (1048576 : Int))) then bif (decide (y ≥ (-1048576 : Int))) then some ((.v (.bool (decide (y ≤ (1048576 : Int)))) : SV), ([] : Tab cE), 0)
      else some ((.v (.bool (false)) : SV), ([] : Tab cE), 0)
    else some ((.v (.bool (false)) : SV), ([] : Tab cE), 0)
  else some ((.v (.bool (false)) : SV), ([] : Tab cE), 0)
theorem grR_does (x y : Int) {r : Rs} (h : grR x y = some r) : Does cE 69 [] 0 [.v (dc x y)] r.1 r.2.1 r.2.2 := by
  unfold grR at h
  refine does_of_fin (fn := Tryz.f69) (c := bd Tryz.f69) rfl (by kernel_rfl) rfl ?_
  refine obif h (fun c1 h => ?_) (fun c1 h => ?_)
  · refine obif h (fun c2 h => ?_) (fun c2 h => ?_)
    · refine obif h (fun c3 h => ?_) (fun c3 h => ?_)
      · exact osome h (sfin (keep := []) (by decide) [.t, .t, .t, .t, .t, .t, .t, .t, .t, .t, .t, .t] (by kernel_rfl) (cj c1 (cj c1 (cj c1 (cj c1 (cj c2 (cj c2 (cj c2 (cj c2 (cj c3 (cj c3 (cj c3 (cj c3 cj0)))))))))))))
      · exact osome h (sfin (keep := []) (by decide) [.t, .t, .t, .t, .t, .t, .t, .t, .f, .f, .f, .f] (by kernel_rfl) (cj c1 (cj c1 (cj c1 (cj c1 (cj c2 (cj c2 (cj c2 (cj c2 (cj c3 (cj c3 (cj c3 (cj c3 cj0)))))))))))))
    · exact osome h (sfin (keep := []) (by decide) [.t, .t, .t, .t, .f, .f, .f, .f, .l, .l, .l, .l] (by kernel_rfl) (cj c1 (cj c1 (cj c1 (cj c1 (cj c2 (cj c2 (cj c2 (cj c2 cj0)))))))))
  · exact osome h (sfin (keep := []) (by decide) [.f, .f, .f, .f, .l, .l, .l, .l, .l, .l, .l, .l] (by kernel_rfl) (cj c1 (cj c1 (cj c1 (cj c1 cj0)))))
end Go.Proofs.YtpfignfgfhbblaaGreatDoorC
/-
  DERIVED: THE SHELF's CONTRACTS AT THIS DUMP, IN PLAIN WORDS (tools/lay-plain.mjs out of 'YtpfignfgfhbblaaGreatDoorSLx.lean', which tools/lay-shelf.mjs wrote): THE SAME DECLARATIONS UNDER THE SAME NAMES: 'import', 'namespace', 'open', 'def', 'theorem' AND NOTHING ELSE: no command of the shelf's: FOR A HAND-IN. Each laying: the table of numbers ('.._ren') and one theorem, a field a fact of the dump's own or the kernel's comparison; each contract: ONE APPLICATION.
-/
namespace Go.Proofs
open Go.Shelf
def Tryz.laysValid_ren : Go.Shelf.Ren := ⟨fun | 196 => 98 | 259 => 156 | n => n, fun | 9 => 9 | 4 => 4 | 3 => 3 | 5 => 5 | 12 => 12 | 119 => 197 | 0 => 0 | 46 => 172 | 139 => 200 | 138 => 199 | 53 => 121 | n => n, fun | 3 => 0 | 4 => 1 | n => n⟩
theorem Tryz.laysValid : Go.Proofs.Lays.n196 Tryz.prog Tryz.laysValid_ren := {
  mixed := by kernel_rfl
  f196 := Tryz.func98.trans (congrArg some (by kernel_rfl))
  f259 := Tryz.func156.trans (congrArg some (by kernel_rfl))
  t0 := Tryz.underlying0
  a0 := Tryz.isAgg0
  z0 := Tryz.sizeOf0
  v0 := Tryz.zeroValue0
  t3 := Tryz.underlying3
  a3 := Tryz.isAgg3
  z3 := Tryz.sizeOf3
  v3 := Tryz.zeroValue3
  t4 := Tryz.underlying4
  a4 := Tryz.isAgg4
  z4 := Tryz.sizeOf4
  v4 := Tryz.zeroValue4
  t5 := Tryz.underlying5
  a5 := Tryz.isAgg5
  z5 := Tryz.sizeOf5
  v5 := Tryz.zeroValue5
  t9 := Tryz.underlying9
  a9 := Tryz.isAgg9
  z9 := Tryz.sizeOf9
  v9 := Tryz.zeroValue9
  t12 := Tryz.underlying12
  a12 := Tryz.isAgg12
  z12 := Tryz.sizeOf12
  v12 := Tryz.zeroValue12
  t46 := Tryz.underlying172
  a46 := Tryz.isAgg172
  z46 := Tryz.sizeOf172
  v46 := Tryz.zeroValue172
  t53 := Tryz.underlying121
  a53 := Tryz.isAgg121
  z53 := Tryz.sizeOf121
  v53 := Tryz.zeroValue121
  t119 := Tryz.underlying197
  a119 := Tryz.isAgg197
  z119 := Tryz.sizeOf197
  t138 := Tryz.underlying199
  a138 := Tryz.isAgg199
  z138 := Tryz.sizeOf199
  v138 := Tryz.zeroValue199
  t139 := Tryz.underlying200
  a139 := Tryz.isAgg200
  z139 := Tryz.sizeOf200
  v139 := Tryz.zeroValue200
  g3 := by kernel_rfl
  g4 := by kernel_rfl }
end Go.Proofs
/- The tables of unicode/utf8, and utf8.ValidString, told. -/
namespace Go.Proofs.YtpfignfgfhbblaaGreatDoorC
open Go.Proofs Go.Proofs.YtpfignfgfhbblaaGreatDoorSx Go.RowKit Go.Lib
set_option maxRecDepth 100000
theorem tabs_in {w : World} (h : GlobIn cE w) : Lib.Utf8Tabs 0 1 w := by
  obtain ⟨t, f, hb⟩ := h.1 0 _ rfl
  obtain ⟨t2, f2, hb2⟩ := h.1 1 _ rfl
  refine ⟨fun c hc => ?_, fun i hi => ?_⟩
  · rw [cell_of_row w _ c _ t f hb]
    simp [firstL, hc]
  · have acc : ∀ k : _root_.Fin 16, accL[2 * k.val]? = some ((accLo k.val : Nat) : Int) ∧ accL[2 * k.val + 1]? = some ((accHi k.val : Nat) : Int) := by decide
    obtain ⟨a1, a2⟩ := acc ⟨i, hi⟩
    rw [cell_of_row w _ _ _ t2 f2 hb2, cell_of_row w _ _ _ t2 f2 hb2]
    simp only at a1 a2
    exact ⟨by simp [a1], by simp [a2]⟩
theorem vstr_does (s : ByteArray) (hs : s.size ≤ 140737488351232) : Does cE 98 [] 0 [.v (st s)] (.v (.bool (validD s.data.toList))) [] 0 :=
  does_lib (l := [st s]) (enters (fn := Tryz.f98) rfl (by kernel_rfl) rfl) (fun w hg => Any.utf8_ValidString Tryz.laysValid s w (by omega) (tabs_in hg))
end Go.Proofs.YtpfignfgfhbblaaGreatDoorC
/- Good UTF-8 in the reference's words: what its loop over runes comes to is what utf8.ValidString says. -/
namespace Go.Proofs.YtpfignfgfhbblaaGreatDoorC
open Go.Lib
set_option linter.unusedVariables false
/-- The three bytes of the rune 65533 stand at a place. -/
def three (s : ByteArray) (i : Nat) : Bool := decide (i + 3 ≤ s.size) && ((s.data.toList.drop i).take 3 == [239, 191, 189])
theorem dec_bad (n b0 b1 b2 b3 : Nat) (h0 : b0 < 256) (h1 : b1 < 256) (h2 : b2 < 256) (h3 : b3 < 256) (h : (decodeN n b0 b1 b2 b3).1 = 65533) : ((decodeN n b0 b1 b2 b3).2 = 1 ↔ ¬ (3 ≤ n ∧ b0 = 239 ∧ b1 = 191 ∧ b2 = 189)) := by
  constructor
  · rintro h2' ⟨q0, q1, q2, q3⟩
    subst q1 q2 q3
    have e : decodeN n 239 191 189 b3 = (65533, 3) := by
      unfold decodeN
      rw [if_neg (by omega), if_neg (by omega), if_pos (by omega), if_pos (by omega)]
    rw [e] at h2'
    cases h2'
  · intro hn
    unfold decodeN at h ⊢
    split at h
    · simp only at h
      omega
    rename_i c1
    rw [if_neg c1]
    split at h
    · rename_i c2
      rw [if_pos c2]
      split at h
      · simp only at h
        omega
      · rename_i c3
        rw [if_neg c3]
    rename_i c2
    rw [if_neg c2]
    split at h
    · rename_i c4
      rw [if_pos c4]
      split at h
      · simp only at h
        exact (hn ⟨by omega, by omega, by omega, by omega⟩).elim
      · rename_i c5
        rw [if_neg c5]
    rename_i c4
    rw [if_neg c4]
    split at h
    · rename_i c6
      rw [if_pos c6]
      split at h
      · simp only at h
        omega
      · rename_i c7
        rw [if_neg c7]
    rename_i c6
    rw [if_neg c6]
theorem get_list (s : ByteArray) (i : Nat) (h : i < s.size) : s.data.toList[i]? = some (s.get! i) := by
  have h2 : i < s.data.toList.length := by rw [Array.length_toList]; exact h
  rw [List.getElem?_eq_getElem h2]
  have : s.get! i = s[i]'h := by
    have := get_at s i h
    simpa using this
  rw [this]
  rfl
theorem three_iff (s : ByteArray) (i : Nat) : three s i = true ↔ (i + 3 ≤ s.size ∧ (s.get! i).toNat = 239 ∧ (s.get! (i + 1)).toNat = 191 ∧ (s.get! (i + 2)).toNat = 189) := by
  unfold three
  rw [Bool.and_eq_true, decide_eq_true_eq]
  constructor
  · rintro ⟨h, e⟩
    refine ⟨h, ?_⟩
    have g0 := get_list s i (by omega)
    have g1 := get_list s (i + 1) (by omega)
    have g2 := get_list s (i + 2) (by omega)
    have e' := eq_of_beq e
    have t : ∀ j, j < 3 → ((s.data.toList.drop i).take 3)[j]? = s.data.toList[i + j]? := fun j hj => by rw [List.getElem?_take_of_lt hj, List.getElem?_drop]
    have t0 := t 0 (by decide)
    have t1 := t 1 (by decide)
    have t2 := t 2 (by decide)
    rw [e'] at t0 t1 t2
    rw [Nat.add_zero, g0] at t0
    rw [g1] at t1
    rw [g2] at t2
    simp at t0 t1 t2
    rw [← t0, ← t1, ← t2]
    decide
  · rintro ⟨h, a0, a1, a2⟩
    refine ⟨h, ?_⟩
    have g0 := get_list s i (by omega)
    have g1 := get_list s (i + 1) (by omega)
    have g2 := get_list s (i + 2) (by omega)
    have c0 : s.get! i = 239 := UInt8.toNat_inj.1 a0
    have c1 : s.get! (i + 1) = 191 := UInt8.toNat_inj.1 a1
    have c2 : s.get! (i + 2) = 189 := UInt8.toNat_inj.1 a2
    have hl : s.data.toList.length = s.size := Array.length_toList
    have d0 : s.data.toList.drop i = 239 :: s.data.toList.drop (i + 1) := by
      rw [List.drop_eq_getElem_cons (by omega)]
      congr 1
      rw [List.getElem?_eq_getElem (by omega), c0] at g0
      simpa using g0
    have d1 : s.data.toList.drop (i + 1) = 191 :: s.data.toList.drop (i + 2) := by
      rw [List.drop_eq_getElem_cons (by omega)]
      congr 1
      rw [List.getElem?_eq_getElem (by omega), c1] at g1
      simpa using g1
    have d2 : s.data.toList.drop (i + 2) = 189 :: s.data.toList.drop (i + 3) := by
      rw [List.drop_eq_getElem_cons (by omega)]
      congr 1
      rw [List.getElem?_eq_getElem (by omega), c2] at g2
      simpa using g2
    rw [d0, d1, d2]
    rfl
/-- A round of the loop. -/
theorem good_step (s : ByteArray) (i : Nat) (h : i < s.size) : validD (s.data.toList.drop i) = if (Utf8.decode s i).1 = 65533 ∧ three s i = false then false else validD (s.data.toList.drop (i + (Utf8.decode s i).2)) := by
  have hl : s.data.toList.length = s.size := Array.length_toList
  have hne : s.data.toList.drop i ≠ [] := by
    intro e
    have := congrArg List.length e
    rw [List.length_drop] at this
    simp at this
    omega
  rw [validD_step _ hne, decodeL_drop, List.drop_drop]
  have key : (Utf8.decode s i).1 = 65533 → ((Utf8.decode s i).2 = 1 ↔ three s i = false) := by
    intro h1
    rw [decode_at] at h1 ⊢
    rw [dec_bad _ _ _ _ _ (UInt8.toNat_lt _) (UInt8.toNat_lt _) (UInt8.toNat_lt _) (UInt8.toNat_lt _) h1]
    constructor
    · intro hn
      cases ht : three s i with
      | false => rfl
      | true =>
        obtain ⟨q0, q1, q2, q3⟩ := (three_iff s i).1 ht
        exact (hn ⟨by omega, q1, q2, q3⟩).elim
    · rintro ht ⟨q0, q1, q2, q3⟩
      have := (three_iff s i).2 ⟨by omega, q1, q2, q3⟩
      rw [this] at ht
      cases ht
  by_cases h1 : (Utf8.decode s i).1 = 65533
  · by_cases h2 : (Utf8.decode s i).2 = 1
    · rw [if_pos ⟨h1, h2⟩, if_pos ⟨h1, (key h1).1 h2⟩]
    · rw [if_neg (fun e => h2 e.2), if_neg (fun e => h2 ((key h1).2 e.2))]
  · rw [if_neg (fun e => h1 e.1), if_neg (fun e => h1 e.1)]
end Go.Proofs.YtpfignfgfhbblaaGreatDoorC
/- The reference's Good: a walk of its loop over runes. -/
namespace Go.Proofs.YtpfignfgfhbblaaGreatDoorC
open Go.Proofs Go.RowKit Go.Lib
set_option linter.unusedVariables false
set_option linter.unusedSimpArgs false
theorem width_pos (s : ByteArray) (pos : Nat) (h : pos < s.size) : 1 ≤ (Utf8.decode s pos).2 := by
  by_cases ha : (s[pos]'h).toNat < 128
  · rw [decode_ascii s pos h ha]
    exact Nat.le_refl _
  · exact (decode_high s pos h (by omega)).2
set_option maxRecDepth 1000000 in
set_option maxHeartbeats 4000000 in
theorem good_calls (s : ByteArray) (hs : s.size ≤ 140737488351232) (w : World) : Calls Tryz.prog 68 #[.string s] w fun e w' => e = .returned (.bool (validD s.data.toList)) ∧ ∃ pos, w' = w.iter s pos := by
  go_enter Tryz.func68, Tryz.ntmps68
  go_wp2
  go_loopw [] (fun w' => ∃ pos : Nat, w' = w.iter s pos ∧ validD (s.data.toList.drop pos) = validD s.data.toList) (fun w' => s.size - w'.iterPos w.heap.size)
  case atStart => exact ⟨0, rfl, rfl⟩
  case round =>
    obtain ⟨pos, rfl, hc⟩ := hrel
    by_cases hp : pos < s.size
    · have hnx : ∀ ty, (Instr.next (.pointer (some ⟨w.heap.size, 0, none⟩)) true ty).run Tryz.prog (w.iter s pos) = _ := fun ty => run_next_any w s pos ty hp
      have hwd := width_pos s pos hp
      have hst := good_step s pos hp
      rw [hc] at hst
      have hw3 : Go.RowKit.wrap64 ((pos : Int) + 3) = (pos : Int) + 3 := by unfold Go.RowKit.wrap64; omega
      by_cases h1 : ((Utf8.decode s pos).1 : Int) = 65533
      · have h1n : (Utf8.decode s pos).1 = 65533 := by omega
        by_cases h3 : (s.size : Int) < Go.RowKit.wrap64 ((pos : Int) + 3)
        · have h3' : (s.size : Int) < (pos : Int) + 3 := by rw [← hw3]; exact h3
          have ht : three s pos = false := by
            unfold three
            have : ¬ pos + 3 ≤ s.size := by omega
            simp [this]
          rw [if_pos ⟨h1n, ht⟩] at hst
          go_wp2
          go_ret
          rw [hst]
          exact ⟨rfl, _, rfl⟩
        · have h3' : pos + 3 ≤ s.size := by rw [hw3] at h3; omega
          have hsl : ∀ W, (Instr.slice 9 (.string s) (some (.int .i64 (pos : Int))) (some (.int .i64 ((pos : Int) + 3))) none).run Tryz.prog W = .ok (.string (s.extract pos (pos + 3))) W := by
            intro W
            have h9 : Tryz.prog.underlying 9 = some .string := by kernel_rfl
            have e1 : ((pos : Int) + 3).toNat = pos + 3 := by omega
            have b1 : (pos : Int) + 3 ≤ (s.size : Int) := by omega
            have b2 : (0 : Int) ≤ (pos : Int) + 3 := by omega
            have b3 : (0 : Int) ≤ (pos : Int) ∧ (pos : Int) ≤ ((pos + 3 : Nat) : Int) := by omega
            have b4 : (Instr.sliceBound (.int .i64 (pos : Int)) (pos + 3) BoundsCode.sliceB).run Tryz.prog W = .ok pos W := by
              rw [run_sliceBound]
              all_goals first | exact b3.1 | exact b3.2 | simp | omega
            simp [Instr.slice, run_underlying h9, Instr.sliceBounds, run_sliceBound, b1, b2, e1]
            simpa using congrArg (fun r => r.andThen fun a w' => Result.ok (Value.string (s.extract a (pos + 3))) w') b4
          have hl : (s.extract pos (pos + 3)).toList = (s.data.toList.drop pos).take 3 := by
            rw [ByteArray.toList_eq, ByteArray.data_extract]
            simp [List.extract_eq_take_drop]
          have hlit : (ByteArray.mk #[239, 191, 189]).toList = [239, 191, 189] := by rw [ByteArray.toList_eq]
          have d1 : ((s.size : Int) < (pos : Int) + 3) = False := by
            rw [eq_iff_iff]
            constructor
            · intro e
              omega
            · intro e
              exact e.elim
          by_cases ht : three s pos = true
          · have hne : (!((s.extract pos (pos + 3)).toList == (ByteArray.mk #[239, 191, 189]).toList)) = false := by
              unfold three at ht
              rw [Bool.and_eq_true] at ht
              rw [hl, hlit, ht.2]
              rfl
            have q1 : (List.take 3 (List.drop pos s.data.toList) == [239, 191, 189]) = true := by
              unfold three at ht
              rw [Bool.and_eq_true] at ht
              exact ht.2
            have h1n2 : ¬ ((Utf8.decode s pos).1 = 65533 ∧ three s pos = false) := fun e => by rw [ht] at e; cases e.2
            rw [if_neg h1n2] at hst
            go_wp2
            go_roundw
            case rel => exact ⟨_, rfl, hst.symm⟩
            case measure =>
              simp
              omega
          · have ht2 : three s pos = false := by simpa using ht
            have hne : (!((s.extract pos (pos + 3)).toList == (ByteArray.mk #[239, 191, 189]).toList)) = true := by
              unfold three at ht2
              rw [Bool.and_eq_false_iff] at ht2
              rcases ht2 with e | e
              · simp at e
                omega
              · rw [hl, hlit, e]
                rfl
            have q1 : (List.take 3 (List.drop pos s.data.toList) == [239, 191, 189]) = false := by
              rw [hl, hlit] at hne
              simpa using hne
            rw [if_pos ⟨h1n, ht2⟩] at hst
            go_wp2
            go_ret
            refine ⟨?_, _, rfl⟩
            simp only [hst]
            rfl
      · have h1n : ¬ ((Utf8.decode s pos).1 = 65533 ∧ three s pos = false) := fun e => h1 (by omega)
        rw [if_neg h1n] at hst
        go_wp2
        go_roundw
        case rel => exact ⟨_, rfl, hst.symm⟩
        case measure =>
          simp
          omega
    · have hnx : ∀ ty, (Instr.next (.pointer (some ⟨w.heap.size, 0, none⟩)) true ty).run Tryz.prog (w.iter s pos) = _ := fun ty => run_next_end w s pos ty hp
      go_wp2
      go_ret
      rw [← hc, List.drop_of_length_le (by rw [Array.length_toList]; show s.size ≤ pos; omega)]
      exact ⟨rfl, _, rfl⟩
end Go.Proofs.YtpfignfgfhbblaaGreatDoorC
/- The leaves' contracts: what may be, of decimals, points, texts. -/
namespace Go.Proofs.YtpfignfgfhbblaaGreatDoorC
open Go.Proofs Go.Proofs.YtpfignfgfhbblaaGreatDoorSx Go.RowKit Go.Lib
set_option maxRecDepth 100000
set_option linter.unusedVariables false
set_option linter.unusedSimpArgs false
def rt (x y : Int) : Bool := decide (x ≥ -1048576) && (decide (x ≤ 1048576) && (decide (y ≥ -1048576) && decide (y ≤ 1048576)))
theorem pright_does (u x : Int) : Does cE 97 [] 0 [.v (dc u x)] (.v (.bool ((0 ≤ x ∧ x ≤ 6 : Prop) : Bool))) [] 0 := by
  have h := scales_does [x] (by simp)
  have e : [x].all inS = decide (0 ≤ x ∧ x ≤ 6) := by simp
  rw [e] at h
  exact prgt_1 u x _ h
theorem gright_does (x y : Int) : Does cE 99 [] 0 [.v (dc x y)] (.v (.bool (rt x y))) [] 0 := by
  refine Does.of (grP_does x y (r := (.v (.bool (rt x y)), [], 0)) ?_) rfl
  unfold grP rt
  cases decide (x ≥ -1048576) <;> cases decide (x ≤ 1048576) <;> cases decide (y ≥ -1048576) <;> rfl
theorem rgright_does (x y : Int) : Does cE 69 [] 0 [.v (dc x y)] (.v (.bool (rt x y))) [] 0 := by
  refine Does.of (grR_does x y (r := (.v (.bool (rt x y)), [], 0)) ?_) rfl
  unfold grR rt
  cases decide (x ≥ -1048576) <;> cases decide (x ≤ 1048576) <;> cases decide (y ≥ -1048576) <;> rfl
theorem below_iter (w : World) (s : ByteArray) (pos : Nat) : Below w.heap.size w (w.iter s pos) :=
  (Below.refl w.heap.size w).alloc (Nat.le_refl _) (.stringIter s pos)
theorem good_does (s : ByteArray) (hs : s.size ≤ 140737488351232) : Does cE 68 [] 0 [.v (st s)] (.v (.bool (validD s.data.toList))) [] 0 :=
  does_lib (l := [st s]) (enters (fn := Tryz.f68) rfl (by kernel_rfl) rfl) (fun w hg => (good_calls s hs w).mono fun e w' hh => by
    obtain ⟨he, pos, hw⟩ := hh
    subst hw
    exact ⟨he, below_iter w s pos⟩)
end Go.Proofs.YtpfignfgfhbblaaGreatDoorC
/- The program's and the reference's printing of a decimal come to the same text. -/
namespace Go.Proofs.YtpfignfgfhbblaaGreatDoorC
open Go.Proofs Go.Proofs.YtpfignfgfhbblaaGreatDoorSx Go.RowKit Go.Sort Go.Lib
set_option maxRecDepth 100000
set_option linter.unusedVariables false
set_option linter.unusedSimpArgs false
/-! ### Strings as lists of bytes -/
def oL (l : List UInt8) : ByteArray := ⟨l.toArray⟩
theorem oL_size (l : List UInt8) : (oL l).size = l.length := by simp [oL, ByteArray.size]
theorem oL_app (a b : List UInt8) : oL a ++ oL b = oL (a ++ b) := by
  apply ByteArray.ext
  simp [oL, ByteArray.data_append]
theorem oL_ext (l : List UInt8) (i j : Nat) : (oL l).extract i j = oL ((l.drop i).take (j - i)) := by
  apply ByteArray.ext
  simp [oL, ByteArray.data_extract, List.extract_eq_take_drop]
theorem oL_data (l : List UInt8) : (oL l).data.toList = l := by simp [oL]
theorem oL_of (s : ByteArray) : s = oL s.data.toList := by
  apply ByteArray.ext
  simp [oL]
theorem bytesOf_one (x : Int) : bytesOf [x] = oL [UInt8.ofNat x.toNat] := rfl
theorem below_more (w : World) (k : Nat) (os : Array Obj) : Below w.heap.size w (grow (w.drewN k) os) :=
  ⟨rfl, rfl, rfl, by simp [grow], fun i hi => by
    show (w.heap ++ os)[i]? = w.heap[i]?
    rw [Array.getElem?_append_left hi]⟩
/-! ### Numerals, zeros -/
theorem fmt71_does (u : Nat) (hu : u < 18446744073709551616) : Does cE 157 [] 0 [.v (iu u), .v (it 10)] (.v (st (oL (decDigits u)))) [] 0 := by
  refine does_lib (l := [iu u, it 10]) (enters (fn := Tryz.f157) rfl (by kernel_rfl) rfl) (fun w hg => ?_)
  by_cases h : u < 100
  · exact (Tryz.fmt_small u h w).mono fun e w' hh => ⟨hh.1, hh.2 ▸ Below.refl _ _⟩
  · refine (Tryz.fmt_big u (by omega) hu w (tens_in hg)).mono fun e w' hh => ?_
    obtain ⟨e1, k, os, rfl⟩ := hh
    exact ⟨e1, below_more w k os⟩
theorem fmt59_does (u : Nat) (hu : u < 18446744073709551616) : Does cE 107 [] 0 [.v (iu u), .v (it 10)] (.v (st (oL (decDigits u)))) [] 0 := fmtu_1 _ _ (fmt71_does u hu)
theorem rep_48 : ∀ c : Nat, repeatL [48] c = List.replicate c 48
  | 0 => rfl
  | c + 1 => by
    rw [repeatL, rep_48 c]
    rfl
theorem rep60_does (c : Nat) (hc : c ≤ 100) : Does cE 108 [] 0 [.v (st (oL [48])), .v (it c)] (.v (st (oL (List.replicate c 48)))) [] 0 := by
  refine does_lib (l := [st (oL [48]), it c]) (enters (fn := Tryz.f108) rfl (by kernel_rfl) rfl) (fun w hg => ?_)
  refine (Any.strings_Repeat Tryz.laysRepeat Tryz.extra (oL [48]) c w (by omega) (by rw [oL_size]; simp; omega)).mono fun e w' hh => ?_
  rw [oL_data, rep_48] at hh
  exact hh
theorem nd_le {u : Nat} (hu : u < 18446744073709551616) : (decDigits u).length ≤ 20 := by
  rw [decDigits_length]
  by_cases h : 1 ≤ u
  · have := numDigits_eq u h hu
    split at this <;> omega
  · have : u = 0 := by omega
    subst this
    rw [nDigits_small (by decide)]
    omega
theorem dot_slices (s : List UInt8) (sc : Int) (h : 0 < sc) (hl : sc.toNat ≤ s.length) (h2 : s.length < 1000) : 
    (oL s).extract (Int.toNat 0) (IntKind.i64.wrap (((oL s).size : Int) - sc)).toNat ++ (ByteArray.mk #[46]) ++ (oL s).extract (IntKind.i64.wrap (((oL s).size : Int) - sc)).toNat ((((oL s).size : Nat) : Int)).toNat = oL (dotL s sc) := by
  have e : (IntKind.i64.wrap (((oL s).size : Int) - sc)).toNat = s.length - sc.toNat := by
    rw [oL_size, wrap64 (by omega) (by omega)]
    omega
  have e1 : (Int.toNat 0) = 0 := rfl
  have e2 : ((((oL s).size : Nat) : Int)).toNat = s.length := by rw [oL_size]; omega
  have e3 : ByteArray.mk #[46] = oL [46] := rfl
  rw [e, e1, e2, e3, oL_ext, oL_ext, oL_app, oL_app]
  unfold dotL
  rw [if_neg (by omega)]
  congr 1
  have e4 : s.length - (s.length - sc.toNat) = (s.drop (s.length - sc.toNat)).length := by rw [List.length_drop]
  rw [e4, List.take_length]
  simp
theorem print_does (u sc : Int) (hu : I64 u) : Does cE 50 [] 0 [.v (dc u sc)] (.v (st (oL (printL u sc)))) [] 0 := by
  have hr := pright_does u sc
  by_cases hs : sc6 sc
  · have e0 : decide (sc6 sc) = true := by simpa using hs
    rw [e0] at hr
    have hof := pof_does hu
    have ha := ab_spec u
    have hn : u.natAbs < 18446744073709551616 := by omega
    have hf := fmt59_does u.natAbs hn
    have hd := nd_le hn
    have hd0 : 0 < (decDigits u.natAbs).length := by
      have := dec_ne u.natAbs
      cases h : decDigits u.natAbs with
      | nil => exact (this h).elim
      | cons a l => simp
    have eab : (ab u % 18446744073709551616) = ((u.natAbs : Nat) : Int) := by unfold ab; omega
    unfold Bv at hof
    rw [eab] at hof
    have hrep := rep60_does (sc.toNat + 1 - (decDigits u.natAbs).length) (by omega)
    have eif : (((sc.toNat + 1 - (decDigits u.natAbs).length : Nat)) : Int) = (if IntKind.i64.wrap (IntKind.i64.wrap (sc + 1) - ((oL (decDigits u.natAbs)).size : Int)) > 0 then IntKind.i64.wrap (IntKind.i64.wrap (sc + 1) - ((oL (decDigits u.natAbs)).size : Int)) else 0) := by
      rw [oL_size, wrap64 (n := sc + 1) (by omega) (by omega), wrap64 (by omega) (by omega)]
      split <;> omega
    rw [eif] at hrep
    have epad : oL (List.replicate (sc.toNat + 1 - (decDigits u.natAbs).length) 48) ++ oL (decDigits u.natAbs) = oL (padL u sc) := by rw [oL_app]; rfl
    have hpl := pad_len u sc
    have hsz : (oL (List.replicate (sc.toNat + 1 - (decDigits u.natAbs).length) 48)).size + (oL (decDigits u.natAbs)).size ≤ 9223372036854775807 := by
      rw [oL_size, oL_size, List.length_replicate]
      omega
    have hdl : (dotL (padL u sc) sc).length ≤ 1000 := by
      unfold dotL
      split
      · omega
      · rw [List.length_append, List.length_cons, List.length_take, List.length_drop]
        omega
    have e45 : ByteArray.mk #[45] = oL [45] := rfl
    have hp : printL u sc = if u < 0 then 45 :: dotL (padL u sc) sc else dotL (padL u sc) sc := by
      unfold printL
      rw [if_pos hs]
    rw [hp]
    by_cases hz : sc > 0
    · have hds := dot_slices (padL u sc) sc hz (by omega) (by omega)
      have hw : IntKind.i64.wrap (((oL (padL u sc)).size : Int) - sc) = (padL u sc).length - sc := by
        rw [oL_size, wrap64 (by omega) (by omega)]
      have b7 : (0 : Int) ≤ 0 ∧ (0 : Int) ≤ IntKind.i64.wrap (((oL (padL u sc)).size : Int) - sc) ∧ IntKind.i64.wrap (((oL (padL u sc)).size : Int) - sc) ≤ ((oL (padL u sc)).size : Int) := by
        rw [hw, oL_size]
        omega
      have b9 : (0 : Int) ≤ IntKind.i64.wrap (((oL (padL u sc)).size : Int) - sc) ∧ IntKind.i64.wrap (((oL (padL u sc)).size : Int) - sc) ≤ ((oL (padL u sc)).size : Int) ∧ ((oL (padL u sc)).size : Int) ≤ ((oL (padL u sc)).size : Int) := by
        rw [hw, oL_size]
        omega
      have e46 : ByteArray.mk #[46] = oL [46] := rfl
      have b8 : ((oL (padL u sc)).extract (Int.toNat 0) (IntKind.i64.wrap (((oL (padL u sc)).size : Int) - sc)).toNat).size + (ByteArray.mk #[46]).size ≤ 9223372036854775807 := by
        simp only [e46, oL_ext, oL_app, oL_size, List.length_append, List.length_take, List.length_drop, List.length_cons, List.length_nil]
        omega
      have b10 : ((oL (padL u sc)).extract (Int.toNat 0) (IntKind.i64.wrap (((oL (padL u sc)).size : Int) - sc)).toNat ++ (ByteArray.mk #[46])).size + ((oL (padL u sc)).extract (IntKind.i64.wrap (((oL (padL u sc)).size : Int) - sc)).toNat ((((oL (padL u sc)).size : Nat) : Int)).toNat).size ≤ 9223372036854775807 := by
        simp only [e46, oL_ext, oL_app, oL_size, List.length_append, List.length_take, List.length_drop, List.length_cons, List.length_nil]
        omega
      rw [← epad] at b7 b8 b9 b10 hds
      by_cases hneg : u < 0
      · have hng : ng u = true := by simpa using hneg
        rw [if_pos hneg]
        have h := prn_2 (h0 := hr) (h1 := rfl) (h2 := hof) (h3 := hf) (h4 := hrep) (h5 := hsz) (h6 := by simpa using hz) (h7 := b7) (h8 := b8) (h9 := b9) (h10 := b10) (h11 := hng) (h12 := by
          rw [hds, e45, oL_size, oL_size, List.length_cons, List.length_nil]
          omega)
        rw [hds, e45, oL_app] at h
        exact h
      · have hng : ng u = false := by simpa using hneg
        rw [if_neg hneg]
        have h := prn_3 (h0 := hr) (h1 := rfl) (h2 := hof) (h3 := hf) (h4 := hrep) (h5 := hsz) (h6 := by simpa using hz) (h7 := b7) (h8 := b8) (h9 := b9) (h10 := b10) (h11 := hng)
        rw [hds] at h
        exact h
    · have ed : dotL (padL u sc) sc = padL u sc := by
        unfold dotL
        rw [if_pos (by omega)]
      rw [ed]
      by_cases hneg : u < 0
      · have hng : ng u = true := by simpa using hneg
        rw [if_pos hneg]
        have h := prn_4 (h0 := hr) (h1 := rfl) (h2 := hof) (h3 := hf) (h4 := hrep) (h5 := hsz) (h6 := by simpa using hz) (h7 := hng) (h8 := by
          rw [epad, e45, oL_size, oL_size, List.length_cons, List.length_nil]
          omega)
        rw [epad, e45, oL_app] at h
        exact h
      · have hng : ng u = false := by simpa using hneg
        rw [if_neg hneg]
        have h := prn_5 (h0 := hr) (h1 := rfl) (h2 := hof) (h3 := hf) (h4 := hrep) (h5 := hsz) (h6 := by simpa using hz) (h7 := hng)
        rw [epad] at h
        exact h
  · have e0 : decide (sc6 sc) = false := by simpa using hs
    rw [e0] at hr
    have : printL u sc = [] := by
      unfold printL
      rw [if_neg hs]
    rw [this]
    exact prn_1 (h0 := hr) (h1 := rfl)
/-! ### The reference's Print -/
theorem digit_eq (d : Nat) (h : d < 10) : bytesOf [IntKind.u8.wrap (IntKind.u64.wrap (48 + (d : Int)))] = oL [UInt8.ofNat (48 + d)] := by
  have e : IntKind.u8.wrap (IntKind.u64.wrap (48 + (d : Int))) = ((48 + d : Nat) : Int) := by
    rw [wrU (by omega) (by omega)]
    simp [IntKind.wrap, IntKind.bits, IntKind.signed]
    omega
  rw [e]
  rfl
theorem dg_loop : ∀ (f u : Nat) (t : List UInt8), u < 10 ^ (f + 1) → u < 18446744073709551616 → t.length + f ≤ 100 → Fin cE Tryz.f112 0 (.v (st (oL (decDigits u ++ t)))) [] 0 (bodyK dgK f) ([.v (iu u), .na, .na, .v (st (oL t))] ++ List.replicate 19 .na) [] 0 := by
  intro f
  induction f with
  | zero =>
    intro u t h hu ht
    have h9 : u < 10 := by simpa using h
    have e := digit_eq u h9
    have hh := dgb_2 (u : Int) (oL t) 0 (by simp; omega) (by rw [e, oL_size, oL_size]; simp; omega)
    rw [e, oL_app, ← dec_small h9] at hh
    exact hh
  | succ f ih =>
    intro u t h hu ht
    by_cases h9 : u < 10
    · have e := digit_eq u h9
      have hh := dgb_2 (u : Int) (oL t) (f + 1) (by simp; omega) (by rw [e, oL_size, oL_size]; simp; omega)
      rw [e, oL_app, ← dec_small h9] at hh
      exact hh
    · have e := digit_eq (u % 10) (Nat.mod_lt _ (by decide))
      have em : ((u : Int).tmod 10) = ((u % 10 : Nat) : Int) := by rw [Int.tmod_eq_emod_of_nonneg (by omega)]; omega
      have ed : IntKind.u64.wrap ((u : Int).tdiv 10) = ((u / 10 : Nat) : Int) := by rw [Int.tdiv_eq_ediv_of_nonneg (by omega), wrU (by omega) (by omega)]; omega
      have hp : u / 10 < 10 ^ (f + 1) := by
        rw [Nat.pow_succ] at h
        omega
      have hi := ih (u / 10) (UInt8.ofNat (48 + u % 10) :: t) hp (by omega) (by simp; omega)
      have hh := dgb_1 (u : Int) (oL t) (f + 1) (.v (st (oL (decDigits u ++ t)))) [] 0 (by simp; omega) (by rw [em, e, oL_size, oL_size]; simp; omega)
      rw [em, e, ed, oL_app] at hh
      refine hh (fin_round ?_)
      rw [dec_big h9]
      simpa using hi
theorem digits_does (u : Nat) (hu : u < 18446744073709551616) : Does cE 112 [] 0 [.v (iu u)] (.v (st (oL (decDigits u)))) [] 0 := by
  refine does_of_fin (fn := Tryz.f112) (c := bd Tryz.f112) rfl (by kernel_rfl) rfl ?_
  refine dga_1 (u : Int) _ _ _ ?_
  refine fin_loop (19 + 1) (fin_round ?_)
  have h := dg_loop 19 u [] (by omega) hu (by simp)
  rw [List.append_nil] at h
  exact h
theorem rp_loop (u sc : Int) (hs : sc6 sc) (sg : List UInt8) (hg : sg.length ≤ 1) : ∀ (f : Nat) (t : List UInt8), sc.toNat + 1 ≤ t.length + f → t.length ≤ 100 → 
    Fin cE Tryz.f55 0 (.v (st (oL (sg ++ dotL (List.replicate (sc.toNat + 1 - t.length) 48 ++ t) sc)))) [] 0 (bodyK rpK f) ([.na, .p 0 0, .v (st ByteArray.empty), .na, .v (st (oL sg)), .v (st (oL t))] ++ List.replicate 44 .na) [(0, .box 84 [.v (it u), .v (it sc)])] 1 := by
  intro f
  have done : ∀ (f : Nat) (t : List UInt8), sc.toNat + 1 ≤ t.length → t.length ≤ 100 → Fin cE Tryz.f55 0 (.v (st (oL (sg ++ dotL (List.replicate (sc.toNat + 1 - t.length) 48 ++ t) sc)))) [] 0 (bodyK rpK f) ([.na, .p 0 0, .v (st ByteArray.empty), .na, .v (st (oL sg)), .v (st (oL t))] ++ List.replicate 44 .na) [(0, .box 84 [.v (it u), .v (it sc)])] 1 := by
    intro f t h1 h2
    have e0 : sc.toNat + 1 - t.length = 0 := by omega
    rw [e0]
    simp only [List.replicate_zero, List.nil_append]
    by_cases hz : sc = 0
    · have hh := rpb_2 u sc (oL t) (oL sg) f (by rw [oL_size]; simp; omega) (by simpa using hz) (by rw [oL_size, oL_size]; omega)
      rw [oL_app] at hh
      unfold dotL
      rw [if_pos hz]
      exact hh
    · have hds := dot_slices t sc (by omega) (by omega) (by omega)
      have hw : IntKind.i64.wrap (((oL t).size : Int) - sc) = t.length - sc := by
        rw [oL_size, wrap64 (by omega) (by omega)]
      have e46 : ByteArray.mk #[46] = oL [46] := rfl
      have hh := rpb_3 u sc (oL t) (oL sg) f (by rw [oL_size]; simp; omega) (by simpa using hz) (by rw [hw, oL_size]; omega) (by
        simp only [oL_ext, oL_app, oL_size, List.length_append, List.length_take, List.length_drop, List.length_cons, List.length_nil]
        omega) (by
        simp only [e46, oL_ext, oL_app, oL_size, List.length_append, List.length_take, List.length_drop, List.length_cons, List.length_nil]
        omega) (by rw [hw, oL_size]; omega) (by
        simp only [e46, oL_ext, oL_app, oL_size, List.length_append, List.length_take, List.length_drop, List.length_cons, List.length_nil]
        omega)
      have ea : oL sg ++ (oL t).extract (Int.toNat 0) (IntKind.i64.wrap (((oL t).size : Int) - sc)).toNat ++ (ByteArray.mk #[46]) ++ (oL t).extract (IntKind.i64.wrap (((oL t).size : Int) - sc)).toNat ((((oL t).size : Nat) : Int)).toNat = oL (sg ++ dotL t sc) := by
        rw [← oL_app, ← hds, ByteArray.append_assoc, ByteArray.append_assoc, ByteArray.append_assoc]
      rw [ea] at hh
      exact hh
  induction f with
  | zero =>
    intro t h1 h2
    exact done 0 t (by omega) h2
  | succ f ih =>
    intro t h1 h2
    by_cases hl : sc.toNat + 1 ≤ t.length
    · exact done (f + 1) t hl h2
    · have e48 : ByteArray.mk #[48] = oL [48] := rfl
      have hh := rpb_1 u sc (oL t) (oL sg) (f + 1) (.v (st (oL (sg ++ dotL (List.replicate (sc.toNat + 1 - t.length) 48 ++ t) sc)))) [] 0 (by rw [oL_size]; simp; omega) (by rw [e48, oL_size, oL_size]; simp; omega)
      rw [e48, oL_app] at hh
      refine hh (fin_round ?_)
      have hi := ih (48 :: t) (by simp; omega) (by simp; omega)
      have er : List.replicate (sc.toNat + 1 - (48 :: t).length) 48 ++ 48 :: t = List.replicate (sc.toNat + 1 - t.length) 48 ++ t := by
        have : sc.toNat + 1 - t.length = sc.toNat + 1 - (48 :: t).length + 1 := by simp; omega
        rw [this, List.replicate_succ']
        simp
      rw [er] at hi
      exact hi
theorem rprint_does (u sc : Int) (hu : I64 u) : Does cE 55 [] 0 [.v (dc u sc)] (.v (st (oL (printL u sc)))) [] 0 := by
  refine does_of_fin (fn := Tryz.f55) (c := bd Tryz.f55) rfl (by kernel_rfl) rfl ?_
  have hr := rright_does u sc
  by_cases hs : sc6 sc
  · have e0 : decide (sc6 sc) = true := by simpa using hs
    rw [e0] at hr
    have hn : u.natAbs < 18446744073709551616 := by have := ab_spec u; unfold ab at this; omega
    have hd := digits_does u.natAbs hn
    have hl := nd_le hn
    have hp : printL u sc = (if u < 0 then [45] else []) ++ dotL (padL u sc) sc := by
      unfold printL
      rw [if_pos hs]
      split <;> rfl
    rw [hp]
    by_cases hneg : u < 0
    · rw [if_pos hneg]
      have ew : IntKind.u64.wrap (0 - IntKind.u64.wrap u) = ((u.natAbs : Nat) : Int) := by
        rw [wrapU, wrapU]
        omega
      refine rpa_2 u sc true (oL (decDigits u.natAbs)) _ _ _ hr rfl (by simpa using hneg) (by rw [ew]; exact hd) ?_
      exact fin_loop (7 + 1) (fin_round (rp_loop u sc hs [45] (by simp) 7 (decDigits u.natAbs) (by omega) (by omega)))
    · rw [if_neg hneg]
      have ew : IntKind.u64.wrap u = ((u.natAbs : Nat) : Int) := by
        rw [wrapU]
        omega
      refine rpa_3 u sc true (oL (decDigits u.natAbs)) _ _ _ hr rfl (by simpa using hneg) (by rw [ew]; exact hd) ?_
      exact fin_loop (7 + 1) (fin_round (rp_loop u sc hs [] (by simp) 7 (decDigits u.natAbs) (by omega) (by omega)))
  · have e0 : decide (sc6 sc) = false := by simpa using hs
    rw [e0] at hr
    have : printL u sc = [] := by
      unfold printL
      rw [if_neg hs]
    rw [this]
    exact rpa_1 u sc false hr rfl
end Go.Proofs.YtpfignfgfhbblaaGreatDoorC
