/- The contracts of the kit's library for the functions of strings and strconv that lex calls, laid at this program's own numbers: made by the kit's program, no walk. -/
import Derived.Shelf.Strings.Builder1
import Derived.Shelf.Strings.Builder2
import Derived.Shelf.Strings.OnBuilder
import Derived.Shelf.Small.Utf8
import Derived.Shelf.Strings.BuilderF
import Derived.Shelf.Strings.BuilderK
import Derived.Shelf.Strings.BuilderRune
import Derived.Shelf.Strconv.Itoa0
import Derived.Shelf.Strconv.Itoa1
import Derived.Shelf.LaysM
import Derived.Shelf.Strconv.Itoa2
import Derived.Shelf.Strconv.Itoa3
import Derived.Shelf.Strconv.Clone
import Derived.Shelf.Strconv.SyntaxError
import Derived.Shelf.LaysC
import Derived.Shelf.Strconv.ToError
import Derived.Shelf.Strconv.Lower
import Derived.Shelf.Strconv.ParseUint10
import Derived.Shelf.Strconv.ParseUint10Empty
import Derived.Shelf.Strconv.ParseUint10Any
import Derived.Shelf.Strconv.RangeError
import Derived.Shelf.Strconv.ToErrorRange
import Derived.Shelf.Strconv.ParseUintEmpty
import Derived.Shelf.Strconv.ParseUint10b64
import Derived.Shelf.Strconv.ParseUint10b32
import Derived.Shelf.Strconv.ParseUint10b16
import Derived.Shelf.Strconv.ParseUint10b8
import Derived.Shelf.Strconv.ParseUint10At
import Derived.Shelf.Pu.ParseUintPublic10
import Derived.Shelf.Pu.ErrVarParseUint
import Derived.Shelf.Strings.Search1
import Derived.Shelf.Strings.Search2
import Derived.Shelf.Strings.Search3
import Derived.Shelf.Strings.Shaped
import Derived.Shelf.Strings.Prefix
import Derived.Shelf.Unicode.Latin
import Derived.Shelf.Unicode.Decode
import Derived.Shelf.Unicode.DecodeSlow
import Derived.Shelf.Unicode.DecodeAny
import Derived.Shelf.Unicode.CaseLookup
import Derived.Shelf.Unicode.CaseConvert
import Derived.Shelf.Unicode.CaseTo
import Derived.Shelf.Unicode.CaseLaid
import Derived.Shelf.Strings.MapAny
import Derived.Shelf.Strings.CaseAny
import Derived.Test.YteinadddmcicoaaGreatDoorProg
namespace Go.Proofs
open Go.Shelf
def Tryz.lays169_ren : Go.Shelf.Ren := ⟨fun | 169 => 201 | n => n, fun | 70 => 350 | 9 => 9 | 0 => 0 | 72 => 353 | 37 => 351 | 127 => 365 | 3 => 3 | 5 => 5 | n => n, fun | n => n⟩
theorem Tryz.lays169 : Go.Proofs.Lays.n169 Tryz.prog Tryz.lays169_ren := {
  mixed := by kernel_rfl
  f169 := Tryz.func201.trans (congrArg some (by kernel_rfl))
  t0 := Tryz.underlying0
  a0 := Tryz.isAgg0
  z0 := Tryz.sizeOf0
  v0 := Tryz.zeroValue0
  t3 := Tryz.underlying3
  a3 := Tryz.isAgg3
  z3 := Tryz.sizeOf3
  v3 := Tryz.zeroValue3
  t9 := Tryz.underlying9
  a9 := Tryz.isAgg9
  z9 := Tryz.sizeOf9
  v9 := Tryz.zeroValue9
  t37 := Tryz.underlying351
  a37 := Tryz.isAgg351
  z37 := Tryz.sizeOf351
  v37 := Tryz.zeroValue351
  t70 := Tryz.underlying350
  a70 := Tryz.isAgg350
  z70 := Tryz.sizeOf350
  v70 := Tryz.zeroValue350
  t72 := Tryz.underlying353
  a72 := Tryz.isAgg353
  z72 := Tryz.sizeOf353
  v72 := Tryz.zeroValue353
  t127 := Tryz.underlying365
  a127 := Tryz.isAgg365
  z127 := Tryz.sizeOf365
  v127 := Tryz.zeroValue365 }
theorem Tryz.Builder_Extra_169 : Builder.Extra Tryz.prog Tryz.lays169_ren := {
  sizeBuilder := by kernel_rfl
  liesBuilder := by kernel_rfl
  t5 := Tryz.underlying5
  a5 := Tryz.isAgg5
  z5 := Tryz.sizeOf5
  v5 := Tryz.zeroValue5
  infoByte := by kernel_rfl
  cellsByte := by kernel_rfl
  sizeByte := by kernel_rfl
  neB5 := by decide }
def Tryz.lays159_ren : Go.Shelf.Ren := ⟨fun | 159 => 207 | 165 => 216 | 166 => 200 | 167 => 199 | 169 => 201 | 230 => 217 | 204 => 218 | 240 => 211 | 241 => 233 | 197 => 234 | 118 => 235 | 168 => 236 | 270 => 237 | 262 => 238 | 276 => 221 | 277 => 251 | 260 => 252 | 242 => 253 | 313 => 254 | 278 => 260 | 274 => 261 | 275 => 262 | n => n, fun | 9 => 9 | 4 => 4 | 3 => 3 | 5 => 5 | 72 => 353 | 0 => 0 | 76 => 357 | 75 => 355 | 107 => 370 | 70 => 350 | 20 => 20 | 37 => 351 | 127 => 365 | 21 => 21 | 105 => 384 | 164 => 372 | 162 => 404 | 203 => 402 | 119 => 412 | 46 => 75 | 139 => 415 | 138 => 414 | 51 => 396 | 160 => 416 | 208 => 424 | 206 => 422 | 80 => 359 | n => n, fun | 13 => 4 | 3 => 5 | 4 => 6 | n => n⟩
theorem Tryz.lays159 : Go.Proofs.Lays.n159 Tryz.prog Tryz.lays159_ren := {
  mixed := by kernel_rfl
  f118 := Tryz.func235.trans (congrArg some (by kernel_rfl))
  f159 := Tryz.func207.trans (congrArg some (by kernel_rfl))
  f165 := Tryz.func216.trans (congrArg some (by kernel_rfl))
  f166 := Tryz.func200.trans (congrArg some (by kernel_rfl))
  f167 := Tryz.func199.trans (congrArg some (by kernel_rfl))
  f168 := Tryz.func236.trans (congrArg some (by kernel_rfl))
  f169 := Tryz.func201.trans (congrArg some (by kernel_rfl))
  f197 := Tryz.func234.trans (congrArg some (by kernel_rfl))
  f204 := Tryz.func218.trans (congrArg some (by kernel_rfl))
  f230 := Tryz.func217.trans (congrArg some (by kernel_rfl))
  f240 := Tryz.func211.trans (congrArg some (by kernel_rfl))
  f241 := Tryz.func233.trans (congrArg some (by kernel_rfl))
  f242 := Tryz.func253.trans (congrArg some (by kernel_rfl))
  f260 := Tryz.func252.trans (congrArg some (by kernel_rfl))
  f262 := Tryz.func238.trans (congrArg some (by kernel_rfl))
  f270 := Tryz.func237.trans (congrArg some (by kernel_rfl))
  f274 := Tryz.func261.trans (congrArg some (by kernel_rfl))
  f275 := Tryz.func262.trans (congrArg some (by kernel_rfl))
  f276 := Tryz.func221.trans (congrArg some (by kernel_rfl))
  f277 := Tryz.func251.trans (congrArg some (by kernel_rfl))
  f278 := Tryz.func260.trans (congrArg some (by kernel_rfl))
  f313 := Tryz.func254.trans (congrArg some (by kernel_rfl))
  t0 := Tryz.underlying0
  a0 := Tryz.isAgg0
  z0 := Tryz.sizeOf0
  v0 := Tryz.zeroValue0
  t3 := Tryz.underlying3
  a3 := Tryz.isAgg3
  z3 := Tryz.sizeOf3
  v3 := Tryz.zeroValue3
  t4 := Tryz.underlying4
  a4 := Tryz.isAgg4
  z4 := Tryz.sizeOf4
  v4 := Tryz.zeroValue4
  t5 := Tryz.underlying5
  a5 := Tryz.isAgg5
  z5 := Tryz.sizeOf5
  v5 := Tryz.zeroValue5
  t9 := Tryz.underlying9
  a9 := Tryz.isAgg9
  z9 := Tryz.sizeOf9
  v9 := Tryz.zeroValue9
  t20 := Tryz.underlying20
  a20 := Tryz.isAgg20
  z20 := Tryz.sizeOf20
  v20 := Tryz.zeroValue20
  t21 := Tryz.underlying21
  a21 := Tryz.isAgg21
  z21 := Tryz.sizeOf21
  v21 := Tryz.zeroValue21
  t37 := Tryz.underlying351
  a37 := Tryz.isAgg351
  z37 := Tryz.sizeOf351
  v37 := Tryz.zeroValue351
  t46 := Tryz.underlying75
  a46 := Tryz.isAgg75
  z46 := Tryz.sizeOf75
  v46 := Tryz.zeroValue75
  t51 := Tryz.underlying396
  a51 := Tryz.isAgg396
  z51 := Tryz.sizeOf396
  v51 := Tryz.zeroValue396
  t70 := Tryz.underlying350
  a70 := Tryz.isAgg350
  z70 := Tryz.sizeOf350
  v70 := Tryz.zeroValue350
  t72 := Tryz.underlying353
  a72 := Tryz.isAgg353
  z72 := Tryz.sizeOf353
  v72 := Tryz.zeroValue353
  t75 := Tryz.underlying355
  a75 := Tryz.isAgg355
  z75 := Tryz.sizeOf355
  v75 := Tryz.zeroValue355
  t76 := Tryz.underlying357
  a76 := Tryz.isAgg357
  z76 := Tryz.sizeOf357
  v76 := Tryz.zeroValue357
  t105 := Tryz.underlying384
  a105 := Tryz.isAgg384
  z105 := Tryz.sizeOf384
  v105 := Tryz.zeroValue384
  t107 := Tryz.underlying370
  a107 := Tryz.isAgg370
  z107 := Tryz.sizeOf370
  v107 := Tryz.zeroValue370
  t119 := Tryz.underlying412
  a119 := Tryz.isAgg412
  z119 := Tryz.sizeOf412
  t127 := Tryz.underlying365
  a127 := Tryz.isAgg365
  z127 := Tryz.sizeOf365
  v127 := Tryz.zeroValue365
  t138 := Tryz.underlying414
  a138 := Tryz.isAgg414
  z138 := Tryz.sizeOf414
  v138 := Tryz.zeroValue414
  t139 := Tryz.underlying415
  a139 := Tryz.isAgg415
  z139 := Tryz.sizeOf415
  v139 := Tryz.zeroValue415
  t160 := Tryz.underlying416
  a160 := Tryz.isAgg416
  z160 := Tryz.sizeOf416
  v160 := Tryz.zeroValue416
  t162 := Tryz.underlying404
  a162 := Tryz.isAgg404
  z162 := Tryz.sizeOf404
  v162 := Tryz.zeroValue404
  t164 := Tryz.underlying372
  a164 := Tryz.isAgg372
  z164 := Tryz.sizeOf372
  v164 := Tryz.zeroValue372
  t203 := Tryz.underlying402
  a203 := Tryz.isAgg402
  z203 := Tryz.sizeOf402
  v203 := Tryz.zeroValue402
  t206 := Tryz.underlying422
  a206 := Tryz.isAgg422
  z206 := Tryz.sizeOf422
  v206 := Tryz.zeroValue422
  t208 := Tryz.underlying424
  a208 := Tryz.isAgg424
  z208 := Tryz.sizeOf424
  v208 := Tryz.zeroValue424
  g3 := by kernel_rfl
  g4 := by kernel_rfl
  g13 := by kernel_rfl }
theorem Tryz.Builder_Extra_159 : Builder.Extra Tryz.prog Tryz.lays159_ren := {
  sizeBuilder := by kernel_rfl
  liesBuilder := by kernel_rfl
  t5 := Tryz.underlying5
  a5 := Tryz.isAgg5
  z5 := Tryz.sizeOf5
  v5 := Tryz.zeroValue5
  infoByte := by kernel_rfl
  cellsByte := by kernel_rfl
  sizeByte := by kernel_rfl
  neB5 := by decide }
open Go.RowKit in
theorem Tryz.Builder_String_any_k (B b : Nat) (l : List UInt8) (w : World) (h : Lib.IsBuilderF 353 5 B b (Lib.byteCells l) w) (hBw : B ≤ w.heap.size) :
    Calls Tryz.prog 201 #[.pointer (some ⟨b, 0, none⟩)] w fun e w' => e = .returned (.string ⟨l.toArray⟩) ∧ (Lib.IsBuilderF 353 5 B b (Lib.byteCells l) w' ∧ Below B w w' ∧ Lib.OthersKept 5 (some b) w w') := Any.Builder_String_any_k Tryz.lays169 Tryz.Builder_Extra_169 B b l w h hBw
def Tryz.lays283_ren : Go.Shelf.Ren := ⟨fun | 283 => 229 | n => n, fun | 3 => 3 | 9 => 9 | 4 => 4 | n => n, fun | n => n⟩
theorem Tryz.lays283 : Go.Proofs.Lays.n283 Tryz.prog Tryz.lays283_ren := {
  mixed := by kernel_rfl
  f283 := Tryz.func229.trans (congrArg some (by kernel_rfl))
  t3 := Tryz.underlying3
  a3 := Tryz.isAgg3
  z3 := Tryz.sizeOf3
  v3 := Tryz.zeroValue3
  t4 := Tryz.underlying4
  a4 := Tryz.isAgg4
  z4 := Tryz.sizeOf4
  v4 := Tryz.zeroValue4
  t9 := Tryz.underlying9
  a9 := Tryz.isAgg9
  z9 := Tryz.sizeOf9
  v9 := Tryz.zeroValue9 }
open Go.Lib in
theorem Tryz.internal_strconv_small (i : Nat) (h : i < 100) (w : World) :
    Calls Tryz.prog 229 #[.int .i64 i] w fun e w' => e = .returned (.string ⟨(Lib.decDigits i).toArray⟩) ∧ w' = w := Any.internal_strconv_small Tryz.lays283 i h w
def Tryz.laysM284_ren : Go.Shelf.Ren := ⟨fun | 284 => 230 | 129 => 247 | 317 => 246 | 318 => 248 | n => n, fun | 53 => 83 | 3 => 3 | 212 => 395 | 0 => 0 | 4 => 4 | 46 => 75 | 5 => 5 | 9 => 9 | n => n, fun | 17 => 3 | n => n⟩
theorem Tryz.laysM284 : Go.Proofs.LaysM.n284 Tryz.prog Tryz.laysM284_ren := {
  mixed := by kernel_rfl
  f129 := Tryz.func247.trans (congrArg some (by kernel_rfl))
  f284 := Tryz.func230.trans (congrArg some (by kernel_rfl))
  f317 := Tryz.func246.trans (congrArg some (by kernel_rfl))
  f318 := Tryz.func248.trans (congrArg some (by kernel_rfl))
  t0 := Tryz.underlying0
  a0 := Tryz.isAgg0
  z0 := Tryz.sizeOf0
  v0 := Tryz.zeroValue0
  t3 := Tryz.underlying3
  a3 := Tryz.isAgg3
  z3 := Tryz.sizeOf3
  v3 := Tryz.zeroValue3
  t4 := Tryz.underlying4
  a4 := Tryz.isAgg4
  z4 := Tryz.sizeOf4
  v4 := Tryz.zeroValue4
  t5 := Tryz.underlying5
  a5 := Tryz.isAgg5
  z5 := Tryz.sizeOf5
  v5 := Tryz.zeroValue5
  t9 := Tryz.underlying9
  a9 := Tryz.isAgg9
  z9 := Tryz.sizeOf9
  v9 := Tryz.zeroValue9
  t46 := Tryz.underlying75
  a46 := Tryz.isAgg75
  z46 := Tryz.sizeOf75
  v46 := Tryz.zeroValue75
  t53 := Tryz.underlying83
  a53 := Tryz.isAgg83
  z53 := Tryz.sizeOf83
  v53 := Tryz.zeroValue83
  t212 := Tryz.underlying395
  a212 := Tryz.isAgg395
  z212 := Tryz.sizeOf395
  v212 := Tryz.zeroValue395
  g17 := by kernel_rfl
  i0 := by kernel_rfl
  i3 := by kernel_rfl
  i4 := by kernel_rfl
  i5 := by kernel_rfl
  i9 := by kernel_rfl
  i46 := by kernel_rfl
  i53 := by kernel_rfl
  i212 := by kernel_rfl
  m17 := by kernel_rfl }
open Go.Lib in
theorem Tryz.internal_strconv_numDigits (u : Nat) (h1 : 1 ≤ u) (h2 : u < 18446744073709551616) (w : World) (htab : Lib.TabIs Tryz.prog w "internal/strconv.uint64pow10" .u64 Lib.pow10Tab) :
    Calls Tryz.prog 230 #[.int .u64 u] w fun e w' => e = .returned (.int .i64 (Lib.nDigits u)) ∧ w' = w := Any.internal_strconv_numDigits Tryz.laysM284 u h1 h2 w htab
def Tryz.lays285_ren : Go.Shelf.Ren := ⟨fun | 285 => 231 | n => n, fun | 37 => 351 | 53 => 83 | 3 => 3 | 4 => 4 | 51 => 396 | 9 => 9 | 5 => 5 | 0 => 0 | n => n, fun | n => n⟩
theorem Tryz.lays285 : Go.Proofs.Lays.n285 Tryz.prog Tryz.lays285_ren := {
  mixed := by kernel_rfl
  f285 := Tryz.func231.trans (congrArg some (by kernel_rfl))
  t0 := Tryz.underlying0
  a0 := Tryz.isAgg0
  z0 := Tryz.sizeOf0
  v0 := Tryz.zeroValue0
  t3 := Tryz.underlying3
  a3 := Tryz.isAgg3
  z3 := Tryz.sizeOf3
  v3 := Tryz.zeroValue3
  t4 := Tryz.underlying4
  a4 := Tryz.isAgg4
  z4 := Tryz.sizeOf4
  v4 := Tryz.zeroValue4
  t5 := Tryz.underlying5
  a5 := Tryz.isAgg5
  z5 := Tryz.sizeOf5
  v5 := Tryz.zeroValue5
  t9 := Tryz.underlying9
  a9 := Tryz.isAgg9
  z9 := Tryz.sizeOf9
  v9 := Tryz.zeroValue9
  t37 := Tryz.underlying351
  a37 := Tryz.isAgg351
  z37 := Tryz.sizeOf351
  v37 := Tryz.zeroValue351
  t51 := Tryz.underlying396
  a51 := Tryz.isAgg396
  z51 := Tryz.sizeOf396
  v51 := Tryz.zeroValue396
  t53 := Tryz.underlying83
  a53 := Tryz.isAgg83
  z53 := Tryz.sizeOf83
  v53 := Tryz.zeroValue83 }
open Go.RowKit Go.Sort Go.Lib in
theorem Tryz.internal_strconv_formatBase10 (blk off cap : Nat) (u : Nat) (d : Array UInt8) (w : World) (hH : Holds (fun (b : UInt8) => Value.int .u8 (b.toNat : Int)) w blk off d) (hu : u < 10 ^ d.size) (hu64 : u < 18446744073709551616) (hsz : d.size < 4611686018427387904) :
    Calls Tryz.prog 231 #[.slice (some ⟨blk, off, none⟩) d.size cap, .int .u64 u] w fun e w' =>
      e = .returned (.tuple #[]) ∧ ∃ (n v' : Nat) (dk : Array UInt8), w' = (putRow (fun (b : UInt8) => Value.int .u8 (b.toNat : Int)) w blk off dk).drewN n ∧ FmtInv d.size u 0 v' dk := Any.internal_strconv_formatBase10 Tryz.lays285 blk off cap u d w hH hu hu64 hsz
def Tryz.laysC245_ren : Go.Shelf.Ren := ⟨fun | 245 => 214 | 279 => 225 | 280 => 226 | 281 => 227 | 282 => 228 | 316 => 244 | 171 => 220 | 205 => 245 | 243 => 239 | 246 => 255 | 283 => 229 | 284 => 230 | 285 => 231 | 286 => 232 | 129 => 247 | 317 => 246 | 318 => 248 | 319 => 249 | 320 => 250 | 337 => 258 | 338 => 259 | n => n, fun | 9 => 9 | 3 => 3 | 75 => 355 | 167 => 374 | 4 => 4 | 168 => 376 | 210 => 392 | 37 => 351 | 0 => 0 | 127 => 365 | 145 => 410 | 143 => 408 | 2 => 2 | 171 => 379 | 53 => 83 | 5 => 5 | 173 => 382 | 212 => 395 | 51 => 396 | 20 => 20 | 213 => 397 | 46 => 75 | 232 => 419 | 233 => 420 | 80 => 359 | n => n, fun | 15 => 1 | 16 => 2 | 17 => 3 | 18 => 7 | 19 => 8 | n => n⟩
theorem Tryz.laysC245 : Go.Proofs.LaysC.n245 Tryz.prog Tryz.laysC245_ren := {
  mixed := by kernel_rfl
  f129 := Tryz.func247.trans (congrArg some (by kernel_rfl))
  f171 := Tryz.func220.trans (congrArg some (by kernel_rfl))
  f205 := Tryz.func245.trans (congrArg some (by kernel_rfl))
  f243 := Tryz.func239.trans (congrArg some (by kernel_rfl))
  f245 := Tryz.func214.trans (congrArg some (by kernel_rfl))
  f246 := Tryz.func255.trans (congrArg some (by kernel_rfl))
  f279 := Tryz.func225.trans (congrArg some (by kernel_rfl))
  f280 := Tryz.func226.trans (congrArg some (by kernel_rfl))
  f281 := Tryz.func227.trans (congrArg some (by kernel_rfl))
  f282 := Tryz.func228.trans (congrArg some (by kernel_rfl))
  f283 := Tryz.func229.trans (congrArg some (by kernel_rfl))
  f284 := Tryz.func230.trans (congrArg some (by kernel_rfl))
  f285 := Tryz.func231.trans (congrArg some (by kernel_rfl))
  f286 := Tryz.func232.trans (congrArg some (by kernel_rfl))
  f316 := Tryz.func244.trans (congrArg some (by kernel_rfl))
  f317 := Tryz.func246.trans (congrArg some (by kernel_rfl))
  f318 := Tryz.func248.trans (congrArg some (by kernel_rfl))
  f319 := Tryz.func249.trans (congrArg some (by kernel_rfl))
  f320 := Tryz.func250.trans (congrArg some (by kernel_rfl))
  f337 := Tryz.func258.trans (congrArg some (by kernel_rfl))
  f338 := Tryz.func259.trans (congrArg some (by kernel_rfl))
  t0 := Tryz.underlying0
  a0 := Tryz.isAgg0
  z0 := Tryz.sizeOf0
  v0 := Tryz.zeroValue0
  t2 := Tryz.underlying2
  a2 := Tryz.isAgg2
  z2 := Tryz.sizeOf2
  v2 := Tryz.zeroValue2
  t3 := Tryz.underlying3
  a3 := Tryz.isAgg3
  z3 := Tryz.sizeOf3
  v3 := Tryz.zeroValue3
  t4 := Tryz.underlying4
  a4 := Tryz.isAgg4
  z4 := Tryz.sizeOf4
  v4 := Tryz.zeroValue4
  t5 := Tryz.underlying5
  a5 := Tryz.isAgg5
  z5 := Tryz.sizeOf5
  v5 := Tryz.zeroValue5
  t9 := Tryz.underlying9
  a9 := Tryz.isAgg9
  z9 := Tryz.sizeOf9
  v9 := Tryz.zeroValue9
  t20 := Tryz.underlying20
  a20 := Tryz.isAgg20
  z20 := Tryz.sizeOf20
  v20 := Tryz.zeroValue20
  t37 := Tryz.underlying351
  a37 := Tryz.isAgg351
  z37 := Tryz.sizeOf351
  v37 := Tryz.zeroValue351
  t46 := Tryz.underlying75
  a46 := Tryz.isAgg75
  z46 := Tryz.sizeOf75
  v46 := Tryz.zeroValue75
  t51 := Tryz.underlying396
  a51 := Tryz.isAgg396
  z51 := Tryz.sizeOf396
  v51 := Tryz.zeroValue396
  t53 := Tryz.underlying83
  a53 := Tryz.isAgg83
  z53 := Tryz.sizeOf83
  v53 := Tryz.zeroValue83
  t75 := Tryz.underlying355
  a75 := Tryz.isAgg355
  z75 := Tryz.sizeOf355
  v75 := Tryz.zeroValue355
  t127 := Tryz.underlying365
  a127 := Tryz.isAgg365
  z127 := Tryz.sizeOf365
  v127 := Tryz.zeroValue365
  t143 := Tryz.underlying408
  a143 := Tryz.isAgg408
  z143 := Tryz.sizeOf408
  v143 := Tryz.zeroValue408
  t145 := Tryz.underlying410
  a145 := Tryz.isAgg410
  z145 := Tryz.sizeOf410
  v145 := Tryz.zeroValue410
  t167 := Tryz.underlying374
  a167 := Tryz.isAgg374
  z167 := Tryz.sizeOf374
  v167 := Tryz.zeroValue374
  t168 := Tryz.underlying376
  a168 := Tryz.isAgg376
  z168 := Tryz.sizeOf376
  v168 := Tryz.zeroValue376
  t171 := Tryz.underlying379
  a171 := Tryz.isAgg379
  z171 := Tryz.sizeOf379
  v171 := Tryz.zeroValue379
  t173 := Tryz.underlying382
  a173 := Tryz.isAgg382
  z173 := Tryz.sizeOf382
  v173 := Tryz.zeroValue382
  t210 := Tryz.underlying392
  a210 := Tryz.isAgg392
  z210 := Tryz.sizeOf392
  v210 := Tryz.zeroValue392
  t212 := Tryz.underlying395
  a212 := Tryz.isAgg395
  z212 := Tryz.sizeOf395
  v212 := Tryz.zeroValue395
  t213 := Tryz.underlying397
  a213 := Tryz.isAgg397
  z213 := Tryz.sizeOf397
  t232 := Tryz.underlying419
  a232 := Tryz.isAgg419
  z232 := Tryz.sizeOf419
  v232 := Tryz.zeroValue419
  t233 := Tryz.underlying420
  a233 := Tryz.isAgg420
  z233 := Tryz.sizeOf420
  v233 := Tryz.zeroValue420
  g15 := by kernel_rfl
  g16 := by kernel_rfl
  g17 := by kernel_rfl
  g18 := by kernel_rfl
  g19 := by kernel_rfl
  t80 := Tryz.underlying359
  a80 := Tryz.isAgg359
  z80 := Tryz.sizeOf359
  v80 := Tryz.zeroValue359
  i0 := by kernel_rfl
  i2 := by kernel_rfl
  i3 := by kernel_rfl
  i4 := by kernel_rfl
  i5 := by kernel_rfl
  i9 := by kernel_rfl
  i20 := by kernel_rfl
  i37 := by kernel_rfl
  i46 := by kernel_rfl
  i51 := by kernel_rfl
  i53 := by kernel_rfl
  i75 := by kernel_rfl
  i80 := by kernel_rfl
  i127 := by kernel_rfl
  i143 := by kernel_rfl
  i145 := by kernel_rfl
  i167 := by kernel_rfl
  i168 := by kernel_rfl
  i171 := by kernel_rfl
  i173 := by kernel_rfl
  i210 := by kernel_rfl
  i212 := by kernel_rfl
  i232 := by kernel_rfl
  i233 := by kernel_rfl
  m15 := by kernel_rfl
  m16 := by kernel_rfl
  m17 := by kernel_rfl
  m18 := by kernel_rfl
  m19 := by kernel_rfl
  c0 := by kernel_rfl
  c2 := by kernel_rfl
  c3 := by kernel_rfl
  c4 := by kernel_rfl
  c5 := by kernel_rfl
  c9 := by kernel_rfl
  c20 := by kernel_rfl
  c37 := by kernel_rfl
  c46 := by kernel_rfl
  c51 := by kernel_rfl
  c53 := by kernel_rfl
  c75 := by kernel_rfl
  c80 := by kernel_rfl
  c127 := by kernel_rfl
  c143 := by kernel_rfl
  c145 := by kernel_rfl
  c167 := by kernel_rfl
  c168 := by kernel_rfl
  c171 := by kernel_rfl
  c173 := by kernel_rfl
  c210 := by kernel_rfl
  c212 := by kernel_rfl
  c213 := by kernel_rfl
  c232 := by kernel_rfl
  c233 := by kernel_rfl }
open Go.RowKit in
theorem Tryz.strconv_toError_syntax (fn s : ByteArray) (base bits : Int) (ev : Value) (w : World) (hlim : s.size ≤ 281474976710656) (hv : w.cell? ⟨1, 0, none⟩ = some ev) (hev : ev = .nilIface ∨ ∃ te pe, ev = .iface te pe) :
    Calls Tryz.prog 214 #[.string fn, .string s, .int .i64 base, .int .i64 bits, .iface 374 (.int .i64 2)] w fun e w' => ∃ N, e = .returned (.iface 376 (.pointer (some ⟨N, 0, none⟩))) ∧ w.heap.size ≤ N ∧ w'.heap[N]? = some (.cells #[.string fn, .string s, ev] 392 (0, 0)) ∧ Below w.heap.size w w' := Any.strconv_toError_syntax Tryz.laysC245 fn s base bits ev w hlim hv hev
def Tryz.lays321_ren : Go.Shelf.Ren := ⟨fun | 321 => 223 | n => n, fun | 5 => 5 | n => n, fun | n => n⟩
theorem Tryz.lays321 : Go.Proofs.Lays.n321 Tryz.prog Tryz.lays321_ren := {
  mixed := by kernel_rfl
  f321 := Tryz.func223.trans (congrArg some (by kernel_rfl))
  t5 := Tryz.underlying5
  a5 := Tryz.isAgg5
  z5 := Tryz.sizeOf5
  v5 := Tryz.zeroValue5 }
open Go.RowKit in
theorem Tryz.internal_strconv_lower (c : Int) (w : World) :
    Calls Tryz.prog 223 #[.int .u8 c] w fun e w' => e = .returned (.int .u8 (bits .or .u8 c 32)) ∧ w' = w := Any.internal_strconv_lower Tryz.lays321 c w
open Go.RowKit in
theorem Tryz.strconv_toError_range (fn s : ByteArray) (base bits : Int) (ev : Value) (w : World) (hlim : s.size ≤ 281474976710656) (hv : w.cell? ⟨2, 0, none⟩ = some ev) (hev : ev = .nilIface ∨ ∃ te pe, ev = .iface te pe) :
    Calls Tryz.prog 214 #[.string fn, .string s, .int .i64 base, .int .i64 bits, .iface 374 (.int .i64 1)] w fun e w' => ∃ N, e = .returned (.iface 376 (.pointer (some ⟨N, 0, none⟩))) ∧ w.heap.size ≤ N ∧ w'.heap[N]? = some (.cells #[.string fn, .string s, ev] 392 (0, 0)) ∧ Below w.heap.size w w' := Any.strconv_toError_range Tryz.laysC245 fn s base bits ev w hlim hv hev
def Tryz.laysPu14_ren : Go.Shelf.Ren := ⟨fun | 14 => 205 | 16 => 213 | 17 => 214 | 19 => 223 | 20 => 224 | 21 => 225 | 22 => 226 | 23 => 227 | 24 => 228 | 25 => 244 | 27 => 220 | 26 => 245 | 28 => 239 | 29 => 255 | 30 => 229 | 31 => 230 | 32 => 231 | 33 => 232 | 35 => 247 | 34 => 246 | 36 => 248 | 37 => 249 | 38 => 250 | 39 => 258 | 40 => 259 | n => n, fun | 9 => 9 | 3 => 3 | 22 => 83 | 24 => 355 | 25 => 360 | 4 => 4 | 34 => 374 | 5 => 5 | 36 => 75 | 37 => 351 | 0 => 0 | 39 => 376 | 21 => 21 | 44 => 392 | 47 => 365 | 50 => 410 | 48 => 408 | 2 => 2 | 52 => 379 | 55 => 382 | 59 => 395 | 60 => 396 | 20 => 20 | 61 => 397 | 65 => 419 | 66 => 420 | 67 => 359 | n => n, fun | 0 => 1 | 1 => 2 | 2 => 3 | 3 => 7 | 4 => 8 | n => n⟩
theorem Tryz.laysPu14 : Go.Proofs.LaysPu.n14 Tryz.prog Tryz.laysPu14_ren := {
  mixed := by kernel_rfl
  f14 := Tryz.func205.trans (congrArg some (by kernel_rfl))
  f16 := Tryz.func213.trans (congrArg some (by kernel_rfl))
  f17 := Tryz.func214.trans (congrArg some (by kernel_rfl))
  f19 := Tryz.func223.trans (congrArg some (by kernel_rfl))
  f20 := Tryz.func224.trans (congrArg some (by kernel_rfl))
  f21 := Tryz.func225.trans (congrArg some (by kernel_rfl))
  f22 := Tryz.func226.trans (congrArg some (by kernel_rfl))
  f23 := Tryz.func227.trans (congrArg some (by kernel_rfl))
  f24 := Tryz.func228.trans (congrArg some (by kernel_rfl))
  f25 := Tryz.func244.trans (congrArg some (by kernel_rfl))
  f26 := Tryz.func245.trans (congrArg some (by kernel_rfl))
  f27 := Tryz.func220.trans (congrArg some (by kernel_rfl))
  f28 := Tryz.func239.trans (congrArg some (by kernel_rfl))
  f29 := Tryz.func255.trans (congrArg some (by kernel_rfl))
  f30 := Tryz.func229.trans (congrArg some (by kernel_rfl))
  f31 := Tryz.func230.trans (congrArg some (by kernel_rfl))
  f32 := Tryz.func231.trans (congrArg some (by kernel_rfl))
  f33 := Tryz.func232.trans (congrArg some (by kernel_rfl))
  f34 := Tryz.func246.trans (congrArg some (by kernel_rfl))
  f35 := Tryz.func247.trans (congrArg some (by kernel_rfl))
  f36 := Tryz.func248.trans (congrArg some (by kernel_rfl))
  f37 := Tryz.func249.trans (congrArg some (by kernel_rfl))
  f38 := Tryz.func250.trans (congrArg some (by kernel_rfl))
  f39 := Tryz.func258.trans (congrArg some (by kernel_rfl))
  f40 := Tryz.func259.trans (congrArg some (by kernel_rfl))
  t0 := Tryz.underlying0
  a0 := Tryz.isAgg0
  z0 := Tryz.sizeOf0
  v0 := Tryz.zeroValue0
  i0 := by kernel_rfl
  t2 := Tryz.underlying2
  a2 := Tryz.isAgg2
  z2 := Tryz.sizeOf2
  v2 := Tryz.zeroValue2
  i2 := by kernel_rfl
  t3 := Tryz.underlying3
  a3 := Tryz.isAgg3
  z3 := Tryz.sizeOf3
  v3 := Tryz.zeroValue3
  i3 := by kernel_rfl
  t4 := Tryz.underlying4
  a4 := Tryz.isAgg4
  z4 := Tryz.sizeOf4
  v4 := Tryz.zeroValue4
  i4 := by kernel_rfl
  t5 := Tryz.underlying5
  a5 := Tryz.isAgg5
  z5 := Tryz.sizeOf5
  v5 := Tryz.zeroValue5
  i5 := by kernel_rfl
  t9 := Tryz.underlying9
  a9 := Tryz.isAgg9
  z9 := Tryz.sizeOf9
  v9 := Tryz.zeroValue9
  i9 := by kernel_rfl
  t20 := Tryz.underlying20
  a20 := Tryz.isAgg20
  z20 := Tryz.sizeOf20
  v20 := Tryz.zeroValue20
  i20 := by kernel_rfl
  t21 := Tryz.underlying21
  a21 := Tryz.isAgg21
  z21 := Tryz.sizeOf21
  v21 := Tryz.zeroValue21
  i21 := by kernel_rfl
  t22 := Tryz.underlying83
  a22 := Tryz.isAgg83
  z22 := Tryz.sizeOf83
  v22 := Tryz.zeroValue83
  i22 := by kernel_rfl
  t24 := Tryz.underlying355
  a24 := Tryz.isAgg355
  z24 := Tryz.sizeOf355
  v24 := Tryz.zeroValue355
  i24 := by kernel_rfl
  t25 := Tryz.underlying360
  a25 := Tryz.isAgg360
  z25 := Tryz.sizeOf360
  v25 := Tryz.zeroValue360
  i25 := by kernel_rfl
  t34 := Tryz.underlying374
  a34 := Tryz.isAgg374
  z34 := Tryz.sizeOf374
  v34 := Tryz.zeroValue374
  i34 := by kernel_rfl
  c34 := by kernel_rfl
  t36 := Tryz.underlying75
  a36 := Tryz.isAgg75
  z36 := Tryz.sizeOf75
  v36 := Tryz.zeroValue75
  i36 := by kernel_rfl
  t37 := Tryz.underlying351
  a37 := Tryz.isAgg351
  z37 := Tryz.sizeOf351
  v37 := Tryz.zeroValue351
  i37 := by kernel_rfl
  t39 := Tryz.underlying376
  a39 := Tryz.isAgg376
  z39 := Tryz.sizeOf376
  v39 := Tryz.zeroValue376
  i39 := by kernel_rfl
  t44 := Tryz.underlying392
  a44 := Tryz.isAgg392
  z44 := Tryz.sizeOf392
  v44 := Tryz.zeroValue392
  i44 := by kernel_rfl
  t47 := Tryz.underlying365
  a47 := Tryz.isAgg365
  z47 := Tryz.sizeOf365
  v47 := Tryz.zeroValue365
  i47 := by kernel_rfl
  t48 := Tryz.underlying408
  a48 := Tryz.isAgg408
  z48 := Tryz.sizeOf408
  v48 := Tryz.zeroValue408
  i48 := by kernel_rfl
  t50 := Tryz.underlying410
  a50 := Tryz.isAgg410
  z50 := Tryz.sizeOf410
  v50 := Tryz.zeroValue410
  i50 := by kernel_rfl
  t52 := Tryz.underlying379
  a52 := Tryz.isAgg379
  z52 := Tryz.sizeOf379
  v52 := Tryz.zeroValue379
  i52 := by kernel_rfl
  t55 := Tryz.underlying382
  a55 := Tryz.isAgg382
  z55 := Tryz.sizeOf382
  v55 := Tryz.zeroValue382
  i55 := by kernel_rfl
  t59 := Tryz.underlying395
  a59 := Tryz.isAgg395
  z59 := Tryz.sizeOf395
  v59 := Tryz.zeroValue395
  i59 := by kernel_rfl
  t60 := Tryz.underlying396
  a60 := Tryz.isAgg396
  z60 := Tryz.sizeOf396
  v60 := Tryz.zeroValue396
  i60 := by kernel_rfl
  t61 := Tryz.underlying397
  a61 := Tryz.isAgg397
  z61 := Tryz.sizeOf397
  t65 := Tryz.underlying419
  a65 := Tryz.isAgg419
  z65 := Tryz.sizeOf419
  v65 := Tryz.zeroValue419
  i65 := by kernel_rfl
  t66 := Tryz.underlying420
  a66 := Tryz.isAgg420
  z66 := Tryz.sizeOf420
  v66 := Tryz.zeroValue420
  i66 := by kernel_rfl
  t67 := Tryz.underlying359
  a67 := Tryz.isAgg359
  z67 := Tryz.sizeOf359
  v67 := Tryz.zeroValue359
  i67 := by kernel_rfl
  g0 := by kernel_rfl
  m0 := by kernel_rfl
  g1 := by kernel_rfl
  m1 := by kernel_rfl
  g2 := by kernel_rfl
  m2 := by kernel_rfl
  g3 := by kernel_rfl
  m3 := by kernel_rfl
  g4 := by kernel_rfl
  m4 := by kernel_rfl }
open Go.RowKit in
theorem Tryz.strconv_ParseUint_10_at64_ok (s : ByteArray) (hmax : s.size ≤ 9223372036854775806) (u : Nat) (h : Lib.parseUintB 64 s.data.toList = .ok u) (w : World) :
    Calls Tryz.prog 205 #[.string s, .int .i64 10, .int .i64 64] w fun e w' => e = .returned (.tuple #[.int .u64 u, .nilIface]) ∧ (w' = w ∨ w' = Lib.bytesWorld w 5 s) := Any.strconv_ParseUint_10_at64_ok Tryz.laysPu14 s hmax u h w
def Tryz.lays144_ren : Go.Shelf.Ren := ⟨fun | 144 => 203 | 143 => 212 | 219 => 222 | 217 => 240 | 225 => 241 | 224 => 242 | 267 => 243 | 266 => 256 | 314 => 257 | n => n, fun | 9 => 9 | 4 => 4 | 3 => 3 | 5 => 5 | 46 => 75 | 146 => 406 | 51 => 396 | n => n, fun | 1 => 0 | n => n⟩
theorem Tryz.lays144 : Go.Proofs.Lays.n144 Tryz.prog Tryz.lays144_ren := {
  mixed := by kernel_rfl
  f143 := Tryz.func212.trans (congrArg some (by kernel_rfl))
  f144 := Tryz.func203.trans (congrArg some (by kernel_rfl))
  f217 := Tryz.func240.trans (congrArg some (by kernel_rfl))
  f219 := Tryz.func222.trans (congrArg some (by kernel_rfl))
  f224 := Tryz.func242.trans (congrArg some (by kernel_rfl))
  f225 := Tryz.func241.trans (congrArg some (by kernel_rfl))
  f266 := Tryz.func256.trans (congrArg some (by kernel_rfl))
  f267 := Tryz.func243.trans (congrArg some (by kernel_rfl))
  f314 := Tryz.func257.trans (congrArg some (by kernel_rfl))
  t3 := Tryz.underlying3
  a3 := Tryz.isAgg3
  z3 := Tryz.sizeOf3
  v3 := Tryz.zeroValue3
  t4 := Tryz.underlying4
  a4 := Tryz.isAgg4
  z4 := Tryz.sizeOf4
  v4 := Tryz.zeroValue4
  t5 := Tryz.underlying5
  a5 := Tryz.isAgg5
  z5 := Tryz.sizeOf5
  v5 := Tryz.zeroValue5
  t9 := Tryz.underlying9
  a9 := Tryz.isAgg9
  z9 := Tryz.sizeOf9
  v9 := Tryz.zeroValue9
  t46 := Tryz.underlying75
  a46 := Tryz.isAgg75
  z46 := Tryz.sizeOf75
  v46 := Tryz.zeroValue75
  t51 := Tryz.underlying396
  a51 := Tryz.isAgg396
  z51 := Tryz.sizeOf396
  v51 := Tryz.zeroValue396
  t146 := Tryz.underlying406
  a146 := Tryz.isAgg406
  z146 := Tryz.sizeOf406
  v146 := Tryz.zeroValue406
  g1 := by kernel_rfl }
open Go.RowKit Go.Lib in
theorem Tryz.strings_Contains_one (s : ByteArray) (c : UInt8) (w : World) :
    Calls Tryz.prog 203 #[.string s, .string ⟨#[c]⟩] w fun e w' => e = .returned (.bool (decide (0 ≤ Lib.indexByte s.data.toList c))) ∧ w' = w := Any.strings_Contains_one Tryz.lays144 s c w
open Go.RowKit Go.Lib in
theorem Tryz.strings_Contains (s sub : ByteArray) (m : Int) (w : World) (hs : s.size < 4294967281) (hm : w.cell? ⟨0, 0, none⟩ = some (.int .i64 m)) :
    Calls Tryz.prog 203 #[.string s, .string sub] w fun e w' => e = .returned (.bool (Lib.contains s.data.toList sub.data.toList)) ∧ w' = w := Any.strings_Contains Tryz.lays144 s sub m w hs hm
def Tryz.lays99_ren : Go.Shelf.Ren := ⟨fun | 99 => 114 | 206 => 202 | n => n, fun | 9 => 9 | 4 => 4 | 3 => 3 | n => n, fun | n => n⟩
theorem Tryz.lays99 : Go.Proofs.Lays.n99 Tryz.prog Tryz.lays99_ren := {
  mixed := by kernel_rfl
  f99 := Tryz.func114.trans (congrArg some (by kernel_rfl))
  f206 := Tryz.func202.trans (congrArg some (by kernel_rfl))
  t3 := Tryz.underlying3
  a3 := Tryz.isAgg3
  z3 := Tryz.sizeOf3
  v3 := Tryz.zeroValue3
  t4 := Tryz.underlying4
  a4 := Tryz.isAgg4
  z4 := Tryz.sizeOf4
  v4 := Tryz.zeroValue4
  t9 := Tryz.underlying9
  a9 := Tryz.isAgg9
  z9 := Tryz.sizeOf9
  v9 := Tryz.zeroValue9 }
open Go.RowKit Go.Lib in
theorem Tryz.strings_HasPrefix (s p : ByteArray) (w : World) :
    Calls Tryz.prog 114 #[.string s, .string p] w fun e w' => e = .returned (.bool (Lib.hasPrefix s.data.toList p.data.toList)) ∧ w' = w := Any.strings_HasPrefix Tryz.lays99 s p w
open Go.RowKit Go.Lib in
theorem Tryz.strings_ToLower_any (s : ByteArray) (w : World) (hs : s.size < 35184372088832) (hV : CaseVar 4 caseA w) (hT : Lib.Utf8Tabs 5 6 w) :
    Calls Tryz.prog 207 #[.string s] w fun e w' => e = .returned (.string ⟨(Lib.toLowerD s.data.toList).toArray⟩) ∧ Below w.heap.size w w' := Any.strings_ToLower_any Tryz.lays159 Tryz.Builder_Extra_159 s w hs hV hT
end Go.Proofs
