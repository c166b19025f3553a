/-
  Contracts of the library's functions at this program, laid out of the shelf by its own program.
-/
import Derived.Shelf.Strings.Builder1
import Derived.Shelf.Strings.Builder2
import Derived.Shelf.Strings.OnBuilder
import Derived.Shelf.Strings.Trim
import Derived.Shelf.Small.Utf8
import Derived.Shelf.Small.Bits
import Derived.Shelf.Small.Strs
import Derived.Shelf.Strings.BuilderF
import Derived.Shelf.Strings.BuilderK
import Derived.Shelf.Strconv.Atoi
import Derived.Shelf.Strconv.Itoa0
import Derived.Shelf.Strconv.Itoa1
import Derived.Shelf.LaysM
import Derived.Shelf.Strconv.Itoa2
import Derived.Shelf.Strconv.Itoa3
import Derived.Shelf.Strings.Search1
import Derived.Shelf.Strings.Search2
import Derived.Shelf.Strings.Search3
import Derived.Shelf.Strings.Count
import Derived.Shelf.Strings.Shaped
import Derived.Shelf.Strings.Split
import Derived.Shelf.Strings.Runes
import Derived.Shelf.Strings.AsciiSet
import Derived.Shelf.Unicode.DecodeSlow
import Derived.Ground.SlsfProg
import Derived.Shelf.SlSortCmp.Insertion
import Derived.Shelf.SlSortCmp.SiftDown1
import Derived.Shelf.SlSortCmp.HeapSort1
import Derived.Shelf.SlSortCmp.Insertion1
import Derived.Shelf.SlSortCmp.Median1
import Derived.Shelf.SlSortCmp.Pivot1
import Derived.Shelf.SlSortCmp.ReverseRange1
import Derived.Shelf.SlSortCmp.PartialInsertion1
import Derived.Shelf.SlSortCmp.PartitionEqual1
import Derived.Shelf.SlSortCmp.Partition1
import Derived.Shelf.SlSortCmp.Pdq1
import Derived.Shelf.SlSortCmp.Whole1
import Derived.Shelf.SlSortCmp.NoneTotal
import Derived.Test.YtpkijdkoiecpiaaGreatDoorProg
namespace Go.Proofs
open Go.Shelf
def Tryz.lays156_ren : Go.Shelf.Ren := ⟨fun | 156 => 176 | 165 => 210 | 166 => 211 | 169 => 212 | 240 => 238 | 241 => 239 | 276 => 269 | 277 => 270 | n => n, fun | 31 => 155 | 9 => 9 | 3 => 3 | 4 => 4 | 0 => 0 | 20 => 20 | 72 => 289 | 76 => 293 | 70 => 287 | 37 => 40 | 75 => 292 | 127 => 324 | 164 => 352 | 5 => 5 | 80 => 147 | n => n, fun | n => n⟩
theorem Tryz.lays156 : Go.Proofs.Lays.n156 Tryz.prog Tryz.lays156_ren := {
  mixed := by kernel_rfl
  f156 := Tryz.func176.trans (congrArg some (by kernel_rfl))
  f165 := Tryz.func210.trans (congrArg some (by kernel_rfl))
  f166 := Tryz.func211.trans (congrArg some (by kernel_rfl))
  f169 := Tryz.func212.trans (congrArg some (by kernel_rfl))
  f240 := Tryz.func238.trans (congrArg some (by kernel_rfl))
  f241 := Tryz.func239.trans (congrArg some (by kernel_rfl))
  f276 := Tryz.func269.trans (congrArg some (by kernel_rfl))
  f277 := Tryz.func270.trans (congrArg some (by kernel_rfl))
  t0 := Tryz.underlying0
  a0 := Tryz.isAgg0
  z0 := Tryz.sizeOf0
  v0 := Tryz.zeroValue0
  t3 := Tryz.underlying3
  a3 := Tryz.isAgg3
  z3 := Tryz.sizeOf3
  v3 := Tryz.zeroValue3
  t4 := Tryz.underlying4
  a4 := Tryz.isAgg4
  z4 := Tryz.sizeOf4
  v4 := Tryz.zeroValue4
  t9 := Tryz.underlying9
  a9 := Tryz.isAgg9
  z9 := Tryz.sizeOf9
  v9 := Tryz.zeroValue9
  t20 := Tryz.underlying20
  a20 := Tryz.isAgg20
  z20 := Tryz.sizeOf20
  v20 := Tryz.zeroValue20
  t31 := Tryz.underlying155
  a31 := Tryz.isAgg155
  z31 := Tryz.sizeOf155
  v31 := Tryz.zeroValue155
  t37 := Tryz.underlying40
  a37 := Tryz.isAgg40
  z37 := Tryz.sizeOf40
  v37 := Tryz.zeroValue40
  t70 := Tryz.underlying287
  a70 := Tryz.isAgg287
  z70 := Tryz.sizeOf287
  v70 := Tryz.zeroValue287
  t72 := Tryz.underlying289
  a72 := Tryz.isAgg289
  z72 := Tryz.sizeOf289
  v72 := Tryz.zeroValue289
  t75 := Tryz.underlying292
  a75 := Tryz.isAgg292
  z75 := Tryz.sizeOf292
  v75 := Tryz.zeroValue292
  t76 := Tryz.underlying293
  a76 := Tryz.isAgg293
  z76 := Tryz.sizeOf293
  v76 := Tryz.zeroValue293
  t127 := Tryz.underlying324
  a127 := Tryz.isAgg324
  z127 := Tryz.sizeOf324
  v127 := Tryz.zeroValue324
  t164 := Tryz.underlying352
  a164 := Tryz.isAgg352
  z164 := Tryz.sizeOf352
  v164 := Tryz.zeroValue352 }
theorem Tryz.Builder_Extra_156 : Builder.Extra Tryz.prog Tryz.lays156_ren := {
  sizeBuilder := by kernel_rfl
  liesBuilder := by kernel_rfl
  t5 := Tryz.underlying5
  a5 := Tryz.isAgg5
  z5 := Tryz.sizeOf5
  v5 := Tryz.zeroValue5
  infoByte := by kernel_rfl
  cellsByte := by kernel_rfl
  sizeByte := by kernel_rfl
  neB5 := by decide }
open Go.RowKit in
/-- strings.Join: "Join concatenates the elements of its first argument to create a single string. The separator string sep is placed between elements in the resulting string.": HOWEVER MANY ELEMENTS. Below the heap's end the world is as it was. (LAID: no walk: one application.) -/
theorem Tryz.strings_Join (bk o c : Nat) (xs : List ByteArray) (sep : ByteArray) (w : World) (hcells : ∀ (j : Nat) x, xs[j]? = some x → w.cell? ⟨bk, o + j, none⟩ = some (.string x)) (hbk : bk < w.heap.size) (hN : xs.length ≤ 140737488355328) (hcap : xs.length ≤ c) (hlen : (Lib.join (xs.map (·.data.toList)) sep.data.toList).length ≤ 140737488355328) :
    Calls Tryz.prog 176 #[.slice (some ⟨bk, o, none⟩) xs.length c, .string sep] w fun e w' => e = .returned (.string ⟨(Lib.join (xs.map (·.data.toList)) sep.data.toList).toArray⟩) ∧ Below w.heap.size w w' := Any.strings_Join Tryz.lays156 Tryz.Builder_Extra_156 bk o c xs sep w hcells hbk hN hcap hlen
def Tryz.lays161_ren : Go.Shelf.Ren := ⟨fun | 161 => 227 | 231 => 247 | 227 => 249 | 233 => 250 | 235 => 252 | 228 => 277 | 197 => 274 | 151 => 278 | 260 => 296 | 152 => 301 | 137 => 326 | 119 => 327 | 224 => 299 | 225 => 298 | 217 => 297 | 266 => 324 | n => n, fun | 9 => 9 | 4 => 4 | 3 => 3 | 5 => 5 | 117 => 334 | 116 => 333 | 0 => 0 | 124 => 337 | 105 => 361 | 21 => 21 | 119 => 399 | 46 => 231 | 139 => 402 | 138 => 401 | n => n, fun | 3 => 1 | 4 => 2 | n => n⟩
theorem Tryz.lays161 : Go.Proofs.Lays.n161 Tryz.prog Tryz.lays161_ren := {
  mixed := by kernel_rfl
  f119 := Tryz.func327.trans (congrArg some (by kernel_rfl))
  f137 := Tryz.func326.trans (congrArg some (by kernel_rfl))
  f151 := Tryz.func278.trans (congrArg some (by kernel_rfl))
  f152 := Tryz.func301.trans (congrArg some (by kernel_rfl))
  f161 := Tryz.func227.trans (congrArg some (by kernel_rfl))
  f197 := Tryz.func274.trans (congrArg some (by kernel_rfl))
  f217 := Tryz.func297.trans (congrArg some (by kernel_rfl))
  f224 := Tryz.func299.trans (congrArg some (by kernel_rfl))
  f225 := Tryz.func298.trans (congrArg some (by kernel_rfl))
  f227 := Tryz.func249.trans (congrArg some (by kernel_rfl))
  f228 := Tryz.func277.trans (congrArg some (by kernel_rfl))
  f231 := Tryz.func247.trans (congrArg some (by kernel_rfl))
  f233 := Tryz.func250.trans (congrArg some (by kernel_rfl))
  f235 := Tryz.func252.trans (congrArg some (by kernel_rfl))
  f260 := Tryz.func296.trans (congrArg some (by kernel_rfl))
  f266 := Tryz.func324.trans (congrArg some (by kernel_rfl))
  t0 := Tryz.underlying0
  a0 := Tryz.isAgg0
  z0 := Tryz.sizeOf0
  v0 := Tryz.zeroValue0
  t3 := Tryz.underlying3
  a3 := Tryz.isAgg3
  z3 := Tryz.sizeOf3
  v3 := Tryz.zeroValue3
  t4 := Tryz.underlying4
  a4 := Tryz.isAgg4
  z4 := Tryz.sizeOf4
  v4 := Tryz.zeroValue4
  t5 := Tryz.underlying5
  a5 := Tryz.isAgg5
  z5 := Tryz.sizeOf5
  v5 := Tryz.zeroValue5
  t9 := Tryz.underlying9
  a9 := Tryz.isAgg9
  z9 := Tryz.sizeOf9
  v9 := Tryz.zeroValue9
  t21 := Tryz.underlying21
  a21 := Tryz.isAgg21
  z21 := Tryz.sizeOf21
  v21 := Tryz.zeroValue21
  t46 := Tryz.underlying231
  a46 := Tryz.isAgg231
  z46 := Tryz.sizeOf231
  v46 := Tryz.zeroValue231
  t105 := Tryz.underlying361
  a105 := Tryz.isAgg361
  z105 := Tryz.sizeOf361
  v105 := Tryz.zeroValue361
  t116 := Tryz.underlying333
  a116 := Tryz.isAgg333
  z116 := Tryz.sizeOf333
  t117 := Tryz.underlying334
  a117 := Tryz.isAgg334
  z117 := Tryz.sizeOf334
  v117 := Tryz.zeroValue334
  t119 := Tryz.underlying399
  a119 := Tryz.isAgg399
  z119 := Tryz.sizeOf399
  t124 := Tryz.underlying337
  a124 := Tryz.isAgg337
  z124 := Tryz.sizeOf337
  v124 := Tryz.zeroValue337
  t138 := Tryz.underlying401
  a138 := Tryz.isAgg401
  z138 := Tryz.sizeOf401
  v138 := Tryz.zeroValue401
  t139 := Tryz.underlying402
  a139 := Tryz.isAgg402
  z139 := Tryz.sizeOf402
  v139 := Tryz.zeroValue402
  g3 := by kernel_rfl
  g4 := by kernel_rfl }
open Go.RowKit in
/-- strings.TrimLeft: "TrimLeft returns a slice of the string s with all leading Unicode code points contained in cutset removed.": AT A cutset OF ONE ASCII BYTE. The world is as it was. (LAID: no walk: one application.) -/
theorem Tryz.strings_TrimLeft_one (s : ByteArray) (c : UInt8) (hc : c.toNat < 128) (w : World) :
    Calls Tryz.prog 227 #[.string s, .string ⟨#[c]⟩] w fun e w' => e = .returned (.string ⟨(Lib.trimLeftB s.data.toList c).toArray⟩) ∧ w' = w := Any.strings_TrimLeft_one Tryz.lays161 s c hc w
def Tryz.lays160_ren : Go.Shelf.Ren := ⟨fun | 160 => 220 | 232 => 248 | 231 => 247 | 227 => 249 | 234 => 251 | 233 => 250 | 236 => 253 | 235 => 252 | 228 => 277 | 271 => 279 | 151 => 278 | 197 => 274 | 120 => 302 | 152 => 301 | 260 => 296 | 137 => 326 | 119 => 327 | 224 => 299 | 225 => 298 | 217 => 297 | 266 => 324 | n => n, fun | 9 => 9 | 4 => 4 | 3 => 3 | 5 => 5 | 117 => 334 | 116 => 333 | 0 => 0 | 124 => 337 | 21 => 21 | 105 => 361 | 46 => 231 | 119 => 399 | 139 => 402 | 138 => 401 | n => n, fun | 3 => 1 | 4 => 2 | n => n⟩
theorem Tryz.lays160 : Go.Proofs.Lays.n160 Tryz.prog Tryz.lays160_ren := {
  mixed := by kernel_rfl
  f119 := Tryz.func327.trans (congrArg some (by kernel_rfl))
  f120 := Tryz.func302.trans (congrArg some (by kernel_rfl))
  f137 := Tryz.func326.trans (congrArg some (by kernel_rfl))
  f151 := Tryz.func278.trans (congrArg some (by kernel_rfl))
  f152 := Tryz.func301.trans (congrArg some (by kernel_rfl))
  f160 := Tryz.func220.trans (congrArg some (by kernel_rfl))
  f197 := Tryz.func274.trans (congrArg some (by kernel_rfl))
  f217 := Tryz.func297.trans (congrArg some (by kernel_rfl))
  f224 := Tryz.func299.trans (congrArg some (by kernel_rfl))
  f225 := Tryz.func298.trans (congrArg some (by kernel_rfl))
  f227 := Tryz.func249.trans (congrArg some (by kernel_rfl))
  f228 := Tryz.func277.trans (congrArg some (by kernel_rfl))
  f231 := Tryz.func247.trans (congrArg some (by kernel_rfl))
  f232 := Tryz.func248.trans (congrArg some (by kernel_rfl))
  f233 := Tryz.func250.trans (congrArg some (by kernel_rfl))
  f234 := Tryz.func251.trans (congrArg some (by kernel_rfl))
  f235 := Tryz.func252.trans (congrArg some (by kernel_rfl))
  f236 := Tryz.func253.trans (congrArg some (by kernel_rfl))
  f260 := Tryz.func296.trans (congrArg some (by kernel_rfl))
  f266 := Tryz.func324.trans (congrArg some (by kernel_rfl))
  f271 := Tryz.func279.trans (congrArg some (by kernel_rfl))
  t0 := Tryz.underlying0
  a0 := Tryz.isAgg0
  z0 := Tryz.sizeOf0
  v0 := Tryz.zeroValue0
  t3 := Tryz.underlying3
  a3 := Tryz.isAgg3
  z3 := Tryz.sizeOf3
  v3 := Tryz.zeroValue3
  t4 := Tryz.underlying4
  a4 := Tryz.isAgg4
  z4 := Tryz.sizeOf4
  v4 := Tryz.zeroValue4
  t5 := Tryz.underlying5
  a5 := Tryz.isAgg5
  z5 := Tryz.sizeOf5
  v5 := Tryz.zeroValue5
  t9 := Tryz.underlying9
  a9 := Tryz.isAgg9
  z9 := Tryz.sizeOf9
  v9 := Tryz.zeroValue9
  t21 := Tryz.underlying21
  a21 := Tryz.isAgg21
  z21 := Tryz.sizeOf21
  v21 := Tryz.zeroValue21
  t46 := Tryz.underlying231
  a46 := Tryz.isAgg231
  z46 := Tryz.sizeOf231
  v46 := Tryz.zeroValue231
  t105 := Tryz.underlying361
  a105 := Tryz.isAgg361
  z105 := Tryz.sizeOf361
  v105 := Tryz.zeroValue361
  t116 := Tryz.underlying333
  a116 := Tryz.isAgg333
  z116 := Tryz.sizeOf333
  t117 := Tryz.underlying334
  a117 := Tryz.isAgg334
  z117 := Tryz.sizeOf334
  v117 := Tryz.zeroValue334
  t119 := Tryz.underlying399
  a119 := Tryz.isAgg399
  z119 := Tryz.sizeOf399
  t124 := Tryz.underlying337
  a124 := Tryz.isAgg337
  z124 := Tryz.sizeOf337
  v124 := Tryz.zeroValue337
  t138 := Tryz.underlying401
  a138 := Tryz.isAgg401
  z138 := Tryz.sizeOf401
  v138 := Tryz.zeroValue401
  t139 := Tryz.underlying402
  a139 := Tryz.isAgg402
  z139 := Tryz.sizeOf402
  v139 := Tryz.zeroValue402
  g3 := by kernel_rfl
  g4 := by kernel_rfl }
open Go.RowKit in
/-- strings.Trim: "Trim returns a slice of the string s with all leading and trailing Unicode code points contained in cutset removed.": AT A cutset OF ONE ASCII BYTE. THE WORLD BEHIND IT: as it was, or (where s is not empty) with ONE DRAW MORE off the tape: the statement 'return trimLeftByte(trimRightByte(s, c), c)' draws its order of evaluation. (LAID: no walk: one application.) -/
theorem Tryz.strings_Trim_one (s : ByteArray) (c : UInt8) (hc : c.toNat < 128) (w : World) (hs : s.size ≤ 9223372036854775807) :
    Calls Tryz.prog 220 #[.string s, .string ⟨#[c]⟩] w fun e w' => e = .returned (.string ⟨(Lib.trimB s.data.toList c).toArray⟩) ∧ (w' = w ∨ w' = w.drew) := Any.strings_Trim_one Tryz.lays160 s c hc w hs
def Tryz.lays172_ren : Go.Shelf.Ren := ⟨fun | 172 => 254 | 244 => 280 | 245 => 281 | 247 => 303 | 279 => 304 | 280 => 305 | 281 => 306 | 282 => 307 | 287 => 328 | 316 => 329 | 171 => 331 | 205 => 330 | 321 => 338 | 322 => 339 | 243 => 340 | 246 => 343 | 283 => 345 | 284 => 346 | 285 => 347 | 286 => 348 | 129 => 323 | 317 => 350 | 318 => 351 | 319 => 352 | 320 => 353 | 337 => 355 | 338 => 356 | n => n, fun | 9 => 9 | 3 => 3 | 75 => 292 | 76 => 293 | 4 => 4 | 5 => 5 | 167 => 381 | 37 => 40 | 0 => 0 | 85 => 382 | 2 => 2 | 168 => 384 | 53 => 213 | 175 => 405 | 46 => 231 | 210 => 409 | 127 => 324 | 145 => 421 | 143 => 419 | 21 => 21 | 171 => 426 | 173 => 428 | 212 => 431 | 51 => 211 | 20 => 20 | 213 => 432 | 232 => 434 | 233 => 435 | 80 => 147 | n => n, fun | 15 => 3 | 16 => 4 | 17 => 5 | 18 => 6 | 19 => 7 | n => n⟩
theorem Tryz.lays172 : Go.Proofs.Lays.n172 Tryz.prog Tryz.lays172_ren := {
  mixed := by kernel_rfl
  f129 := Tryz.func323.trans (congrArg some (by kernel_rfl))
  f171 := Tryz.func331.trans (congrArg some (by kernel_rfl))
  f172 := Tryz.func254.trans (congrArg some (by kernel_rfl))
  f205 := Tryz.func330.trans (congrArg some (by kernel_rfl))
  f243 := Tryz.func340.trans (congrArg some (by kernel_rfl))
  f244 := Tryz.func280.trans (congrArg some (by kernel_rfl))
  f245 := Tryz.func281.trans (congrArg some (by kernel_rfl))
  f246 := Tryz.func343.trans (congrArg some (by kernel_rfl))
  f247 := Tryz.func303.trans (congrArg some (by kernel_rfl))
  f279 := Tryz.func304.trans (congrArg some (by kernel_rfl))
  f280 := Tryz.func305.trans (congrArg some (by kernel_rfl))
  f281 := Tryz.func306.trans (congrArg some (by kernel_rfl))
  f282 := Tryz.func307.trans (congrArg some (by kernel_rfl))
  f283 := Tryz.func345.trans (congrArg some (by kernel_rfl))
  f284 := Tryz.func346.trans (congrArg some (by kernel_rfl))
  f285 := Tryz.func347.trans (congrArg some (by kernel_rfl))
  f286 := Tryz.func348.trans (congrArg some (by kernel_rfl))
  f287 := Tryz.func328.trans (congrArg some (by kernel_rfl))
  f316 := Tryz.func329.trans (congrArg some (by kernel_rfl))
  f317 := Tryz.func350.trans (congrArg some (by kernel_rfl))
  f318 := Tryz.func351.trans (congrArg some (by kernel_rfl))
  f319 := Tryz.func352.trans (congrArg some (by kernel_rfl))
  f320 := Tryz.func353.trans (congrArg some (by kernel_rfl))
  f321 := Tryz.func338.trans (congrArg some (by kernel_rfl))
  f322 := Tryz.func339.trans (congrArg some (by kernel_rfl))
  f337 := Tryz.func355.trans (congrArg some (by kernel_rfl))
  f338 := Tryz.func356.trans (congrArg some (by kernel_rfl))
  t0 := Tryz.underlying0
  a0 := Tryz.isAgg0
  z0 := Tryz.sizeOf0
  v0 := Tryz.zeroValue0
  t2 := Tryz.underlying2
  a2 := Tryz.isAgg2
  z2 := Tryz.sizeOf2
  v2 := Tryz.zeroValue2
  t3 := Tryz.underlying3
  a3 := Tryz.isAgg3
  z3 := Tryz.sizeOf3
  v3 := Tryz.zeroValue3
  t4 := Tryz.underlying4
  a4 := Tryz.isAgg4
  z4 := Tryz.sizeOf4
  v4 := Tryz.zeroValue4
  t5 := Tryz.underlying5
  a5 := Tryz.isAgg5
  z5 := Tryz.sizeOf5
  v5 := Tryz.zeroValue5
  t9 := Tryz.underlying9
  a9 := Tryz.isAgg9
  z9 := Tryz.sizeOf9
  v9 := Tryz.zeroValue9
  t20 := Tryz.underlying20
  a20 := Tryz.isAgg20
  z20 := Tryz.sizeOf20
  v20 := Tryz.zeroValue20
  t21 := Tryz.underlying21
  a21 := Tryz.isAgg21
  z21 := Tryz.sizeOf21
  v21 := Tryz.zeroValue21
  t37 := Tryz.underlying40
  a37 := Tryz.isAgg40
  z37 := Tryz.sizeOf40
  v37 := Tryz.zeroValue40
  t46 := Tryz.underlying231
  a46 := Tryz.isAgg231
  z46 := Tryz.sizeOf231
  v46 := Tryz.zeroValue231
  t51 := Tryz.underlying211
  a51 := Tryz.isAgg211
  z51 := Tryz.sizeOf211
  v51 := Tryz.zeroValue211
  t53 := Tryz.underlying213
  a53 := Tryz.isAgg213
  z53 := Tryz.sizeOf213
  v53 := Tryz.zeroValue213
  t75 := Tryz.underlying292
  a75 := Tryz.isAgg292
  z75 := Tryz.sizeOf292
  v75 := Tryz.zeroValue292
  t76 := Tryz.underlying293
  a76 := Tryz.isAgg293
  z76 := Tryz.sizeOf293
  v76 := Tryz.zeroValue293
  t85 := Tryz.underlying382
  a85 := Tryz.isAgg382
  z85 := Tryz.sizeOf382
  v85 := Tryz.zeroValue382
  t127 := Tryz.underlying324
  a127 := Tryz.isAgg324
  z127 := Tryz.sizeOf324
  v127 := Tryz.zeroValue324
  t143 := Tryz.underlying419
  a143 := Tryz.isAgg419
  z143 := Tryz.sizeOf419
  v143 := Tryz.zeroValue419
  t145 := Tryz.underlying421
  a145 := Tryz.isAgg421
  z145 := Tryz.sizeOf421
  v145 := Tryz.zeroValue421
  t167 := Tryz.underlying381
  a167 := Tryz.isAgg381
  z167 := Tryz.sizeOf381
  v167 := Tryz.zeroValue381
  t168 := Tryz.underlying384
  a168 := Tryz.isAgg384
  z168 := Tryz.sizeOf384
  v168 := Tryz.zeroValue384
  t171 := Tryz.underlying426
  a171 := Tryz.isAgg426
  z171 := Tryz.sizeOf426
  v171 := Tryz.zeroValue426
  t173 := Tryz.underlying428
  a173 := Tryz.isAgg428
  z173 := Tryz.sizeOf428
  v173 := Tryz.zeroValue428
  t175 := Tryz.underlying405
  a175 := Tryz.isAgg405
  z175 := Tryz.sizeOf405
  v175 := Tryz.zeroValue405
  t210 := Tryz.underlying409
  a210 := Tryz.isAgg409
  z210 := Tryz.sizeOf409
  v210 := Tryz.zeroValue409
  t212 := Tryz.underlying431
  a212 := Tryz.isAgg431
  z212 := Tryz.sizeOf431
  v212 := Tryz.zeroValue431
  t213 := Tryz.underlying432
  a213 := Tryz.isAgg432
  z213 := Tryz.sizeOf432
  t232 := Tryz.underlying434
  a232 := Tryz.isAgg434
  z232 := Tryz.sizeOf434
  v232 := Tryz.zeroValue434
  t233 := Tryz.underlying435
  a233 := Tryz.isAgg435
  z233 := Tryz.sizeOf435
  v233 := Tryz.zeroValue435
  g15 := by kernel_rfl
  g16 := by kernel_rfl
  g17 := by kernel_rfl
  g18 := by kernel_rfl
  g19 := by kernel_rfl }
open Go.RowKit in
/-- strconv.Atoi: "Atoi is equivalent to ParseInt(s, 10, 0), converted to type int.": AT A DECIMAL NUMERAL OF AT MOST 18 BYTES: its value, and a nil error. The world behind the call: the one new row that the library's '[]byte(s)' lays. (LAID: no walk: one application.) -/
theorem Tryz.strconv_Atoi (s : ByteArray) (n : Int) (hl : s.size ≤ 18) (h : Lib.atoi s.data.toList = some n) (w : World) :
    Calls Tryz.prog 254 #[.string s] w fun e w' => e = .returned (.tuple #[.int .i64 n, .nilIface]) ∧ ∃ t, w' = Lib.bytesWorld w 5 t := Any.strconv_Atoi Tryz.lays172 s n hl h w
def Tryz.lays146_ren : Go.Shelf.Ren := ⟨fun | 146 => 187 | 221 => 219 | 268 => 244 | 138 => 245 | 143 => 246 | 195 => 273 | 197 => 274 | 218 => 275 | 219 => 276 | 260 => 296 | 217 => 297 | 225 => 298 | 224 => 299 | 267 => 300 | 266 => 324 | 314 => 325 | n => n, fun | 9 => 9 | 31 => 155 | 3 => 3 | 4 => 4 | 0 => 0 | 105 => 361 | 21 => 21 | 5 => 5 | 46 => 231 | 119 => 399 | 139 => 402 | 138 => 401 | 146 => 403 | 51 => 211 | n => n, fun | 1 => 0 | 3 => 1 | 4 => 2 | n => n⟩
theorem Tryz.lays146 : Go.Proofs.Lays.n146 Tryz.prog Tryz.lays146_ren := {
  mixed := by kernel_rfl
  f138 := Tryz.func245.trans (congrArg some (by kernel_rfl))
  f143 := Tryz.func246.trans (congrArg some (by kernel_rfl))
  f146 := Tryz.func187.trans (congrArg some (by kernel_rfl))
  f195 := Tryz.func273.trans (congrArg some (by kernel_rfl))
  f197 := Tryz.func274.trans (congrArg some (by kernel_rfl))
  f217 := Tryz.func297.trans (congrArg some (by kernel_rfl))
  f218 := Tryz.func275.trans (congrArg some (by kernel_rfl))
  f219 := Tryz.func276.trans (congrArg some (by kernel_rfl))
  f221 := Tryz.func219.trans (congrArg some (by kernel_rfl))
  f224 := Tryz.func299.trans (congrArg some (by kernel_rfl))
  f225 := Tryz.func298.trans (congrArg some (by kernel_rfl))
  f260 := Tryz.func296.trans (congrArg some (by kernel_rfl))
  f266 := Tryz.func324.trans (congrArg some (by kernel_rfl))
  f267 := Tryz.func300.trans (congrArg some (by kernel_rfl))
  f268 := Tryz.func244.trans (congrArg some (by kernel_rfl))
  f314 := Tryz.func325.trans (congrArg some (by kernel_rfl))
  t0 := Tryz.underlying0
  a0 := Tryz.isAgg0
  z0 := Tryz.sizeOf0
  v0 := Tryz.zeroValue0
  t3 := Tryz.underlying3
  a3 := Tryz.isAgg3
  z3 := Tryz.sizeOf3
  v3 := Tryz.zeroValue3
  t4 := Tryz.underlying4
  a4 := Tryz.isAgg4
  z4 := Tryz.sizeOf4
  v4 := Tryz.zeroValue4
  t5 := Tryz.underlying5
  a5 := Tryz.isAgg5
  z5 := Tryz.sizeOf5
  v5 := Tryz.zeroValue5
  t9 := Tryz.underlying9
  a9 := Tryz.isAgg9
  z9 := Tryz.sizeOf9
  v9 := Tryz.zeroValue9
  t21 := Tryz.underlying21
  a21 := Tryz.isAgg21
  z21 := Tryz.sizeOf21
  v21 := Tryz.zeroValue21
  t31 := Tryz.underlying155
  a31 := Tryz.isAgg155
  z31 := Tryz.sizeOf155
  v31 := Tryz.zeroValue155
  t46 := Tryz.underlying231
  a46 := Tryz.isAgg231
  z46 := Tryz.sizeOf231
  v46 := Tryz.zeroValue231
  t51 := Tryz.underlying211
  a51 := Tryz.isAgg211
  z51 := Tryz.sizeOf211
  v51 := Tryz.zeroValue211
  t105 := Tryz.underlying361
  a105 := Tryz.isAgg361
  z105 := Tryz.sizeOf361
  v105 := Tryz.zeroValue361
  t119 := Tryz.underlying399
  a119 := Tryz.isAgg399
  z119 := Tryz.sizeOf399
  t138 := Tryz.underlying401
  a138 := Tryz.isAgg401
  z138 := Tryz.sizeOf401
  v138 := Tryz.zeroValue401
  t139 := Tryz.underlying402
  a139 := Tryz.isAgg402
  z139 := Tryz.sizeOf402
  v139 := Tryz.zeroValue402
  t146 := Tryz.underlying403
  a146 := Tryz.isAgg403
  z146 := Tryz.sizeOf403
  v146 := Tryz.zeroValue403
  g1 := by kernel_rfl
  g3 := by kernel_rfl
  g4 := by kernel_rfl }
open Go.RowKit Go.Lib in
/-- strings.Split. (LAID: no walk: one application.) -/
theorem Tryz.strings_Split (s sep : ByteArray) (m : Int) (w : World) (hs : s.size < 4294967281) (hm : w.cell? ⟨0, 0, none⟩ = some (.int .i64 m)) (h1 : 1 ≤ sep.size) :
    Calls Tryz.prog 187 #[.string s, .string sep] w fun e w' =>
      e = .returned (.slice (some ⟨w.heap.size, 0, none⟩) (Lib.countB s sep + 1) (Lib.countB s sep + 1)) ∧ w' = w.alloc (.cells ((Lib.splitB sep 0 (Lib.countB s sep) s).map Value.string).toArray 9) := Any.strings_Split Tryz.lays146 (by kernel_rfl) s sep m w hs hm h1
end Go.Proofs
