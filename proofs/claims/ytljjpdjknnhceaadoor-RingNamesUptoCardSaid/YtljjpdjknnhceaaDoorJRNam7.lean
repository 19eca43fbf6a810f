/- Joined texts of this claim: Shf, RingPure, ChkPure, Clus -/
import Derived.Shelf.Strings.Builder1
import Derived.Shelf.Strings.Builder2
import Derived.Shelf.Small.Bits
import Derived.Shelf.Utf8.RuneCount
import Derived.Shelf.Strconv.Itoa0
import Derived.Shelf.Strconv.Itoa1
import Derived.Shelf.LaysM
import Derived.Shelf.Strconv.Itoa2
import Derived.Shelf.Strconv.Itoa3
import Derived.Shelf.Strings.Search1
import Derived.Shelf.Strings.Search2
import Derived.Shelf.Strings.Search3
import Derived.Shelf.Strings.Cut
import Derived.Shelf.Strings.Count
import Derived.Shelf.Strings.Shaped
import Derived.Shelf.Sort.Plain
import Derived.Shelf.Strings.Split
import Derived.Shelf.Strings.SplitShaped
import Derived.Shelf.Unicode.Decode
import Derived.Shelf.Strings.RuneCount
import Derived.Shelf.Strings.Explode
import Derived.Shelf.Unicode.DecodeSlow
import Derived.Shelf.Unicode.DecodeAny
import Derived.Ground.Names2Prog
import Derived.Shelf.Slices.SearchI
import Derived.Test.YtljjpdjknnhceaaDoorProg
import Derived.Test.YtljjpdjknnhceaaDoorJRNam5
set_option linter.unusedVariables false
set_option linter.unusedSimpArgs false
/-
  DERIVED: THE SHELF's CONTRACTS AT THIS DUMP, IN PLAIN WORDS (tools/lay-plain.mjs out of 'TrydCut.lean', which tools/lay-shelf.mjs wrote): THE SAME DECLARATIONS UNDER THE SAME NAMES: 'import', 'namespace', 'open', 'def', 'theorem' AND NOTHING ELSE: no command of the shelf's: FOR A HAND-IN. Each laying: the table of numbers ('.._ren') and one theorem, a field a fact of the dump's own or the kernel's comparison; each contract: ONE APPLICATION.
-/
namespace Go.Proofs
open Go.Shelf
def Tryd.lays171_ren : Go.Shelf.Ren := ⟨fun | 171 => 66 | 243 => 111 | 246 => 125 | 283 => 140 | 284 => 141 | 285 => 142 | 286 => 143 | 129 => 161 | 317 => 163 | 318 => 164 | 319 => 165 | 320 => 166 | 337 => 177 | 338 => 178 | n => n, fun | 3 => 3 | 9 => 9 | 2 => 2 | 4 => 4 | 171 => 192 | 0 => 0 | 53 => 159 | 37 => 109 | 5 => 5 | 173 => 195 | 212 => 212 | 51 => 153 | 20 => 20 | 213 => 213 | 46 => 152 | 232 => 229 | 233 => 155 | n => n, fun | 17 => 9 | 18 => 12 | 19 => 13 | n => n⟩
theorem Tryd.lays171 : Go.Proofs.Lays.n171 Tryd.prog Tryd.lays171_ren := {
  mixed := by kernel_rfl
  f129 := Tryd.func161.trans (congrArg some (by kernel_rfl))
  f171 := Tryd.func66.trans (congrArg some (by kernel_rfl))
  f243 := Tryd.func111.trans (congrArg some (by kernel_rfl))
  f246 := Tryd.func125.trans (congrArg some (by kernel_rfl))
  f283 := Tryd.func140.trans (congrArg some (by kernel_rfl))
  f284 := Tryd.func141.trans (congrArg some (by kernel_rfl))
  f285 := Tryd.func142.trans (congrArg some (by kernel_rfl))
  f286 := Tryd.func143.trans (congrArg some (by kernel_rfl))
  f317 := Tryd.func163.trans (congrArg some (by kernel_rfl))
  f318 := Tryd.func164.trans (congrArg some (by kernel_rfl))
  f319 := Tryd.func165.trans (congrArg some (by kernel_rfl))
  f320 := Tryd.func166.trans (congrArg some (by kernel_rfl))
  f337 := Tryd.func177.trans (congrArg some (by kernel_rfl))
  f338 := Tryd.func178.trans (congrArg some (by kernel_rfl))
  t0 := Tryd.underlying0
  a0 := Tryd.isAgg0
  z0 := Tryd.sizeOf0
  v0 := Tryd.zeroValue0
  t2 := Tryd.underlying2
  a2 := Tryd.isAgg2
  z2 := Tryd.sizeOf2
  v2 := Tryd.zeroValue2
  t3 := Tryd.underlying3
  a3 := Tryd.isAgg3
  z3 := Tryd.sizeOf3
  v3 := Tryd.zeroValue3
  t4 := Tryd.underlying4
  a4 := Tryd.isAgg4
  z4 := Tryd.sizeOf4
  v4 := Tryd.zeroValue4
  t5 := Tryd.underlying5
  a5 := Tryd.isAgg5
  z5 := Tryd.sizeOf5
  v5 := Tryd.zeroValue5
  t9 := Tryd.underlying9
  a9 := Tryd.isAgg9
  z9 := Tryd.sizeOf9
  v9 := Tryd.zeroValue9
  t20 := Tryd.underlying20
  a20 := Tryd.isAgg20
  z20 := Tryd.sizeOf20
  v20 := Tryd.zeroValue20
  t37 := Tryd.underlying109
  a37 := Tryd.isAgg109
  z37 := Tryd.sizeOf109
  v37 := Tryd.zeroValue109
  t46 := Tryd.underlying152
  a46 := Tryd.isAgg152
  z46 := Tryd.sizeOf152
  v46 := Tryd.zeroValue152
  t51 := Tryd.underlying153
  a51 := Tryd.isAgg153
  z51 := Tryd.sizeOf153
  v51 := Tryd.zeroValue153
  t53 := Tryd.underlying159
  a53 := Tryd.isAgg159
  z53 := Tryd.sizeOf159
  v53 := Tryd.zeroValue159
  t171 := Tryd.underlying192
  a171 := Tryd.isAgg192
  z171 := Tryd.sizeOf192
  v171 := Tryd.zeroValue192
  t173 := Tryd.underlying195
  a173 := Tryd.isAgg195
  z173 := Tryd.sizeOf195
  v173 := Tryd.zeroValue195
  t212 := Tryd.underlying212
  a212 := Tryd.isAgg212
  z212 := Tryd.sizeOf212
  v212 := Tryd.zeroValue212
  t213 := Tryd.underlying213
  a213 := Tryd.isAgg213
  z213 := Tryd.sizeOf213
  t232 := Tryd.underlying229
  a232 := Tryd.isAgg229
  z232 := Tryd.sizeOf229
  v232 := Tryd.zeroValue229
  t233 := Tryd.underlying155
  a233 := Tryd.isAgg155
  z233 := Tryd.sizeOf155
  v233 := Tryd.zeroValue155
  g17 := by kernel_rfl
  g18 := by kernel_rfl
  g19 := by kernel_rfl }
open Go.RowKit Go.Sort Go.Lib in
/-- THE ROAD WITHOUT THE TABLE: 0 <= i < 100: NO PREMISE ON THE WORLD, AND THE WORLD IS AS IT WAS: a row that keeps its argument in that range need list no table ('laid = []'). (LAID: no walk: one application.) -/
theorem Tryd.strconv_Itoa_small (i : Nat) (hi : i < 100) (w : World) :
    Calls Tryd.prog 66 #[.int .i64 i] w fun e w' => e = .returned (.string ⟨(Lib.decDigits i).toArray⟩) ∧ w' = w := Any.strconv_Itoa_small Tryd.lays171 i hi w
def Tryd.laysM145_ren : Go.Shelf.Ren := ⟨fun | 145 => 72 | 220 => 116 | 219 => 131 | 217 => 147 | 225 => 148 | 224 => 149 | 267 => 150 | 266 => 168 | 314 => 169 | n => n, fun | 9 => 9 | 4 => 4 | 59 => 136 | 3 => 3 | 5 => 5 | 46 => 152 | 146 => 215 | 51 => 153 | n => n, fun | 1 => 7 | n => n⟩
theorem Tryd.laysM145 : Go.Proofs.LaysM.n145 Tryd.prog Tryd.laysM145_ren := {
  mixed := by kernel_rfl
  f145 := Tryd.func72.trans (congrArg some (by kernel_rfl))
  f217 := Tryd.func147.trans (congrArg some (by kernel_rfl))
  f219 := Tryd.func131.trans (congrArg some (by kernel_rfl))
  f220 := Tryd.func116.trans (congrArg some (by kernel_rfl))
  f224 := Tryd.func149.trans (congrArg some (by kernel_rfl))
  f225 := Tryd.func148.trans (congrArg some (by kernel_rfl))
  f266 := Tryd.func168.trans (congrArg some (by kernel_rfl))
  f267 := Tryd.func150.trans (congrArg some (by kernel_rfl))
  f314 := Tryd.func169.trans (congrArg some (by kernel_rfl))
  t3 := Tryd.underlying3
  a3 := Tryd.isAgg3
  z3 := Tryd.sizeOf3
  v3 := Tryd.zeroValue3
  t4 := Tryd.underlying4
  a4 := Tryd.isAgg4
  z4 := Tryd.sizeOf4
  v4 := Tryd.zeroValue4
  t5 := Tryd.underlying5
  a5 := Tryd.isAgg5
  z5 := Tryd.sizeOf5
  v5 := Tryd.zeroValue5
  t9 := Tryd.underlying9
  a9 := Tryd.isAgg9
  z9 := Tryd.sizeOf9
  v9 := Tryd.zeroValue9
  t46 := Tryd.underlying152
  a46 := Tryd.isAgg152
  z46 := Tryd.sizeOf152
  v46 := Tryd.zeroValue152
  t51 := Tryd.underlying153
  a51 := Tryd.isAgg153
  z51 := Tryd.sizeOf153
  v51 := Tryd.zeroValue153
  t59 := Tryd.underlying136
  a59 := Tryd.isAgg136
  z59 := Tryd.sizeOf136
  v59 := Tryd.zeroValue136
  t146 := Tryd.underlying215
  a146 := Tryd.isAgg215
  z146 := Tryd.sizeOf215
  v146 := Tryd.zeroValue215
  g1 := by kernel_rfl
  i3 := by kernel_rfl
  i4 := by kernel_rfl
  i5 := by kernel_rfl
  i9 := by kernel_rfl
  i46 := by kernel_rfl
  i51 := by kernel_rfl
  i59 := by kernel_rfl
  i146 := by kernel_rfl
  m1 := by kernel_rfl
  s1_3 := fun w h => Go.Proofs.cell_of_shapedOpen_int (zero := #[.int .i64 0]) (t := 3) h (of_decide_eq_true (by kernel_rfl)) (by kernel_rfl) rfl (by kernel_rfl) (by kernel_rfl) Tryd.underlying3 }
open Go.RowKit Go.Lib in
theorem Tryd.strings_Cut_shaped (s sep : ByteArray) (w : World) (h : w.ShapedOpen Tryd.prog) (hs : s.size < 4294967281) :
    Calls Tryd.prog 72 #[.string s, .string sep] w fun e w' => e = .returned (.tuple #[.string ⟨(Lib.cut s.data.toList sep.data.toList).1.toArray⟩, .string ⟨(Lib.cut s.data.toList sep.data.toList).2.1.toArray⟩, .bool (Lib.cut s.data.toList sep.data.toList).2.2]) ∧ ∃ n, w' = w.drewN n := Any.strings_Cut_shaped Tryd.laysM145 s sep w h hs
def Tryd.lays192_ren : Go.Shelf.Ren := ⟨fun | 192 => 76 | 190 => 117 | 125 => 133 | 258 => 132 | 128 => 160 | 129 => 161 | 302 => 151 | 303 => 152 | 304 => 153 | 305 => 154 | 306 => 155 | 307 => 156 | 308 => 157 | 309 => 158 | 310 => 159 | 333 => 170 | 329 => 171 | 330 => 172 | 334 => 173 | 335 => 174 | 336 => 175 | 344 => 179 | n => n, fun | 31 => 84 | 0 => 0 | 9 => 9 | 3 => 3 | 46 => 152 | 51 => 153 | 53 => 159 | 4 => 4 | 183 => 202 | 182 => 201 | 131 => 139 | 5 => 5 | 218 => 217 | 222 => 124 | 228 => 226 | 229 => 227 | n => n, fun | n => n⟩
theorem Tryd.lays192 : Go.Proofs.Lays.n192 Tryd.prog Tryd.lays192_ren := {
  mixed := by kernel_rfl
  f125 := Tryd.func133.trans (congrArg some (by kernel_rfl))
  f128 := Tryd.func160.trans (congrArg some (by kernel_rfl))
  f129 := Tryd.func161.trans (congrArg some (by kernel_rfl))
  f190 := Tryd.func117.trans (congrArg some (by kernel_rfl))
  f192 := Tryd.func76.trans (congrArg some (by kernel_rfl))
  f258 := Tryd.func132.trans (congrArg some (by kernel_rfl))
  f302 := Tryd.func151.trans (congrArg some (by kernel_rfl))
  f303 := Tryd.func152.trans (congrArg some (by kernel_rfl))
  f304 := Tryd.func153.trans (congrArg some (by kernel_rfl))
  f305 := Tryd.func154.trans (congrArg some (by kernel_rfl))
  f306 := Tryd.func155.trans (congrArg some (by kernel_rfl))
  f307 := Tryd.func156.trans (congrArg some (by kernel_rfl))
  f308 := Tryd.func157.trans (congrArg some (by kernel_rfl))
  f309 := Tryd.func158.trans (congrArg some (by kernel_rfl))
  f310 := Tryd.func159.trans (congrArg some (by kernel_rfl))
  f329 := Tryd.func171.trans (congrArg some (by kernel_rfl))
  f330 := Tryd.func172.trans (congrArg some (by kernel_rfl))
  f333 := Tryd.func170.trans (congrArg some (by kernel_rfl))
  f334 := Tryd.func173.trans (congrArg some (by kernel_rfl))
  f335 := Tryd.func174.trans (congrArg some (by kernel_rfl))
  f336 := Tryd.func175.trans (congrArg some (by kernel_rfl))
  f344 := Tryd.func179.trans (congrArg some (by kernel_rfl))
  t0 := Tryd.underlying0
  a0 := Tryd.isAgg0
  z0 := Tryd.sizeOf0
  v0 := Tryd.zeroValue0
  t3 := Tryd.underlying3
  a3 := Tryd.isAgg3
  z3 := Tryd.sizeOf3
  v3 := Tryd.zeroValue3
  t4 := Tryd.underlying4
  a4 := Tryd.isAgg4
  z4 := Tryd.sizeOf4
  v4 := Tryd.zeroValue4
  t5 := Tryd.underlying5
  a5 := Tryd.isAgg5
  z5 := Tryd.sizeOf5
  v5 := Tryd.zeroValue5
  t9 := Tryd.underlying9
  a9 := Tryd.isAgg9
  z9 := Tryd.sizeOf9
  v9 := Tryd.zeroValue9
  t31 := Tryd.underlying84
  a31 := Tryd.isAgg84
  z31 := Tryd.sizeOf84
  v31 := Tryd.zeroValue84
  t46 := Tryd.underlying152
  a46 := Tryd.isAgg152
  z46 := Tryd.sizeOf152
  v46 := Tryd.zeroValue152
  t51 := Tryd.underlying153
  a51 := Tryd.isAgg153
  z51 := Tryd.sizeOf153
  v51 := Tryd.zeroValue153
  t53 := Tryd.underlying159
  a53 := Tryd.isAgg159
  z53 := Tryd.sizeOf159
  v53 := Tryd.zeroValue159
  t131 := Tryd.underlying139
  a131 := Tryd.isAgg139
  z131 := Tryd.sizeOf139
  v131 := Tryd.zeroValue139
  t182 := Tryd.underlying201
  a182 := Tryd.isAgg201
  z182 := Tryd.sizeOf201
  v182 := Tryd.zeroValue201
  t183 := Tryd.underlying202
  a183 := Tryd.isAgg202
  z183 := Tryd.sizeOf202
  v183 := Tryd.zeroValue202
  t218 := Tryd.underlying217
  a218 := Tryd.isAgg217
  z218 := Tryd.sizeOf217
  v218 := Tryd.zeroValue217
  t222 := Tryd.underlying124
  a222 := Tryd.isAgg124
  z222 := Tryd.sizeOf124
  v222 := Tryd.zeroValue124
  t228 := Tryd.underlying226
  a228 := Tryd.isAgg226
  z228 := Tryd.sizeOf226
  v228 := Tryd.zeroValue226
  t229 := Tryd.underlying227
  a229 := Tryd.isAgg227
  z229 := Tryd.sizeOf227
  v229 := Tryd.zeroValue227 }
open Go.Sort Go.RowKit in
theorem Tryd.sort_Strings (blk off cap : Nat) (ss : List (List UInt8)) (w : World) (hH : Holds encStr w blk off ss.toArray) (hblk : blk < w.heap.size) (hsz : ss.length < 4611686018427387904) :
    Calls Tryd.prog 76 #[.slice (some ⟨blk, off, none⟩) ss.length cap] w fun e w' =>
      e = .returned (.tuple #[]) ∧ ∃ n os, w' = grow (putRow encStr (Sort.ahead w n) blk off (ss.mergeSort fun x y => decide (x ≤ y)).toArray) os := Any.sort_Strings Tryd.lays192 blk off cap ss w hH hblk hsz
def Tryd.laysM146_ren : Go.Shelf.Ren := ⟨fun | 146 => 69 | 221 => 112 | 268 => 126 | 138 => 127 | 143 => 128 | 195 => 144 | 197 => 145 | 218 => 146 | 219 => 131 | 260 => 167 | 217 => 147 | 225 => 148 | 224 => 149 | 267 => 150 | 266 => 168 | 314 => 169 | n => n, fun | 9 => 9 | 31 => 84 | 3 => 3 | 4 => 4 | 0 => 0 | 105 => 197 | 21 => 21 | 5 => 5 | 46 => 152 | 119 => 222 | 139 => 225 | 138 => 224 | 146 => 215 | 51 => 153 | n => n, fun | 1 => 7 | 3 => 10 | 4 => 11 | n => n⟩
theorem Tryd.laysM146 : Go.Proofs.LaysM.n146 Tryd.prog Tryd.laysM146_ren := {
  mixed := by kernel_rfl
  f138 := Tryd.func127.trans (congrArg some (by kernel_rfl))
  f143 := Tryd.func128.trans (congrArg some (by kernel_rfl))
  f146 := Tryd.func69.trans (congrArg some (by kernel_rfl))
  f195 := Tryd.func144.trans (congrArg some (by kernel_rfl))
  f197 := Tryd.func145.trans (congrArg some (by kernel_rfl))
  f217 := Tryd.func147.trans (congrArg some (by kernel_rfl))
  f218 := Tryd.func146.trans (congrArg some (by kernel_rfl))
  f219 := Tryd.func131.trans (congrArg some (by kernel_rfl))
  f221 := Tryd.func112.trans (congrArg some (by kernel_rfl))
  f224 := Tryd.func149.trans (congrArg some (by kernel_rfl))
  f225 := Tryd.func148.trans (congrArg some (by kernel_rfl))
  f260 := Tryd.func167.trans (congrArg some (by kernel_rfl))
  f266 := Tryd.func168.trans (congrArg some (by kernel_rfl))
  f267 := Tryd.func150.trans (congrArg some (by kernel_rfl))
  f268 := Tryd.func126.trans (congrArg some (by kernel_rfl))
  f314 := Tryd.func169.trans (congrArg some (by kernel_rfl))
  t0 := Tryd.underlying0
  a0 := Tryd.isAgg0
  z0 := Tryd.sizeOf0
  v0 := Tryd.zeroValue0
  t3 := Tryd.underlying3
  a3 := Tryd.isAgg3
  z3 := Tryd.sizeOf3
  v3 := Tryd.zeroValue3
  t4 := Tryd.underlying4
  a4 := Tryd.isAgg4
  z4 := Tryd.sizeOf4
  v4 := Tryd.zeroValue4
  t5 := Tryd.underlying5
  a5 := Tryd.isAgg5
  z5 := Tryd.sizeOf5
  v5 := Tryd.zeroValue5
  t9 := Tryd.underlying9
  a9 := Tryd.isAgg9
  z9 := Tryd.sizeOf9
  v9 := Tryd.zeroValue9
  t21 := Tryd.underlying21
  a21 := Tryd.isAgg21
  z21 := Tryd.sizeOf21
  v21 := Tryd.zeroValue21
  t31 := Tryd.underlying84
  a31 := Tryd.isAgg84
  z31 := Tryd.sizeOf84
  v31 := Tryd.zeroValue84
  t46 := Tryd.underlying152
  a46 := Tryd.isAgg152
  z46 := Tryd.sizeOf152
  v46 := Tryd.zeroValue152
  t51 := Tryd.underlying153
  a51 := Tryd.isAgg153
  z51 := Tryd.sizeOf153
  v51 := Tryd.zeroValue153
  t105 := Tryd.underlying197
  a105 := Tryd.isAgg197
  z105 := Tryd.sizeOf197
  v105 := Tryd.zeroValue197
  t119 := Tryd.underlying222
  a119 := Tryd.isAgg222
  z119 := Tryd.sizeOf222
  t138 := Tryd.underlying224
  a138 := Tryd.isAgg224
  z138 := Tryd.sizeOf224
  v138 := Tryd.zeroValue224
  t139 := Tryd.underlying225
  a139 := Tryd.isAgg225
  z139 := Tryd.sizeOf225
  v139 := Tryd.zeroValue225
  t146 := Tryd.underlying215
  a146 := Tryd.isAgg215
  z146 := Tryd.sizeOf215
  v146 := Tryd.zeroValue215
  g1 := by kernel_rfl
  g3 := by kernel_rfl
  g4 := by kernel_rfl
  i0 := by kernel_rfl
  i3 := by kernel_rfl
  i4 := by kernel_rfl
  i5 := by kernel_rfl
  i9 := by kernel_rfl
  i21 := by kernel_rfl
  i31 := by kernel_rfl
  i46 := by kernel_rfl
  i51 := by kernel_rfl
  i105 := by kernel_rfl
  i138 := by kernel_rfl
  i139 := by kernel_rfl
  i146 := by kernel_rfl
  m1 := by kernel_rfl
  s1_3 := fun w h => Go.Proofs.cell_of_shapedOpen_int (zero := #[.int .i64 0]) (t := 3) h (of_decide_eq_true (by kernel_rfl)) (by kernel_rfl) rfl (by kernel_rfl) (by kernel_rfl) Tryd.underlying3
  m3 := by kernel_rfl
  m4 := by kernel_rfl }
open Go.RowKit Go.Lib in
/-- strings.Split, sep not empty. (LAID: no walk: one application.) -/
theorem Tryd.strings_Split_shaped (s sep : ByteArray) (w : World) (h : w.ShapedOpen Tryd.prog) (hs : s.size < 4294967281) (h1 : 1 ≤ sep.size) :
    Calls Tryd.prog 69 #[.string s, .string sep] w fun e w' =>
      e = .returned (.slice (some ⟨w.heap.size, 0, none⟩) (Lib.countB s sep + 1) (Lib.countB s sep + 1)) ∧ w' = w.alloc (.cells ((Lib.splitB sep 0 (Lib.countB s sep) s).map Value.string).toArray 9) := Any.strings_Split_shaped Tryd.laysM146 s sep w h hs h1
end Go.Proofs

/- The partitions of a definition: dealt to the nodes, each once; the home of each. Plain lists. -/
namespace Go.Proofs.YtljjpdjknnhceaaDoor.RingPure
/-- a node: its zone, its partitions -/
abbrev Nd := Int × List Int
def cnt (ns : List Nd) : Nat := (ns.map fun n => n.2.length).sum
def flat (ns : List Nd) : List Int := ns.flatMap fun n => n.2
def srt : List Int → Bool
  | a :: b :: l => decide (a ≤ b) && srt (b :: l)
  | _ => true
def ris : List Int → Bool
  | a :: b :: l => decide (a < b) && ris (b :: l)
  | _ => true
def fillP (c : Nat) (i : Nat) : List Int → List Int → Option (List Int)
  | [], h => some h
  | p :: ps, h => if p < 0 ∨ (c : Int) ≤ p ∨ 0 ≤ h.getD p.toNat 0 then none else fillP c i ps (h.set p.toNat (i : Nat))
def fillN (c : Nat) : Nat → List Nd → List Int → Option (List Int)
  | _, [], h => some h
  | i, n :: ns, h => if srt n.2 = true then (fillP c i n.2 h).bind (fillN c (i + 1) ns) else none
def homesP (ns : List Nd) : Option (List Int) := if 1 ≤ cnt ns ∧ cnt ns ≤ 64 then fillN (cnt ns) 0 ns (List.replicate (cnt ns) (-1)) else none
def homeFrom : Nat → List Nd → Int → Int
  | _, [], _ => -1
  | i, n :: ns, p => if p ∈ n.2 then (i : Int) else homeFrom (i + 1) ns p
def times (ns : List Nd) (p : Int) : Nat := (ns.map fun n => n.2.count p).sum
def dealt (ns : List Nd) : Prop := 1 ≤ cnt ns ∧ cnt ns ≤ 64 ∧ (∀ i : Nat, i < cnt ns → times ns (i : Int) = 1) ∧ ∀ n ∈ ns, ris n.2 = true
theorem flat_length (ns : List Nd) : (flat ns).length = cnt ns := by
  induction ns with
  | nil => rfl
  | cons n ns ih => simp only [flat, cnt, List.flatMap_cons, List.length_append, List.map_cons, List.sum_cons] at ih ⊢; omega
theorem times_flat (ns : List Nd) (p : Int) : times ns p = (flat ns).count p := by
  induction ns with
  | nil => rfl
  | cons n ns ih => simp only [flat, times, List.flatMap_cons, List.count_append, List.map_cons, List.sum_cons] at ih ⊢; omega
theorem getD_set (h : List Int) (j : Nat) (x : Int) (q : Nat) (hj : j < h.length) : (h.set j x).getD q 0 = if q = j then x else h.getD q 0 := by
  simp only [List.getD_eq_getElem?_getD, List.getElem?_set]
  by_cases e : j = q
  · subst e; simp [hj]
  · rw [if_neg e, if_neg (fun h => e h.symm)]
theorem fillP_some (c i : Nat) : ∀ (ps h : List Int), h.length = c → ((fillP c i ps h).isSome = true ↔ ps.Nodup ∧ ∀ p ∈ ps, 0 ≤ p ∧ p < (c : Int) ∧ h.getD p.toNat 0 < 0)
  | [], h, hl => by simp [fillP]
  | p :: ps, h, hl => by
    unfold fillP
    by_cases hp : p < 0 ∨ (c : Int) ≤ p ∨ 0 ≤ h.getD p.toNat 0
    · rw [if_pos hp]
      constructor
      · intro x; cases x
      · rintro ⟨_, x⟩
        have := x p (List.mem_cons_self ..)
        omega
    · rw [if_neg hp, fillP_some c i ps (h.set p.toNat (i : Nat)) (by simpa using hl)]
      have hpl : p.toNat < h.length := by omega
      constructor
      · rintro ⟨hn, hf⟩
        refine ⟨List.nodup_cons.2 ⟨fun hm => ?_, hn⟩, fun q hq => ?_⟩
        · have := (hf p hm).2.2
          rw [getD_set _ _ _ _ hpl, if_pos rfl] at this
          omega
        · rcases List.mem_cons.1 hq with rfl | hq
          · omega
          · obtain ⟨a, b, d⟩ := hf q hq
            rw [getD_set _ _ _ _ hpl] at d
            refine ⟨a, b, ?_⟩
            by_cases e : q.toNat = p.toNat
            · rw [if_pos e] at d; omega
            · rw [if_neg e] at d; exact d
      · rintro ⟨hn, hf⟩
        obtain ⟨hnm, hn⟩ := List.nodup_cons.1 hn
        refine ⟨hn, fun q hq => ?_⟩
        obtain ⟨a, b, d⟩ := hf q (List.mem_cons_of_mem _ hq)
        refine ⟨a, b, ?_⟩
        rw [getD_set _ _ _ _ hpl, if_neg ?_]
        · exact d
        · intro e
          exact hnm ((show q = p by omega) ▸ hq)
theorem fillP_get (c i : Nat) : ∀ (ps h h' : List Int), h.length = c → fillP c i ps h = some h' → h'.length = c ∧ ∀ q : Nat, h'.getD q 0 = if (q : Int) ∈ ps then (i : Int) else h.getD q 0
  | [], h, h', hl, e => by
    simp only [fillP, Option.some.injEq] at e
    subst e
    exact ⟨hl, fun q => by simp⟩
  | p :: ps, h, h', hl, e => by
    unfold fillP at e
    by_cases hp : p < 0 ∨ (c : Int) ≤ p ∨ 0 ≤ h.getD p.toNat 0
    · rw [if_pos hp] at e; cases e
    · rw [if_neg hp] at e
      obtain ⟨a, b⟩ := fillP_get c i ps _ h' (by simpa using hl) e
      refine ⟨a, fun q => ?_⟩
      rw [b q, getD_set _ _ _ _ (by omega)]
      by_cases e1 : (q : Int) ∈ ps
      · rw [if_pos e1, if_pos (List.mem_cons_of_mem _ e1)]
      · rw [if_neg e1]
        by_cases e2 : q = p.toNat
        · rw [if_pos e2, if_pos (by rw [show (q : Int) = p by omega]; exact List.mem_cons_self ..)]
        · rw [if_neg e2, if_neg (fun hm => (List.mem_cons.1 hm).elim (fun e => e2 (by omega)) e1)]
theorem fillN_some (c : Nat) : ∀ (ns : List Nd) (i : Nat) (h : List Int), h.length = c → ((fillN c i ns h).isSome = true ↔ (∀ n ∈ ns, srt n.2 = true) ∧ (flat ns).Nodup ∧ ∀ p ∈ flat ns, 0 ≤ p ∧ p < (c : Int) ∧ h.getD p.toNat 0 < 0)
  | [], i, h, hl => by simp [fillN, flat]
  | n :: ns, i, h, hl => by
    have ef : flat (n :: ns) = n.2 ++ flat ns := by simp [flat]
    unfold fillN
    by_cases hs : srt n.2 = true
    · rw [if_pos hs]
      cases e : fillP c i n.2 h with
      | none =>
        have h1 := fillP_some c i n.2 h hl
        rw [e] at h1
        constructor
        · intro x; cases x
        · rintro ⟨_, x, y⟩
          rw [ef] at x y
          exact absurd (h1.2 ⟨(List.nodup_append.1 x).1, fun p hp => y p (List.mem_append_left _ hp)⟩) (by simp)
      | some h' =>
        have h1 := (fillP_some c i n.2 h hl).1 (by rw [e]; rfl)
        obtain ⟨hl', hg⟩ := fillP_get c i n.2 h h' hl e
        show (fillN c (i + 1) ns h').isSome = true ↔ _
        rw [fillN_some c ns (i + 1) h' hl', ef]
        constructor
        · rintro ⟨a, b, d⟩
          refine ⟨fun m hm => (List.mem_cons.1 hm).elim (fun e => by rw [e]; exact hs) (a m), List.nodup_append.2 ⟨h1.1, b, fun x hx y hy e => ?_⟩, fun p hp => ?_⟩
          · subst e
            have := (d x hy)
            rw [hg, if_pos (by rw [show ((x.toNat : Nat) : Int) = x by omega]; exact hx)] at this
            omega
          · rcases List.mem_append.1 hp with hp | hp
            · exact h1.2 p hp
            · obtain ⟨u, v, z⟩ := d p hp
              refine ⟨u, v, ?_⟩
              rw [hg] at z
              by_cases e : ((p.toNat : Nat) : Int) ∈ n.2
              · rw [if_pos e] at z; omega
              · rw [if_neg e] at z; exact z
        · rintro ⟨a, b, d⟩
          obtain ⟨_, b2, b3⟩ := List.nodup_append.1 b
          refine ⟨fun m hm => a m (List.mem_cons_of_mem _ hm), b2, fun p hp => ?_⟩
          obtain ⟨u, v, z⟩ := d p (List.mem_append_right _ hp)
          refine ⟨u, v, ?_⟩
          rw [hg, if_neg ?_]
          · exact z
          · intro e
            rw [show ((p.toNat : Nat) : Int) = p by omega] at e
            exact b3 p e p hp rfl
    · rw [if_neg hs]
      constructor
      · intro x; cases x
      · rintro ⟨a, _⟩
        exact absurd (a n (List.mem_cons_self ..)) hs
theorem fillN_get (c : Nat) : ∀ (ns : List Nd) (i : Nat) (h h' : List Int), h.length = c → fillN c i ns h = some h' → h'.length = c ∧ ∀ q : Nat, h'.getD q 0 = if (q : Int) ∈ flat ns then homeFrom i ns (q : Int) else h.getD q 0
  | [], i, h, h', hl, e => by
    simp only [fillN, Option.some.injEq] at e
    subst e
    exact ⟨hl, fun q => by simp [flat]⟩
  | n :: ns, i, h, h', hl, e => by
    have ef : flat (n :: ns) = n.2 ++ flat ns := by simp [flat]
    have hall := (fillN_some c (n :: ns) i h hl).1 (by rw [e]; rfl)
    rw [ef] at hall
    unfold fillN at e
    rw [if_pos (hall.1 n (List.mem_cons_self ..))] at e
    cases e1 : fillP c i n.2 h with
    | none => rw [e1] at e; cases e
    | some h1 =>
      rw [e1] at e
      obtain ⟨hl1, hg1⟩ := fillP_get c i n.2 h h1 hl e1
      obtain ⟨hl2, hg2⟩ := fillN_get c ns (i + 1) h1 h' hl1 e
      refine ⟨hl2, fun q => ?_⟩
      rw [hg2 q, hg1 q, ef, show homeFrom i (n :: ns) (q : Int) = if (q : Int) ∈ n.2 then (i : Int) else homeFrom (i + 1) ns (q : Int) from rfl]
      by_cases a : (q : Int) ∈ flat ns
      · have : ¬ (q : Int) ∈ n.2 := fun b => (List.nodup_append.1 hall.2.1).2.2 _ b _ a rfl
        rw [if_pos a, if_pos (List.mem_append_right _ a), if_neg this]
      · rw [if_neg a]
        by_cases b : (q : Int) ∈ n.2
        · rw [if_pos b, if_pos (List.mem_append_left _ b), if_pos b]
        · rw [if_neg b, if_neg (fun m => (List.mem_append.1 m).elim b a)]
/-- as many, all different, all there: the same -/
theorem same_all : ∀ (M L : List Int), M.Nodup → (∀ x ∈ M, x ∈ L) → M.length = L.length → List.Perm M L
  | [], L, _, _, hl => by
    have : L = [] := List.eq_nil_of_length_eq_zero hl.symm
    subst this; exact List.Perm.nil
  | x :: M, L, hn, hm, hl => by
    obtain ⟨h1, h2⟩ := List.nodup_cons.1 hn
    have hx := hm x (List.mem_cons_self ..)
    have ih := same_all M (L.erase x) h2 (fun y hy => (List.mem_erase_of_ne (fun e => h1 (by rw [← e]; exact hy))).2 (hm y (List.mem_cons_of_mem _ hy))) (by rw [List.length_erase_of_mem hx]; simp only [List.length_cons] at hl; omega)
    exact (List.Perm.cons x ih).trans (List.perm_cons_erase hx).symm
def upTo (c : Nat) : List Int := (List.range c).map fun (i : Nat) => (i : Int)
theorem upTo_nodup (c : Nat) : (upTo c).Nodup := by
  unfold upTo
  exact List.Pairwise.map _ (fun (a b : Nat) (h : a ≠ b) => show (a : Int) ≠ (b : Int) by omega) List.nodup_range
theorem upTo_mem (c : Nat) (x : Int) : x ∈ upTo c ↔ 0 ≤ x ∧ x < (c : Int) := by
  simp only [upTo, List.mem_map, List.mem_range]
  constructor
  · rintro ⟨a, b, rfl⟩; omega
  · rintro ⟨a, b⟩; exact ⟨x.toNat, by omega, by omega⟩
theorem upTo_length (c : Nat) : (upTo c).length = c := by simp [upTo]
theorem once_iff (L : List Int) : (∀ i : Nat, i < L.length → L.count (i : Int) = 1) ↔ L.Nodup ∧ ∀ x ∈ L, 0 ≤ x ∧ x < (L.length : Int) := by
  constructor
  · intro h
    have hp := same_all (upTo L.length) L (upTo_nodup _) (fun x hx => by
      obtain ⟨a, b⟩ := (upTo_mem _ _).1 hx
      have := h x.toNat (by omega)
      rw [show ((x.toNat : Nat) : Int) = x by omega] at this
      exact List.count_pos_iff.1 (by omega)) (upTo_length _)
    exact ⟨hp.nodup_iff.1 (upTo_nodup _), fun x hx => (upTo_mem _ _).1 (hp.mem_iff.2 hx)⟩
  · rintro ⟨hn, hr⟩ i hi
    have hp := same_all L (upTo L.length) hn (fun x hx => (upTo_mem _ _).2 (hr x hx)) (upTo_length _).symm
    rw [hp.count_eq]
    have h1 := List.nodup_iff_count.1 (upTo_nodup L.length) (i : Int)
    have h2 : 0 < (upTo L.length).count (i : Int) := List.count_pos_iff.2 ((upTo_mem _ _).2 (by omega))
    omega
theorem ris_srt : ∀ (l : List Int), ris l = true → srt l = true
  | [], _ => rfl
  | [_], _ => rfl
  | a :: b :: l, h => by
    simp only [ris, srt, Bool.and_eq_true, decide_eq_true_eq] at h ⊢
    exact ⟨by omega, ris_srt (b :: l) h.2⟩
theorem srt_ris : ∀ (l : List Int), srt l = true → l.Nodup → ris l = true
  | [], _, _ => rfl
  | [_], _, _ => rfl
  | a :: b :: l, h, hn => by
    simp only [ris, srt, Bool.and_eq_true, decide_eq_true_eq] at h ⊢
    obtain ⟨h1, h2⟩ := List.nodup_cons.1 hn
    exact ⟨by have : a ≠ b := fun e => h1 (by rw [e]; exact List.mem_cons_self ..); omega, srt_ris (b :: l) h.2 h2⟩
theorem nodup_flat {ns : List Nd} (h : (flat ns).Nodup) : ∀ n ∈ ns, n.2.Nodup := by
  induction ns with
  | nil => intro n hn; cases hn
  | cons m ns ih =>
    have ef : flat (m :: ns) = m.2 ++ flat ns := by simp [flat]
    rw [ef] at h
    obtain ⟨a, b, _⟩ := List.nodup_append.1 h
    intro n hn
    rcases List.mem_cons.1 hn with rfl | hn
    · exact a
    · exact ih b n hn
theorem homes_iff (ns : List Nd) : (homesP ns).isSome = true ↔ dealt ns := by
  unfold homesP dealt
  by_cases hc : 1 ≤ cnt ns ∧ cnt ns ≤ 64
  · rw [if_pos hc, fillN_some _ _ _ _ (by simp)]
    have h1 := once_iff (flat ns)
    rw [flat_length] at h1
    simp only [times_flat]
    constructor
    · rintro ⟨a, b, d⟩
      exact ⟨hc.1, hc.2, h1.2 ⟨b, fun x hx => ⟨(d x hx).1, (d x hx).2.1⟩⟩, fun n hn => srt_ris _ (a n hn) (nodup_flat b n hn)⟩
    · rintro ⟨_, _, a, b⟩
      obtain ⟨u, v⟩ := h1.1 a
      refine ⟨fun n hn => ris_srt _ (b n hn), u, fun p hp => ⟨(v p hp).1, (v p hp).2, ?_⟩⟩
      have := v p hp
      rw [List.getD_eq_getElem?_getD, List.getElem?_replicate, if_pos (by omega)]
      decide
  · rw [if_neg hc]
    constructor
    · intro x; cases x
    · rintro ⟨a, b, _⟩; exact absurd ⟨a, b⟩ hc
theorem homeFrom_range (ns : List Nd) (i : Nat) (p : Int) (h : p ∈ flat ns) : (i : Int) ≤ homeFrom i ns p ∧ homeFrom i ns p < (i + ns.length : Nat) := by
  induction ns generalizing i with
  | nil => simp [flat] at h
  | cons n ns ih =>
    have ef : flat (n :: ns) = n.2 ++ flat ns := by simp [flat]
    unfold homeFrom
    by_cases a : p ∈ n.2
    · rw [if_pos a]; simp only [List.length_cons]; omega
    · rw [if_neg a]
      rw [ef] at h
      have := ih (i + 1) ((List.mem_append.1 h).elim (fun x => absurd x a) id)
      simp only [List.length_cons]; omega
theorem homes_some {ns : List Nd} {h : List Int} (e : homesP ns = some h) : dealt ns ∧ h.length = cnt ns ∧ ∀ q : Nat, q < cnt ns → h.getD q 0 = homeFrom 0 ns (q : Int) ∧ 0 ≤ homeFrom 0 ns (q : Int) ∧ homeFrom 0 ns (q : Int) < ns.length := by
  have hd : dealt ns := (homes_iff ns).1 (by rw [e]; rfl)
  obtain ⟨d1, d2, d3, d4⟩ := hd
  unfold homesP at e
  rw [if_pos ⟨d1, d2⟩] at e
  obtain ⟨a, b⟩ := fillN_get _ _ _ _ _ (by simp) e
  refine ⟨⟨d1, d2, d3, d4⟩, a, fun q hq => ?_⟩
  have hm : (q : Int) ∈ flat ns := by
    have := d3 q hq
    rw [times_flat] at this
    exact List.count_pos_iff.1 (by omega)
  have := homeFrom_range ns 0 _ hm
  rw [b q, if_pos hm]
  refine ⟨rfl, by omega, by omega⟩
end Go.Proofs.YtljjpdjknnhceaaDoor.RingPure

/- A definition: its settings, its nodes; what Check answers of it. -/
namespace Go.Proofs.YtljjpdjknnhceaaDoor.ChkPure
open Go.Proofs.YtljjpdjknnhceaaDoor.RingPure
/-- a definition without its nodes -/
structure Cl where mk ::
  (store : ByteArray) (replicas width chunks retain block rate per burst tries base most quota room depot resend limit patience getwait strikes ban home : Int)
def vals (c : Cl) : List Int := [c.replicas, c.width, c.chunks, c.retain, c.block, c.rate, c.per, c.burst, c.tries, c.base, c.most, c.quota, c.room, c.depot, c.resend, c.limit, c.patience, c.getwait, c.strikes, c.ban, c.home]
def most : List Int := [16, 16, 16, 8, 4096, 65536, 1024, 65536, 64, 1024, 1024, 1073741824, 1073741824, 1073741824, 1024, 64, 65536, 1024, 64, 1024, 7]
def least (i : Nat) : Int := if i < 20 then 1 else 0
/-- the i-th setting is within its limits -/
def setAt (c : Cl) (i : Nat) : Bool := decide (least i ≤ (vals c).getD i 0) && decide ((vals c).getD i 0 ≤ most.getD i 0)
def setB (c : Cl) : Bool := (List.range 21).all (setAt c) && (decide (c.block ≤ c.burst) && decide (c.base ≤ c.most))
/-- the zones within their limits -/
def zoned (ns : List Nd) : Bool := ns.all fun n => decide (0 ≤ n.1) && decide (n.1 ≤ 7)
def full (ns : List Nd) : Nat := (ns.filter fun n => decide (0 < n.2.length)).length
/-- the answer: the error, the homes -/
def chk (nm : Bool) (c : Cl) (ns : List Nd) : Int × List Int :=
  if nm = false then (63, []) else if setB c = false then (64, []) else if ns.length < 1 ∨ 16 < ns.length then (65, []) else if zoned ns = false then (65, []) else
  match homesP ns with
  | none => (66, [])
  | some h => if (full ns : Int) < c.replicas then (67, []) else if 512 < (cnt ns : Int) * c.replicas * c.chunks then (3, []) else (0, h)
theorem setAt_bounds {c : Cl} (h : setB c = true) : 1 ≤ c.replicas ∧ c.replicas ≤ 16 ∧ 1 ≤ c.chunks ∧ c.chunks ≤ 16 ∧ 1 ≤ c.width ∧ c.width ≤ 16 := by
  simp only [setB, Bool.and_eq_true, List.all_eq_true, List.mem_range] at h
  have h0 := h.1 0 (by decide)
  have h1 := h.1 1 (by decide)
  have h2 := h.1 2 (by decide)
  simp [setAt, vals, most, least] at h0 h1 h2
  omega
theorem full_le (ns : List Nd) : full ns ≤ ns.length := List.length_filter_le _ _
theorem full_snoc (ns : List Nd) (k : Nat) (n : Nd) (h : ns[k]? = some n) : full (ns.take (k + 1)) = full (ns.take k) + if 0 < n.2.length then 1 else 0 := by
  unfold full
  rw [List.take_add_one, h, List.filter_append, List.length_append]
  by_cases e : 0 < n.2.length <;> simp [e]
theorem cnt_snoc (ns : List Nd) (k : Nat) (n : Nd) (h : ns[k]? = some n) : cnt (ns.take (k + 1)) = cnt (ns.take k) + n.2.length := by
  unfold cnt
  rw [List.take_add_one, h, List.map_append, List.sum_append]
  simp
theorem cnt_take (ns : List Nd) (k : Nat) : cnt (ns.take k) ≤ cnt ns := by
  induction ns generalizing k with
  | nil => simp [cnt]
  | cons n ns ih =>
    cases k with
    | zero => simp [cnt]
    | succ k => simp only [List.take_succ_cons, cnt, List.map_cons, List.sum_cons] at ih ⊢; have := ih k; omega
/-- what a checked definition is -/
structure Good (c : Cl) (ns : List Nd) (h : List Int) : Prop where mk ::
  (set : setB c = true) (len : 1 ≤ ns.length ∧ ns.length ≤ 16) (hom : homesP ns = some h) (rep : c.replicas ≤ full ns) (files : (cnt ns : Int) * c.replicas * c.chunks ≤ 512)
theorem chk_ok {nm : Bool} {c : Cl} {ns : List Nd} (h : (chk nm c ns).1 = 0) : Good c ns (chk nm c ns).2 := by
  unfold chk at h ⊢
  by_cases h1 : nm = false
  · rw [if_pos h1] at h; exact absurd h (by decide)
  rw [if_neg h1] at h ⊢
  by_cases h2 : setB c = false
  · rw [if_pos h2] at h; exact absurd h (by decide)
  rw [if_neg h2] at h ⊢
  by_cases h3 : ns.length < 1 ∨ 16 < ns.length
  · rw [if_pos h3] at h; exact absurd h (by decide)
  rw [if_neg h3] at h ⊢
  by_cases h4 : zoned ns = false
  · rw [if_pos h4] at h; exact absurd h (by decide)
  rw [if_neg h4] at h ⊢
  cases e : homesP ns with
  | none => rw [e] at h; exact absurd (show (66 : Int) = 0 from h) (by decide)
  | some l =>
    rw [e] at h
    simp only at h ⊢
    by_cases h5 : (full ns : Int) < c.replicas
    · rw [if_pos h5] at h; exact absurd h (by decide)
    rw [if_neg h5] at h ⊢
    by_cases h6 : 512 < (cnt ns : Int) * c.replicas * c.chunks
    · rw [if_pos h6] at h; exact absurd h (by decide)
    rw [if_neg h6] at h ⊢
    exact ⟨by simpa using h2, by omega, e, by omega, by omega⟩
/-- the document's answer -/
def chkR (nm : Bool) (c : Cl) (ns : List Nd) (d : Bool) : Int :=
  if nm = false then 63 else if setB c = false then 64 else if ns.length < 1 ∨ 16 < ns.length then 65 else if zoned ns = false then 65 else
  if d = false then 66 else if (full ns : Int) < c.replicas then 67 else if 512 < (cnt ns : Int) * c.replicas * c.chunks then 3 else 0
theorem chkR_eq (nm : Bool) (c : Cl) (ns : List Nd) (d : Bool) (hd : d = true ↔ dealt ns) : chkR nm c ns d = (chk nm c ns).1 := by
  unfold chkR chk
  have hh := homes_iff ns
  cases e : homesP ns with
  | none =>
    have : d = false := by
      cases d with
      | false => rfl
      | true => rw [e] at hh; exact absurd (hh.2 (hd.1 rfl)) (by simp)
    subst this
    repeat (first | rfl | split)
  | some h =>
    have : d = true := hd.2 (hh.1 (by rw [e]; rfl))
    subst this
    simp only [reduceCtorEq, if_false, Bool.true_eq_false]
    repeat (first | rfl | split)
end Go.Proofs.YtljjpdjknnhceaaDoor.ChkPure

/- A definition in memory: a struct of a name, 21 numbers and a list of nodes, each a zone and a list of numbers. -/
set_option linter.unusedVariables false
set_option linter.unusedSimpArgs false
namespace Go.Proofs.YtljjpdjknnhceaaDoor.Clus
open Go.RowKit Go.Proofs.YtljjpdjknnhceaaDoorW.PrintWords Go.Proofs.YtljjpdjknnhceaaDoorW.PrintLast Go.Proofs.YtljjpdjknnhceaaDoorW.PrintMore
open Go.Proofs.YtljjpdjknnhceaaDoor.Base Go.Proofs.YtljjpdjknnhceaaDoor.RingPure Go.Proofs.YtljjpdjknnhceaaDoor.ChkPure
/-- a definition's cells -/
def cL (c : Cl) (nv : Value) : List Value := [.string c.store, .int .i64 c.replicas, .int .i64 c.width, .int .i64 c.chunks, .int .i64 c.retain, .int .i64 c.block, .int .i64 c.rate, .int .i64 c.per, .int .i64 c.burst, .int .i64 c.tries, .int .i64 c.base, .int .i64 c.most, .int .i64 c.quota, .int .i64 c.room, .int .i64 c.depot, .int .i64 c.resend, .int .i64 c.limit, .int .i64 c.patience, .int .i64 c.getwait, .int .i64 c.strikes, .int .i64 c.ban, .int .i64 c.home, nv]
theorem cL_length (c : Cl) (nv : Value) : (cL c nv).length = 23 := rfl
theorem infoC : (Tryd.prog.info? 24).map (fun i => (i.zero, i.size, i.bytes)) = some (some (.agg #[.string { data := #[] }, .int .i64 0, .int .i64 0, .int .i64 0, .int .i64 0, .int .i64 0, .int .i64 0, .int .i64 0, .int .i64 0, .int .i64 0, .int .i64 0, .int .i64 0, .int .i64 0, .int .i64 0, .int .i64 0, .int .i64 0, .int .i64 0, .int .i64 0, .int .i64 0, .int .i64 0, .int .i64 0, .int .i64 0, .slice none 0 0]), 23, 208) := by kernel_rfl
theorem infoN : (Tryd.prog.info? 56).map (fun i => (i.zero, i.size, i.bytes)) = some (some (.agg #[.int .i64 0, .slice none 0 0]), 2, 32) := by kernel_rfl
theorem infoI : (Tryd.prog.info? 3).map (fun i => (i.zero, i.size, i.bytes)) = some (some (.int .i64 0), 1, 8) := by kernel_rfl
/-- a list of numbers -/
def NumsAt (w : World) (A : Option Addr) (l : List Int) : Prop := l = [] ∨ ∃ b o, A = some ⟨b, o, none⟩ ∧ ∀ i x, l[i]? = some x → w.cell? ⟨b, o + i, none⟩ = some (.int .i64 x)
/-- a slice: nil, or at an address -/
def SlOK (A : Option Addr) (n c : Nat) : Prop := (A = none ∧ n = 0 ∧ c = 0) ∨ ∃ a, A = some a
/-- a node's two cells -/
def NodeAt (w : World) (b o : Nat) (n : Nd) : Prop := w.cell? ⟨b, o, none⟩ = some (.int .i64 n.1) ∧ ∃ B c, w.cell? ⟨b, o + 1, none⟩ = some (.slice B n.2.length c) ∧ (n.2.length ≤ c ∧ SlOK B n.2.length c) ∧ NumsAt w B n.2
/-- a list of nodes -/
def NodesAt (w : World) (A : Option Addr) (ns : List Nd) : Prop := ns = [] ∨ ∃ b o, A = some ⟨b, o, none⟩ ∧ ∀ i n, ns[i]? = some n → NodeAt w b (o + i * 2) n
theorem cell_below {B : Nat} {w w1 : World} {p : Addr} {v : Value} (hb : Below B w w1) (hB : w.heap.size ≤ B) (h : w.cell? p = some v) : w1.cell? p = some v := by
  have hl : p.block < w.heap.size := by
    unfold World.cell? at h
    cases e : w.heap[p.block]? with
    | none => rw [e] at h; cases h
    | some x => exact (Array.getElem?_eq_some_iff.1 e).1
  rw [hb.cell (by omega)]
  exact h
theorem NumsAt.below {w w1 : World} {A : Option Addr} {l : List Int} (h : NumsAt w A l) (hb : Below w.heap.size w w1) : NumsAt w1 A l := by
  rcases h with h | ⟨b, o, rfl, h⟩
  · exact .inl h
  · exact .inr ⟨b, o, rfl, fun i x hi => cell_below hb (Nat.le_refl _) (h i x hi)⟩
theorem NodeAt.below {w w1 : World} {b o : Nat} {n : Nd} (h : NodeAt w b o n) (hb : Below w.heap.size w w1) : NodeAt w1 b o n := by
  obtain ⟨h1, B, c, h2, h3, h4⟩ := h
  exact ⟨cell_below hb (Nat.le_refl _) h1, B, c, cell_below hb (Nat.le_refl _) h2, h3, h4.below hb⟩
theorem NodesAt.below {w w1 : World} {A : Option Addr} {ns : List Nd} (h : NodesAt w A ns) (hb : Below w.heap.size w w1) : NodesAt w1 A ns := by
  rcases h with h | ⟨b, o, rfl, h⟩
  · exact .inl h
  · exact .inr ⟨b, o, rfl, fun i n hi => (h i n hi).below hb⟩
theorem NodesAt.get {w : World} {A : Option Addr} {ns : List Nd} (h : NodesAt w A ns) {k : Nat} {n : Nd} (hk : ns[k]? = some n) : ∃ b o, A = some ⟨b, o, none⟩ ∧ NodeAt w b (o + k * 2) n := by
  rcases h with rfl | ⟨b, o, rfl, h⟩
  · simp at hk
  · exact ⟨b, o, rfl, h k n hk⟩
theorem NumsAt.get {w : World} {A : Option Addr} {l : List Int} (h : NumsAt w A l) {k : Nat} {x : Int} (hk : l[k]? = some x) : ∃ b o, A = some ⟨b, o, none⟩ ∧ w.cell? ⟨b, o + k, none⟩ = some (.int .i64 x) := by
  rcases h with rfl | ⟨b, o, rfl, h⟩
  · simp at hk
  · exact ⟨b, o, rfl, h k x hk⟩
/-- a definition in a box -/
structure CBox (w : World) (g : Nat) (c : Cl) (nv : Value) : Prop where mk ::
  (row : w.heap[g]? = some (.cells (cL c nv).toArray 24 (0, 0)))
theorem CBox.lt {w : World} {g : Nat} {c : Cl} {nv : Value} (h : CBox w g c nv) : g < w.heap.size := blk_lt h.row
theorem CBox.below {w w1 : World} {g B : Nat} {c : Cl} {nv : Value} (h : CBox w g c nv) (hb : Below B w w1) (hg : g < B) : CBox w1 g c nv := ⟨(hb.block _ hg).trans h.row⟩
theorem CBox.c {w : World} {g : Nat} {c : Cl} {nv : Value} (h : CBox w g c nv) (i : Nat) : w.cell? ⟨g, i, none⟩ = (cL c nv)[i]? := by
  rw [cell_of_row _ _ _ _ _ _ h.row, List.getElem?_toArray]
end Go.Proofs.YtljjpdjknnhceaaDoor.Clus
