/- The tables that a row lays down, as the walks ask them. -/
import Derived.Test.YthnobhifepnakaaDoorHasher
import Derived.Test.YthnobhifepnakaaDoorTie
import Derived.Lib.LaidTab
set_option linter.unusedVariables false
set_option linter.unusedSimpArgs false
namespace Go.Proofs.YthnobhifepnakaaDoor.Laid
open Go.RowKit
open Go.Proofs.YthnobhifepnakaaDoor.Base Go.Proofs.YthnobhifepnakaaDoor.Mix Go.Proofs.YthnobhifepnakaaDoor.Hasher Go.Proofs.YthnobhifepnakaaDoor.Take
open Go.Proofs.YthnobhifepnakaaDoor.Crc (Nibs nib)
theorem tail {P : Program} {x : String × DataW Unit} {r : List (String × DataW Unit)} {w : World} (h : laidMet P (x :: r) w) : laidMet P r w := by
  obtain ⟨ps, ⟨g, t, cs, fuel, p, q, _, _, _, _, hq, rfl⟩, hn, hc⟩ := h
  exact ⟨q, hq, (List.nodup_append.1 hn).2.1, fun b off hm => hc b off (List.mem_append_right _ hm)⟩
theorem cells_of_tab2 {H : Type} {enc : TypeId × Value → H} {P : Program} {w : World} {base : Nat} {sp : Nat → Bool} {held : Bool} {fuel : Nat} {t e e2 : TypeId} {n m : Nat} {k : IntKind} {cs : List Value} {rows : List (List Int)} {p : List MemPlace}
    (ht : P.underlying t = some (.array n e)) (he : P.underlying e = some (.array m e2)) (he2 : P.underlying e2 = some (.int k)) (hc2 : P.cellsOf e2 = 1) (hce : P.cellsOf e = m)
    (h : DataW.trod enc P w base sp held fuel t cs = some (.agg (rows.map (Lib.tabData k)), p)) (hr : rows.length = n) : ∀ i zs, rows[i]? = some zs → (cs.drop (i * m)).take m = zs.map fun z => Value.int k z := by
  cases fuel with
  | zero => simp [DataW.trod] at h
  | succ fuel =>
    simp only [DataW.trod, ht, hce] at h
    split at h
    · rename_i hl
      obtain ⟨xs, hm, hx⟩ := Option.map_eq_some_iff.1 h
      have hxs : xs.map (·.1) = rows.map (Lib.tabData (H := H) k) := by
        have := congrArg Prod.fst hx
        simpa using this
      intro i zs hi
      have hin : i < n := by
        rcases Nat.lt_or_ge i n with h | h
        · exact h
        · rw [List.getElem?_eq_none (by omega)] at hi; cases hi
      obtain ⟨b, hb, hf⟩ := Lib.mapM_at hm i i (by simp [hin])
      have h2 : (xs.map (·.1))[i]? = some (Lib.tabData k zs) := by rw [hxs, List.getElem?_map, hi]; rfl
      rw [List.getElem?_map, hb] at h2
      simp only [Option.map_some, Option.some.injEq] at h2
      obtain ⟨b1, b2⟩ := b
      simp only at h2
      subst h2
      exact Lib.cells_of_tab he he2 hc2 hce hf
    · cases h
def nibI : List Int := [0, 498536548, 997073096, 651767980, 1994146192, 1802195444, 1303535960, 1342533948, 3988292384, 4027552580, 3604390888, 3412177804, 2607071920, 2262029012, 2685067896, 3183342108]
def firstI : List Int := [1732584193, 4023233417, 2562383102, 271733878]
def sineI : List Int := [3614090360, 3905402710, 606105819, 3250441966, 4118548399, 1200080426, 2821735955, 4249261313, 1770035416, 2336552879, 4294925233, 2304563134, 1804603682, 4254626195, 2792965006, 1236535329, 4129170786, 3225465664, 643717713, 3921069994, 3593408605, 38016083, 3634488961, 3889429448, 568446438, 3275163606, 4107603335, 1163531501, 2850285829, 4243563512, 1735328473, 2368359562, 4294588738, 2272392833, 1839030562, 4259657740, 2763975236, 1272893353, 4139469664, 3200236656, 681279174, 3936430074, 3572445317, 76029189, 3654602809, 3873151461, 530742520, 3299628645, 4096336452, 1126891415, 2878612391, 4237533241, 1700485571, 2399980690, 4293915773, 2240044497, 1873313359, 4264355552, 2734768916, 1309151649, 4149444226, 3174756917, 718787259, 3951481745]
def turnI : List (List Int) := [[7, 12, 17, 22], [5, 9, 14, 20], [4, 11, 16, 23], [6, 10, 15, 21]]
theorem gNib : Tryd.prog.globalNamed "granary/digest.nibbles" = some 2 := by kernel_rfl
theorem gFirst : Tryd.prog.globalNamed "granary/digest.first" = some 1 := by kernel_rfl
theorem gSine : Tryd.prog.globalNamed "granary/digest.sines" = some 3 := by kernel_rfl
theorem gTurn : Tryd.prog.globalNamed "granary/digest.turns" = some 4 := by kernel_rfl
theorem nibs_of {W : World} {r : List (String × DataW Unit)} (h : laidMet Tryd.prog (("granary/digest.nibbles", Lib.tabData .u32 nibI) :: r) W) : Nibs W := by
  have hT := Lib.tabIs_of_head (t := 88) gNib (by kernel_rfl) Tryd.underlying88 Tryd.underlying62 (by kernel_rfl) (by kernel_rfl) h
  have hc : ∀ i, i < 16 → W.cell? ⟨2, i, none⟩ = some (.int .u32 (nib i : Nat)) := by
    intro i hi
    rw [hT.cell gNib i (by simpa [nibI] using hi)]
    have : ∀ i, i < 16 → nibI.getD i 0 = (nib i : Nat) := by decide
    rw [this i hi]
  exact ⟨hc, World.block_lt_of_cell? W ⟨2, 0, none⟩ (hc 0 (by decide))⟩
theorem sines_of {W : World} {r : List (String × DataW Unit)} (h : laidMet Tryd.prog (("granary/digest.sines", Lib.tabData .u32 sineI) :: r) W) (i : Nat) (hi : i < 64) : W.cell? ⟨3, i, none⟩ = some (.int .u32 (Md5Pure.K i : Nat)) := by
  have hT := Lib.tabIs_of_head (t := 92) gSine (by kernel_rfl) Tryd.underlying92 Tryd.underlying62 (by kernel_rfl) (by kernel_rfl) h
  rw [hT.cell gSine i (by simpa [sineI] using hi)]
  have : ∀ i, i < 64 → sineI.getD i 0 = (Md5Pure.K i : Nat) := by decide
  rw [this i hi]
theorem first_of {W : World} {r : List (String × DataW Unit)} (h : laidMet Tryd.prog (("granary/digest.first", Lib.tabData .u32 firstI) :: r) W) : W.rangeAt 1 0 (stL Md5Pure.first) := by
  have hT := Lib.tabIs_of_head (t := 81) gFirst (by kernel_rfl) Tryd.underlying81 Tryd.underlying62 (by kernel_rfl) (by kernel_rfl) h
  intro j v hv
  have hj : j < 4 := by
    rcases Nat.lt_or_ge j 4 with h | h
    · exact h
    · rw [List.getElem?_eq_none (by exact h)] at hv; cases hv
  rw [Nat.zero_add, hT.cell gFirst j (by simpa [firstI] using hj), ← hv]
  have e : j = 0 ∨ j = 1 ∨ j = 2 ∨ j = 3 := by omega
  rcases e with e | e | e | e <;> subst e <;> rfl
theorem turns_of {W : World} {r : List (String × DataW Unit)} (h : laidMet Tryd.prog (("granary/digest.turns", .agg (turnI.map (Lib.tabData .i64))) :: r) W) (i : Nat) (hi : i < 16) : W.cell? ⟨4, i, none⟩ = some (.int .i64 (Md5Pure.turns.getD i 0 : Nat)) := by
  obtain ⟨ps, ⟨g', t', cs, fuel, p, q, hg', ht', hvar, hd, _, _⟩, _⟩ := h
  obtain rfl := Option.some.inj (gTurn.symm.trans hg')
  obtain rfl := Option.some.inj ((show (Tryd.prog.globals[4]?).map (·.type) = some 95 by kernel_rfl).symm.trans ht')
  have hc := cells_of_tab2 Tryd.underlying95 Tryd.underlying94 Tryd.underlying3 (by kernel_rfl) (by kernel_rfl) hd rfl
  rw [World.var?_cell gTurn hvar i, ← Array.getElem?_toList]
  have hq : i / 4 < 4 := by omega
  have hr : i % 4 < 4 := by omega
  have key : ∀ q, q < 4 → ∀ r, r < 4 → cs.toList[q * 4 + r]? = some (.int .i64 (Md5Pure.turns.getD (q * 4 + r) 0 : Nat)) := by
    intro q hq r hr
    have e : q = 0 ∨ q = 1 ∨ q = 2 ∨ q = 3 := by omega
    have hz : ∃ zs, turnI[q]? = some zs ∧ zs[r]? = some ((Md5Pure.turns.getD (q * 4 + r) 0 : Nat) : Int) := by
      have er : r = 0 ∨ r = 1 ∨ r = 2 ∨ r = 3 := by omega
      rcases e with e | e | e | e <;> subst e <;> rcases er with er | er | er | er <;> subst er <;> exact ⟨_, rfl, rfl⟩
    obtain ⟨zs, h1, h2⟩ := hz
    have h3 := congrArg (·[r]?) (hc q zs h1)
    simp only [List.getElem?_take, List.getElem?_drop, hr, if_true, List.getElem?_map, h2, Option.map_some] at h3
    exact h3
  have := key (i / 4) hq (i % 4) hr
  rwa [show i / 4 * 4 + i % 4 = i by omega] at this
theorem glob_of {W : World} {r : List (String × DataW Unit)}
    (h : laidMet Tryd.prog (("granary/digest.first", Lib.tabData .u32 firstI) :: ("granary/digest.sines", Lib.tabData .u32 sineI) :: ("granary/digest.turns", .agg (turnI.map (Lib.tabData .i64))) :: r) W) : Glob W := by
  have h1 := first_of h
  have h2 := sines_of (tail h)
  have h3 := turns_of (tail (tail h))
  exact ⟨⟨h2, h3, World.block_lt_of_cell? W ⟨3, 0, none⟩ (h2 0 (by decide)), World.block_lt_of_cell? W ⟨4, 0, none⟩ (h3 0 (by decide))⟩, h1⟩
end Go.Proofs.YthnobhifepnakaaDoor.Laid
