/- Joined texts of this claim: LaidF -/
import Derived.Test.YtnifgokjagahfaaDoorJFCan2
import Derived.Test.YtnifgokjagahfaaDoorJFCan0
import Derived.Test.YtnifgokjagahfaaDoorTie
import Derived.Lib.LaidTab
/- The tables that a row lays down, as the walks ask them. -/
set_option linter.unusedVariables false
set_option linter.unusedSimpArgs false
namespace Go.Proofs.YtnifgokjagahfaaDoor.LaidF
open Go.RowKit
open Go.Proofs.YtnifgokjagahfaaDoor.Base Go.Proofs.YtnifgokjagahfaaDoor.Layouts Go.Proofs.YtnifgokjagahfaaDoor.RefF
open Go.Proofs.YtnifgokjagahfaaDoor.Crc (Nibs nib)
theorem tail {P : Program} {x : String × DataW Unit} {r : List (String × DataW Unit)} {w : World} (h : laidMet P (x :: r) w) : laidMet P r w := by
  obtain ⟨ps, ⟨g, t, cs, fuel, p, q, _, _, _, _, hq, rfl⟩, hn, hc⟩ := h
  exact ⟨q, hq, (List.nodup_append.1 hn).2.1, fun b off hm => hc b off (List.mem_append_right _ hm)⟩
def nibI : List Int := [0, 498536548, 997073096, 651767980, 1994146192, 1802195444, 1303535960, 1342533948, 3988292384, 4027552580, 3604390888, 3412177804, 2607071920, 2262029012, 2685067896, 3183342108]
theorem gNib : Tryd.prog.globalNamed "granary/digest.nibbles" = some 2 := by kernel_rfl
theorem nibs_of {W : World} {r : List (String × DataW Unit)} (h : laidMet Tryd.prog (("granary/digest.nibbles", Lib.tabData .u32 nibI) :: r) W) : Nibs W := by
  have hT := Lib.tabIs_of_head (t := 142) gNib (by kernel_rfl) Tryd.underlying142 Tryd.underlying137 (by kernel_rfl) (by kernel_rfl) h
  have hc : ∀ i, i < 16 → W.cell? ⟨2, i, none⟩ = some (.int .u32 (nib i : Nat)) := by
    intro i hi
    rw [hT.cell gNib i (by simpa [nibI] using hi)]
    have : ∀ i, i < 16 → nibI.getD i 0 = (nib i : Nat) := by decide
    rw [this i hi]
  exact ⟨hc, World.block_lt_of_cell? W ⟨2, 0, none⟩ (hc 0 (by decide))⟩
theorem cells_of_strs {H : Type} {enc : TypeId × Value → H} {P : Program} {w : World} {base : Nat} {sp : Nat → Bool} {held : Bool} {fuel : Nat} {t e : TypeId} {n : Nat} {cs : List Value} {rows : List (List UInt8)} {p : List MemPlace}
    (ht : P.underlying t = some (.array n e)) (he : P.underlying e = some .string) (hce : P.cellsOf e = 1)
    (h : DataW.trod enc P w base sp held fuel t cs = some (.agg (rows.map fun l => DataW.lit (Lit.string l)), p)) (hr : rows.length = n) : ∀ (i : Nat) (l : List UInt8), rows[i]? = some l → cs[i]? = some (Value.string ⟨l.toArray⟩) := by
  cases fuel with
  | zero => simp [DataW.trod] at h
  | succ fuel =>
    simp only [DataW.trod, ht, hce] at h
    split at h
    · rename_i hl
      obtain ⟨xs, hm, hx⟩ := Option.map_eq_some_iff.1 h
      have hxs : xs.map (·.1) = rows.map (fun l => (DataW.lit (H := H) (Lit.string l))) := by
        have := congrArg Prod.fst hx
        simpa using this
      intro i l hi
      have hin : i < n := by
        rcases Nat.lt_or_ge i n with h | h
        · exact h
        · rw [List.getElem?_eq_none (by omega)] at hi; cases hi
      obtain ⟨b, hb, hf⟩ := Lib.mapM_at hm i i (by simp [hin])
      have h2 : (xs.map (·.1))[i]? = some (DataW.lit (Lit.string l)) := by rw [hxs, List.getElem?_map, hi]; rfl
      rw [List.getElem?_map, hb] at h2
      simp only [Option.map_some, Option.some.injEq] at h2
      obtain ⟨b1, b2⟩ := b
      simp only at h2
      subst h2
      obtain ⟨s, hs, hx2, _⟩ := DataW.trod_string he hf
      simp only [Prod.mk.injEq, DataW.lit.injEq, Lit.string.injEq] at hx2
      have h3 := congrArg (·[0]?) hs
      simp only [List.getElem?_take, List.getElem?_drop, Nat.mul_one, Nat.add_zero, List.getElem?_cons_zero] at h3
      have e : s = ⟨l.toArray⟩ := by rw [hx2.1]
      rw [e] at h3
      simpa using h3
    · cases h
def fldI : List (List UInt8) := [[], [], [], [69, 86], [69, 86, 67], [69, 83, 86], [69, 83, 86, 80, 67], [69, 83], [69, 83, 86, 80, 67], [], [69, 83, 86, 80, 67], [75], [86, 67, 75, 87], [83, 86], [83, 86, 80, 67, 87], [83, 86, 80], [83, 86, 80, 67, 75, 87]]
theorem gFld : Tryd.prog.globalNamed "granary/granaryref5.fields" = some 1 := by kernel_rfl
theorem strs_of {nm : String} {g : Nat} {W : World} {r : List (String × DataW Unit)} (hgn : Tryd.prog.globalNamed nm = some g) (hgt : (Tryd.prog.globals[g]?).map (·.type) = some 105)
    (h : laidMet Tryd.prog ((nm, .agg (fldI.map fun l => DataW.lit (Lit.string l))) :: r) W) (i : Nat) (hi : i < 17) : W.cell? ⟨g, i, none⟩ = some (.string (fstr i)) := by
  obtain ⟨ps, ⟨g', t', cs, fuel, p, q, hg', ht', hvar, hd, _, _⟩, _⟩ := h
  obtain rfl := Option.some.inj (hgn.symm.trans hg')
  obtain rfl := Option.some.inj (hgt.symm.trans ht')
  have hc := cells_of_strs Tryd.underlying105 Tryd.underlying9 (by kernel_rfl) hd rfl
  rw [World.var?_cell hgn hvar i, ← Array.getElem?_toList]
  have hf : fldI[i]? = some ((fieldsOf i).map fun f => UInt8.ofNat (chOf f)) := by
    have : ∀ i, i < 17 → fldI[i]? = some ((fieldsOf i).map fun f => UInt8.ofNat (chOf f)) := by decide
    exact this i hi
  exact hc i _ hf
theorem rtab_of {W : World} {r : List (String × DataW Unit)} (h : laidMet Tryd.prog (("granary/granaryref5.fields", .agg (fldI.map fun l => DataW.lit (Lit.string l))) :: r) W) : RTab W :=
  ⟨fun i hi => strs_of gFld (by kernel_rfl) h i hi, World.block_lt_of_cell? W ⟨1, 0, none⟩ (strs_of gFld (by kernel_rfl) h 0 (by decide))⟩
end Go.Proofs.YtnifgokjagahfaaDoor.LaidF
