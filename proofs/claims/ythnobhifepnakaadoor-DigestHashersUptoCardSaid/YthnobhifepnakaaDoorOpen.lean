/- How arguments are opened: what their readings give the walks, with the bound. -/
import Derived.Test.YthnobhifepnakaaDoorRows
import Derived.Test.YthnobhifepnakaaDoorBulk
import Derived.Test.YthnobhifepnakaaDoorBase
import Derived.ProofKit
import Derived.SliceStrings
set_option linter.unusedVariables false
set_option linter.unusedSimpArgs false
namespace Go.Proofs.YthnobhifepnakaaDoor.Open
open Go.ChangeShapes Go.WideShapes Go.ChangeAt Go.RowKit Go.Proofs.YthnobhifepnakaaDoorW.PrintWords
/-- all texts together, each with one more -/
def total (l : List ByteArray) : Nat := (l.map fun s => s.size + 1).sum
theorem bulk_strs {H : Type} (l : List ByteArray) : Rows.uptoBulkAll (strs (H := H) l) = total l := by
  induction l with
  | nil => rfl
  | cons s l ih =>
    simp only [strs, List.map_cons, Rows.uptoBulkAll, Rows.uptoBulk, total, List.sum_cons] at ih ⊢
    rw [ih, data_length]
theorem open_strs {H : Type} {enc : TypeId × Value → H} {P : Program} {W : World} {base : Nat} {sp : Nat → Bool} {held : Bool} {t e : TypeId} {a0 : Option Addr} {len cap : Nat} {d : DataW H} {p : List MemPlace}
    (ht : P.underlying t = some (.slice e)) (he : P.underlying e = some .string) (hc : P.cellsOf e = 1) (hsp : ∀ b, sp b = true)
    (h : DataW.Trod enc P W base sp held t (.slice a0 len cap) d p) :
    ∃ l : List ByteArray, len = l.length ∧ Kd.C Kd.string W a0 l.length l ∧ l.length ≤ cap ∧ total l ≤ Rows.uptoBulk d := by
  obtain ⟨fuel, hf⟩ := h
  rcases open_strings ht he hc hf with ⟨hcs, hx⟩ | ⟨x, l, c, ss, hcs, _, hl, hm, hss, hx, hcell, hws⟩
  · simp [Value.cells] at hcs
    obtain ⟨rfl, rfl, rfl⟩ := hcs
    exact ⟨[], rfl, Kd.C_of_reads (d := ByteArray.empty) ⟨rfl, by simp, fun h => by simp at h⟩, by simp, Nat.zero_le _⟩
  · simp [Value.cells] at hcs
    obtain ⟨rfl, rfl, rfl⟩ := hcs
    rw [hsp, if_pos rfl] at hss
    simp only [Prod.mk.injEq] at hx
    obtain ⟨rfl, _⟩ := hx
    have hlen : (ss.take len).length = len := by simp; omega
    refine ⟨ss.take len, hlen.symm, Kd.C_of_reads (d := ByteArray.empty) ⟨rfl, ?_, fun h => ⟨x, rfl, fun j hj => ?_⟩⟩, by omega, ?_⟩
    · have : cap ≤ 9223372036854775807 := by simpa [maxLen] using hm
      omega
    · rw [hcell j (by omega)]
      have : j < len := by omega
      simp [List.getD_eq_getElem?_getD, List.getElem?_take, this]
    · simp only [Rows.uptoBulk]
      rw [bulk_strs]; omega
end Go.Proofs.YthnobhifepnakaaDoor.Open
