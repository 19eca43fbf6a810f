/- A list of numbers as an argument. -/
import Derived.Test.YtbheegamibdbhaaOrder
import Derived.Test.YtbheegamibdbhaaOpenD
import Derived.Deep.Slices
set_option linter.unusedVariables false
set_option linter.unusedSimpArgs false
namespace Go.Proofs.Ytbheegamibdbhaa.OpenI
open Go.ChangeShapes Go.WideShapes Go.ChangeAt Go.RowKit Go.Proofs.YtbheegamibdbhaaW.PrintWords Go.Deep
open Go.Proofs.Ytbheegamibdbhaa.Order
theorem open_intlist {H : Type} {enc : TypeId × Value → H} {P : Program} {W : World} {base : Nat} {sp : Nat → Bool} {held : Bool} {t e : TypeId} {a0 : Option Addr} {len cap : Nat} {d : DataW H} {p : List MemPlace}
    (ht : P.underlying t = some (.slice e)) (he : P.underlying e = some (.int .i64)) (hc : P.cellsOf e = 1)
    (h : DataW.Trod enc P W base sp held t (.slice a0 len cap) d p) :
    ∃ l : List Int, len = l.length ∧ NumsAt W a0 l ∧ l.length ≤ 9223372036854775807 := by
  obtain ⟨fuel, hf⟩ := h
  rcases open_ints ht he hc hf with ⟨hcs, hx⟩ | ⟨x, l, c, zs, hcs, _, hl, hm, hss, hx, hcell, hws⟩
  · simp [Value.cells] at hcs
    obtain ⟨rfl, rfl, rfl⟩ := hcs
    exact ⟨[], rfl, .inl rfl, Nat.zero_le _⟩
  · simp [Value.cells] at hcs
    obtain ⟨rfl, rfl, rfl⟩ := hcs
    have hge : len ≤ zs.length := by rw [hss]; split <;> omega
    have hlen : (zs.take len).length = len := by simp; omega
    have hmax : cap ≤ 9223372036854775807 := by simpa [maxLen] using hm
    refine ⟨zs.take len, hlen.symm, ?_, by omega⟩
    by_cases h0 : len = 0
    · left; subst h0; simp
    · right
      have hc0 := hcell 0 (by omega)
      obtain ⟨b, o, sp⟩ := x
      have hsp : sp = none := by
        cases sp with
        | none => rfl
        | some q =>
          simp [Addr.add, World.cell?] at hc0
          split at hc0 <;> cases hc0
      subst hsp
      refine ⟨b, o, rfl, fun j y hj => ?_⟩
      have hjl : j < len := by
        have := (List.getElem?_eq_some_iff.1 hj).1
        omega
      have hcj := hcell j (by omega)
      have e1 : (⟨b, o, none⟩ : Addr).add j = ⟨b, o + j, none⟩ := by unfold Addr.add; split <;> simp_all
      rw [e1] at hcj
      rw [hcj]
      rw [List.getElem?_take_of_lt hjl] at hj
      simp [List.getD_eq_getElem?_getD, hj]
end Go.Proofs.Ytbheegamibdbhaa.OpenI
