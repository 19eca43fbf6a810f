/- Joined texts of this claim: Sort -/
import Derived.Test.YtljjpdjknnhceaaDoorJRHld0
import Derived.Test.YtljjpdjknnhceaaDoorJRHld2
set_option linter.unusedVariables false
set_option linter.unusedSimpArgs false
/- Is a list sorted: the library's answer; is a number within its limits. -/
set_option linter.unusedVariables false
set_option linter.unusedSimpArgs false
namespace Go.Proofs.YtljjpdjknnhceaaDoor.Sort
open Go.RowKit Go.Proofs.YtljjpdjknnhceaaDoorW.PrintWords Go.Proofs.YtljjpdjknnhceaaDoorW.PrintLast Go.Proofs.YtljjpdjknnhceaaDoorW.PrintMore
open Go.Proofs.YtljjpdjknnhceaaDoor.Base Go.Proofs.YtljjpdjknnhceaaDoor.RingPure Go.Proofs.YtljjpdjknnhceaaDoor.Clus Go.Proofs.YtljjpdjknnhceaaDoor.PRingWalks
theorem add_none (b o j : Nat) : (⟨b, o, none⟩ : Addr).add j = ⟨b, o + j, none⟩ := by unfold Addr.add; split <;> simp_all
theorem less_f (a b : Int) : cmp_Less_int.f a b = some (decide (a < b)) := by
  unfold cmp_Less_int.f cmp_isNaN_int.f
  simp
theorem srt_iff : ∀ (l : List Int), srt l = true ↔ ∀ j, j + 1 < l.length → l.getD j 0 ≤ l.getD (j + 1) 0
  | [] => by simp [srt]
  | [a] => by simp [srt]
  | a :: b :: l => by
    simp only [srt, Bool.and_eq_true, decide_eq_true_eq, srt_iff (b :: l)]
    constructor
    · rintro ⟨h1, h2⟩ j hj
      cases j with
      | zero => simpa using h1
      | succ j => simpa using h2 j (by simpa using hj)
    · intro h
      refine ⟨by simpa using h 0 (by simp), fun j hj => ?_⟩
      have := h (j + 1) (by simpa using hj)
      simpa using this
theorem sorted_l0 (l : List Int) (hl : l.length ≤ 9223372036854775807) : ∀ (i k : Nat), i < k → (i < l.length ∨ i = 0) → (∀ j, i ≤ j → j + 1 < l.length → l.getD j 0 ≤ l.getD (j + 1) 0) → slices_IsSorted_int_int.l0 k l (i : Int) = some (srt l)
  | 0, k, hk, _, h => by
    obtain ⟨k, rfl⟩ : ∃ m, k = m + 1 := ⟨k - 1, by omega⟩
    simp only [slices_IsSorted_int_int.l0]
    rw [if_neg (by omega)]
    rw [(srt_iff l).2 (fun j hj => h j (Nat.zero_le _) hj)]
  | i + 1, k, hk, hi, h => by
    obtain ⟨k, rfl⟩ : ∃ m, k = m + 1 := ⟨k - 1, by omega⟩
    have hil : i + 1 < l.length := hi.elim id (fun h => by omega)
    have e1 : wrap64 (((i + 1 : Nat) : Int) - 1) = (i : Int) := by unfold wrap64; omega
    have e2 : rd l ((i + 1 : Nat) : Int) = l.getD (i + 1) 0 := rfl
    have e3 : rd l (i : Int) = l.getD i 0 := rfl
    simp only [slices_IsSorted_int_int.l0]
    rw [if_pos (by omega), if_pos (by omega), if_pos (by omega), e1, if_pos (by omega), if_pos (by omega), less_f, e2, e3, Option.bind_some]
    by_cases hc : l.getD (i + 1) 0 < l.getD i 0
    · rw [if_pos (decide_eq_true hc)]
      have : srt l = false := by
        rw [Bool.eq_false_iff]
        intro hs
        have := (srt_iff l).1 hs i hil
        omega
      rw [this]
    · rw [if_neg (by simpa using hc)]
      exact sorted_l0 l hl i k (by omega) (.inl (by omega)) (fun j hj hj2 => by
        by_cases e : j = i
        · subst e; omega
        · exact h j (by omega) hj2)
theorem sorted_f (l : List Int) (hl : l.length ≤ 9223372036854775807) : ∃ k, sort_IntsAreSorted.f k l = some (srt l) := by
  refine ⟨l.length + 1, ?_⟩
  unfold sort_IntsAreSorted.f slices_IsSorted_int_int.f
  cases hz : l.length with
  | zero =>
    have e : wrap64 (((0 : Nat) : Int) - 1) = -1 := by unfold wrap64; omega
    rw [e]
    have : l = [] := List.eq_nil_of_length_eq_zero hz
    subst this
    rfl
  | succ n =>
    have e : wrap64 (((n + 1 : Nat) : Int) - 1) = (n : Int) := by unfold wrap64; omega
    rw [e, sorted_l0 l hl n _ (by omega) (.inl (by omega)) (fun j h1 h2 => by omega)]
    rfl
theorem NumsAt.kd {w : World} {A : Option Addr} {l : List Int} (h : NumsAt w A l) (hl : l.length ≤ 9223372036854775807) : Kd.C (Kd.int .i64) w A l.length l := by
  refine Kd.C_of_reads (d := 0) ⟨rfl, hl, fun hn => ?_⟩
  rcases h with rfl | ⟨b, o, rfl, h⟩
  · simp at hn
  · refine ⟨_, rfl, fun j hj => ?_⟩
    rw [add_none, h j _ (List.getElem?_eq_getElem hj), List.getD_eq_getElem?_getD, List.getElem?_eq_getElem hj]
    rfl
theorem sorted_any (A : Option Addr) (c : Nat) (l : List Int) (w : World) (h : NumsAt w A l) (hc : l.length ≤ c) (hl : l.length ≤ 9223372036854775807) :
    Calls Tryd.prog 118 #[.slice A l.length c] w fun e w' => e = .returned (.bool (srt l)) ∧ Drawn0 w w' := by
  obtain ⟨k, hk⟩ := sorted_f l hl
  exact sort_IntsAreSorted.calls k A c l _ w (NumsAt.kd h hl) hc hk
def wiB (n l m : Int) : Bool := decide (l ≤ n) && decide (n ≤ m)
theorem within_any (n l m : Int) (w : World) : Calls Tryd.prog 50 #[.int .i64 n, .int .i64 l, .int .i64 m] w fun e w' => e = .returned (.bool (wiB n l m)) ∧ Drawn0 w w' := by
  refine ring_within.calls n l m _ w ?_
  unfold ring_within.f wiB
  by_cases h : l ≤ n
  · rw [if_pos h, decide_eq_true h, Bool.true_and]
  · rw [if_neg h, decide_eq_false h, Bool.false_and]
end Go.Proofs.YtljjpdjknnhceaaDoor.Sort
