/- Joined texts of this claim: NamePure -/
import Derived.Test.YtljjpdjknnhceaaDoorJRHld20
import Derived.Test.YtljjpdjknnhceaaDoorJRHld21
set_option linter.unusedVariables false
set_option linter.unusedSimpArgs false
/- A file's name, written and read: plain lists. -/
set_option linter.unusedVariables false
set_option linter.unusedSimpArgs false
namespace Go.Proofs.YtljjpdjknnhceaaDoor.NamePure
open Go.Lib Go.Proofs.YtljjpdjknnhceaaDoor.NumPure Go.Proofs.YtljjpdjknnhceaaDoor.CutPure
structure Fl where mk ::
  (part rep chk : Nat) (data : Bool)
def inR (f : Fl) : Prop := f.part ≤ 63 ∧ f.rep ≤ 15 ∧ f.chk ≤ 15
instance (f : Fl) : Decidable (inR f) := by unfold inR; infer_instance
def dataW : List UInt8 := [100, 97, 116, 97]
def indexW : List UInt8 := [105, 110, 100, 101, 120]
def ext (d : Bool) : List UInt8 := if d then dataW else indexW
def fileN (f : Fl) : List UInt8 := (decDigits f.part ++ 95 :: (decDigits f.rep ++ 95 :: decDigits f.chk)) ++ 46 :: ext f.data
/-- the program's reading -/
def readW (d : Bool) : List (List UInt8) → Option Fl
  | [a, b, c] => match numL a, numL b, numL c with
    | some x, some y, some z => if x ≤ 63 ∧ y ≤ 15 ∧ z ≤ 15 then some ⟨x, y, z, d⟩ else none
    | _, _, _ => none
  | _ => none
def readP (l : List UInt8) : Option Fl :=
  if (cut l [46]).2.2 = true ∧ ((cut l [46]).2.1 = indexW ∨ (cut l [46]).2.1 = dataW) then readW (decide ((cut l [46]).2.1 = dataW)) (pcs 95 (cut l [46]).1) else none
/-- the document's reading -/
def readR (l : List UInt8) : Option Fl :=
  if 14 < l.length then none else
  match pcs 46 l with
  | [s, e] => match pcs 95 s with
    | [a, b, c] => match numL a, numL b, numL c with
      | some x, some y, some z => if inR ⟨x, y, z, decide (e = dataW)⟩ ∧ fileN ⟨x, y, z, decide (e = dataW)⟩ = l then some ⟨x, y, z, decide (e = dataW)⟩ else none
      | _, _, _ => none
    | _ => none
  | _ => none
theorem dec_free (n : Nat) (c : UInt8) (hc : c.toNat < 48) : c ∉ decDigits n := fun h => by
  have := noz_digits (dec_val n n (Nat.le_refl _)).2.1 c h
  omega
theorem dec_free' (n : Nat) (c : UInt8) (hc : 57 < c.toNat) : c ∉ decDigits n := fun h => by
  have := noz_digits (dec_val n n (Nat.le_refl _)).2.1 c h
  omega
def stem (f : Fl) : List UInt8 := decDigits f.part ++ 95 :: (decDigits f.rep ++ 95 :: decDigits f.chk)
theorem stem_free (f : Fl) : (46 : UInt8) ∉ stem f := fun h => by
  unfold stem at h
  simp only [List.mem_append, List.mem_cons] at h
  rcases h with h | h | h | h | h
  · exact dec_free _ _ (by decide) h
  · exact absurd h (by decide)
  · exact dec_free _ _ (by decide) h
  · exact absurd h (by decide)
  · exact dec_free _ _ (by decide) h
theorem stem_pcs (f : Fl) : pcs 95 (stem f) = [decDigits f.part, decDigits f.rep, decDigits f.chk] := by
  unfold stem
  rw [pcs_app _ _ _ (dec_free' _ _ (by decide)), pcs_app _ _ _ (dec_free' _ _ (by decide)), pcs_miss _ _ (dec_free' _ _ (by decide))]
theorem ext_free (d : Bool) : (46 : UInt8) ∉ ext d := by cases d <;> decide
theorem ext_data (d : Bool) : decide (ext d = dataW) = d := by cases d <;> decide
theorem file_eq (f : Fl) : fileN f = stem f ++ 46 :: ext f.data := rfl
theorem dec_short (n : Nat) (h : n ≤ 63) : (decDigits n).length ≤ 2 := by
  by_cases h1 : n < 10
  · rw [decDigits_one h1]; simp
  · rw [decDigits_two h1 (by omega)]; simp
theorem file_len (f : Fl) (h : inR f) : (fileN f).length ≤ 14 := by
  obtain ⟨h1, h2, h3⟩ := h
  have a := dec_short f.part (by omega)
  have b := dec_short f.rep (by omega)
  have c := dec_short f.chk (by omega)
  have e : (ext f.data).length ≤ 5 := by cases f.data <;> decide
  rw [file_eq]
  unfold stem
  simp only [List.length_append, List.length_cons]
  omega
theorem readP_file (f : Fl) (h : inR f) : readP (fileN f) = some f := by
  obtain ⟨h1, h2, h3⟩ := h
  unfold readP
  rw [file_eq, cut_app _ _ _ (stem_free f)]
  simp only [ext_data, stem_pcs]
  rw [if_pos ⟨trivial, by cases f.data <;> simp [ext]⟩]
  simp only [readW]
  rw [numL_dec (by omega), numL_dec (by omega), numL_dec (by omega)]
  simp only
  rw [if_pos ⟨h1, h2, h3⟩]
theorem readR_file (f : Fl) (h : inR f) : readR (fileN f) = some f := by
  have hl := file_len f h
  have h' := h
  obtain ⟨h1, h2, h3⟩ := h
  unfold readR
  rw [if_neg (by omega)]
  conv => lhs; rw [file_eq, pcs_app _ _ _ (stem_free f), pcs_miss _ _ (ext_free _)]
  simp only [stem_pcs, ext_data]
  rw [numL_dec (by omega), numL_dec (by omega), numL_dec (by omega)]
  simp only
  rw [if_pos ⟨h', rfl⟩]
theorem readR_some {l : List UInt8} {f : Fl} (h : readR l = some f) : inR f ∧ fileN f = l := by
  unfold readR at h
  split at h
  · cases h
  · split at h
    · split at h
      · split at h
        · split at h
          · next h1 => simp only [Option.some.injEq] at h; subst h; exact h1
          · cases h
        · cases h
      · cases h
    · cases h
theorem readW_some {d : Bool} {ps : List (List UInt8)} {f : Fl} (h : readW d ps = some f) : inR f ∧ f.data = d ∧ ps = [decDigits f.part, decDigits f.rep, decDigits f.chk] := by
  unfold readW at h
  split at h
  · next a b c =>
    cases ha : numL a with
    | none => rw [ha] at h; cases h
    | some x =>
      cases hb : numL b with
      | none => rw [ha, hb] at h; cases h
      | some y =>
        cases hc : numL c with
        | none => rw [ha, hb, hc] at h; cases h
        | some z =>
          rw [ha, hb, hc] at h
          simp only at h
          split at h
          · next h1 =>
            simp only [Option.some.injEq] at h
            subst h
            refine ⟨h1, rfl, ?_⟩
            show _ = [decDigits x, decDigits y, decDigits z]
            rw [numL_back ha, numL_back hb, numL_back hc]
          · cases h
  · cases h
theorem readP_some {l : List UInt8} {f : Fl} (h : readP l = some f) : inR f ∧ fileN f = l := by
  unfold readP at h
  by_cases h1 : (cut l [46]).2.2 = true ∧ ((cut l [46]).2.1 = indexW ∨ (cut l [46]).2.1 = dataW)
  · rw [if_pos h1] at h
    obtain ⟨a, b, c⟩ := readW_some h
    refine ⟨a, ?_⟩
    rcases cut_cases 46 l with ⟨_, e⟩ | ⟨s, x, hs, hl, e⟩
    · rw [e] at h1; exact absurd h1.1 (by simp)
    · rw [e] at h1 b c
      simp only at h1 b c
      rw [file_eq, hl]
      have hx : ext f.data = x := by
        rw [b]
        rcases h1.2 with rfl | rfl <;> rfl
      have hst : stem f = s := by
        have := glue_pcs 95 s
        rw [c] at this
        rw [← this]
        rfl
      rw [hx, hst]
  · rw [if_neg h1] at h; cases h
theorem read_same (l : List UInt8) : readP l = readR l := by
  cases h : readR l with
  | some f => obtain ⟨a, rfl⟩ := readR_some h; exact readP_file f a
  | none =>
    cases h2 : readP l with
    | none => rfl
    | some f => obtain ⟨a, rfl⟩ := readP_some h2; rw [readR_file f a] at h; cases h
end Go.Proofs.YtljjpdjknnhceaaDoor.NamePure
