/- Joined texts of this claim: LocPure -/
import Derived.Test.YtljjpdjknnhceaaDoorJRPlc0
import Derived.Test.YtljjpdjknnhceaaDoorJRPlc3
import Derived.Test.YtljjpdjknnhceaaDoorJRPlc10
set_option linter.unusedVariables false
set_option linter.unusedSimpArgs false
/- Where a key lies: plain lists. -/
set_option linter.unusedVariables false
set_option linter.unusedSimpArgs false
namespace Go.Proofs.YtljjpdjknnhceaaDoor.LocPure
open Go.Proofs.YtljjpdjknnhceaaDoor.RingPure Go.Proofs.YtljjpdjknnhceaaDoor.ChkPure Go.Proofs.YtljjpdjknnhceaaDoor.Chkd
/-- the number that bytes say, the highest first -/
def beV (l : List UInt8) : Nat := l.foldl (fun n c => n * 256 + c.toNat) 0
theorem beV_snoc (l : List UInt8) (c : UInt8) : beV (l ++ [c]) = beV l * 256 + c.toNat := by simp [beV]
theorem snoc_cases {α : Type} (l : List α) (h : l ≠ []) : ∃ a c, l = a ++ [c] := ⟨l.dropLast, l.getLast h, (List.dropLast_concat_getLast h).symm⟩
theorem beV_lt : ∀ (k : Nat) (l : List UInt8), l.length ≤ k → beV l < 256 ^ k
  | 0, l, h => by
    have : l = [] := List.eq_nil_of_length_eq_zero (by omega)
    subst this; decide
  | k + 1, l, h => by
    by_cases hl : l = []
    · subst hl
      have : 0 < 256 ^ (k + 1) := Nat.pow_pos (by decide)
      simpa [beV] using this
    · obtain ⟨a, c, rfl⟩ := snoc_cases l hl
      rw [beV_snoc, Nat.pow_succ]
      rw [List.length_append, List.length_singleton] at h
      have := beV_lt k a (by omega)
      have := c.toNat_lt
      omega
theorem beV_four (a b c d : UInt8) : beV [a, b, c, d] = a.toNat * 16777216 + b.toNat * 65536 + c.toNat * 256 + d.toNat := by
  show (((0 * 256 + a.toNat) * 256 + b.toNat) * 256 + c.toNat) * 256 + d.toNat = _
  omega
/-- a place: the error, the partition, the chunk, the hash -/
structure Pl where mk ::
  (err part chunk : Int) (hash : List UInt8)
def md (key : ByteArray) : List UInt8 := Md5Pure.md5 key.data.toList
def num4 (key : ByteArray) (k : Nat) : Nat := beV (((md key).drop k).take 4)
def locP (c : Cl) (ns : List Nd) (key : ByteArray) : Pl :=
  if (chkC c ns).1 ≠ 0 then ⟨(chkC c ns).1, 0, 0, []⟩ else if key.size < 1 ∨ 255 < key.size then ⟨32, 0, 0, []⟩ else
  ⟨0, ((num4 key 0 % cnt ns : Nat) : Int), ((num4 key 4 % c.chunks.toNat : Nat) : Int), (md key).drop (16 - c.width.toNat)⟩
theorem md_length (key : ByteArray) : (md key).length = 16 := by simp [md, Md5Pure.md5, Md5Pure.told, Md5Pure.bytes4]
theorem num4_lt (key : ByteArray) (k : Nat) : num4 key k < 4294967296 := by
  have := beV_lt 4 (((md key).drop k).take 4) (List.length_take_le _ _)
  simpa [num4] using this
end Go.Proofs.YtljjpdjknnhceaaDoor.LocPure
