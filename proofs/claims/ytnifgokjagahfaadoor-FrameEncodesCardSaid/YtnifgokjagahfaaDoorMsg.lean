/- A message in memory; whole. -/
import Derived.Test.YtnifgokjagahfaaDoorLayouts
import Derived.Test.YtnifgokjagahfaaDoorPFrameEncodesx1
import Derived.Deep.RegionLaw
set_option linter.unusedVariables false
set_option linter.unusedSimpArgs false
namespace Go.Proofs.YtnifgokjagahfaaDoor.Msg
open Go.RowKit Go.Proofs.YtnifgokjagahfaaDoorW.PrintWords Go.Proofs.YtnifgokjagahfaaDoorW.PrintLast Go.Proofs.YtnifgokjagahfaaDoorW.PrintMore
open Go.Proofs.YtnifgokjagahfaaDoor.Base Go.Proofs.YtnifgokjagahfaaDoor.Layouts Go.Proofs.YtnifgokjagahfaaDoor.PFrameEncodes
structure M where mk ::
  (kind from_ to_ id epoch seq version prev code : Int) (key value : ByteArray)
def mL (m : M) : List Value := [.int .i64 m.kind, .int .i64 m.from_, .int .i64 m.to_, .int .i64 m.id, .int .i64 m.epoch, .int .i64 m.seq, .int .i64 m.version, .int .i64 m.prev, .int .i64 m.code, .string m.key, .string m.value]
structure MBox (w : World) (g : Nat) (m : M) : Prop where mk ::
  (row : w.heap[g]? = some (.cells (mL m).toArray 24 (0, 0))) (lt : g < w.heap.size)
theorem MBox.below {w w1 : World} {g B : Nat} {m : M} (h : MBox w g m) (hb : Below B w w1) (hg : g < B) : MBox w1 g m := ⟨(hb.block _ hg).trans h.row, Nat.lt_of_lt_of_le h.lt hb.size⟩
theorem MBox.c {w : World} {g : Nat} {m : M} (h : MBox w g m) (i : Nat) : w.cell? ⟨g, i, none⟩ = (mL m)[i]? := by
  rw [cell_of_row _ _ _ _ _ _ h.row, List.getElem?_toArray]
def numOf (m : M) : Nat → Int
  | 0 => m.epoch
  | 1 => m.seq
  | 2 => m.version
  | 3 => m.prev
  | 4 => m.code
  | 5 => m.key.size
  | _ => m.value.size
def widthOf : Nat → Int
  | 0 | 1 | 2 | 3 => 8
  | 4 | 5 => 2
  | _ => 4
def mostOf : Nat → Int
  | 0 | 1 | 2 | 3 => 9007199254740992
  | 4 => 65535
  | 5 => 255
  | _ => 4096
set_option maxHeartbeats 2000000 in
theorem whole_any (g : Nat) (m : M) (f : Nat) (w : World) (hf : f < 7) (h : MBox w g m) : Calls Tryd.prog 38 #[.pointer (some ⟨g, 0, none⟩), .int .u8 (f : Nat)] w fun e w' => e = .returned (.tuple #[.int .i64 (numOf m f), .int .i64 (widthOf f), .int .i64 (mostOf f)]) ∧ w = w' := by
  have hc4 : w.cell? ⟨g, 4, none⟩ = some (.int .i64 m.epoch) := h.c 4
  have hc5 : w.cell? ⟨g, 5, none⟩ = some (.int .i64 m.seq) := h.c 5
  have hc6 : w.cell? ⟨g, 6, none⟩ = some (.int .i64 m.version) := h.c 6
  have hc7 : w.cell? ⟨g, 7, none⟩ = some (.int .i64 m.prev) := h.c 7
  have hc8 : w.cell? ⟨g, 8, none⟩ = some (.int .i64 m.code) := h.c 8
  have hc9 : w.cell? ⟨g, 9, none⟩ = some (.string m.key) := h.c 9
  have hc10 : w.cell? ⟨g, 10, none⟩ = some (.string m.value) := h.c 10
  clear h
  have e : f = 0 ∨ f = 1 ∨ f = 2 ∨ f = 3 ∨ f = 4 ∨ f = 5 ∨ f = 6 := by omega
  clear hf
  rcases e with e | e | e | e | e | e | e <;> subst e <;>
    (go_enter Tryd.func38, Tryd.ntmps38
     go_wp2
     go_ret3
     exact ⟨rfl, rfl⟩)
def wi (n most : Int) : Bool := if 0 ≤ n then (if n ≤ most then true else false) else false
theorem within_any (n most : Int) (w : World) : Calls Tryd.prog 67 #[.int .i64 n, .int .i64 most] w fun e w' => e = .returned (.bool (wi n most)) ∧ Drawn0 w w' := by
  refine frame_within.calls n most (wi n most) w ?_
  unfold frame_within.f wi
  by_cases h0 : 0 ≤ n
  · by_cases h1 : n ≤ most
    · simp [h0, h1]
    · simp [h0, h1]
  · simp [h0]
end Go.Proofs.YtnifgokjagahfaaDoor.Msg
