/- The frame's layouts: by kind, the fields of its body. -/
import Derived.Test.YtnifgokjagahfaaDoorBase
import Derived.Outline
set_option linter.unusedVariables false
set_option linter.unusedSimpArgs false
namespace Go.Proofs.YtnifgokjagahfaaDoor.Layouts
open Go.RowKit Go.Proofs.YtnifgokjagahfaaDoorW.PrintWords Go.Proofs.YtnifgokjagahfaaDoorW.PrintLast Go.Proofs.YtnifgokjagahfaaDoorW.PrintMore
open Go.Proofs.YtnifgokjagahfaaDoor.Base
/-- objects laid one behind the other -/
def allocs (w : World) : List Obj → World
  | [] => w
  | o :: l => allocs (w.alloc o) l
theorem allocs_size : ∀ (l : List Obj) (w : World), (allocs w l).heap.size = w.heap.size + l.length
  | [], w => rfl
  | o :: l, w => by
    show (allocs (w.alloc o) l).heap.size = _
    rw [allocs_size l]
    simp; omega
theorem allocs_old : ∀ (l : List Obj) (w : World) (i : Nat), i < w.heap.size → (allocs w l).heap[i]? = w.heap[i]?
  | [], w, i, _ => rfl
  | o :: l, w, i, h => by
    show (allocs (w.alloc o) l).heap[i]? = _
    rw [allocs_old l _ i (by simp; omega), Go.heap_alloc_old _ _ h]
theorem allocs_new : ∀ (l : List Obj) (w : World) (k : Nat), k < l.length → (allocs w l).heap[w.heap.size + k]? = l[k]?
  | o :: l, w, 0, _ => by
    show (allocs (w.alloc o) l).heap[w.heap.size]? = _
    rw [allocs_old l _ _ (by simp), Go.heap_alloc_new]
    rfl
  | o :: l, w, k + 1, h => by
    show (allocs (w.alloc o) l).heap[w.heap.size + (k + 1)]? = _
    have e : w.heap.size + (k + 1) = (w.alloc o).heap.size + k := by simp; omega
    rw [e, allocs_new l (w.alloc o) k (by simpa using h)]
    rfl
theorem allocs_below : ∀ (l : List Obj) (w : World), Below w.heap.size w (allocs w l)
  | [], w => Below.refl _ _
  | o :: l, w => by
    have h1 := (Below.refl w.heap.size w).alloc (Nat.le_refl _) o
    exact below_then h1 h1.size (allocs_below l (w.alloc o))
/-- 0 epoch, 1 seq, 2 version, 3 prev, 4 code, 5 key, 6 value -/
def lay : List (List Nat) := [[], [], [], [0, 2], [0, 2, 4], [0, 1, 2], [0, 1, 2, 3, 4], [0, 1], [0, 1, 2, 3, 4], [], [0, 1, 2, 3, 4], [5], [2, 4, 5, 6], [1, 2], [1, 2, 3, 4, 6], [1, 2, 3], [1, 2, 3, 4, 5, 6]]
def fieldsOf (k : Nat) : List Nat := lay.getD k []
def rowOf (l : List Nat) : Obj := .cells (l.map fun n => Value.int .u8 (n : Nat)).toArray 87
/-- the slice of kind k, its row in the k - 1 th new block -/
def slOf (b k : Nat) : Value := if k = 0 then .slice none 0 0 else .slice (some ⟨b + (k - 1), 0, none⟩) (fieldsOf k).length (fieldsOf k).length
/-- what layouts leaves: b the first of its blocks -/
structure Lay (w : World) (b : Nat) : Prop where mk ::
  (out : ∀ k, k < 17 → w.cell? ⟨b + 16, k, none⟩ = some (slOf b k))
  (inn : ∀ k j n, k < 17 → (fieldsOf k)[j]? = some n → w.cell? ⟨b + (k - 1), j, none⟩ = some (.int .u8 (n : Nat)))
def objs (b : Nat) : List Obj := ((List.range 16).map fun i => rowOf (fieldsOf (i + 1))) ++ [.cells ((List.range 17).map (slOf b)).toArray 84]
set_option maxRecDepth 100000 in
set_option maxHeartbeats 4000000 in
theorem layouts_any (w : World) : Calls Tryd.prog 37 #[] w fun e w' => e = .returned (.slice (some ⟨w.heap.size + 16, 0, none⟩) 17 17) ∧ w' = allocs w (objs w.heap.size) := by
  go_enter Tryd.func37, Tryd.ntmps37
  go_wp2
  go_ret
  exact ⟨rfl, rfl⟩
theorem objs_length (b : Nat) : (objs b).length = 17 := by simp [objs]
theorem objs_row (b k : Nat) (h : k < 16) : (objs b)[k]? = some (rowOf (fieldsOf (k + 1))) := by
  unfold objs
  rw [List.getElem?_append_left (by simpa using h), List.getElem?_map, List.getElem?_range h]
  rfl
theorem objs_top (b : Nat) : (objs b)[16]? = some (.cells ((List.range 17).map (slOf b)).toArray 84) := by
  unfold objs
  rw [List.getElem?_append_right (by simp)]
  simp
theorem lay_of (w : World) : Lay (allocs w (objs w.heap.size)) w.heap.size := by
  constructor
  · intro k hk
    have h := allocs_new (objs w.heap.size) w 16 (by rw [objs_length]; decide)
    rw [objs_top] at h
    rw [cell_of_row _ _ _ _ _ _ h, List.getElem?_toArray, List.getElem?_map, List.getElem?_range hk]
    rfl
  · intro k j n hk hj
    cases k with
    | zero => simp [fieldsOf, lay] at hj
    | succ k =>
      have h := allocs_new (objs w.heap.size) w k (by rw [objs_length]; omega)
      rw [objs_row _ _ (by omega)] at h
      show (allocs w (objs w.heap.size)).cell? ⟨w.heap.size + (k + 1 - 1), j, none⟩ = _
      rw [Nat.add_sub_cancel, cell_of_row _ _ _ _ _ _ h, List.getElem?_toArray, List.getElem?_map, hj]
      rfl
theorem Lay.after {w w1 : World} {b B : Nat} (h : Lay w b) (hb : Below B w w1) (hB : b + 17 ≤ B) (hw : b + 17 ≤ w.heap.size) : Lay w1 b :=
  ⟨fun k hk => (World.cell?_of_block (hb.block _ (by show b + 16 < B; omega))).trans (h.out k hk), fun k j n hk hj => (World.cell?_of_block (hb.block _ (by show b + (k - 1) < B; omega))).trans (h.inn k j n hk hj)⟩
/-- layouts, told -/
theorem layouts_lay (w : World) : Calls Tryd.prog 37 #[] w fun e w' => e = .returned (.slice (some ⟨w.heap.size + 16, 0, none⟩) 17 17) ∧ Lay w' w.heap.size ∧ Below w.heap.size w w' ∧ w.heap.size + 17 ≤ w'.heap.size := by
  refine (layouts_any w).mono ?_
  rintro e w' ⟨rfl, rfl⟩
  exact ⟨rfl, lay_of w, allocs_below _ _, by rw [allocs_size, objs_length]; exact Nat.le_refl _⟩
theorem known_yes (k : Int) (w : World) (h : 1 ≤ k ∧ k < 17) : Calls Tryd.prog 34 #[.int .i64 k] w fun e w' => e = .returned (.bool true) ∧ Below w.heap.size w w' := by
  obtain ⟨k0, k1⟩ := h
  have q1 : decide (k < 17) = true := decide_eq_true k1
  go_enter Tryd.func34, Tryd.ntmps34
  go_wp2_with fail
  refine (layouts_lay w).mono ?_
  rintro e w' ⟨rfl, _, hb, _⟩
  have HB := Aside0.mk hb
  clear hb
  go_wp2
  go_ret
  exact ⟨rfl, HB.out⟩
theorem known_no (k : Int) (w : World) (h : ¬ (1 ≤ k ∧ k < 17)) : Calls Tryd.prog 34 #[.int .i64 k] w fun e w' => e = .returned (.bool false) ∧ Below w.heap.size w w' := by
  have HB0 := Aside0.mk (Below.refl w.heap.size w)
  by_cases k0 : 1 ≤ k
  · have k1 : ¬ k < 17 := fun h1 => h ⟨k0, h1⟩
    have q1 : decide (k < 17) = false := decide_eq_false k1
    clear h
    go_enter Tryd.func34, Tryd.ntmps34
    go_wp2_with fail
    refine (layouts_lay w).mono ?_
    rintro e w' ⟨rfl, _, hb, _⟩
    have HB := Aside0.mk hb
    clear hb
    go_wp2
    go_ret
    exact ⟨rfl, HB.out⟩
  · clear h
    go_enter Tryd.func34, Tryd.ntmps34
    go_wp2
    go_ret
    exact ⟨rfl, HB0.out⟩
end Go.Proofs.YtnifgokjagahfaaDoor.Layouts
