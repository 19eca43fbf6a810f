/- Joined texts of this claim: HoldKit -/
import Derived.Test.YtljjpdjknnhceaaDoorJRHld17
import Derived.Test.YtljjpdjknnhceaaDoorJRHld23
import Derived.WalkLawsBesides
import Derived.Deep.QuietTactic
import Derived.BigQuiet
set_option linter.unusedVariables false
set_option linter.unusedSimpArgs false
/- RingHolds' helpers: lists of slots and of words compared; a word put in its place. -/
set_option linter.unusedVariables false
set_option linter.unusedSimpArgs false
namespace Go.Proofs.YtljjpdjknnhceaaDoor.HoldKit
open Go.RowKit Go.Proofs.YtljjpdjknnhceaaDoorW.PrintWords Go.Proofs.YtljjpdjknnhceaaDoorW.PrintLast Go.Proofs.YtljjpdjknnhceaaDoorW.PrintMore
open Go.Proofs.YtljjpdjknnhceaaDoor.Base Go.Proofs.YtljjpdjknnhceaaDoor.App Go.Proofs.YtljjpdjknnhceaaDoor.AppR Go.Proofs.YtljjpdjknnhceaaDoor.Clus Go.Proofs.YtljjpdjknnhceaaDoor.Mids Go.Proofs.YtljjpdjknnhceaaDoor.Hold Go.Proofs.YtljjpdjknnhceaaDoor.InsPure Go.Proofs.YtljjpdjknnhceaaDoor.NumR
def SlotsAt (w : World) (A : Option Addr) (l : List (Nat × Nat)) : Prop := l = [] ∨ ∃ b, A = some ⟨b, 0, none⟩ ∧ ∀ i x, l[i]? = some x → w.cell? ⟨b, i * 2, none⟩ = some (.int .i64 ((x.1 : Nat) : Int)) ∧ w.cell? ⟨b, i * 2 + 1, none⟩ = some (.int .i64 ((x.2 : Nat) : Int))
theorem SlotsAt.below {w w1 : World} {A : Option Addr} {l : List (Nat × Nat)} (h : SlotsAt w A l) (hb : Below w.heap.size w w1) : SlotsAt w1 A l := by
  rcases h with h | ⟨b, rfl, h⟩
  · exact .inl h
  · exact .inr ⟨b, rfl, fun i x hi => ⟨cell_below hb (Nat.le_refl _) (h i x hi).1, cell_below hb (Nat.le_refl _) (h i x hi).2⟩⟩
theorem SlotsAt.get {w : World} {A : Option Addr} {l : List (Nat × Nat)} (h : SlotsAt w A l) {k : Nat} {x : Nat × Nat} (hk : l[k]? = some x) : ∃ b, A = some ⟨b, 0, none⟩ ∧ w.cell? ⟨b, k * 2, none⟩ = some (.int .i64 ((x.1 : Nat) : Int)) ∧ w.cell? ⟨b, k * 2 + 1, none⟩ = some (.int .i64 ((x.2 : Nat) : Int)) := by
  rcases h with rfl | ⟨b, rfl, h⟩
  · simp at hk
  · exact ⟨b, rfl, h k x hk⟩
theorem sl_get : ∀ (l : List (Nat × Nat)) (i : Nat) (x : Nat × Nat), l[i]? = some x → (sl l)[i * 2]? = some (.int .i64 ((x.1 : Nat) : Int)) ∧ (sl l)[i * 2 + 1]? = some (.int .i64 ((x.2 : Nat) : Int))
  | [], i, x, h => by simp at h
  | y :: l, 0, x, h => by simp at h; subst h; exact ⟨rfl, rfl⟩
  | y :: l, i + 1, x, h => by
    have := sl_get l i x (by simpa using h)
    rw [show (i + 1) * 2 = i * 2 + 2 by omega, show i * 2 + 2 + 1 = (i * 2 + 1) + 2 by omega]
    exact this
theorem slots_of {w : World} {X n : Nat} {A : Option Addr} {c : Nat} {l : List (Nat × Nat)} (h : w.ownsRow X 143 2 (.slice A n c) n (sl l)) : SlotsAt w A l := by
  rcases h.2 with ⟨h0, h1⟩ | ⟨g, cap, cs, e, _⟩
  · subst h1
    have := h.1
    rw [sl_len] at this
    exact .inl (List.eq_nil_of_length_eq_zero (by omega))
  · injection e with e
    refine .inr ⟨g, e, fun i x hi => ?_⟩
    obtain ⟨p1, p2⟩ := sl_get l i x hi
    have q1 := h.cells (g := g) (by rw [e]; rfl) (i * 2) _ p1
    have q2 := h.cells (g := g) (by rw [e]; rfl) (i * 2 + 1) _ p2
    have ea : ∀ j, (⟨g, 0, none⟩ : Addr).add j = ⟨g, j, none⟩ := fun j => by unfold Addr.add; split <;> simp_all
    rw [ea] at q1 q2
    exact ⟨q1, q2⟩
set_option maxRecDepth 100000 in
set_option maxHeartbeats 4000000 in
theorem sameSlots_yes (A B : Option Addr) (c1 c2 : Nat) (l : List (Nat × Nat)) (w : World) (h1 : SlotsAt w A l) (h2 : SlotsAt w B l) (hl : l.length ≤ 1000000000) :
    Calls Tryd.prog 39 #[.slice A l.length c1, .slice B l.length c2] w fun e w' => e = .returned (.bool true) ∧ ∃ q, w' = w.drewN q := by
  have HA := Aside0.mk h1
  have HB := Aside0.mk h2
  obtain ⟨L, hL⟩ : ∃ L, L = l.length := ⟨_, rfl⟩
  rw [← hL] at hl ⊢
  have HLE := Aside0.mk hL
  clear h1 h2 hL
  go_enter Tryd.func39, Tryd.ntmps39
  go_wp2_with fail
  go_loopw [5] (fun v5 wr => ∃ k : Nat, k ≤ L ∧ v5 = .int .i64 (k : Nat) ∧ Aside0 (∃ q, wr = w.drewN q)) (fun v5 _ => L - (intOf v5).toNat)
  case atStart => exact ⟨0, Nat.zero_le _, rfl, ⟨⟨0, rfl⟩⟩⟩
  case round =>
    obtain ⟨k, hk, rfl, HD⟩ := hrel
    obtain ⟨⟨q0, rfl⟩⟩ := HD
    by_cases h1 : k < L
    · obtain ⟨⟨x, y⟩, hx⟩ : ∃ x, l[k]? = some x := ⟨_, List.getElem?_eq_getElem (by rw [← HLE.out]; exact h1)⟩
      obtain ⟨b, rfl, hcx, hcx2⟩ := HA.out.get hx
      obtain ⟨b2, rfl, hcy, hcy2⟩ := HB.out.get hx
      have hxx : ((x : Int) != (x : Int)) = false := by simp
      have hyy : ((y : Int) != (y : Int)) = false := by simp
      clear hx
      go_wp2_with fail
      go_quiet (fail)
      go_wp2_with fail
      go_roundw
      case rel => exact ⟨k + 1, by omega, by go_num, ⟨⟨_, rfl⟩⟩⟩
      case measure => simp [intOf]; omega
    · go_wp2_with fail
      go_ret
      exact ⟨rfl, _, rfl⟩
/-- a list of words -/
def StrsAt (w : World) (A : Option Addr) (l : List Str) : Prop := l = [] ∨ ∃ b, A = some ⟨b, 0, none⟩ ∧ ∀ i x, l[i]? = some x → w.cell? ⟨b, i, none⟩ = some (.string (strO x))
theorem StrsAt.below {w w1 : World} {A : Option Addr} {l : List Str} (h : StrsAt w A l) (hb : Below w.heap.size w w1) : StrsAt w1 A l := by
  rcases h with h | ⟨b, rfl, h⟩
  · exact .inl h
  · exact .inr ⟨b, rfl, fun i x hi => cell_below hb (Nat.le_refl _) (h i x hi)⟩
theorem StrsAt.get {w : World} {A : Option Addr} {l : List Str} (h : StrsAt w A l) {k : Nat} {x : Str} (hk : l[k]? = some x) : ∃ b, A = some ⟨b, 0, none⟩ ∧ w.cell? ⟨b, k, none⟩ = some (.string (strO x)) := by
  rcases h with rfl | ⟨b, rfl, h⟩
  · simp at hk
  · exact ⟨b, rfl, h k x hk⟩
def encL (l : List Str) : List Value := l.map fun x => .string (strO x)
theorem strs_of {w : World} {X n : Nat} {A : Option Addr} {c : Nat} {l : List Str} (h : w.ownsRow X 9 1 (.slice A n c) n (encL l)) : StrsAt w A l := by
  rcases h.2 with ⟨h0, h1⟩ | ⟨g, cap, cs, e, _⟩
  · subst h1
    have := h.1
    simp [encL] at this
    exact .inl this
  · injection e with e
    refine .inr ⟨g, e, fun i x hi => ?_⟩
    have h1 := h.cells (g := g) (by rw [e]; rfl) i (.string (strO x)) (by simp [encL, hi])
    rwa [show (⟨g, 0, none⟩ : Addr).add i = ⟨g, i, none⟩ by unfold Addr.add; split <;> simp_all] at h1
set_option maxRecDepth 100000 in
set_option maxHeartbeats 4000000 in
theorem sameWords_yes (A B : Option Addr) (c1 c2 : Nat) (l : List Str) (w : World) (h1 : StrsAt w A l) (h2 : StrsAt w B l) (hl : l.length ≤ 1000000000) :
    Calls Tryd.prog 42 #[.slice A l.length c1, .slice B l.length c2] w fun e w' => e = .returned (.bool true) ∧ ∃ q, w' = w.drewN q := by
  have HA := Aside0.mk h1
  have HB := Aside0.mk h2
  obtain ⟨L, hL⟩ : ∃ L, L = l.length := ⟨_, rfl⟩
  rw [← hL] at hl ⊢
  have HLE := Aside0.mk hL
  clear h1 h2 hL
  go_enter Tryd.func42, Tryd.ntmps42
  go_wp2_with fail
  go_loopw [5] (fun v5 wr => ∃ k : Nat, k ≤ L ∧ v5 = .int .i64 (k : Nat) ∧ Aside0 (∃ q, wr = w.drewN q)) (fun v5 _ => L - (intOf v5).toNat)
  case atStart => exact ⟨0, Nat.zero_le _, rfl, ⟨⟨0, rfl⟩⟩⟩
  case round =>
    obtain ⟨k, hk, rfl, HD⟩ := hrel
    obtain ⟨⟨q0, rfl⟩⟩ := HD
    by_cases h1 : k < L
    · obtain ⟨x, hx⟩ : ∃ x, l[k]? = some x := ⟨_, List.getElem?_eq_getElem (by rw [← HLE.out]; exact h1)⟩
      obtain ⟨b, rfl, hcx⟩ := HA.out.get hx
      obtain ⟨b2, rfl, hcy⟩ := HB.out.get hx
      generalize strO x = sx at hcx hcy
      have hxx : (sx.toList != sx.toList) = false := by simp
      clear hx
      go_wp2_with fail
      go_quiet (fail)
      go_wp2_with fail
      go_roundw
      case rel => exact ⟨k + 1, by omega, by go_num, ⟨⟨_, rfl⟩⟩⟩
      case measure => simp [intOf]; omega
    · go_wp2_with fail
      go_ret
      exact ⟨rfl, _, rfl⟩
end Go.Proofs.YtljjpdjknnhceaaDoor.HoldKit
