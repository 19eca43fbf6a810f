/- The law's helpers over lists: copied, same, count; drive, told at the whole detector. -/
import Derived.Test.YtbheegamibdbhaaOrder
import Derived.Test.YtbheegamibdbhaaApart
set_option linter.unusedVariables false
set_option linter.unusedSimpArgs false
namespace Go.Proofs.Ytbheegamibdbhaa.OrdKit
open Go.RowKit Go.Proofs.YtbheegamibdbhaaW.PrintWords Go.Proofs.YtbheegamibdbhaaW.PrintLast Go.Proofs.YtbheegamibdbhaaW.PrintMore
open Go.Lib Go.Proofs.Ytbheegamibdbhaa.Base Go.Proofs.Ytbheegamibdbhaa.App Go.Proofs.Ytbheegamibdbhaa.AppG Go.Proofs.Ytbheegamibdbhaa.MapK Go.Proofs.Ytbheegamibdbhaa.Det Go.Proofs.Ytbheegamibdbhaa.Bans Go.Proofs.Ytbheegamibdbhaa.Made Go.Proofs.Ytbheegamibdbhaa.Drive Go.Proofs.Ytbheegamibdbhaa.OrdLess Go.Proofs.Ytbheegamibdbhaa.Order
/-- a row of the call's own is a list -/
theorem nums_of {w : World} {X n : Nat} {A : Option Addr} {c : Nat} {l : List Int} (h : w.ownsRow X 3 1 (.slice A n c) n (nums .i64 l)) : NumsAt w A l := by
  rcases h.2 with ⟨h0, h1⟩ | ⟨g, cap, cs, e, _⟩
  · subst h1
    have := h.1
    simp [nums] at this
    exact .inl this
  · injection e with e
    refine .inr ⟨g, 0, e, fun i x hi => ?_⟩
    have h1 := h.cells (g := g) (by rw [e]; rfl) i (.int .i64 x) (by simp [nums, hi])
    rw [Nat.zero_add]
    rwa [show (⟨g, 0, none⟩ : Addr).add i = ⟨g, i, none⟩ by unfold Addr.add; split <;> simp_all] at h1
set_option maxRecDepth 100000 in
set_option maxHeartbeats 4000000 in
theorem copied_any (A : Option Addr) (l : List Int) (cap : Nat) (w : World) (hN : NumsAt w A l) (hl : l.length ≤ 1000000000) :
    Calls Try.prog 22 #[.slice A l.length cap] w fun e w' => Below w.heap.size w w' ∧ ∃ v, e = .returned v ∧ w'.ownsRow w.heap.size 3 1 v (l.take 200).length (nums .i64 (l.take 200)) := by
  have HN := Aside0.mk hN
  obtain ⟨L, hL⟩ : ∃ L, L = l.length := ⟨_, rfl⟩
  rw [← hL] at hl ⊢
  have HLE := Aside0.mk hL
  clear hN hL
  go_enter Try.func22, Try.ntmps22
  go_wp2_with fail
  go_loopw [3, 4] (fun v3 v4 wr => ∃ k : Nat, k ≤ L ∧ k ≤ 200 ∧ v4 = .int .i64 (k : Nat) ∧ Aside0 (Below w.heap.size w wr) ∧ Aside0 (wr.ownsRow w.heap.size 3 1 v3 k (nums .i64 (l.take k)))) (fun _ v4 _ => L - (intOf v4).toNat)
  case atStart => exact ⟨0, Nat.zero_le _, Nat.zero_le _, rfl, ⟨Below.refl _ _⟩, ⟨World.ownsRow_nil _ _ _ _⟩⟩
  case round =>
    obtain ⟨k, hk, hk2, rfl, HB, HO⟩ := hrel
    obtain ⟨wo, rfl⟩ : ∃ wo : World, wo = wr := ⟨_, rfl⟩
    have hend : ¬ (k < L ∧ k < 200) → (l.take 200) = l.take k := fun h => by
      by_cases e : k < L
      · rw [show k = 200 by omega]
      · rw [List.take_of_length_le (show l.length ≤ k by rw [← HLE.out]; omega), List.take_of_length_le (by rw [← HLE.out]; omega)]
    have HEND := Aside0.mk hend
    have hkl : (l.take k).length = k := by rw [List.length_take]; rw [← HLE.out]; omega
    have HKL := Aside0.mk hkl
    clear hend hkl
    by_cases h1 : k < L
    · by_cases h2 : k < 200
      · obtain ⟨x, hx⟩ : ∃ x, l[k]? = some x := ⟨_, List.getElem?_eq_getElem (by rw [← HLE.out]; exact h1)⟩
        obtain ⟨b, o, rfl, hcx⟩ := (HN.out.below HB.out).get hx
        have HTK : Aside0 (nums .i64 (l.take (k + 1)) = nums .i64 (l.take k) ++ [.int .i64 x]) := ⟨by rw [List.take_add_one, hx]; simp [nums]⟩
        obtain ⟨oA, oc, rfl, hoc⟩ := own_form HO.out
        have hsz := HB.out.size
        clear hx
        go_wp2_with ((with_reducible refine gate_call (args := #[.tmp 15, .tmp 20]) rfl ?_); refine Hid.out ?_)
        refine Lib.hid ?_
        refine list_append_any (P := Try.prog) rfl w.heap.size (.tmp 15) (.tmp 20) 38 3 _ 1 8 rfl Try.underlying38 infoI rfl (by decide) (by decide) (.slice oA k oc) k (nums .i64 (l.take k)) (some ⟨wo.heap.size, 0, none⟩) 1 1 [.int .i64 x] ?hs ?hx rfl (by simp [Value.oneCell']) (.inr ⟨_, rfl, fun j u hj => by have := news wo [.int .i64 x] 3 j u hj; rwa [show (⟨wo.heap.size, 0, none⟩ : Addr).add j = ⟨wo.heap.size, j, none⟩ by unfold Addr.add; split <;> simp_all]⟩) (HO.out.alloc _) (by simp; omega) (by omega) (k + 1) rfl ?_
        case hs => rfl
        case hx => rfl
        intro A5 c5 w5 hle5 hown5 hg5
        have HO5 : Aside0 (w5.ownsRow w.heap.size 3 1 (.slice A5 (k + 1) c5) (k + 1) (nums .i64 (l.take (k + 1)))) := ⟨by rw [HTK.out]; exact hown5⟩
        have HB5 : Aside0 (Below w.heap.size w w5) := ⟨(HB.out.alloc HB.out.size _).grown hg5 (by simp; omega) (own_base HO.out)⟩
        clear hown5 hg5
        go_wp2_with fail
        go_roundw
        case rel => exact ⟨k + 1, by omega, by omega, by go_num, HB5, HO5⟩
        case measure => simp [intOf]; omega
      · have he := HEND.out (fun h => h2 h.2)
        have HO6 : Aside0 (wo.ownsRow w.heap.size 3 1 u3 (l.take 200).length (nums .i64 (l.take 200))) := ⟨by rw [he, HKL.out]; exact HO.out⟩
        clear he
        go_wp2_with fail
        go_ret
        exact ⟨HB.out, _, rfl, HO6.out⟩
    · have he := HEND.out (fun h => h1 h.1)
      have HO6 : Aside0 (wo.ownsRow w.heap.size 3 1 u3 (l.take 200).length (nums .i64 (l.take 200))) := ⟨by rw [he, HKL.out]; exact HO.out⟩
      clear he
      go_wp2_with fail
      go_ret
      exact ⟨HB.out, _, rfl, HO6.out⟩
set_option maxRecDepth 100000 in
set_option maxHeartbeats 4000000 in
theorem count_any (A : Option Addr) (l : List Int) (cap : Nat) (x : Int) (w : World) (hN : NumsAt w A l) (hl : l.length ≤ 1000000000) :
    Calls Try.prog 39 #[.slice A l.length cap, .int .i64 x] w fun e w' => e = .returned (.int .i64 ((l.count x : Nat) : Int)) ∧ w' = w := by
  have HN := Aside0.mk hN
  obtain ⟨L, hL⟩ : ∃ L, L = l.length := ⟨_, rfl⟩
  rw [← hL] at hl ⊢
  have HLE := Aside0.mk hL
  clear hN hL
  go_enter Try.func39, Try.ntmps39
  go_wp2_with fail
  go_loop [5, 6] (fun v5 v6 => ∃ k : Nat, k ≤ L ∧ v6 = .int .i64 (k : Nat) ∧ v5 = .int .i64 (((l.take k).count x : Nat) : Int)) (fun _ v6 => L - (intOf v6).toNat)
  case atStart => exact ⟨0, Nat.zero_le _, rfl, rfl⟩
  case round =>
    obtain ⟨k, hk, rfl, rfl⟩ := hrel
    by_cases h1 : k < L
    · obtain ⟨y, hy⟩ : ∃ y, l[k]? = some y := ⟨_, List.getElem?_eq_getElem (by rw [← HLE.out]; exact h1)⟩
      obtain ⟨b, o, rfl, hcx⟩ := HN.out.get hy
      have hcl : (l.take k).count x ≤ k := Nat.le_trans List.count_le_length (List.length_take_le _ _)
      have hcn : (l.take (k + 1)).count x = (l.take k).count x + if y = x then 1 else 0 := by
        rw [List.take_add_one, hy, List.count_append]
        simp [List.count_cons, List.count_nil]
      have HCN := Aside0.mk hcn
      generalize (l.take k).count x = n at hcl HCN
      clear hcn hy
      by_cases e : y = x
      · have hq : (y == x) = true := by rw [e]; simp
        have HC2 : Aside0 ((l.take (k + 1)).count x = n + 1) := ⟨by rw [HCN.out, if_pos e]⟩
        clear e HCN
        go_wp2_with fail
        go_round
        case rel => exact ⟨k + 1, by omega, by go_num, by rw [HC2.out]; go_num⟩
        case measure => simp [intOf]; omega
      · have hq : (y == x) = false := by simpa using e
        have HC2 : Aside0 ((l.take (k + 1)).count x = n) := ⟨by rw [HCN.out, if_neg e]; rfl⟩
        clear e HCN
        go_wp2_with fail
        go_round
        case rel => exact ⟨k + 1, by omega, by go_num, by rw [HC2.out]⟩
        case measure => simp [intOf]; omega
    · have he : l.take k = l := List.take_of_length_le (by rw [← HLE.out]; omega)
      rw [he]
      clear he
      go_wp2_with fail
      go_ret
      exact ⟨rfl, rfl⟩
end Go.Proofs.Ytbheegamibdbhaa.OrdKit
