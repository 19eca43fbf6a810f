/- The law's helpers: same, speaks, drive, sorted. -/
import Derived.Test.YtbheegamibdbhaaOrdKit
set_option linter.unusedVariables false
set_option linter.unusedSimpArgs false
namespace Go.Proofs.Ytbheegamibdbhaa.OrdLaw
open Go.RowKit Go.Proofs.YtbheegamibdbhaaW.PrintWords Go.Proofs.YtbheegamibdbhaaW.PrintLast Go.Proofs.YtbheegamibdbhaaW.PrintMore
open Go.Lib Go.Proofs.Ytbheegamibdbhaa.Base Go.Proofs.Ytbheegamibdbhaa.App Go.Proofs.Ytbheegamibdbhaa.AppG Go.Proofs.Ytbheegamibdbhaa.MapK Go.Proofs.Ytbheegamibdbhaa.Det Go.Proofs.Ytbheegamibdbhaa.Bans Go.Proofs.Ytbheegamibdbhaa.Made Go.Proofs.Ytbheegamibdbhaa.Drive Go.Proofs.Ytbheegamibdbhaa.SymMerge Go.Proofs.Ytbheegamibdbhaa.StabUse Go.Proofs.Ytbheegamibdbhaa.OrdLess Go.Proofs.Ytbheegamibdbhaa.Order Go.Proofs.Ytbheegamibdbhaa.OrdKit
set_option maxRecDepth 100000 in
set_option maxHeartbeats 4000000 in
theorem same_yes (A B : Option Addr) (c1 c2 : Nat) (l : List Int) (w : World) (h1 : NumsAt w A l) (h2 : NumsAt w B l) (hl : l.length ≤ 1000000000) :
    Calls Try.prog 23 #[.slice A l.length c1, .slice B l.length c2] w fun e w' => e = .returned (.bool true) ∧ ∃ q, w' = w.drewN q := by
  have HA := Aside0.mk h1
  have HB := Aside0.mk h2
  obtain ⟨L, hL⟩ : ∃ L, L = l.length := ⟨_, rfl⟩
  rw [← hL] at hl ⊢
  have HLE := Aside0.mk hL
  clear h1 h2 hL
  go_enter Try.func23, Try.ntmps23
  go_wp2_with fail
  go_loopw [5] (fun v5 wr => ∃ k : Nat, k ≤ L ∧ v5 = .int .i64 (k : Nat) ∧ Aside0 (∃ q, wr = w.drewN q)) (fun v5 _ => L - (intOf v5).toNat)
  case atStart => exact ⟨0, Nat.zero_le _, rfl, ⟨⟨0, rfl⟩⟩⟩
  case round =>
    obtain ⟨k, hk, rfl, HD⟩ := hrel
    obtain ⟨⟨q0, rfl⟩⟩ := HD
    by_cases h1 : k < L
    · obtain ⟨x, hx⟩ : ∃ x, l[k]? = some x := ⟨_, List.getElem?_eq_getElem (by rw [← HLE.out]; exact h1)⟩
      obtain ⟨b, o, rfl, hcx⟩ := HA.out.get hx
      obtain ⟨b2, o2, rfl, hcy⟩ := HB.out.get hx
      have hxx : (x != x) = false := by simp
      clear hx
      go_wp2_with fail
      go_quiet (fail)
      go_wp2_with fail
      go_roundw
      case rel => exact ⟨k + 1, by omega, by go_num, ⟨⟨_, rfl⟩⟩⟩
      case measure => simp [intOf]; omega
    · go_wp2_with fail
      go_ret
      exact ⟨rfl, _, rfl⟩
theorem rk_zero {u : Int → Option Int} {now k : Int} (h0 : 0 ≤ now) : (decide (rk u now k = 0) : Bool) = !decide (now < (u k).getD 0) := by
  unfold rk
  by_cases e : now < (u k).getD 0
  · rw [if_pos e, decide_eq_true e, decide_eq_false (by omega)]; rfl
  · rw [if_neg e, decide_eq_false e]; rfl
theorem speaks_any {nd st bn now : Int} {w : World} {B b1 b2 n : Nat} {r u : Int → Option Int} (h : Det w B nd st bn now b1 b2 n r u) (k : Int) (hk : 0 ≤ k ∧ k < nd) :
    Calls Try.prog 12 #[.pointer (some ⟨B, 0, none⟩), .int .i64 k] w fun e w' => e = .returned (.bool (decide (rk u now k = 0))) ∧ Below w.heap.size w w' := by
  rw [rk_zero h.now0]
  have hc := Go.Proofs.Ytbheegamibdbhaa.Det.silent_any _ _ _ _ _ _ _ _ _ _ _ k h hk
  generalize decide (now < (u k).getD 0) = b at hc ⊢
  have HC := Aside0.mk hc
  clear hc h
  cases b
  · go_enter Try.func12, Try.ntmps12
    go_wp2_with fail
    refine HC.out.mono ?_
    rintro e w' ⟨rfl, hd⟩
    have HB := Aside0.mk hd.below
    clear hd
    go_wp2_with (go_at_call 11; refine (num_any _ _).mono ?_; rintro e w' ⟨rfl, rfl⟩)
    go_ret
    exact ⟨rfl, HB.out⟩
  · go_enter Try.func12, Try.ntmps12
    go_wp2_with fail
    refine HC.out.mono ?_
    rintro e w' ⟨rfl, hd⟩
    have HB := Aside0.mk hd.below
    clear hd
    go_wp2_with fail
    go_ret
    exact ⟨rfl, HB.out⟩
/-- a detector, whatever it has seen -/
def Any (w : World) (B b1 b2 n : Nat) (nd st bn lim : Int) : Prop := ∃ now r u, Det w B nd st bn now b1 b2 n r u ∧ now ≤ lim
theorem Any.kept {S : Nat → Prop} {w w1 : World} {B b1 b2 n : Nat} {nd st bn lim : Int} (h : Any w B b1 b2 n nd st bn lim) (k : Kept S w w1) (hS : ¬ S B ∧ ¬ S b1 ∧ ¬ S b2) : Any w1 B b1 b2 n nd st bn lim := by
  obtain ⟨now, r, u, hd, hl⟩ := h; exact ⟨now, r, u, hd.kept k hS, hl⟩
theorem Any.after {w w1 : World} {B b1 b2 n : Nat} {nd st bn lim : Int} (h : Any w B b1 b2 n nd st bn lim) (hb : Below w.heap.size w w1) : Any w1 B b1 b2 n nd st bn lim := by
  obtain ⟨now, r, u, hd, hl⟩ := h; exact ⟨now, r, u, hd.after hb, hl⟩
theorem Any.own {w : World} {B b1 b2 n : Nat} {nd st bn lim : Int} (h : Any w B b1 b2 n nd st bn lim) : B < w.heap.size ∧ b1 < w.heap.size ∧ b2 < w.heap.size := by
  obtain ⟨now, r, u, hd, hl⟩ := h; exact ⟨hd.row.lt, hd.m1.lt, hd.m2.lt⟩
theorem Any.more {w : World} {B b1 b2 n m : Nat} {nd st bn lim lim' : Int} (h : Any w B b1 b2 n nd st bn lim) (hn : n ≤ m) (hl : lim ≤ lim') : Any w B b1 b2 m nd st bn lim' := by
  obtain ⟨now, r, u, hd, hl2⟩ := h; exact ⟨now, r, u, hd.mono hn, by omega⟩
theorem any_good {w : World} {B b1 b2 n : Nat} {nd st bn lim : Int} (k : Int) (h : Any w B b1 b2 n nd st bn lim) :
    Calls Try.prog 16 #[.pointer (some ⟨B, 0, none⟩), .int .i64 k] w fun e w' => (∃ v, e = .returned (.int .i64 v)) ∧ Any w' B b1 b2 n nd st bn lim ∧ Kept (Own B b1 b2) w w' := by
  obtain ⟨now, r, u, hd, hl⟩ := h
  by_cases hk : 0 ≤ k ∧ k < nd
  · exact (Go.Proofs.Ytbheegamibdbhaa.Det.good_any _ _ _ _ _ _ _ _ _ _ _ k hd hk).mono fun e w' ⟨he, h1, h2⟩ => ⟨⟨_, he⟩, ⟨_, _, _, h1, hl⟩, h2⟩
  · exact (Go.Proofs.Ytbheegamibdbhaa.Det.good_bad _ _ _ _ _ _ _ _ _ _ _ k hd hk).mono fun e w' ⟨he, h1⟩ => ⟨⟨_, he⟩, ⟨_, _, _, h1 ▸ hd, hl⟩, h1 ▸ Kept.refl _ _⟩
theorem any_bad {w : World} {B b1 b2 n : Nat} {nd st bn lim : Int} (k : Int) (h : Any w B b1 b2 n nd st bn lim) (hn : n < 900000) (hlim : lim ≤ 4611686018427387904) :
    Calls Try.prog 13 #[.pointer (some ⟨B, 0, none⟩), .int .i64 k] w fun e w' => (∃ v, e = .returned (.int .i64 v)) ∧ Any w' B b1 b2 (n + 1) nd st bn lim ∧ Kept (Own B b1 b2) w w' := by
  obtain ⟨now, r, u, hd, hl⟩ := h
  by_cases hk : 0 ≤ k ∧ k < nd
  · exact (Go.Proofs.Ytbheegamibdbhaa.Det.bad_any _ _ _ _ _ _ _ _ _ _ _ k hd hk hn (by omega)).mono fun e w' ⟨he, h1, h2⟩ => ⟨⟨_, he⟩, ⟨_, _, _, h1, hl⟩, h2⟩
  · exact (Go.Proofs.Ytbheegamibdbhaa.Det.bad_bad _ _ _ _ _ _ _ _ _ _ _ k hd hk).mono fun e w' ⟨he, h1⟩ => ⟨⟨_, he⟩, ⟨_, _, _, h1 ▸ hd.mono (Nat.le_succ _), hl⟩, h1 ▸ Kept.refl _ _⟩
theorem any_tick {w : World} {B b1 b2 n : Nat} {nd st bn lim : Int} (h : Any w B b1 b2 n nd st bn lim) (hlim : lim ≤ 4611686018427387904) :
    Calls Try.prog 15 #[.pointer (some ⟨B, 0, none⟩)] w fun e w' => e = .returned (.int .i64 0) ∧ Any w' B b1 b2 n nd st bn (lim + 1) ∧ Kept (Own B b1 b2) w w' := by
  obtain ⟨now, r, u, hd, hl⟩ := h
  exact (Go.Proofs.Ytbheegamibdbhaa.Det.tick_any _ _ _ _ _ _ _ _ _ _ _ hd (by omega)).mono fun e w' ⟨he, h1, h2⟩ => ⟨he, ⟨_, _, _, h1, by omega⟩, h2⟩
set_option maxRecDepth 100000 in
set_option maxHeartbeats 4000000 in
theorem drive_any {w : World} {B b1 b2 n : Nat} {nd st bn lim : Int} (kind node : Int) (v : Value) (h : Any w B b1 b2 n nd st bn lim) (hn : n < 900000) (h0 : 0 ≤ lim) (hlim : lim ≤ 4611686018427380000) :
    Calls Try.prog 18 #[.pointer (some ⟨B, 0, none⟩), .agg (stepL kind node v).toArray] w fun e w' => e = .returned (.tuple #[]) ∧ Any w' B b1 b2 (n + 1) nd st bn (lim + 1100) ∧ Kept (Own B b1 b2) w w' := by
  have hnew : TBox (w.alloc (.cells (stepL kind node v).toArray 40)) w.heap.size kind node v := ⟨Go.heap_alloc_new w _, by simp⟩
  have hb := (Below.refl w.heap.size w).alloc (Nat.le_refl _) (.cells (stepL kind node v).toArray 40)
  have hown := h.own
  have HNS : Aside0 (¬ Own B b1 b2 w.heap.size) := ⟨by unfold Own; omega⟩
  have HT := Aside0.mk hnew
  have HA := Aside0.mk (h.after hb)
  have HK : Aside0 (Kept (Own B b1 b2) w (w.alloc (.cells (stepL kind node v).toArray 40))) := ⟨Kept.of_below hb⟩
  clear hnew hb hown h
  have hc0 := HT.out.c0
  have hc1 := HT.out.c1
  go_enter Try.func18, Try.ntmps18
  by_cases e1 : kind = 1
  · subst e1
    go_wp2_with fail
    refine (any_good node HA.out).mono ?_
    rintro e w' ⟨⟨v1, rfl⟩, hA, hK⟩
    have HA2 := Aside0.mk (hA.more (Nat.le_succ n) (show lim ≤ lim + 1100 by omega))
    have HK2 := Aside0.mk (HK.out.trans hK)
    clear hA hK
    go_wp2
    go_end0
    exact ⟨rfl, HA2.out, HK2.out⟩
  · have q1 : (kind == 1) = false := beq_eq_false_iff_ne.2 e1
    by_cases e2 : kind = 2
    · subst e2
      go_wp2_with fail
      refine (any_bad node HA.out hn (by omega)).mono ?_
      rintro e w' ⟨⟨v1, rfl⟩, hA, hK⟩
      have HA2 := Aside0.mk (hA.more (Nat.le_refl _) (show lim ≤ lim + 1100 by omega))
      have HK2 := Aside0.mk (HK.out.trans hK)
      clear hA hK
      go_wp2
      go_end0
      exact ⟨rfl, HA2.out, HK2.out⟩
    · have q2 : (kind == 2) = false := beq_eq_false_iff_ne.2 e2
      by_cases e3 : kind = 3
      · subst e3
        have HA0 : Aside0 (Any (w.alloc (.cells (stepL 3 node v).toArray 40)) B b1 b2 n nd st bn (lim + ((0 : Nat) : Int))) := ⟨HA.out.more (Nat.le_refl _) (by omega)⟩
        go_wp2
        go_loopw [4] (fun iv wr => ∃ j : Nat, j ≤ 1100 ∧ iv = .int .i64 (j : Int) ∧ Aside0 (Any wr B b1 b2 n nd st bn (lim + (j : Int))) ∧ Aside0 (Kept (Own B b1 b2) w wr) ∧ Aside0 (TBox wr w.heap.size 3 node v)) (fun iv _ => 1101 - (intOf iv).toNat)
        case atStart => exact ⟨0, by omega, rfl, HA0, HK, HT⟩
        case round =>
          clear HA HA0 HK HT hc0 hc1
          obtain ⟨j, hj, rfl, HA, HK, HT⟩ := hrel
          obtain ⟨wo, rfl⟩ : ∃ wo : World, wo = wr := ⟨_, rfl⟩
          have hc1 := HT.out.c1
          have HFIN := Aside0.mk (HA.out.more (Nat.le_succ n) (show lim + (j : Int) ≤ lim + 1100 by omega))
          by_cases j1 : (j : Int) < node
          · by_cases j2 : (j : Int) < 1100
            · go_wp2_with fail
              refine (any_tick HA.out (by omega)).mono ?_
              rintro e w3 ⟨rfl, hA, hK⟩
              have HA3 : Aside0 (Any w3 B b1 b2 n nd st bn (lim + ((j + 1 : Nat) : Int))) := ⟨hA.more (Nat.le_refl _) (by omega)⟩
              have HK3 := Aside0.mk (HK.out.trans hK)
              have HT3 := Aside0.mk (HT.out.kept hK HNS.out)
              clear hA hK hc1
              go_wp2
              go_roundw
              case rel => exact ⟨j + 1, by omega, by go_num, HA3, HK3, HT3⟩
              case measure => simp [intOf]; omega
            · go_wp2
              go_end0
              exact ⟨rfl, HFIN.out, HK.out⟩
          · go_wp2
            go_end0
            exact ⟨rfl, HFIN.out, HK.out⟩
      · have q3 : (kind == 3) = false := beq_eq_false_iff_ne.2 e3
        go_wp2
        go_end0
        exact ⟨rfl, HA.out.more (Nat.le_succ n) (by omega), HK.out⟩
end Go.Proofs.Ytbheegamibdbhaa.OrdLaw
