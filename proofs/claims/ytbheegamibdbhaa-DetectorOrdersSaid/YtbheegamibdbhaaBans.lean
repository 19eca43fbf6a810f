/- DetectorBans: a node is silent behind just so many failures, for just so many ticks. -/
import Derived.Test.YtbheegamibdbhaaDet
set_option linter.unusedVariables false
set_option linter.unusedSimpArgs false
namespace Go.Proofs.Ytbheegamibdbhaa.Bans
open Go.RowKit Go.Proofs.YtbheegamibdbhaaW.PrintWords Go.Proofs.YtbheegamibdbhaaW.PrintLast Go.Proofs.YtbheegamibdbhaaW.PrintMore
open Go.Proofs.Ytbheegamibdbhaa.Base Go.Proofs.Ytbheegamibdbhaa.MapK Go.Proofs.Ytbheegamibdbhaa.Det
theorem num_any (n : Int) (w : World) : Calls Try.prog 11 #[.int .i64 n] w fun e w' => e = .returned (.int .i64 n) ∧ w = w' := by
  go_enter Try.func11, Try.ntmps11
  go_wp2
  go_ret
  exact ⟨rfl, rfl⟩
def upV (nd st bn : Int) : Array Value := #[.int .i64 nd, .int .i64 st, .int .i64 bn]
theorem fits_yes (nd st bn : Int) (w : World) (h : Fits nd st bn) : Calls Try.prog 10 #[.agg (upV nd st bn)] w fun e w' => e = .returned (.bool true) ∧ Below w.heap.size w w' := by
  have hn := Go.heap_alloc_new w (.cells (upV nd st bn) 23)
  have h0 : (w.alloc (.cells (upV nd st bn) 23)).cell? ⟨w.heap.size, 0, none⟩ = some (.int .i64 nd) := cell_of_row _ _ _ _ _ _ hn
  have h1 : (w.alloc (.cells (upV nd st bn) 23)).cell? ⟨w.heap.size, 1, none⟩ = some (.int .i64 st) := cell_of_row _ _ _ _ _ _ hn
  have h2 : (w.alloc (.cells (upV nd st bn) 23)).cell? ⟨w.heap.size, 2, none⟩ = some (.int .i64 bn) := cell_of_row _ _ _ _ _ _ hn
  have HB := Aside0.mk ((Below.refl w.heap.size w).alloc (Nat.le_refl _) (.cells (upV nd st bn) 23))
  clear hn
  obtain ⟨a0, a1, a2, a3, a4, a5⟩ := h
  go_enter Try.func10, Try.ntmps10
  go_wp2
  go_ret
  exact ⟨rfl, HB.out⟩
theorem fits_no (nd st bn : Int) (w : World) (h : ¬ Fits nd st bn) : Calls Try.prog 10 #[.agg (upV nd st bn)] w fun e w' => e = .returned (.bool false) ∧ Below w.heap.size w w' := by
  have hn := Go.heap_alloc_new w (.cells (upV nd st bn) 23)
  have h0 : (w.alloc (.cells (upV nd st bn) 23)).cell? ⟨w.heap.size, 0, none⟩ = some (.int .i64 nd) := cell_of_row _ _ _ _ _ _ hn
  have h1 : (w.alloc (.cells (upV nd st bn) 23)).cell? ⟨w.heap.size, 1, none⟩ = some (.int .i64 st) := cell_of_row _ _ _ _ _ _ hn
  have h2 : (w.alloc (.cells (upV nd st bn) 23)).cell? ⟨w.heap.size, 2, none⟩ = some (.int .i64 bn) := cell_of_row _ _ _ _ _ _ hn
  have HB := Aside0.mk ((Below.refl w.heap.size w).alloc (Nat.le_refl _) (.cells (upV nd st bn) 23))
  clear hn
  have h' : nd < 1 ∨ 16 < nd ∨ st < 1 ∨ 64 < st ∨ bn < 1 ∨ 1024 < bn := by unfold Fits at h; omega
  have HH := Aside0.mk h'
  clear h h'
  go_enter Try.func10, Try.ntmps10
  by_cases a0 : 1 ≤ nd
  case neg => go_wp2; go_ret; exact ⟨rfl, HB.out⟩
  by_cases a1 : nd ≤ 16
  case neg => go_wp2; go_ret; exact ⟨rfl, HB.out⟩
  by_cases a2 : 1 ≤ st
  case neg => go_wp2; go_ret; exact ⟨rfl, HB.out⟩
  by_cases a3 : st ≤ 64
  case neg => go_wp2; go_ret; exact ⟨rfl, HB.out⟩
  by_cases a4 : 1 ≤ bn
  case neg => go_wp2; go_ret; exact ⟨rfl, HB.out⟩
  have a5 : ¬ bn ≤ 1024 := by have := HH.out; omega
  go_wp2
  go_ret
  exact ⟨rfl, HB.out⟩
section
variable (B : Nat) (nd st bn now : Int) (b1 b2 n : Nat) (r u : Int → Option Int) (w : World)
theorem speaks_any (k : Int) (h : Det w B nd st bn now b1 b2 n r u) (hk : 0 ≤ k ∧ k < nd) : Calls Try.prog 12 #[.pointer (some ⟨B, 0, none⟩), .int .i64 k] w fun e w' => e = .returned (.bool !(decide (now < (u k).getD 0))) ∧ Drawn0 w w' := by
  have hs := silent_any B nd st bn now b1 b2 n r u w k h hk
  generalize decide (now < (u k).getD 0) = bb at hs ⊢
  have HS := Aside0.mk hs
  clear h hs
  go_enter Try.func12, Try.ntmps12
  go_wp2_with fail
  refine HS.out.mono ?_
  rintro e w' ⟨rfl, hd⟩
  cases bb
  · go_wp2_with (go_at_call 11; refine (num_any _ _).mono ?_; rintro e w' ⟨rfl, rfl⟩)
    go_ret
    exact ⟨rfl, hd⟩
  · go_wp2_with (go_at_call 11; refine (num_any _ _).mono ?_; rintro e w' ⟨rfl, rfl⟩)
    go_ret
    exact ⟨rfl, hd⟩
theorem silentL_any (k : Int) (h : Det w B nd st bn now b1 b2 n r u) (hk : 0 ≤ k ∧ k < nd) : Calls Try.prog 14 #[.pointer (some ⟨B, 0, none⟩), .int .i64 k] w fun e w' => e = .returned (.bool (decide (now < (u k).getD 0))) ∧ Drawn0 w w' := by
  have hs := silent_any B nd st bn now b1 b2 n r u w k h hk
  generalize decide (now < (u k).getD 0) = bb at hs ⊢
  have HS := Aside0.mk hs
  clear h hs
  go_enter Try.func14, Try.ntmps14
  go_wp2_with fail
  refine HS.out.mono ?_
  rintro e w' ⟨rfl, hd⟩
  cases bb
  · go_wp2_with (go_at_call 11; refine (num_any _ _).mono ?_; rintro e w' ⟨rfl, rfl⟩)
    go_ret
    exact ⟨rfl, hd⟩
  · go_wp2_with (go_at_call 11; refine (num_any _ _).mono ?_; rintro e w' ⟨rfl, rfl⟩)
    go_ret
    exact ⟨rfl, hd⟩
end
/-- the setup's own block -/
structure SBox (w : World) (b : Nat) (nd st bn : Int) : Prop where mk ::
  (row : w.heap[b]? = some (.cells (upV nd st bn) 23 (0, 0))) (lt : b < w.heap.size)
theorem SBox.kept {S : Nat → Prop} {w w1 : World} {b : Nat} {nd st bn : Int} (h : SBox w b nd st bn) (k : Kept S w w1) (hS : ¬ S b) : SBox w1 b nd st bn := ⟨(k.block _ h.lt hS).trans h.row, Nat.lt_of_lt_of_le h.lt k.size⟩
theorem SBox.after {w w1 : World} {b : Nat} {nd st bn : Int} (h : SBox w b nd st bn) (k : Below w.heap.size w w1) : SBox w1 b nd st bn := h.kept (S := fun _ => False) (Kept.of_below k) id
theorem SBox.c0 {w : World} {b : Nat} {nd st bn : Int} (h : SBox w b nd st bn) : w.cell? ⟨b, 0, none⟩ = some (.int .i64 nd) := cell_of_row _ _ _ _ _ _ h.row
theorem SBox.c1 {w : World} {b : Nat} {nd st bn : Int} (h : SBox w b nd st bn) : w.cell? ⟨b, 1, none⟩ = some (.int .i64 st) := cell_of_row _ _ _ _ _ _ h.row
theorem SBox.c2 {w : World} {b : Nat} {nd st bn : Int} (h : SBox w b nd st bn) : w.cell? ⟨b, 2, none⟩ = some (.int .i64 bn) := cell_of_row _ _ _ _ _ _ h.row
def upL (nd st bn : Int) : List Value := [.int .i64 nd, .int .i64 st, .int .i64 bn]
theorem SBox.range {w : World} {b : Nat} {nd st bn : Int} (h : SBox w b nd st bn) : w.rangeAt b 0 (upL nd st bn) := by
  intro j v hv
  rw [Nat.zero_add, cell_of_row _ _ _ _ _ _ h.row]
  simpa [upV, upL] using hv
/-- the detector of the law, told at one node: c strikes, the ban's end x -/
def At (w : World) (B : Nat) (nd st bn now : Int) (b1 b2 n : Nat) (k c x : Int) : Prop := ∃ r u, Det w B nd st bn now b1 b2 n r u ∧ (r k).getD 0 = c ∧ (u k).getD 0 = x
section
variable {B : Nat} {nd st bn now : Int} {b1 b2 n : Nat} {w : World} {k c x : Int}
theorem At.after {w1 : World} (h : At w B nd st bn now b1 b2 n k c x) (hb : Below w.heap.size w w1) : At w1 B nd st bn now b1 b2 n k c x := by
  obtain ⟨r, u, hd, h1, h2⟩ := h
  exact ⟨r, u, hd.after hb, h1, h2⟩
theorem at_speaks (h : At w B nd st bn now b1 b2 n k c x) (hk : 0 ≤ k ∧ k < nd) (hx : x ≤ now) : Calls Try.prog 12 #[.pointer (some ⟨B, 0, none⟩), .int .i64 k] w fun e w' => e = .returned (.bool true) ∧ At w' B nd st bn now b1 b2 n k c x ∧ Kept (Own B b1 b2) w w' := by
  have h0 := h
  obtain ⟨r, u, hd, h1, h2⟩ := h
  refine (speaks_any B nd st bn now b1 b2 n r u w k hd hk).mono ?_
  rintro e w' ⟨rfl, hdr⟩
  rw [h2, decide_eq_false (by omega)]
  exact ⟨rfl, h0.after hdr.below, Kept.of_below hdr.below⟩
theorem at_silent (h : At w B nd st bn now b1 b2 n k c x) (hk : 0 ≤ k ∧ k < nd) (hx : now < x) : Calls Try.prog 14 #[.pointer (some ⟨B, 0, none⟩), .int .i64 k] w fun e w' => e = .returned (.bool true) ∧ At w' B nd st bn now b1 b2 n k c x ∧ Kept (Own B b1 b2) w w' := by
  have h0 := h
  obtain ⟨r, u, hd, h1, h2⟩ := h
  refine (silentL_any B nd st bn now b1 b2 n r u w k hd hk).mono ?_
  rintro e w' ⟨rfl, hdr⟩
  rw [h2, decide_eq_true hx]
  exact ⟨rfl, h0.after hdr.below, Kept.of_below hdr.below⟩
theorem at_bad (h : At w B nd st bn now b1 b2 n k c x) (hk : 0 ≤ k ∧ k < nd) (hn : n < 900000) (hnow : now ≤ 4611686018427387904) : Calls Try.prog 13 #[.pointer (some ⟨B, 0, none⟩), .int .i64 k] w fun e w' => e = .returned (.int .i64 0) ∧ At w' B nd st bn now b1 b2 (n + 1) k (c + 1) (if st ≤ c + 1 then now + bn else x) ∧ Kept (Own B b1 b2) w w' := by
  obtain ⟨r, u, hd, h1, h2⟩ := h
  refine (bad_any B nd st bn now b1 b2 n r u w k hd hk hn hnow).mono ?_
  rintro e w' ⟨rfl, hD, hK⟩
  refine ⟨rfl, ⟨_, _, hD, ?_, ?_⟩, hK⟩
  · unfold upd; rw [if_pos rfl, h1]; rfl
  · unfold badU
    rw [h1]
    by_cases hg : st ≤ c + 1
    · rw [if_pos hg, if_pos hg]; unfold upd; rw [if_pos rfl]; rfl
    · rw [if_neg hg, if_neg hg]; exact h2
theorem at_good (h : At w B nd st bn now b1 b2 n k c x) (hk : 0 ≤ k ∧ k < nd) : Calls Try.prog 16 #[.pointer (some ⟨B, 0, none⟩), .int .i64 k] w fun e w' => e = .returned (.int .i64 0) ∧ At w' B nd st bn now b1 b2 n k 0 0 ∧ Kept (Own B b1 b2) w w' := by
  obtain ⟨r, u, hd, h1, h2⟩ := h
  refine (good_any B nd st bn now b1 b2 n r u w k hd hk).mono ?_
  rintro e w' ⟨rfl, hD, hK⟩
  refine ⟨rfl, ⟨_, _, hD, ?_, ?_⟩, hK⟩ <;> (unfold upd; rw [if_pos rfl]; rfl)
theorem at_tick (h : At w B nd st bn now b1 b2 n k c x) (hnow : now ≤ 4611686018427387904) : Calls Try.prog 15 #[.pointer (some ⟨B, 0, none⟩)] w fun e w' => e = .returned (.int .i64 0) ∧ At w' B nd st bn (now + 1) b1 b2 n k c x ∧ Kept (Own B b1 b2) w w' := by
  obtain ⟨r, u, hd, h1, h2⟩ := h
  refine (tick_any B nd st bn now b1 b2 n r u w hd hnow).mono ?_
  rintro e w' ⟨rfl, hD, hK⟩
  exact ⟨rfl, ⟨_, _, hD, h1, h2⟩, hK⟩
end
set_option maxRecDepth 100000 in
set_option maxHeartbeats 4000000 in
theorem law_bans (nd st bn k : Int) (w : World) : Calls Try.prog 3 #[.agg (upV nd st bn), .int .i64 k] w fun e w' => e = .returned (.bool true) ∧ Below w.heap.size w w' := by
  obtain ⟨wz, rfl⟩ : ∃ w0 : World, w0 = w := ⟨_, rfl⟩
  have hn := Go.heap_alloc_new wz (.cells (upV nd st bn) 23)
  have HB0 := Aside0.mk ((Below.refl wz.heap.size wz).alloc (Nat.le_refl _) (.cells (upV nd st bn) 23))
  have hlt : wz.heap.size < (wz.alloc (.cells (upV nd st bn) 23)).heap.size := by simp
  go_enter Try.func3, Try.ntmps3
  obtain ⟨w0, hw0⟩ : ∃ w0, w0 = wz.alloc (.cells (upV nd st bn) 23) := ⟨_, rfl⟩
  have h0 : w0.cell? ⟨wz.heap.size, 0, none⟩ = some (.int .i64 nd) := by rw [hw0]; exact cell_of_row _ _ _ _ _ _ hn
  have h1 : w0.cell? ⟨wz.heap.size, 1, none⟩ = some (.int .i64 st) := by rw [hw0]; exact cell_of_row _ _ _ _ _ _ hn
  have h2 : w0.cell? ⟨wz.heap.size, 2, none⟩ = some (.int .i64 bn) := by rw [hw0]; exact cell_of_row _ _ _ _ _ _ hn
  rw [hw0] at h0 h1 h2
  go_wp2_with fail
  rw [← hw0] at hn HB0 hlt h0 h1 h2 ⊢
  have HS := Aside0.mk (SBox.mk hn hlt)
  clear hn hlt hw0
  have hi : (Try.prog.info? 23).map (·.size) = some 3 := by kernel_rfl
  by_cases hf : Fits nd st bn
  · have HF := Aside0.mk hf
    refine (new_any nd st bn w0 hf).mono ?_
    rintro e w1 ⟨B, b1, b2, rfl, hD, hb, l1, l2, l3⟩
    have HW : Aside0 (¬ Own B b1 b2 wz.heap.size ∧ ∀ x, Own B b1 b2 x → wz.heap.size ≤ x) := ⟨by have := HS.out.lt; unfold Own; omega, fun x hx => by have := HS.out.lt; unfold Own at hx; omega⟩
    have HA : Aside0 (At w1 B nd st bn 0 b1 b2 0 k 0 0) := ⟨_, _, hD, rfl, rfl⟩
    have HB1 := Aside0.mk (HB0.out.trans (hb.mono HB0.out.size))
    have HS1 := Aside0.mk (HS.out.after hb)
    clear hD hb l1 l2 l3 hf h0 h1 h2 HS HB0
    have hrg := HS1.out.range
    have h0 := HS1.out.c0
    obtain ⟨f0, f1, f2, f3, f4, f5⟩ := HF.out
    go_wp2_with ((with_reducible refine gate_load (ty := 23) (x := .tmp 2) rfl ?_); refine wpList_load_mid rfl 23 (.tmp 2) rfl wz.heap.size 0 rfl (upL nd st bn) _ hrg Try.underlying23 rfl hi ?_)
    refine (fits_yes nd st bn w1 HF.out).mono ?_
    rintro e w2 ⟨rfl, hb⟩
    have HA := Aside0.mk (HA.out.after hb)
    have HB2 := Aside0.mk (HB1.out.trans (hb.mono HB1.out.size))
    have HS2 := Aside0.mk (HS1.out.after hb)
    clear hb hrg h0 HB1 HS1
    have hrg := HS2.out.range
    have h0 := HS2.out.c0
    have h1 := HS2.out.c1
    by_cases hk : 0 ≤ k ∧ k < nd
    · have HK := Aside0.mk hk
      obtain ⟨k0, k1⟩ := hk
      go_wp2_with (go_at_call 11; refine (num_any _ _).mono ?_; rintro e w' ⟨rfl, rfl⟩)
      clear h0 h1 hrg
      go_loopw [7] (fun iv wr => ∃ j : Nat, (j : Int) ≤ st ∧ iv = .int .i64 ((j + 1 : Nat) : Int) ∧ Aside0 (At wr B nd st bn 0 b1 b2 j k j (if st ≤ (j : Int) then bn else 0)) ∧ Aside0 (Below wz.heap.size wz wr) ∧ Aside0 (SBox wr wz.heap.size nd st bn)) (fun iv _ => 66 - (intOf iv).toNat)
      case atStart => exact ⟨0, by omega, rfl, ⟨by rw [if_neg (by omega)]; exact HA.out⟩, HB2, HS2⟩
      case round =>
        clear HA HB2 HS2
        obtain ⟨j, hj, rfl, HA, HB2, HS2⟩ := hrel
        obtain ⟨wo, rfl⟩ : ∃ wo : World, wo = wr := ⟨_, rfl⟩
        have h1 := HS2.out.c1
        by_cases hlt : (j : Int) < st
        · have hA := HA.out
          rw [if_neg (by omega)] at hA
          go_wp2_with fail
          refine (at_speaks hA HK.out (Int.le_refl _)).mono ?_
          rintro e w3 ⟨rfl, hA3, hK⟩
          have HB3 := Aside0.mk (HB2.out.trans (hK.below (B := wz.heap.size) HW.out.2 HB2.out.size))
          have HS3 := Aside0.mk (HS2.out.kept hK HW.out.1)
          have HA3 := Aside0.mk hA3
          clear hK hA hA3 h1
          go_wp2_with fail
          refine (at_bad HA3.out HK.out (by omega) (by decide)).mono ?_
          rintro e w4 ⟨rfl, hA4, hK⟩
          have HB4 := Aside0.mk (HB3.out.trans (hK.below (B := wz.heap.size) HW.out.2 HB3.out.size))
          have HS4 := Aside0.mk (HS3.out.kept hK HW.out.1)
          rw [Int.zero_add] at hA4
          have HA4 := Aside0.mk hA4
          clear hK hA4
          go_wp2
          go_roundw
          case rel => exact ⟨j + 1, by omega, by go_num, HA4, HB4, HS4⟩
          case measure => simp [intOf]; omega
        · have hA := HA.out
          rw [if_pos (by omega)] at hA
          have hje : (j : Int) = st := by omega
          rw [hje] at hA
          have HA0 : Aside0 (At wo B nd st bn 0 b1 b2 j k st (0 + bn)) := ⟨by rw [Int.zero_add]; exact hA⟩
          clear hA
          go_wp2
          clear h1
          go_loopw [8] (fun iv wr => ∃ t : Nat, (t : Int) ≤ bn ∧ iv = .int .i64 (t : Int) ∧ Aside0 (At wr B nd st bn (t : Int) b1 b2 j k st (0 + bn)) ∧ Aside0 (Below wz.heap.size wz wr) ∧ Aside0 (SBox wr wz.heap.size nd st bn)) (fun iv _ => 1025 - (intOf iv).toNat)
          case atStart => exact ⟨0, by omega, rfl, HA0, HB2, HS2⟩
          case round =>
            clear HA HA0 HB2 HS2
            obtain ⟨t, ht, rfl, HA2, HB2, HS2⟩ := hrel
            obtain ⟨wo, rfl⟩ : ∃ wo : World, wo = wr := ⟨_, rfl⟩
            have h2 := HS2.out.c2
            by_cases hlb : (t : Int) < bn
            · go_wp2_with fail
              refine (at_silent HA2.out HK.out (by omega)).mono ?_
              rintro e w3 ⟨rfl, hA3, hK⟩
              have HB3 := Aside0.mk (HB2.out.trans (hK.below (B := wz.heap.size) HW.out.2 HB2.out.size))
              have HS3 := Aside0.mk (HS2.out.kept hK HW.out.1)
              have HA3 := Aside0.mk hA3
              clear hK hA3
              clear h2
              go_wp2_with fail
              refine (at_tick HA3.out (by omega)).mono ?_
              rintro e w4 ⟨rfl, hA4, hK⟩
              have HB4 := Aside0.mk (HB3.out.trans (hK.below (B := wz.heap.size) HW.out.2 HB3.out.size))
              have HS4 := Aside0.mk (HS3.out.kept hK HW.out.1)
              have HA4 := Aside0.mk hA4
              clear hK hA4
              go_wp2
              go_roundw
              case rel => exact ⟨t + 1, by omega, by go_num, HA4, HB4, HS4⟩
              case measure => simp [intOf]; omega
            · go_wp2_with fail
              clear h2
              refine (at_speaks HA2.out HK.out (by omega)).mono ?_
              rintro e w3 ⟨rfl, hA3, hK⟩
              have HB3 := Aside0.mk (HB2.out.trans (hK.below (B := wz.heap.size) HW.out.2 HB2.out.size))
              have HS3 := Aside0.mk (HS2.out.kept hK HW.out.1)
              have HA3 := Aside0.mk hA3
              clear hK hA3
              go_wp2_with fail
              refine (at_bad HA3.out HK.out (by omega) (by omega)).mono ?_
              rintro e w4 ⟨rfl, hA4, hK⟩
              have HB4 := Aside0.mk (HB3.out.trans (hK.below (B := wz.heap.size) HW.out.2 HB3.out.size))
              have HS4 := Aside0.mk (HS3.out.kept hK HW.out.1)
              have HA4 := Aside0.mk hA4
              clear hK hA4
              have hA4 := HA4.out
              rw [if_pos (by omega)] at hA4
              have HA4 := Aside0.mk hA4
              clear hA4
              go_wp2_with fail
              refine (at_silent HA4.out HK.out (by omega)).mono ?_
              rintro e w5 ⟨rfl, hA5, hK⟩
              have HB5 := Aside0.mk (HB4.out.trans (hK.below (B := wz.heap.size) HW.out.2 HB4.out.size))
              have HS5 := Aside0.mk (HS4.out.kept hK HW.out.1)
              have HA5 := Aside0.mk hA5
              clear hK hA5
              go_wp2_with fail
              refine (at_good HA5.out HK.out).mono ?_
              rintro e w6 ⟨rfl, hA6, hK⟩
              have HB6 := Aside0.mk (HB5.out.trans (hK.below (B := wz.heap.size) HW.out.2 HB5.out.size))
              have HS6 := Aside0.mk (HS5.out.kept hK HW.out.1)
              have HA6 := Aside0.mk hA6
              clear hK hA6
              go_wp2_with fail
              refine (at_speaks HA6.out HK.out (by omega)).mono ?_
              rintro e w7 ⟨rfl, hA7, hK⟩
              have HB7 := Aside0.mk (HB6.out.trans (hK.below (B := wz.heap.size) HW.out.2 HB6.out.size))
              have HS7 := Aside0.mk (HS6.out.kept hK HW.out.1)
              have HA7 := Aside0.mk hA7
              clear hK hA7
              go_wp2
              go_ret
              exact ⟨rfl, HB7.out⟩
    · by_cases k0 : k < 0
      · go_wp2_with ((with_reducible refine gate_load (ty := 23) (x := .tmp 2) rfl ?_); refine wpList_load_mid rfl 23 (.tmp 2) rfl wz.heap.size 0 rfl (upL nd st bn) _ hrg Try.underlying23 rfl hi ?_)
        refine (fits_yes nd st bn w2 HF.out).mono ?_
        rintro e w3 ⟨rfl, hb⟩
        have HB3 := Aside0.mk (HB2.out.trans (hb.mono HB2.out.size))
        clear hb
        go_wp2
        go_ret
        exact ⟨rfl, HB3.out⟩
      · have k1 : ¬ k < nd := by omega
        go_wp2_with ((with_reducible refine gate_load (ty := 23) (x := .tmp 2) rfl ?_); refine wpList_load_mid rfl 23 (.tmp 2) rfl wz.heap.size 0 rfl (upL nd st bn) _ hrg Try.underlying23 rfl hi ?_)
        refine (fits_yes nd st bn w2 HF.out).mono ?_
        rintro e w3 ⟨rfl, hb⟩
        have HB3 := Aside0.mk (HB2.out.trans (hb.mono HB2.out.size))
        clear hb
        go_wp2
        go_ret
        exact ⟨rfl, HB3.out⟩
  · have HF := Aside0.mk hf
    clear hf
    refine (new_bad nd st bn w0 HF.out).mono ?_
    rintro e w1 ⟨rfl, rfl⟩
    have hrg := HS.out.range
    clear h0 h1 h2
    go_wp2_with ((with_reducible refine gate_load (ty := 23) (x := .tmp 2) rfl ?_); refine wpList_load_mid rfl 23 (.tmp 2) rfl wz.heap.size 0 rfl (upL nd st bn) _ hrg Try.underlying23 rfl hi ?_)
    refine (fits_no nd st bn w0 HF.out).mono ?_
    rintro e w2 ⟨rfl, hb⟩
    have HB2 := Aside0.mk (HB0.out.trans (hb.mono HB0.out.size))
    have HS2 := Aside0.mk (HS.out.after hb)
    clear hb hrg
    have hrg := HS2.out.range
    go_wp2_with ((with_reducible refine gate_load (ty := 23) (x := .tmp 2) rfl ?_); refine wpList_load_mid rfl 23 (.tmp 2) rfl wz.heap.size 0 rfl (upL nd st bn) _ hrg Try.underlying23 rfl hi ?_)
    refine (fits_no nd st bn w2 HF.out).mono ?_
    rintro e w3 ⟨rfl, hb⟩
    have HB3 := Aside0.mk (HB2.out.trans (hb.mono HB2.out.size))
    clear hb hrg
    go_wp2_with (go_at_call 11; refine (num_any _ _).mono ?_; rintro e w' ⟨rfl, rfl⟩)
    go_ret
    exact ⟨rfl, HB3.out⟩
end Go.Proofs.Ytbheegamibdbhaa.Bans
