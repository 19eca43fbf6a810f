/- drive: one step of a script on a detector, told at one node. -/
import Derived.Test.YtbheegamibdbhaaMade
set_option linter.unusedVariables false
set_option linter.unusedSimpArgs false
namespace Go.Proofs.Ytbheegamibdbhaa.Drive
open Go.RowKit Go.Proofs.YtbheegamibdbhaaW.PrintWords Go.Proofs.YtbheegamibdbhaaW.PrintLast Go.Proofs.YtbheegamibdbhaaW.PrintMore
open Go.Proofs.Ytbheegamibdbhaa.Base Go.Proofs.Ytbheegamibdbhaa.App Go.Proofs.Ytbheegamibdbhaa.MapK Go.Proofs.Ytbheegamibdbhaa.Det Go.Proofs.Ytbheegamibdbhaa.Bans Go.Proofs.Ytbheegamibdbhaa.Made
def tk (j : Int) : Int := if j ≤ 0 then 0 else if j ≤ 1100 then j else 1100
theorem tk_range (j : Int) : 0 ≤ tk j ∧ tk j ≤ 1100 := by unfold tk; split; omega; split <;> omega
def stepNow (kind node now : Int) : Int := if kind = 3 then now + tk node else now
def stepC (nd kind node k c : Int) : Int := if node = k ∧ 0 ≤ k ∧ k < nd then (if kind = 1 then 0 else if kind = 2 then c + 1 else c) else c
def stepX (nd st bn kind node k now c x : Int) : Int := if node = k ∧ 0 ≤ k ∧ k < nd then (if kind = 1 then 0 else if kind = 2 then (if st ≤ c + 1 then now + bn else x) else x) else x
/-- a step as it lies -/
def stepL (kind node : Int) (v : Value) : List Value := [.int .i64 kind, .int .i64 node, v]
structure TBox (w : World) (b : Nat) (kind node : Int) (v : Value) : Prop where mk ::
  (row : w.heap[b]? = some (.cells (stepL kind node v).toArray 40 (0, 0))) (lt : b < w.heap.size)
theorem TBox.kept {S : Nat → Prop} {w w1 : World} {b : Nat} {kind node : Int} {v : Value} (h : TBox w b kind node v) (k : Kept S w w1) (hS : ¬ S b) : TBox w1 b kind node v := ⟨(k.block _ h.lt hS).trans h.row, Nat.lt_of_lt_of_le h.lt k.size⟩
theorem TBox.c0 {w : World} {b : Nat} {kind node : Int} {v : Value} (h : TBox w b kind node v) : w.cell? ⟨b, 0, none⟩ = some (.int .i64 kind) := cell_of_row _ _ _ _ _ _ h.row
theorem TBox.c1 {w : World} {b : Nat} {kind node : Int} {v : Value} (h : TBox w b kind node v) : w.cell? ⟨b, 1, none⟩ = some (.int .i64 node) := cell_of_row _ _ _ _ _ _ h.row
theorem TBox.range {w : World} {b : Nat} {kind node : Int} {v : Value} (h : TBox w b kind node v) : w.rangeAt b 0 (stepL kind node v) := by
  intro j u hv
  rw [Nat.zero_add, cell_of_row _ _ _ _ _ _ h.row]
  simpa using hv
section
variable {B : Nat} {nd st bn now : Int} {b1 b2 n : Nat} {w : World} {k c x : Int}
theorem at_kept {S : Nat → Prop} {w1 : World} (h : At w B nd st bn now b1 b2 n k c x) (hk : Kept S w w1) (hS : ¬ S B ∧ ¬ S b1 ∧ ¬ S b2) : At w1 B nd st bn now b1 b2 n k c x := by
  obtain ⟨r, u, hd, h1, h2⟩ := h
  exact ⟨r, u, hd.kept hk hS, h1, h2⟩
theorem at_mono {m : Nat} (h : At w B nd st bn now b1 b2 n k c x) (hm : n ≤ m) : At w B nd st bn now b1 b2 m k c x := by
  obtain ⟨r, u, hd, h1, h2⟩ := h
  exact ⟨r, u, hd.mono hm, h1, h2⟩
theorem at_own (h : At w B nd st bn now b1 b2 n k c x) : B < w.heap.size ∧ b1 < w.heap.size ∧ b2 < w.heap.size := by
  obtain ⟨r, u, hd, h1, h2⟩ := h
  exact ⟨hd.row.lt, hd.m1.lt, hd.m2.lt⟩
/-- Silent, at any number -/
theorem at_ask (h : At w B nd st bn now b1 b2 n k c x) : Calls Try.prog 19 #[.pointer (some ⟨B, 0, none⟩), .int .i64 k] w fun e w' => e = .returned (.tuple #[.bool (decide ((0 ≤ k ∧ k < nd) ∧ now < x)), .int .i64 (errOf nd k)]) ∧ Below w.heap.size w w' := by
  obtain ⟨r, u, hd, h1, h2⟩ := h
  by_cases hk : 0 ≤ k ∧ k < nd
  · refine (silent_any B nd st bn now b1 b2 n r u w k hd hk).mono ?_
    rintro e w' ⟨rfl, hdr⟩
    refine ⟨?_, hdr.below⟩
    rw [h2, show errOf nd k = 0 from if_pos hk]
    by_cases hx : now < x
    · rw [decide_eq_true hx, decide_eq_true ⟨hk, hx⟩]
    · rw [decide_eq_false hx, decide_eq_false (fun h => hx h.2)]
  · refine (silent_bad B nd st bn now b1 b2 n r u w k hd hk).mono ?_
    rintro e w' ⟨rfl, rfl⟩
    refine ⟨?_, Below.refl _ _⟩
    rw [decide_eq_false (fun h => hk h.1), show errOf nd k = 68 from if_neg hk]
theorem at_good2 (j : Int) (h : At w B nd st bn now b1 b2 n k c x) : Calls Try.prog 16 #[.pointer (some ⟨B, 0, none⟩), .int .i64 j] w fun e w' => (∃ v, e = .returned (.int .i64 v)) ∧ At w' B nd st bn now b1 b2 n k (stepC nd 1 j k c) (stepX nd st bn 1 j k now c x) ∧ Kept (Own B b1 b2) w w' := by
  obtain ⟨r, u, hd, h1, h2⟩ := h
  by_cases hj : 0 ≤ j ∧ j < nd
  · refine (good_any B nd st bn now b1 b2 n r u w j hd hj).mono ?_
    rintro e w' ⟨rfl, hD, hK⟩
    refine ⟨⟨_, rfl⟩, ⟨_, _, hD, ?_, ?_⟩, hK⟩
    · unfold stepC upd
      by_cases e : k = j
      · subst e; rw [if_pos rfl, if_pos ⟨rfl, hj⟩, if_pos rfl]; rfl
      · rw [if_neg e, if_neg (fun h => e h.1.symm)]; exact h1
    · unfold stepX upd
      by_cases e : k = j
      · subst e; rw [if_pos rfl, if_pos ⟨rfl, hj⟩, if_pos rfl]; rfl
      · rw [if_neg e, if_neg (fun h => e h.1.symm)]; exact h2
  · refine (good_bad B nd st bn now b1 b2 n r u w j hd hj).mono ?_
    rintro e w' ⟨rfl, rfl⟩
    refine ⟨⟨_, rfl⟩, ⟨_, _, hd, ?_, ?_⟩, Kept.refl _ _⟩
    · unfold stepC; rw [if_neg (fun h : j = k ∧ 0 ≤ k ∧ k < nd => hj (h.1 ▸ h.2))]; exact h1
    · unfold stepX; rw [if_neg (fun h : j = k ∧ 0 ≤ k ∧ k < nd => hj (h.1 ▸ h.2))]; exact h2
theorem at_bad2 (j : Int) (h : At w B nd st bn now b1 b2 n k c x) (hn : n < 900000) (hnow : now ≤ 4611686018427387904) : Calls Try.prog 13 #[.pointer (some ⟨B, 0, none⟩), .int .i64 j] w fun e w' => (∃ v, e = .returned (.int .i64 v)) ∧ At w' B nd st bn now b1 b2 (n + 1) k (stepC nd 2 j k c) (stepX nd st bn 2 j k now c x) ∧ Kept (Own B b1 b2) w w' := by
  obtain ⟨r, u, hd, h1, h2⟩ := h
  by_cases hj : 0 ≤ j ∧ j < nd
  · refine (bad_any B nd st bn now b1 b2 n r u w j hd hj hn hnow).mono ?_
    rintro e w' ⟨rfl, hD, hK⟩
    refine ⟨⟨_, rfl⟩, ⟨_, _, hD, ?_, ?_⟩, hK⟩
    · unfold stepC upd
      by_cases e : k = j
      · subst e; rw [if_pos rfl, if_pos ⟨rfl, hj⟩, if_neg (by decide), if_pos rfl, h1]; rfl
      · rw [if_neg e, if_neg (fun h => e h.1.symm)]; exact h1
    · unfold badU
      by_cases e : k = j
      · subst e
        rw [h1]
        by_cases hg : st ≤ c + 1
        · rw [if_pos hg]; unfold stepX upd; rw [if_pos rfl, if_pos ⟨rfl, hj⟩, if_neg (by decide), if_pos rfl, if_pos hg]; rfl
        · rw [if_neg hg]; unfold stepX; rw [if_pos ⟨rfl, hj⟩, if_neg (by decide), if_pos rfl, if_neg hg]; exact h2
      · have e2 : stepX nd st bn 2 j k now c x = x := if_neg (fun h : j = k ∧ 0 ≤ k ∧ k < nd => e h.1.symm)
        rw [e2]
        split
        · unfold upd; rw [if_neg e]; exact h2
        · exact h2
  · refine (bad_bad B nd st bn now b1 b2 n r u w j hd hj).mono ?_
    rintro e w' ⟨rfl, rfl⟩
    refine ⟨⟨_, rfl⟩, ⟨_, _, hd.mono (Nat.le_succ _), ?_, ?_⟩, Kept.refl _ _⟩
    · unfold stepC; rw [if_neg (fun h : j = k ∧ 0 ≤ k ∧ k < nd => hj (h.1 ▸ h.2))]; exact h1
    · unfold stepX; rw [if_neg (fun h : j = k ∧ 0 ≤ k ∧ k < nd => hj (h.1 ▸ h.2))]; exact h2
set_option maxRecDepth 100000 in
set_option maxHeartbeats 4000000 in
theorem drive_at (kind node : Int) (v : Value) (h : At w B nd st bn now b1 b2 n k c x) (hn : n < 900000) (h0 : 0 ≤ now) (hnow : now ≤ 4611686018427380000) : Calls Try.prog 18 #[.pointer (some ⟨B, 0, none⟩), .agg (stepL kind node v).toArray] w fun e w' => e = .returned (.tuple #[]) ∧ At w' B nd st bn (stepNow kind node now) b1 b2 (n + 1) k (stepC nd kind node k c) (stepX nd st bn kind node k now c x) ∧ Kept (Own B b1 b2) w w' := by
  have hnew : TBox (w.alloc (.cells (stepL kind node v).toArray 40)) w.heap.size kind node v := ⟨Go.heap_alloc_new w _, by simp⟩
  have hb := (Below.refl w.heap.size w).alloc (Nat.le_refl _) (.cells (stepL kind node v).toArray 40)
  have hown := at_own h
  have HNS : Aside0 (¬ Own B b1 b2 w.heap.size) := ⟨by unfold Own; omega⟩
  have HT := Aside0.mk hnew
  have HA := Aside0.mk (h.after hb)
  have HK : Aside0 (Kept (Own B b1 b2) w (w.alloc (.cells (stepL kind node v).toArray 40))) := ⟨Kept.of_below hb⟩
  clear hnew hb hown h
  have hc0 := HT.out.c0
  have hc1 := HT.out.c1
  go_enter Try.func18, Try.ntmps18
  by_cases e1 : kind = 1
  · subst e1
    go_wp2_with fail
    refine (at_good2 node HA.out).mono ?_
    rintro e w' ⟨⟨v1, rfl⟩, hA, hK⟩
    have HA2 := Aside0.mk (at_mono hA (Nat.le_succ n))
    have HK2 := Aside0.mk (HK.out.trans hK)
    clear hA hK
    go_wp2
    go_end0
    exact ⟨rfl, HA2.out, HK2.out⟩
  · have q1 : (kind == 1) = false := beq_eq_false_iff_ne.2 e1
    by_cases e2 : kind = 2
    · subst e2
      go_wp2_with fail
      refine (at_bad2 node HA.out hn (by omega)).mono ?_
      rintro e w' ⟨⟨v1, rfl⟩, hA, hK⟩
      have HA2 := Aside0.mk hA
      have HK2 := Aside0.mk (HK.out.trans hK)
      clear hA hK
      go_wp2
      go_end0
      exact ⟨rfl, HA2.out, HK2.out⟩
    · have q2 : (kind == 2) = false := beq_eq_false_iff_ne.2 e2
      have hC : stepC nd kind node k c = c := by unfold stepC; rw [if_neg e1, if_neg e2]; exact ite_self _
      have hX : stepX nd st bn kind node k now c x = x := by unfold stepX; rw [if_neg e1, if_neg e2]; exact ite_self _
      have HC := Lib.hid hC
      have HX := Lib.hid hX
      clear hC hX
      by_cases e3 : kind = 3
      · subst e3
        have htk := tk_range node
        have hnow3 : stepNow 3 node now = now + tk node := if_pos rfl
        have HN3 := Lib.hid hnow3
        have HA0 : Aside0 (At (w.alloc (.cells (stepL 3 node v).toArray 40)) B nd st bn (now + ((0 : Nat) : Int)) b1 b2 n k c x) := ⟨by rw [show now + ((0 : Nat) : Int) = now by omega]; exact HA.out⟩
        have htd : ∀ j : Nat, (j : Int) ≤ tk node → (((j : Int) < node ∧ (j : Int) < 1100) ↔ (j : Int) < tk node) := fun j hj => by unfold tk at *; split at hj <;> (try split at hj) <;> (try rw [if_pos (by assumption)]) <;> (try rw [if_neg (by assumption)]) <;> (try split) <;> omega
        have HTD := Aside0.mk htd
        clear hnow3 htd
        go_wp2
        go_loopw [4] (fun iv wr => ∃ j : Nat, (j : Int) ≤ tk node ∧ iv = .int .i64 (j : Int) ∧ Aside0 (At wr B nd st bn (now + (j : Int)) b1 b2 n k c x) ∧ Aside0 (Kept (Own B b1 b2) w wr) ∧ Aside0 (TBox wr w.heap.size 3 node v)) (fun iv _ => 1101 - (intOf iv).toNat)
        case atStart => exact ⟨0, by omega, rfl, HA0, HK, HT⟩
        case round =>
          clear HA HA0 HK HT hc0 hc1
          obtain ⟨j, hj, rfl, HA, HK, HT⟩ := hrel
          obtain ⟨wo, rfl⟩ : ∃ wo : World, wo = wr := ⟨_, rfl⟩
          have hc1 := HT.out.c1
          have hjj := HTD.out j hj
          by_cases hlt : (j : Int) < tk node
          · obtain ⟨j1, j2⟩ := hjj.2 hlt
            go_wp2_with fail
            refine (at_tick HA.out (by omega)).mono ?_
            rintro e w3 ⟨rfl, hA, hK⟩
            have HA3 : Aside0 (At w3 B nd st bn (now + ((j + 1 : Nat) : Int)) b1 b2 n k c x) := ⟨by rw [show now + ((j + 1 : Nat) : Int) = now + (j : Int) + 1 by omega]; exact hA⟩
            have HK3 := Aside0.mk (HK.out.trans hK)
            have HT3 := Aside0.mk (HT.out.kept hK HNS.out)
            clear hA hK hc1
            go_wp2
            go_roundw
            case rel => exact ⟨j + 1, by omega, by go_num, HA3, HK3, HT3⟩
            case measure => simp [intOf]; omega
          · have hje : (j : Int) = tk node := by omega
            have HJE := Aside0.mk hje
            have hno : ¬ ((j : Int) < node ∧ (j : Int) < 1100) := fun h => hlt (hjj.1 h)
            clear hje hjj hlt
            have hfin : At wo B nd st bn (stepNow 3 node now) b1 b2 (n + 1) k (stepC nd 3 node k c) (stepX nd st bn 3 node k now c x) := by
              rw [HC.out, HX.out, HN3.out, ← HJE.out]
              exact at_mono HA.out (Nat.le_succ n)
            have HFIN := Aside0.mk hfin
            clear hfin
            by_cases j1 : (j : Int) < node
            · have j2 : ¬ (j : Int) < 1100 := fun h => hno ⟨j1, h⟩
              clear hno
              go_wp2
              go_end0
              exact ⟨rfl, HFIN.out, HK.out⟩
            · clear hno
              go_wp2
              go_end0
              exact ⟨rfl, HFIN.out, HK.out⟩
      · have q3 : (kind == 3) = false := beq_eq_false_iff_ne.2 e3
        go_wp2
        go_end0
        refine ⟨rfl, ?_, HK.out⟩
        rw [HC.out, HX.out, show stepNow kind node now = now from if_neg e3]
        exact at_mono HA.out (Nat.le_succ n)
end
end Go.Proofs.Ytbheegamibdbhaa.Drive
