/- The detector: what it holds, and its methods. -/
import Derived.Test.YtbheegamibdbhaaBase
import Derived.Test.YtbheegamibdbhaaMapK
import Derived.Outline
set_option linter.unusedVariables false
set_option linter.unusedSimpArgs false
namespace Go.Proofs.Ytbheegamibdbhaa.Det
open Go.RowKit Go.Proofs.YtbheegamibdbhaaW.PrintWords Go.Proofs.YtbheegamibdbhaaW.PrintLast Go.Proofs.YtbheegamibdbhaaW.PrintMore
open Go.Proofs.Ytbheegamibdbhaa.Base Go.Proofs.Ytbheegamibdbhaa.MapK
/-- all but the blocks of S is as it was -/
structure Kept (S : Nat → Prop) (w w' : World) : Prop where mk ::
  (os : w'.os = w.os) (tape : w'.tape = w.tape) (output : w'.output = w.output) (size : w.heap.size ≤ w'.heap.size) (block : ∀ k, k < w.heap.size → ¬ S k → w'.heap[k]? = w.heap[k]?)
theorem Kept.refl (S : Nat → Prop) (w : World) : Kept S w w := ⟨rfl, rfl, rfl, Nat.le_refl _, fun _ _ _ => rfl⟩
theorem Kept.trans {S : Nat → Prop} {w w1 w2 : World} (h : Kept S w w1) (k : Kept S w1 w2) : Kept S w w2 :=
  ⟨k.os.trans h.os, k.tape.trans h.tape, k.output.trans h.output, Nat.le_trans h.size k.size, fun i hi hn => (k.block i (Nat.lt_of_lt_of_le hi h.size) hn).trans (h.block i hi hn)⟩
theorem Kept.of_below {S : Nat → Prop} {w w1 : World} (h : Below w.heap.size w w1) : Kept S w w1 := ⟨h.os, h.tape, h.output, h.size, fun k hk _ => h.block k hk⟩
theorem Kept.below {S : Nat → Prop} {B : Nat} {w w1 : World} (h : Kept S w w1) (hS : ∀ k, S k → B ≤ k) (hw : B ≤ w.heap.size) : Below B w w1 := ⟨h.os, h.tape, h.output, h.size, fun k hk => h.block k (by omega) (fun hs => by have := hS k hs; omega)⟩
theorem Kept.turned {S : Nat → Prop} {w w1 : World} {b : Nat} (h : w.mapTurned w1 b) (hb : S b) : Kept S w w1 := by
  have g := h.grown
  obtain ⟨es, clock, es', clock', hbk, rfl⟩ := h
  exact ⟨rfl, rfl, rfl, by simp [ChangeMaps.setBlock], fun i hi hn => ChangeMaps.heap_setBlock_other hbk _ (fun e => hn (e ▸ hb))⟩
theorem Kept.setCell {S : Nat → Prop} {w : World} {b i : Nat} (v : Value) (hb : S b) : Kept S w (w.setCell ⟨b, i, none⟩ v) := by
  refine ⟨rfl, rfl, rfl, by simp, fun k hk hn => ?_⟩
  exact heap_setCell_other _ _ _ _ (fun e => hn (e ▸ hb))
def dc (nd st bn now : Int) (b1 b2 : Nat) : Nat → Value
  | 0 => .int .i64 nd
  | 1 => .int .i64 st
  | 2 => .int .i64 bn
  | 3 => .int .i64 now
  | 4 => .map (some b1)
  | _ => .map (some b2)
/-- a detector in block B -/
structure Det (w : World) (B : Nat) (nd st bn now : Int) (b1 b2 n : Nat) (r u : Int → Option Int) : Prop where mk ::
  (row : w.rowIs B 58 6 (dc nd st bn now b1 b2))
  (m1 : MapAs w b1 n r) (m2 : MapAs w b2 n u) (ne1 : b1 ≠ B) (ne2 : b2 ≠ B) (ne3 : b1 ≠ b2)
  (pos : ∀ k c, r k = some c → 1 ≤ c ∧ c ≤ n) (sub : ∀ k, (u k).isSome = true → (r k).isSome = true)
  (fit : 1 ≤ nd ∧ nd ≤ 16 ∧ 1 ≤ st ∧ st ≤ 64 ∧ 1 ≤ bn ∧ bn ≤ 1024)
  (ub : ∀ k e, u k = some e → 0 ≤ e ∧ e ≤ now + bn) (now0 : 0 ≤ now)
/-- the detector's blocks -/
def Own (B b1 b2 : Nat) (k : Nat) : Prop := k = B ∨ k = b1 ∨ k = b2
section
variable {w w1 : World} {B : Nat} {nd st bn now : Int} {b1 b2 n : Nat} {r u : Int → Option Int}
theorem Det.kept {S : Nat → Prop} (h : Det w B nd st bn now b1 b2 n r u) (k : Kept S w w1) (hS : ¬ S B ∧ ¬ S b1 ∧ ¬ S b2) : Det w1 B nd st bn now b1 b2 n r u :=
  { h with row := h.row.of_block (k.block _ h.row.lt hS.1), m1 := h.m1.of_block (k.block _ h.m1.lt hS.2.1), m2 := h.m2.of_block (k.block _ h.m2.lt hS.2.2) }
theorem Det.after (h : Det w B nd st bn now b1 b2 n r u) (hb : Below w.heap.size w w1) : Det w1 B nd st bn now b1 b2 n r u :=
  h.kept (S := fun _ => False) (Kept.of_below hb) ⟨id, id, id⟩
theorem Det.mono {m : Nat} (h : Det w B nd st bn now b1 b2 n r u) (hm : n ≤ m) : Det w B nd st bn now b1 b2 m r u :=
  { h with m1 := h.m1.mono hm, m2 := h.m2.mono hm, pos := fun k c hk => by have := h.pos k c hk; omega }
theorem Det.c0 (h : Det w B nd st bn now b1 b2 n r u) : w.cell? ⟨B, 0, none⟩ = some (.int .i64 nd) := h.row.cell (by decide)
theorem Det.c1 (h : Det w B nd st bn now b1 b2 n r u) : w.cell? ⟨B, 1, none⟩ = some (.int .i64 st) := h.row.cell (by decide)
theorem Det.c2 (h : Det w B nd st bn now b1 b2 n r u) : w.cell? ⟨B, 2, none⟩ = some (.int .i64 bn) := h.row.cell (by decide)
theorem Det.c3 (h : Det w B nd st bn now b1 b2 n r u) : w.cell? ⟨B, 3, none⟩ = some (.int .i64 now) := h.row.cell (by decide)
theorem Det.c4 (h : Det w B nd st bn now b1 b2 n r u) : w.cell? ⟨B, 4, none⟩ = some (.map (some b1)) := h.row.cell (by decide)
theorem Det.c5 (h : Det w B nd st bn now b1 b2 n r u) : w.cell? ⟨B, 5, none⟩ = some (.map (some b2)) := h.row.cell (by decide)
end
def errOf (nd k : Int) : Int := if 0 ≤ k ∧ k < nd then 0 else 68
theorem known_nil (k : Int) (w : World) : Calls Try.prog 28 #[.pointer none, .int .i64 k] w fun e w' => e = .returned (.int .i64 2) ∧ w = w' := by
  go_enter Try.func28, Try.ntmps28
  go_wp2
  go_ret
  exact ⟨rfl, rfl⟩
theorem known_any (B : Nat) (nd k : Int) (w : World) (h : w.cell? ⟨B, 0, none⟩ = some (.int .i64 nd)) : Calls Try.prog 28 #[.pointer (some ⟨B, 0, none⟩), .int .i64 k] w fun e w' => e = .returned (.int .i64 (errOf nd k)) ∧ w = w' := by
  unfold errOf
  go_enter Try.func28, Try.ntmps28
  by_cases h0 : k < 0
  · have e : ¬ (0 ≤ k ∧ k < nd) := by omega
    rw [if_neg e]
    go_wp2
    go_ret
    exact ⟨rfl, rfl⟩
  · by_cases h1 : k < nd
    · have e : 0 ≤ k ∧ k < nd := by omega
      rw [if_pos e]
      go_wp2
      go_ret
      exact ⟨rfl, rfl⟩
    · have e : ¬ (0 ≤ k ∧ k < nd) := by omega
      rw [if_neg e]
      go_wp2
      go_ret
      exact ⟨rfl, rfl⟩
section
variable (B : Nat) (nd st bn now : Int) (b1 b2 n : Nat) (r u : Int → Option Int) (w : World)
theorem tick_any (h : Det w B nd st bn now b1 b2 n r u) (hn : now ≤ 4611686018427387904) : Calls Try.prog 15 #[.pointer (some ⟨B, 0, none⟩)] w fun e w' => e = .returned (.int .i64 0) ∧ Det w' B nd st bn (now + 1) b1 b2 n r u ∧ Kept (Own B b1 b2) w w' := by
  have hc3 := h.c3
  have hf3 := h.row.frozen 3
  have HD := Aside0.mk h
  have hn0 := h.now0
  clear h
  go_enter Try.func15, Try.ntmps15
  go_wp2
  go_ret
  have hK : Kept (Own B b1 b2) w (w.setCell ⟨B, 3, none⟩ (.int .i64 (now + 1))) := Kept.setCell _ (.inl rfl)
  refine ⟨rfl, { HD.out with row := (HD.out.row.set 3 _).congr (fun i hi => ?_), m1 := HD.out.m1.of_block (heap_setCell_other _ _ _ _ HD.out.ne1), m2 := HD.out.m2.of_block (heap_setCell_other _ _ _ _ HD.out.ne2), ub := fun k e hk => by have := HD.out.ub k e hk; omega, now0 := by omega }, hK⟩
  have e : i = 0 ∨ i = 1 ∨ i = 2 ∨ i = 3 ∨ i = 4 ∨ i = 5 := by omega
  rcases e with e | e | e | e | e | e <;> subst e <;> rfl
theorem k_wf {nd k : Int} (h : 0 ≤ k ∧ k < nd) (hnd : nd ≤ 16) : (Lit.int .i64 k).wf = true := kI_wf (by omega) (by omega)
set_option maxHeartbeats 1000000 in
theorem silent_any (k : Int) (h : Det w B nd st bn now b1 b2 n r u) (hk : 0 ≤ k ∧ k < nd) : Calls Try.prog 19 #[.pointer (some ⟨B, 0, none⟩), .int .i64 k] w fun e w' => e = .returned (.tuple #[.bool (decide (now < (u k).getD 0)), .int .i64 0]) ∧ Drawn0 w w' := by
  have hkw := k_wf hk h.fit.2.1
  have hc0 := h.c0
  have hc3 := h.c3
  have hc5 := h.c5
  have HK := Lib.hid (show errOf nd k = 0 from if_pos hk)
  have hlk := fun m => (h.m2.of_block (w1 := w.drewN m) rfl).look k hkw
  go_enter Try.func19, Try.ntmps19
  go_wp2_with fail
  refine (known_any B nd k w hc0).mono ?_
  rintro e w' ⟨rfl, rfl⟩
  rw [HK.out]
  go_wp2
  go_quiet (fail)
  go_wp2
  go_ret2
  exact ⟨rfl, ⟨⟨nq, rfl⟩⟩⟩
theorem silent_bad (k : Int) (h : Det w B nd st bn now b1 b2 n r u) (hk : ¬ (0 ≤ k ∧ k < nd)) : Calls Try.prog 19 #[.pointer (some ⟨B, 0, none⟩), .int .i64 k] w fun e w' => e = .returned (.tuple #[.bool false, .int .i64 68]) ∧ w = w' := by
  have hc0 := h.c0
  have HK := Lib.hid (show errOf nd k = 68 from if_neg hk)
  clear h
  go_enter Try.func19, Try.ntmps19
  go_wp2_with fail
  refine (known_any B nd k w hc0).mono ?_
  rintro e w' ⟨rfl, rfl⟩
  rw [HK.out]
  go_wp2
  go_ret2
  exact ⟨rfl, rfl⟩
theorem bad_bad (k : Int) (h : Det w B nd st bn now b1 b2 n r u) (hk : ¬ (0 ≤ k ∧ k < nd)) : Calls Try.prog 13 #[.pointer (some ⟨B, 0, none⟩), .int .i64 k] w fun e w' => e = .returned (.int .i64 68) ∧ w = w' := by
  have hc0 := h.c0
  have HK := Lib.hid (show errOf nd k = 68 from if_neg hk)
  clear h
  go_enter Try.func13, Try.ntmps13
  go_wp2_with fail
  refine (known_any B nd k w hc0).mono ?_
  rintro e w' ⟨rfl, rfl⟩
  rw [HK.out]
  go_wp2
  go_ret
  exact ⟨rfl, rfl⟩
theorem good_bad (k : Int) (h : Det w B nd st bn now b1 b2 n r u) (hk : ¬ (0 ≤ k ∧ k < nd)) : Calls Try.prog 16 #[.pointer (some ⟨B, 0, none⟩), .int .i64 k] w fun e w' => e = .returned (.int .i64 68) ∧ w = w' := by
  have hc0 := h.c0
  have HK := Lib.hid (show errOf nd k = 68 from if_neg hk)
  clear h
  go_enter Try.func16, Try.ntmps16
  go_wp2_with fail
  refine (known_any B nd k w hc0).mono ?_
  rintro e w' ⟨rfl, rfl⟩
  rw [HK.out]
  go_wp2
  go_ret
  exact ⟨rfl, rfl⟩
/-- what Bad leaves of the bans -/
def badU (st bn now : Int) (r u : Int → Option Int) (k : Int) : Int → Option Int := if st ≤ (r k).getD 0 + 1 then upd u k (some (now + bn)) else u
set_option maxRecDepth 100000 in
set_option maxHeartbeats 2000000 in
theorem bad_any (k : Int) (h : Det w B nd st bn now b1 b2 n r u) (hk : 0 ≤ k ∧ k < nd) (hn : n < 900000) (hnow : now ≤ 4611686018427387904) : Calls Try.prog 13 #[.pointer (some ⟨B, 0, none⟩), .int .i64 k] w fun e w' => e = .returned (.int .i64 0) ∧ Det w' B nd st bn now b1 b2 (n + 1) (upd r k (some ((r k).getD 0 + 1))) (badU st bn now r u k) ∧ Kept (Own B b1 b2) w w' := by
  have hkw := k_wf hk h.fit.2.1
  have hc0 := h.c0
  have hc4 := h.c4
  have HK := Lib.hid (show errOf nd k = 0 from if_pos hk)
  have hlk := h.m1.look k hkw
  have hpos := h.pos k
  have hc : 0 ≤ (r k).getD 0 ∧ (r k).getD 0 ≤ n := by
    cases hr : r k with
    | none => simp
    | some x => have := hpos x hr; simp; omega
  obtain ⟨c, hcc⟩ : ∃ c, c = (r k).getD 0 := ⟨_, rfl⟩
  have HC := Lib.hid hcc
  rw [← hcc] at hlk hc
  clear hpos hcc
  have HD := Aside0.mk h
  have HM1 := Aside0.mk h.m1
  have hcw : (Lit.int .i64 (c + 1)).wf = true := kI_wf (by omega) (by omega)
  have hfit := h.fit
  have hnow0 := h.now0
  clear h
  go_enter Try.func13, Try.ntmps13
  go_wp2_with fail
  refine (known_any B nd k w hc0).mono ?_
  rintro e w' ⟨rfl, rfl⟩
  rw [HK.out]
  go_wp2_with (at_mapUpdate; refine wp_put rfl _ _ _ rfl b1 n r rfl HM1.out (by omega) k (c + 1) rfl rfl hkw hcw ?_; intro w1 hM1 hT1)
  have hK1 : Kept (fun x => x = b1) w w1 := Kept.turned hT1 rfl
  have hR1 := HD.out.row.of_block (hK1.block B HD.out.row.lt (fun e => HD.out.ne1 e.symm))
  have hM2 := HD.out.m2.of_block (hK1.block b2 HD.out.m2.lt (fun e => HD.out.ne3 e.symm))
  have hc1 : w1.cell? ⟨B, 1, none⟩ = some (.int .i64 st) := hR1.cell (by decide)
  have hc4' : w1.cell? ⟨B, 4, none⟩ = some (.map (some b1)) := hR1.cell (by decide)
  have hlk1 : ∀ m, (Instr.lookup 56 (.map (some b1)) (.int .i64 k) false).run Try.prog (w1.drewN m) = .ok (.int .i64 (c + 1)) (w1.drewN m) := fun m => by
    have := (hM1.of_block (w1 := w1.drewN m) rfl).look k hkw
    simpa [upd] using this
  have HK1 : Aside0 (Kept (Own B b1 b2) w w1) := ⟨Kept.turned hT1 (.inr (.inl rfl))⟩
  have HR1 := Aside0.mk hR1
  have HM1 := Aside0.mk hM1
  have HM2 := Aside0.mk hM2
  clear hT1 hK1 hR1 hM1 hM2 hc0 hc4 hlk
  go_wp2
  go_quiet (fail)
  have HK2 : Aside0 (Kept (Own B b1 b2) w (w1.drewN nq)) := ⟨HK1.out.trans (Kept.of_below (Drawn0.below ((Drawn0.refl w1).step nq)))⟩
  have HR2 : Aside0 ((w1.drewN nq).rowIs B 58 6 (dc nd st bn now b1 b2)) := ⟨HR1.out.of_block rfl⟩
  have HN1 : Aside0 (MapAs (w1.drewN nq) b1 (n + 1) (upd r k (some (c + 1)))) := ⟨HM1.out.of_block rfl⟩
  have HM2 : Aside0 (MapAs (w1.drewN nq) b2 n u) := ⟨HM2.out.of_block rfl⟩
  clear hc1 hc4' hlk1 HK1 HR1 HM1
  generalize w1.drewN nq = w2 at HK2 HR2 HN1 HM2 ⊢
  have HP : Aside0 (∀ j x, upd r k (some (c + 1)) j = some x → 1 ≤ x ∧ x ≤ ((n + 1 : Nat) : Int)) := ⟨fun j x hj => by
    unfold upd at hj
    by_cases e : j = k
    · rw [if_pos e] at hj; have := Option.some.inj hj; omega
    · rw [if_neg e] at hj; have := HD.out.pos j x hj; omega⟩
  have HS : Aside0 (∀ j, (u j).isSome = true → (upd r k (some (c + 1)) j).isSome = true) := ⟨fun j hj => by
    unfold upd
    by_cases e : j = k
    · rw [if_pos e]; rfl
    · rw [if_neg e]; exact HD.out.sub j hj⟩
  by_cases hge : st ≤ c + 1
  · have HU : Aside0 (badU st bn now r u k = upd u k (some (now + bn))) := ⟨by unfold badU; rw [← HC.out, if_pos hge]⟩
    have hc2 : w2.cell? ⟨B, 2, none⟩ = some (.int .i64 bn) := HR2.out.cell (by decide)
    have hc3 : w2.cell? ⟨B, 3, none⟩ = some (.int .i64 now) := HR2.out.cell (by decide)
    have hc5 : w2.cell? ⟨B, 5, none⟩ = some (.map (some b2)) := HR2.out.cell (by decide)
    go_wp2
    refine start_ (n := 15) (S := fun w' => w'.cell? ⟨B, 5, none⟩ = some (.map (some b2)) ∧ w'.cell? ⟨B, 3, none⟩ = some (.int .i64 now) ∧ w'.cell? ⟨B, 2, none⟩ = some (.int .i64 bn)) (ds := [14]) #[false, false, false, false, false, false, false, false, false, false, false, false, false, false, false] (by kernel_rfl) rfl rfl ⟨hc5, hc3, hc2⟩ (fun hHeld => ?_)
    refine pure_ (i := 0) (N := some 30) (v := ?_) (a' := ?_) #[true, false, false, false, false, false, false, false, false, false, false, false, false, false, false] rfl rfl (by kernel_rfl) (fun _ _ _ h => h) (Or.inl ⟨by rfl, ?_⟩) ?_ ?_
    rotate_left
    · intro w'
      go_simp
      with_reducible rfl
    rotate_left
    · simp only [Act.put, List.setIfInBounds_toArray, List.set_cons_zero, List.set_cons_succ, i64_w, i32_w]
      rfl
    refine pure_ (i := 1) (N := some 31) (v := ?_) (a' := ?_) #[true, true, false, false, false, false, false, false, false, false, false, false, false, false, false] rfl rfl (by kernel_rfl) (fun _ _ _ h => h) (Or.inl ⟨by rfl, ?_⟩) ?_ ?_
    rotate_left
    · intro w'
      go_simp
      with_reducible rfl
    rotate_left
    · simp only [Act.put, List.setIfInBounds_toArray, List.set_cons_zero, List.set_cons_succ, i64_w, i32_w]
      rfl
    refine pure_ (i := 2) (N := some 32) (v := ?_) (a' := ?_) #[true, true, true, false, false, false, false, false, false, false, false, false, false, false, false] rfl rfl (by kernel_rfl) (fun _ _ _ h => h) (Or.inl ⟨by rfl, ?_⟩) ?_ ?_
    rotate_left
    · intro w'
      go_simp
      with_reducible rfl
    rotate_left
    · simp only [Act.put, List.setIfInBounds_toArray, List.set_cons_zero, List.set_cons_succ, i64_w, i32_w]
      rfl
    refine pure_ (i := 4) (N := some 34) (v := ?_) (a' := ?_) #[true, true, true, false, true, false, false, false, false, false, false, false, false, false, false] rfl rfl (by kernel_rfl) (fun _ _ _ h => h) (Or.inl ⟨by rfl, ?_⟩) ?_ ?_
    rotate_left
    · intro w'
      go_simp
      with_reducible rfl
    rotate_left
    · simp only [Act.put, List.setIfInBounds_toArray, List.set_cons_zero, List.set_cons_succ, i64_w, i32_w]
      rfl
    refine pure_ (i := 5) (N := some 35) (v := ?_) (a' := ?_) #[true, true, true, false, true, true, false, false, false, false, false, false, false, false, false] rfl rfl (by kernel_rfl) (fun _ _ _ h => h) (Or.inl ⟨by rfl, ?_⟩) ?_ ?_
    rotate_left
    · intro w'
      go_simp
      with_reducible rfl
    rotate_left
    · simp only [Act.put, List.setIfInBounds_toArray, List.set_cons_zero, List.set_cons_succ, i64_w, i32_w]
      rfl
    refine pure_ (i := 6) (N := some 36) (v := ?_) (a' := ?_) #[true, true, true, false, true, true, true, false, false, false, false, false, false, false, false] rfl rfl (by kernel_rfl) (fun _ _ _ h => h) (Or.inl ⟨by rfl, ?_⟩) ?_ ?_
    rotate_left
    · intro w'
      go_simp
      with_reducible rfl
    rotate_left
    · simp only [Act.put, List.setIfInBounds_toArray, List.set_cons_zero, List.set_cons_succ, i64_w, i32_w]
      rfl
    refine pure_ (i := 7) (N := some 37) (v := ?_) (a' := ?_) #[true, true, true, false, true, true, true, true, false, false, false, false, false, false, false] rfl rfl (by kernel_rfl) (fun _ _ _ h => h) (Or.inl ⟨by rfl, ?_⟩) ?_ ?_
    rotate_left
    · intro w'
      go_simp
      with_reducible rfl
    rotate_left
    · simp only [Act.put, List.setIfInBounds_toArray, List.set_cons_zero, List.set_cons_succ, i64_w, i32_w]
      rfl
    refine pure_ (i := 9) (N := some 39) (v := ?_) (a' := ?_) #[true, true, true, false, true, true, true, true, false, true, false, false, false, false, false] rfl rfl (by kernel_rfl) (fun _ _ _ h => h) (Or.inl ⟨by rfl, ?_⟩) ?_ ?_
    rotate_left
    · intro w'
      go_simp
      with_reducible rfl
    rotate_left
    · simp only [Act.put, List.setIfInBounds_toArray, List.set_cons_zero, List.set_cons_succ, i64_w, i32_w]
      rfl
    refine pure_ (i := 10) (N := some 40) (v := ?_) (a' := ?_) #[true, true, true, false, true, true, true, true, false, true, true, false, false, false, false] rfl rfl (by kernel_rfl) (fun _ _ _ h => h) (Or.inl ⟨by rfl, ?_⟩) ?_ ?_
    rotate_left
    · intro w'
      go_simp
      with_reducible rfl
    rotate_left
    · simp only [Act.put, List.setIfInBounds_toArray, List.set_cons_zero, List.set_cons_succ, i64_w, i32_w]
      rfl
    refine pure_ (i := 11) (N := some 41) (v := ?_) (a' := ?_) #[true, true, true, false, true, true, true, true, false, true, true, true, false, false, false] rfl rfl (by kernel_rfl) (fun _ _ _ h => h) (Or.inl ⟨by rfl, ?_⟩) ?_ ?_
    rotate_left
    · intro w'
      go_simp
      with_reducible rfl
    rotate_left
    · simp only [Act.put, List.setIfInBounds_toArray, List.set_cons_zero, List.set_cons_succ, i64_w, i32_w]
      rfl
    refine take_ (i := 3) (N := some 33) (v := ?_) (a' := ?_) #[true, true, true, true, true, true, true, true, false, true, true, true, false, false, false] rfl rfl (by kernel_rfl) (fun _ _ _ h => h) (Or.inl ⟨by rfl, ?_⟩) hHeld ?_ ?_
    rotate_left
    · rintro w' ⟨s0, s1, s2⟩
      go_simp
      with_reducible rfl
    rotate_left
    · simp only [Act.put, List.setIfInBounds_toArray, List.set_cons_zero, List.set_cons_succ, i64_w, i32_w]
      rfl
    refine take_ (i := 8) (N := some 38) (v := ?_) (a' := ?_) #[true, true, true, true, true, true, true, true, true, true, true, true, false, false, false] rfl rfl (by kernel_rfl) (fun _ _ _ h => h) (Or.inl ⟨by rfl, ?_⟩) hHeld ?_ ?_
    rotate_left
    · rintro w' ⟨s0, s1, s2⟩
      go_simp
      with_reducible rfl
    rotate_left
    · simp only [Act.put, List.setIfInBounds_toArray, List.set_cons_zero, List.set_cons_succ, i64_w, i32_w]
      rfl
    refine take_ (i := 12) (N := some 42) (v := ?_) (a' := ?_) #[true, true, true, true, true, true, true, true, true, true, true, true, true, false, false] rfl rfl (by kernel_rfl) (fun _ _ _ h => h) (Or.inl ⟨by rfl, ?_⟩) hHeld ?_ ?_
    rotate_left
    · rintro w' ⟨s0, s1, s2⟩
      go_simp
      with_reducible rfl
    rotate_left
    · simp only [Act.put, List.setIfInBounds_toArray, List.set_cons_zero, List.set_cons_succ, i64_w, i32_w]
      rfl
    refine pure_ (i := 13) (N := some 43) (v := ?_) (a' := ?_) #[true, true, true, true, true, true, true, true, true, true, true, true, true, true, false] rfl rfl (by kernel_rfl) (fun _ _ _ h => h) (Or.inl ⟨by rfl, ?_⟩) ?_ ?_
    rotate_left
    · intro w'
      go_simp
      with_reducible rfl
    rotate_left
    · simp only [Act.put, List.setIfInBounds_toArray, List.set_cons_zero, List.set_cons_succ, i64_w, i32_w]
      rfl
    refine last_ (i := 14) (N := none) #[true, true, true, true, true, true, true, true, true, true, true, true, true, true, true] rfl rfl (by kernel_rfl) (by decide) (fun K hK => ?_)
    refine step_put (by rfl) _ _ _ rfl b2 n u rfl (HM2.out.of_block rfl) (by omega) k (wrap64 (now + bn)) rfl rfl hkw (wrap64_wf _) ?_
    intro w3 hM3 hT3
    refine hK.out _ _ ?_
    clear hK K
    refine done_ (by kernel_rfl) ?_
    go_wp2
    go_ret
    have hK3 : Kept (fun x => x = b2) w2.drew w3 := Kept.turned hT3 rfl
    have hKo : Kept (Own B b1 b2) w2.drew w3 := Kept.turned hT3 (.inr (.inr rfl))
    have hd : Below w2.heap.size w2 w2.drew := below_drew (Below.refl _ _)
    rw [w64 _ (by omega) (by omega)] at hM3
    refine ⟨rfl, { row := (HR2.out.of_block (w' := w2.drew) rfl).of_block (hK3.block B HR2.out.lt (fun e => HD.out.ne2 e.symm)), m1 := by rw [← HC.out]; exact (HN1.out.of_block (w1 := w2.drew) rfl).of_block (hK3.block b1 HN1.out.lt HD.out.ne3), m2 := by rw [HU.out]; exact hM3, ne1 := HD.out.ne1, ne2 := HD.out.ne2, ne3 := HD.out.ne3, pos := by rw [← HC.out]; exact HP.out, sub := ?_, fit := hfit, ub := ?_, now0 := hnow0 }, (HK2.out.trans (Kept.of_below hd)).trans hKo⟩
    · intro j hj
      rw [HU.out] at hj
      rw [← HC.out]
      unfold upd at hj ⊢
      by_cases e : j = k
      · rw [if_pos e]; rfl
      · rw [if_neg e] at hj ⊢; exact HD.out.sub j hj
    · intro j x hj
      rw [HU.out] at hj
      unfold upd at hj
      by_cases e : j = k
      · rw [if_pos e] at hj; have := Option.some.inj hj; omega
      · rw [if_neg e] at hj; exact HD.out.ub j x hj
  · have HU : Aside0 (badU st bn now r u k = u) := ⟨by unfold badU; rw [← HC.out, if_neg hge]⟩
    go_wp2
    go_ret
    refine ⟨rfl, { row := HR2.out, m1 := by rw [← HC.out]; exact HN1.out, m2 := by rw [HU.out]; exact HM2.out.mono (by omega), ne1 := HD.out.ne1, ne2 := HD.out.ne2, ne3 := HD.out.ne3, pos := by rw [← HC.out]; exact HP.out, sub := by rw [HU.out, ← HC.out]; exact HS.out, fit := hfit, ub := by rw [HU.out]; exact HD.out.ub, now0 := hnow0 }, HK2.out⟩
theorem upd_none_sub {r u : Int → Option Int} (h : ∀ j, (u j).isSome = true → (r j).isSome = true) (k : Int) : ∀ j, (upd u k none j).isSome = true → (upd r k none j).isSome = true := by
  intro j hj
  unfold upd at hj ⊢
  by_cases e : j = k
  · rw [if_pos e] at hj; cases hj
  · rw [if_neg e] at hj ⊢; exact h j hj
theorem upd_none_some {r : Int → Option Int} {k j c : Int} (h : upd r k none j = some c) : r j = some c := by
  unfold upd at h
  by_cases e : j = k
  · rw [if_pos e] at h; cases h
  · rw [if_neg e] at h; exact h
set_option maxRecDepth 100000 in
set_option maxHeartbeats 2000000 in
theorem good_any (k : Int) (h : Det w B nd st bn now b1 b2 n r u) (hk : 0 ≤ k ∧ k < nd) : Calls Try.prog 16 #[.pointer (some ⟨B, 0, none⟩), .int .i64 k] w fun e w' => e = .returned (.int .i64 0) ∧ Det w' B nd st bn now b1 b2 n (upd r k none) (upd u k none) ∧ Kept (Own B b1 b2) w w' := by
  have hkw := k_wf hk h.fit.2.1
  have hc0 := h.c0
  have hc4 := h.c4
  have HK := Lib.hid (show errOf nd k = 0 from if_pos hk)
  have hlk := h.m1.look k hkw
  obtain ⟨s, hsn, hlen, hone⟩ := h.m1.len
  have HLEN := Aside0.mk hlen
  have HONE := Aside0.mk hone
  have HD := Aside0.mk h
  clear h hlen hone
  go_enter Try.func16, Try.ntmps16
  go_wp2_with fail
  refine (known_any B nd k w hc0).mono ?_
  rintro e w' ⟨rfl, rfl⟩
  rw [HK.out]
  by_cases hcl : s = 1 ∧ 0 < (r k).getD 0
  · obtain ⟨rfl, hpos⟩ := hcl
    have hrk : (r k).isSome = true := by
      cases hr : r k with
      | none => rw [hr] at hpos; simp at hpos
      | some x => rfl
    have hr0 : ∀ j, upd r k none j = none := fun j => by
      unfold upd
      by_cases e : j = k
      · rw [if_pos e]
      · rw [if_neg e]; exact HONE.out rfl k j hrk e
    have hu0 : ∀ j, upd u k none j = none := fun j => by
      have := upd_none_sub HD.out.sub k j
      rw [hr0 j] at this
      cases hx : upd u k none j with
      | none => rfl
      | some x => rw [hx] at this; cases this rfl
    have HR0 := Aside0.mk (funext hr0)
    have HU0 := Aside0.mk (funext hu0)
    clear hr0 hu0 hrk
    generalize (r k).getD 0 = c at hlk hpos
    go_wp2_with (first | (at_len; refine wp_len rfl _ rfl b1 1 rfl HLEN.out ?_) | ((with_reducible refine gate_clear (x := .tmp 30) rfl ?_); refine wp_clear rfl _ rfl b1 n r rfl HD.out.m1 ?_; intro w1 hM1 hT1; have hK1 : Kept (fun x => x = b1) w w1 := Kept.turned hT1 rfl; have hc5 : w1.cell? ⟨B, 5, none⟩ = some (.map (some b2)) := (HD.out.row.of_block (hK1.block B HD.out.row.lt (fun e => HD.out.ne1 e.symm))).cell (by decide); have HM2 := Aside0.mk (HD.out.m2.of_block (hK1.block b2 HD.out.m2.lt (fun e => HD.out.ne3 e.symm)))) | ((with_reducible refine gate_clear (x := .tmp 34) rfl ?_); refine wp_clear rfl _ rfl b2 n u rfl HM2.out ?_; intro w2 hM2 hT2))
    go_ret
    have hK2 : Kept (fun x => x = b2) w1 w2 := Kept.turned hT2 rfl
    have hR1 := HD.out.row.of_block (hK1.block B HD.out.row.lt (fun e => HD.out.ne1 e.symm))
    have hko : Kept (Own B b1 b2) w w2 := (Kept.turned hT1 (.inr (.inl rfl))).trans (Kept.turned hT2 (.inr (.inr rfl)))
    refine ⟨rfl, { row := hR1.of_block (hK2.block B hR1.lt (fun e => HD.out.ne2 e.symm)), m1 := by rw [HR0.out]; exact (hM1.of_block (hK2.block b1 hM1.lt HD.out.ne3)).mono (by omega), m2 := by rw [HU0.out]; exact hM2.mono (by omega), ne1 := HD.out.ne1, ne2 := HD.out.ne2, ne3 := HD.out.ne3, pos := fun j c hj => HD.out.pos j c (upd_none_some hj), sub := upd_none_sub HD.out.sub k, fit := HD.out.fit, ub := fun j c hj => HD.out.ub j c (upd_none_some hj), now0 := HD.out.now0 }, hko⟩
  · have fin : ∀ w1 w2, MapAs w1 b1 n (upd r k none) → w.mapTurned w1 b1 → MapAs w2 b2 n (upd u k none) → w1.mapTurned w2 b2 → Det w2 B nd st bn now b1 b2 n (upd r k none) (upd u k none) ∧ Kept (Own B b1 b2) w w2 := by
      intro w1 w2 hM1 hT1 hM2 hT2
      have hK1 : Kept (fun x => x = b1) w w1 := Kept.turned hT1 rfl
      have hK2 : Kept (fun x => x = b2) w1 w2 := Kept.turned hT2 rfl
      have hR1 := HD.out.row.of_block (hK1.block B HD.out.row.lt (fun e => HD.out.ne1 e.symm))
      have hko : Kept (Own B b1 b2) w w2 := (Kept.turned hT1 (.inr (.inl rfl))).trans (Kept.turned hT2 (.inr (.inr rfl)))
      exact ⟨{ row := hR1.of_block (hK2.block B hR1.lt (fun e => HD.out.ne2 e.symm)), m1 := hM1.of_block (hK2.block b1 hM1.lt HD.out.ne3), m2 := hM2, ne1 := HD.out.ne1, ne2 := HD.out.ne2, ne3 := HD.out.ne3, pos := fun j c hj => HD.out.pos j c (upd_none_some hj), sub := upd_none_sub HD.out.sub k, fit := HD.out.fit, ub := fun j c hj => HD.out.ub j c (upd_none_some hj), now0 := HD.out.now0 }, hko⟩
    have FIN := Aside0.mk fin
    clear fin
    by_cases hs1 : s = 1
    · subst hs1
      have hle : (r k).getD 0 ≤ 0 := by
        rcases Int.lt_or_le 0 ((r k).getD 0) with h | h
        · exact absurd ⟨rfl, h⟩ hcl
        · exact h
      clear hcl
      generalize (r k).getD 0 = c at hlk hle
      go_wp2_with (first | (at_len; refine wp_len rfl _ rfl b1 1 rfl HLEN.out ?_) | (at_delete; refine wp_del rfl _ _ rfl b1 n r rfl HD.out.m1 k rfl hkw ?_; intro w1 hM1 hT1; have hK1 : Kept (fun x => x = b1) w w1 := Kept.turned hT1 rfl; have hc5 : w1.cell? ⟨B, 5, none⟩ = some (.map (some b2)) := (HD.out.row.of_block (hK1.block B HD.out.row.lt (fun e => HD.out.ne1 e.symm))).cell (by decide); have HM2 := Aside0.mk (HD.out.m2.of_block (hK1.block b2 HD.out.m2.lt (fun e => HD.out.ne3 e.symm)))) | (at_delete; refine wp_del rfl _ _ rfl b2 n u rfl HM2.out k rfl hkw ?_; intro w2 hM2 hT2))
      go_ret
      exact ⟨rfl, FIN.out w1 w2 hM1 hT1 hM2 hT2⟩
    · have hs1I : ((s : Int) == 1) = false := beq_eq_false_iff_ne.2 (by omega)
      clear hcl
      go_wp2_with (first | (at_len; refine wp_len rfl _ rfl b1 s rfl HLEN.out ?_) | (at_delete; refine wp_del rfl _ _ rfl b1 n r rfl HD.out.m1 k rfl hkw ?_; intro w1 hM1 hT1; have hK1 : Kept (fun x => x = b1) w w1 := Kept.turned hT1 rfl; have hc5 : w1.cell? ⟨B, 5, none⟩ = some (.map (some b2)) := (HD.out.row.of_block (hK1.block B HD.out.row.lt (fun e => HD.out.ne1 e.symm))).cell (by decide); have HM2 := Aside0.mk (HD.out.m2.of_block (hK1.block b2 HD.out.m2.lt (fun e => HD.out.ne3 e.symm)))) | (at_delete; refine wp_del rfl _ _ rfl b2 n u rfl HM2.out k rfl hkw ?_; intro w2 hM2 hT2))
      go_ret
      exact ⟨rfl, FIN.out w1 w2 hM1 hT1 hM2 hT2⟩
def Fits (nd st bn : Int) : Prop := 1 ≤ nd ∧ nd ≤ 16 ∧ 1 ≤ st ∧ st ≤ 64 ∧ 1 ≤ bn ∧ bn ≤ 1024
theorem new_bad (h : ¬ Fits nd st bn) : Calls Try.prog 9 #[.int .i64 nd, .int .i64 st, .int .i64 bn] w fun e w' => e = .returned (.tuple #[.pointer none, .int .i64 1]) ∧ w = w' := by
  unfold Fits at h
  have h1 : nd < 1 ∨ 16 < nd ∨ st < 1 ∨ 64 < st ∨ bn < 1 ∨ 1024 < bn := by omega
  clear h
  go_enter Try.func9, Try.ntmps9
  by_cases a0 : nd < 1
  · go_wp2
    go_ret2
    exact ⟨rfl, rfl⟩
  by_cases a1 : 16 < nd
  · go_wp2
    go_ret2
    exact ⟨rfl, rfl⟩
  by_cases a2 : st < 1
  · go_wp2
    go_ret2
    exact ⟨rfl, rfl⟩
  by_cases a3 : 64 < st
  · go_wp2
    go_ret2
    exact ⟨rfl, rfl⟩
  by_cases a4 : bn < 1
  · go_wp2
    go_ret2
    exact ⟨rfl, rfl⟩
  have a5 : 1024 < bn := by omega
  go_wp2
  go_ret2
  exact ⟨rfl, rfl⟩
theorem new_any (h : Fits nd st bn) : Calls Try.prog 9 #[.int .i64 nd, .int .i64 st, .int .i64 bn] w fun e w' => ∃ B b1 b2, e = .returned (.tuple #[.pointer (some ⟨B, 0, none⟩), .int .i64 0]) ∧ Det w' B nd st bn 0 b1 b2 0 (fun _ => none) (fun _ => none) ∧ Below w.heap.size w w' ∧ w.heap.size ≤ B ∧ w.heap.size ≤ b1 ∧ w.heap.size ≤ b2 := by
  have HF := Aside0.mk h
  obtain ⟨f0, f1, f2, f3, f4, f5⟩ := h
  have hmm := @run_makeMap Try.prog
  go_enter Try.func9, Try.ntmps9
  go_wp2
  go_ret2
  have hb1 := (Below.refl w.heap.size w).alloc (Nat.le_refl _) (.map #[] 0)
  have hb2 := hb1.alloc hb1.size (.map #[] 0)
  have hb3 := hb2.alloc hb2.size (.cells #[.int .i64 nd, .int .i64 st, .int .i64 bn, .int .i64 0, .map (some w.heap.size), .map (some (w.heap.size + 1))] 58)
  have s1 : (w.alloc (.map #[] 0)).heap.size = w.heap.size + 1 := by simp
  have s2 : ((w.alloc (.map #[] 0)).alloc (.map #[] 0)).heap.size = w.heap.size + 1 + 1 := by simp
  have m1 := MapAs.made w
  have m2 := MapAs.made (w.alloc (.map #[] 0))
  have hn := Go.heap_alloc_new ((w.alloc (.map #[] 0)).alloc (.map #[] 0)) (.cells #[.int .i64 nd, .int .i64 st, .int .i64 bn, .int .i64 0, .map (some w.heap.size), .map (some (w.heap.size + 1))] 58)
  rw [s1] at m2
  rw [s2] at hn
  refine ⟨w.heap.size + 1 + 1, w.heap.size, w.heap.size + 1, rfl, { row := ⟨_, hn, rfl, fun i hi => ?_⟩, m1 := m1.of_block ?_, m2 := m2.of_block ?_, ne1 := by omega, ne2 := by omega, ne3 := by omega, pos := fun k c h => (by cases h), sub := fun k h => (by cases h), fit := HF.out, ub := fun k e h => (by cases h), now0 := Int.le_refl _ }, hb3, by omega, Nat.le_refl _, by omega⟩
  · have e : i = 0 ∨ i = 1 ∨ i = 2 ∨ i = 3 ∨ i = 4 ∨ i = 5 := by omega
    rcases e with e | e | e | e | e | e <;> subst e <;> rfl
  · rw [Go.heap_alloc_old _ _ (by rw [s2]; omega), Go.heap_alloc_old _ _ (by rw [s1]; omega)]
  · rw [Go.heap_alloc_old _ _ (by rw [s2]; omega)]
end
end Go.Proofs.Ytbheegamibdbhaa.Det
