/- The document's MD5 of one text. -/
import Derived.Test.YthnobhifepnakaaDoorRefBlock
import Derived.Test.YthnobhifepnakaaDoorRefTail
set_option linter.unusedVariables false
set_option linter.unusedSimpArgs false
namespace Go.Proofs.YthnobhifepnakaaDoor.RefMD5
open Go.RowKit Go.Proofs.YthnobhifepnakaaDoorW.PrintWords Go.Proofs.YthnobhifepnakaaDoorW.PrintLast Go.Proofs.YthnobhifepnakaaDoorW.PrintMore
open Go.Proofs.YthnobhifepnakaaDoor.Base Go.Proofs.YthnobhifepnakaaDoor.StepsRef Go.Proofs.YthnobhifepnakaaDoor.Words Go.Proofs.YthnobhifepnakaaDoor.PDigestMD5s
open Go.Proofs.YthnobhifepnakaaDoor.Md5Pure (St mdStep mdSteps mdBlock wordAt plus bytes4 told first blkN tail md5 padN len8)
structure Box (w wr : World) (s : St) : Prop where mk ::
  (st : wr.heap[w.heap.size]? = some (.cells (fV s) 75 (0, 0))) (be : Below w.heap.size w wr) (lt : w.heap.size < wr.heap.size)
theorem Box.after {w wr w3 : World} {s : St} (h : Box w wr s) (hb : Below wr.heap.size wr w3) : Box w w3 s :=
  ⟨(hb.block _ h.lt).trans h.st, below_then h.be h.be.size hb, Nat.lt_of_lt_of_le h.lt hb.size⟩
theorem Box.sts {w wr : World} {s : St} (h : Box w wr s) : wr.cell? ⟨w.heap.size, 0, none⟩ = some (.int .i64 (s.a : Nat)) ∧ wr.cell? ⟨w.heap.size, 1, none⟩ = some (.int .i64 (s.b : Nat)) ∧ wr.cell? ⟨w.heap.size, 2, none⟩ = some (.int .i64 (s.c : Nat)) ∧ wr.cell? ⟨w.heap.size, 3, none⟩ = some (.int .i64 (s.d : Nat)) :=
  ⟨cell_of_row _ _ _ _ _ _ h.st, cell_of_row _ _ _ _ _ _ h.st, cell_of_row _ _ _ _ _ _ h.st, cell_of_row _ _ _ _ _ _ h.st⟩
theorem Box.new (w : World) (s : St) : Box w (w.alloc (.cells (fV s) 75)) s :=
  ⟨Go.heap_alloc_new w _, (Below.refl w.heap.size w).alloc (Nat.le_refl _) _, by simp⟩
theorem told_app (s : St) : ((strOf (bytes4 s.a) ++ strOf (bytes4 s.b)) ++ strOf (bytes4 s.c)) ++ strOf (bytes4 s.d) = strOf (told s) := by
  have e : ∀ a b : ByteArray, a ++ b = strOf (a.data.toList ++ b.data.toList) := fun a b => by
    have h : (a ++ b).data.toList = a.data.toList ++ b.data.toList := by simp
    rw [← h, strOf_data]
  rw [e (strOf (bytes4 s.a)) (strOf (bytes4 s.b)), e _ (strOf (bytes4 s.c)), e _ (strOf (bytes4 s.d))]
  simp only [strOf_toList]
  rfl
set_option maxRecDepth 100000 in
set_option maxHeartbeats 4000000 in
theorem told_any (s : St) (w : World) (hs : s.ok) :
    Calls Tryd.prog 45 #[.agg (fV s)] w fun e w' => e = .returned (.string (strOf (told s))) ∧ Below w.heap.size w w' := by
  have HM0 := Aside0.mk (Box.new w s)
  have ka := fun w => bytes4_any s.a w hs.1
  have kb := fun w => bytes4_any s.b w hs.2.1
  have kc := fun w => bytes4_any s.c w hs.2.2.1
  have kd := fun w => bytes4_any s.d w hs.2.2.2
  have hap := told_app s
  have z : ∀ x, (strOf (bytes4 x)).size = 4 := fun x => rfl
  have za := z s.a
  have zb := z s.b
  have zc := z s.c
  have zd := z s.d
  clear z
  generalize strOf (bytes4 s.a) = tA at ka hap za
  generalize strOf (bytes4 s.b) = tB at kb hap zb
  generalize strOf (bytes4 s.c) = tC at kc hap zc
  generalize strOf (bytes4 s.d) = tD at kd hap zd
  have Ka := Aside0.mk ka
  have Kb := Aside0.mk kb
  have Kc := Aside0.mk kc
  have Kd := Aside0.mk kd
  have HAP := Lib.hid hap
  have g1 : (9223372036854775807 < tA.size + tB.size) = False := eq_false (by omega)
  have g2 : (9223372036854775807 < tA.size + tB.size + tC.size) = False := eq_false (by omega)
  have g3 : (9223372036854775807 < tA.size + tB.size + tC.size + tD.size) = False := eq_false (by omega)
  clear ka kb kc kd hap
  go_enter Tryd.func45, Tryd.ntmps45
  go_wp2
  refine start_ (n := 16) (S := fun w' => w'.cell? ⟨w.heap.size, 0, none⟩ = some (.int .i64 (s.a : Nat)) ∧ w'.cell? ⟨w.heap.size, 1, none⟩ = some (.int .i64 (s.b : Nat)) ∧ w'.cell? ⟨w.heap.size, 2, none⟩ = some (.int .i64 (s.c : Nat)) ∧ w'.cell? ⟨w.heap.size, 3, none⟩ = some (.int .i64 (s.d : Nat))) (ds := []) #[false, false, false, false, false, false, false, false, false, false, false, false, false, false, false, false] (by kernel_rfl) rfl rfl ⟨HM0.out.sts.1, HM0.out.sts.2.1, HM0.out.sts.2.2.1, HM0.out.sts.2.2.2⟩ (fun hHeld => ?_)
  refine pure_ (i := 0) (N := some 3) (v := ?_) (a' := ?_) #[true, false, false, false, false, false, false, false, false, false, false, false, false, false, false, false] rfl rfl (by kernel_rfl) (fun _ _ _ h => h) (Or.inl ⟨by rfl, ?_⟩) ?_ ?_
  rotate_left
  · intro w'
    go_simp
    with_reducible rfl
  rotate_left
  · simp only [Act.put, List.setIfInBounds_toArray, List.set_cons_zero, List.set_cons_succ, i64_w, i32_w]
    rfl
  refine pure_ (i := 3) (N := some 6) (v := ?_) (a' := ?_) #[true, false, false, true, false, false, false, false, false, false, false, false, false, false, false, false] rfl rfl (by kernel_rfl) (fun _ _ _ h => h) (Or.inl ⟨by rfl, ?_⟩) ?_ ?_
  rotate_left
  · intro w'
    go_simp
    with_reducible rfl
  rotate_left
  · simp only [Act.put, List.setIfInBounds_toArray, List.set_cons_zero, List.set_cons_succ, i64_w, i32_w]
    rfl
  refine pure_ (i := 7) (N := some 10) (v := ?_) (a' := ?_) #[true, false, false, true, false, false, false, true, false, false, false, false, false, false, false, false] rfl rfl (by kernel_rfl) (fun _ _ _ h => h) (Or.inl ⟨by rfl, ?_⟩) ?_ ?_
  rotate_left
  · intro w'
    go_simp
    with_reducible rfl
  rotate_left
  · simp only [Act.put, List.setIfInBounds_toArray, List.set_cons_zero, List.set_cons_succ, i64_w, i32_w]
    rfl
  refine pure_ (i := 11) (N := some 14) (v := ?_) (a' := ?_) #[true, false, false, true, false, false, false, true, false, false, false, true, false, false, false, false] rfl rfl (by kernel_rfl) (fun _ _ _ h => h) (Or.inl ⟨by rfl, ?_⟩) ?_ ?_
  rotate_left
  · intro w'
    go_simp
    with_reducible rfl
  rotate_left
  · simp only [Act.put, List.setIfInBounds_toArray, List.set_cons_zero, List.set_cons_succ, i64_w, i32_w]
    rfl
  refine take_ (i := 1) (N := some 4) (v := ?_) (a' := ?_) #[true, true, false, true, false, false, false, true, false, false, false, true, false, false, false, false] rfl rfl (by kernel_rfl) (fun _ _ _ h => h) (Or.inl ⟨by rfl, ?_⟩) hHeld ?_ ?_
  rotate_left
  · rintro w' ⟨s0, s1, s2, s3⟩
    go_simp
    with_reducible rfl
  rotate_left
  · simp only [Act.put, List.setIfInBounds_toArray, List.set_cons_zero, List.set_cons_succ, i64_w, i32_w]
    rfl
  refine take_ (i := 4) (N := some 7) (v := ?_) (a' := ?_) #[true, true, false, true, true, false, false, true, false, false, false, true, false, false, false, false] rfl rfl (by kernel_rfl) (fun _ _ _ h => h) (Or.inl ⟨by rfl, ?_⟩) hHeld ?_ ?_
  rotate_left
  · rintro w' ⟨s0, s1, s2, s3⟩
    go_simp
    with_reducible rfl
  rotate_left
  · simp only [Act.put, List.setIfInBounds_toArray, List.set_cons_zero, List.set_cons_succ, i64_w, i32_w]
    rfl
  refine take_ (i := 8) (N := some 11) (v := ?_) (a' := ?_) #[true, true, false, true, true, false, false, true, true, false, false, true, false, false, false, false] rfl rfl (by kernel_rfl) (fun _ _ _ h => h) (Or.inl ⟨by rfl, ?_⟩) hHeld ?_ ?_
  rotate_left
  · rintro w' ⟨s0, s1, s2, s3⟩
    go_simp
    with_reducible rfl
  rotate_left
  · simp only [Act.put, List.setIfInBounds_toArray, List.set_cons_zero, List.set_cons_succ, i64_w, i32_w]
    rfl
  refine take_ (i := 12) (N := some 15) (v := ?_) (a' := ?_) #[true, true, false, true, true, false, false, true, true, false, false, true, true, false, false, false] rfl rfl (by kernel_rfl) (fun _ _ _ h => h) (Or.inl ⟨by rfl, ?_⟩) hHeld ?_ ?_
  rotate_left
  · rintro w' ⟨s0, s1, s2, s3⟩
    go_simp
    with_reducible rfl
  rotate_left
  · simp only [Act.put, List.setIfInBounds_toArray, List.set_cons_zero, List.set_cons_succ, i64_w, i32_w]
    rfl
  refine one_ (i := 2) (N := some 5) #[true, true, true, true, true, false, false, true, true, false, false, true, true, false, false, false] rfl rfl (by kernel_rfl) (by decide) (fun K hK => ?_)
  refine goes_ Tryd.func52 (by kernel_rfl) rfl #[.int .i64 (s.a : Nat)] (by rfl) rfl rfl (by simp only [List.map_toArray, List.map_cons, List.map_nil]; rfl) ?_
  with_reducible refine (Ka.out _).mono ?_
  rintro e w2 ⟨rfl, hb2⟩
  have HM2 := Aside0.mk (HM0.out.after (below_drew_left hb2))
  refine ⟨_, rfl, ?_⟩
  refine hK.out _ _ ⟨HM2.out.sts.1, HM2.out.sts.2.1, HM2.out.sts.2.2.1, HM2.out.sts.2.2.2⟩ (fun hHeld => ?_)
  clear hK K
  refine norm_ (a' := ?_) ?_ ?_
  rotate_left
  · show Act.put _ (some 5) _ = _
    simp only [Act.put, List.setIfInBounds_toArray, List.set_cons_zero, List.set_cons_succ, i64_w, i32_w]
    rfl
  refine one_ (i := 5) (N := some 8) #[true, true, true, true, true, true, false, true, true, false, false, true, true, false, false, false] rfl rfl (by kernel_rfl) (by decide) (fun K hK => ?_)
  refine goes_ Tryd.func52 (by kernel_rfl) rfl #[.int .i64 (s.b : Nat)] (by rfl) rfl rfl (by simp only [List.map_toArray, List.map_cons, List.map_nil]; rfl) ?_
  with_reducible refine (Kb.out _).mono ?_
  rintro e w5 ⟨rfl, hb5⟩
  have HM5 := Aside0.mk (HM2.out.after hb5)
  refine ⟨_, rfl, ?_⟩
  refine hK.out _ _ ⟨HM5.out.sts.1, HM5.out.sts.2.1, HM5.out.sts.2.2.1, HM5.out.sts.2.2.2⟩ (fun hHeld => ?_)
  clear hK K
  refine norm_ (a' := ?_) ?_ ?_
  rotate_left
  · show Act.put _ (some 8) _ = _
    simp only [Act.put, List.setIfInBounds_toArray, List.set_cons_zero, List.set_cons_succ, i64_w, i32_w]
    rfl
  refine pure_ (i := 6) (N := some 9) (v := ?_) (a' := ?_) #[true, true, true, true, true, true, true, true, true, false, false, true, true, false, false, false] rfl rfl (by kernel_rfl) (fun _ _ _ h => h) (Or.inl ⟨by rfl, ?_⟩) ?_ ?_
  rotate_left
  · intro w'
    go_simp
    with_reducible rfl
  rotate_left
  · simp only [Act.put, List.setIfInBounds_toArray, List.set_cons_zero, List.set_cons_succ, i64_w, i32_w]
    rfl
  refine one_ (i := 9) (N := some 12) #[true, true, true, true, true, true, true, true, true, true, false, true, true, false, false, false] rfl rfl (by kernel_rfl) (by decide) (fun K hK => ?_)
  refine goes_ Tryd.func52 (by kernel_rfl) rfl #[.int .i64 (s.c : Nat)] (by rfl) rfl rfl (by simp only [List.map_toArray, List.map_cons, List.map_nil]; rfl) ?_
  with_reducible refine (Kc.out _).mono ?_
  rintro e w9 ⟨rfl, hb9⟩
  have HM9 := Aside0.mk (HM5.out.after hb9)
  refine ⟨_, rfl, ?_⟩
  refine hK.out _ _ ⟨HM9.out.sts.1, HM9.out.sts.2.1, HM9.out.sts.2.2.1, HM9.out.sts.2.2.2⟩ (fun hHeld => ?_)
  clear hK K
  refine norm_ (a' := ?_) ?_ ?_
  rotate_left
  · show Act.put _ (some 12) _ = _
    simp only [Act.put, List.setIfInBounds_toArray, List.set_cons_zero, List.set_cons_succ, i64_w, i32_w]
    rfl
  refine pure_ (i := 10) (N := some 13) (v := ?_) (a' := ?_) #[true, true, true, true, true, true, true, true, true, true, true, true, true, false, false, false] rfl rfl (by kernel_rfl) (fun _ _ _ h => h) (Or.inl ⟨by rfl, ?_⟩) ?_ ?_
  rotate_left
  · intro w'
    go_simp
    with_reducible rfl
  rotate_left
  · simp only [Act.put, List.setIfInBounds_toArray, List.set_cons_zero, List.set_cons_succ, i64_w, i32_w]
    rfl
  refine one_ (i := 13) (N := some 16) #[true, true, true, true, true, true, true, true, true, true, true, true, true, true, false, false] rfl rfl (by kernel_rfl) (by decide) (fun K hK => ?_)
  refine goes_ Tryd.func52 (by kernel_rfl) rfl #[.int .i64 (s.d : Nat)] (by rfl) rfl rfl (by simp only [List.map_toArray, List.map_cons, List.map_nil]; rfl) ?_
  with_reducible refine (Kd.out _).mono ?_
  rintro e w13 ⟨rfl, hb13⟩
  have HM13 := Aside0.mk (HM9.out.after hb13)
  refine ⟨_, rfl, ?_⟩
  refine hK.out _ _ ⟨HM13.out.sts.1, HM13.out.sts.2.1, HM13.out.sts.2.2.1, HM13.out.sts.2.2.2⟩ (fun hHeld => ?_)
  clear hK K
  refine norm_ (a' := ?_) ?_ ?_
  rotate_left
  · show Act.put _ (some 16) _ = _
    simp only [Act.put, List.setIfInBounds_toArray, List.set_cons_zero, List.set_cons_succ, i64_w, i32_w]
    rfl
  refine pure_ (i := 14) (N := some 17) (v := ?_) (a' := ?_) #[true, true, true, true, true, true, true, true, true, true, true, true, true, true, true, false] rfl rfl (by kernel_rfl) (fun _ _ _ h => h) (Or.inl ⟨by rfl, ?_⟩) ?_ ?_
  rotate_left
  · intro w'
    go_simp
    with_reducible rfl
  rotate_left
  · simp only [Act.put, List.setIfInBounds_toArray, List.set_cons_zero, List.set_cons_succ, i64_w, i32_w]
    rfl
  refine pure_ (i := 15) (N := some 2) (v := ?_) (a' := ?_) #[true, true, true, true, true, true, true, true, true, true, true, true, true, true, true, true] rfl rfl (by kernel_rfl) (fun _ _ _ h => h) (Or.inl ⟨by rfl, ?_⟩) ?_ ?_
  rotate_left
  · intro w'
    go_simp
    with_reducible rfl
  rotate_left
  · simp only [Act.put, List.setIfInBounds_toArray, List.set_cons_zero, List.set_cons_succ, i64_w, i32_w]
    rfl
  refine done_ (by kernel_rfl) ?_
  go_wp2
  go_ret
  exact ⟨by rw [← HAP.out]; rfl, HM13.out.be⟩
theorem setCells_other {b b' : Nat} : ∀ (vs : List Value) (o : Nat) (w : World), b' ≠ b → (w.setCells b o vs).heap[b']? = w.heap[b']?
  | [], _, _, _ => rfl
  | v :: vs, o, w, h => by
    show ((w.setCell ⟨b, o, none⟩ v).setCells b (o + 1) vs).heap[b']? = _
    rw [setCells_other vs (o + 1) _ h, heap_setCell_other _ _ _ _ h]
theorem fL_one (s : St) : (fL s).toArray.all (·.oneCell') = true := all_oneCell_toArray (by simp [fL, Value.oneCell'])
theorem block_L (s : St) (t : ByteArray) (at_ : Nat) (w : World) (hs : s.ok) (h : at_ + 64 ≤ t.size) (ht : t.size ≤ 4611686018427387904) (hT : RTabs w) :
    Calls Tryd.prog 51 #[.agg (fL s).toArray, .string t, .int .i64 (at_ : Nat)] w fun e w' => e = .returned (.agg (fL (mdBlock s (blk t at_))).toArray) ∧ Below w.heap.size w w' := block_any s t at_ w hs h ht hT
theorem told_L (s : St) (w : World) (hs : s.ok) :
    Calls Tryd.prog 45 #[.agg (fL s).toArray] w fun e w' => e = .returned (.string (strOf (told s))) ∧ Below w.heap.size w w' := told_any s w hs
theorem fL_range {w : World} {b : Nat} {t : TypeId} {s : St} (h : w.heap[b]? = some (.cells (fL s).toArray t (0, 0))) : w.rangeAt b 0 (fL s) := by
  intro j v hv
  rw [Nat.zero_add, cell_of_row _ _ _ _ _ _ h]
  simpa using hv
theorem fL_there {w : World} {b : Nat} {t : TypeId} {s : St} (h : w.heap[b]? = some (.cells (fL s).toArray t (0, 0))) : w.there b 0 4 := by
  intro j hj
  rw [Nat.zero_add]
  refine ⟨?_, frozen_of_row _ _ j _ _ h⟩
  rw [cell_of_row _ _ j _ _ _ h]
  have e : j = 0 ∨ j = 1 ∨ j = 2 ∨ j = 3 := by omega
  rcases e with e | e | e | e <;> subst e <;> rfl
theorem fL_set {w : World} {b : Nat} {t : TypeId} {s r : St} (h : w.heap[b]? = some (.cells (fL s).toArray t (0, 0))) : (w.setCells b 0 (fL r)).heap[b]? = some (.cells (fL r).toArray t (0, 0)) := by
  have := Take.heap_setCells b t (fL r) 0 w (fL s) (by show 0 + 4 ≤ 4; decide) h
  rw [this]; rfl
def zeroS : St := ⟨0, 0, 0, 0⟩
/-- the two blocks of blocks -/
structure Two (w wr : World) (s : St) : Prop where mk ::
  (st : wr.heap[w.heap.size]? = some (.cells (fL s).toArray 75 (0, 0))) (re : wr.heap[w.heap.size + 1]? = some (.cells (fL zeroS).toArray 75 (0, 0))) (be : Below w.heap.size w wr)
theorem Two.lt {w wr : World} {s : St} (h : Two w wr s) : w.heap.size + 1 < wr.heap.size := by
  rcases Nat.lt_or_ge (w.heap.size + 1) wr.heap.size with k | k
  · exact k
  · have := h.re; rw [Array.getElem?_eq_none k] at this; cases this
theorem Two.after {w wr w3 : World} {s : St} (h : Two w wr s) (hb : Below wr.heap.size wr w3) : Two w w3 s :=
  ⟨(hb.block _ (by have := h.lt; omega)).trans h.st, (hb.block _ h.lt).trans h.re, below_then h.be h.be.size hb⟩
theorem Two.set {w wr : World} {s : St} (h : Two w wr s) (r : St) : Two w (wr.setCells w.heap.size 0 (fL r)) r :=
  ⟨fL_set h.st, (setCells_other _ _ _ (by omega)).trans h.re, StepsRef.below_setCells h.be (Nat.le_refl _) _ _⟩
theorem Two.new (w : World) (s : St) : Two w ((w.alloc (.cells (fL s).toArray 75)).alloc (.cells (fL zeroS).toArray 75)) s := by
  refine ⟨?_, ?_, ((Below.refl w.heap.size w).alloc (Nat.le_refl _) _).alloc (by simp) _⟩
  · rw [Go.heap_alloc_old _ _ (by simp), Go.heap_alloc_new]
  · exact Go.heap_alloc_new (w.alloc _) _ |> (by simpa using ·)
set_option maxRecDepth 100000 in
set_option maxHeartbeats 4000000 in
theorem blocks_any (s : St) (t : ByteArray) (w : World) (hs : s.ok) (ht : t.size ≤ 4611686018427387904) (hT : RTabs w) :
    Calls Tryd.prog 42 #[.agg (fL s).toArray, .string t] w fun e w' => e = .returned (.agg (fL (blkN s t.data.toList (t.size / 64))).toArray) ∧ Below w.heap.size w w' := by
  have HT := Aside0.mk hT
  have HS := Aside0.mk (fun k => Md5Pure.blkN_ok s hs t.data.toList k)
  have HM := Aside0.mk (Two.new w s)
  have hi : (Tryd.prog.info? 75).map (·.size) = some 4 := by kernel_rfl
  clear hT hs
  unfold zeroS at HM
  go_enter Tryd.func42, Tryd.ntmps42
  go_wp2
  go_loopw [5] (fun iv wr => ∃ k : Nat, k ≤ t.size / 64 ∧ iv = .int .i64 ((64 * k : Nat) : Int) ∧ Aside0 (Two w wr (blkN s t.data.toList k))) (fun iv _ => t.size - (intOf iv).toNat)
  case atStart => exact ⟨0, Nat.zero_le _, rfl, HM⟩
  case round =>
    clear HM
    obtain ⟨k, hk, rfl, HM⟩ := hrel
    obtain ⟨wo, rfl⟩ : ∃ wo : World, wo = wr := ⟨_, rfl⟩
    by_cases hlt : k < t.size / 64
    · have hle : 64 * k + 64 ≤ t.size := by omega
      have HN := Lib.hid (show blkN s t.data.toList (k + 1) = mdBlock (blkN s t.data.toList k) (blk t (64 * k)) from rfl)
      have HK := Aside0.mk (HS.out k)
      generalize blkN s t.data.toList k = st at HN HK HM
      have hrg := fL_range HM.out.st
      generalize hat : 64 * k = at_ at hle HN
      go_wp2_with ((with_reducible refine gate_load (ty := 75) (x := .tmp 2) rfl ?_); refine wpList_load_mid rfl 75 (.tmp 2) rfl w.heap.size 0 rfl (fL st) _ hrg Tryd.underlying75 rfl hi ?_)
      refine (block_L st t at_ wo HK.out hle ht (HT.out.below HM.out.be)).mono ?_
      rintro e w3 ⟨rfl, hb⟩
      have HM := Aside0.mk (HM.out.after hb)
      clear hb hrg
      rw [← HN.out]
      obtain ⟨st2, hst2⟩ : ∃ st2, st2 = blkN s t.data.toList (k + 1) := ⟨_, rfl⟩
      have HST2 := Lib.hid hst2
      rw [← hst2]
      clear hst2
      have hth := fL_there HM.out.st
      have h1c := fL_one st2
      go_wp2_with ((with_reducible refine gate_store (ty := 75) (x := .tmp 2) (y := .tmp 16) rfl ?_); refine wpList_store_mid rfl 75 (.tmp 2) (.tmp 16) rfl w.heap.size 0 (fL st2).toArray rfl rfl hth hi h1c ?_)
      go_roundw
      case rel => exact ⟨k + 1, by omega, by rw [Nat.mul_add, hat]; go_num, ⟨HST2.out ▸ HM.out.set st2⟩⟩
      case measure => simp [intOf]; omega
    · obtain rfl : k = t.size / 64 := by omega
      have hge : t.size < 64 * (t.size / 64) + 64 := by omega
      have hle : 64 * (t.size / 64) ≤ t.size := by omega
      obtain ⟨st, hst⟩ : ∃ st, st = blkN s t.data.toList (t.size / 64) := ⟨_, rfl⟩
      have HST := Lib.hid hst
      rw [← hst] at HM
      clear hst
      generalize 64 * (t.size / 64) = at_ at hge hle
      have hrg := fL_range HM.out.st
      have hth := fL_there HM.out.re
      have h1c := fL_one st
      go_wp2_with (first | ((with_reducible refine gate_load (ty := 75) (x := .tmp 2) rfl ?_); refine wpList_load_mid rfl 75 (.tmp 2) rfl w.heap.size 0 rfl (fL st) _ hrg Tryd.underlying75 rfl hi ?_) | ((with_reducible refine gate_store (ty := 75) (x := .tmp 4) (y := .tmp 17) rfl ?_); refine wpList_store_mid rfl 75 (.tmp 4) (.tmp 17) rfl (w.heap.size + 1) 0 (fL st).toArray rfl rfl hth hi h1c ?_))
      refine bodyPost_ret (v := .agg (fL st).toArray) ?_ rfl ⟨by rw [HST.out], StepsRef.below_setCells HM.out.be (by omega) _ _⟩
      exact results_cell_mid (by rfl) _ _ (w.heap.size + 1) 0 (fL st) _ (by rfl) (World.rangeAt_setCells_same _ _ _ _ hth) Tryd.underlying75 rfl hi
theorem first_any (w : World) : Calls Tryd.prog 43 #[] w fun e w' => e = .returned (.agg (fL first).toArray) ∧ Below w.heap.size w w' := granaryref2_First.calls _ _ _ _ w rfl
theorem app_str (t : ByteArray) (l : List UInt8) : t ++ strOf l = strOf (t.data.toList ++ l) := by
  have h : (t ++ strOf l).data.toList = t.data.toList ++ l := by simp [strOf_toList]
  rw [← h, strOf_data]
theorem md5_ref (L : List UInt8) : told (blkN first (strOf (L ++ tail L.length)).data.toList ((strOf (L ++ tail L.length)).size / 64)) = md5 L := rfl
set_option maxRecDepth 100000 in
set_option maxHeartbeats 4000000 in
theorem refmd5_any (t : ByteArray) (w : World) (ht : t.size ≤ 1099511627776) (hT : RTabs w) :
    Calls Tryd.prog 22 #[.string t] w fun e w' => e = .returned (.string (strOf (md5 t.data.toList))) ∧ Below w.heap.size w w' := by
  have HT := Aside0.mk hT
  have htl : (strOf (tail t.size)).size ≤ 200 := by rw [strOf_size]; simp [tail, len8, padN]; omega
  have hap := app_str t (tail t.size)
  have hmd := md5_ref t.data.toList
  rw [Take.size_toList] at hmd
  have hbs : (strOf (t.data.toList ++ tail t.size)).size ≤ 4611686018427387904 := by rw [← hap, ByteArray.size_append]; omega
  have hok := fun k => Md5Pure.blkN_ok first Md5Pure.first_ok (strOf (t.data.toList ++ tail t.size)).data.toList k
  generalize strOf (t.data.toList ++ tail t.size) = x at hap hmd hbs hok
  have HA := Lib.hid hap
  have HMD := Lib.hid hmd
  have HBS := Aside0.mk hbs
  have HOK := Aside0.mk hok
  have hi : (Tryd.prog.info? 75).map (·.size) = some 4 := by kernel_rfl
  clear hT hap hmd hbs hok
  go_enter Tryd.func22, Tryd.ntmps22
  go_wp2_with fail
  refine (first_any w).mono ?_
  rintro e w1 ⟨rfl, hb⟩
  have HB1 := Aside0.mk hb
  clear hb
  go_wp2_with fail
  refine (tail_any t.size w1 ht).mono ?_
  rintro e w2 ⟨rfl, hb⟩
  have HB2 := Aside0.mk (HB1.out.trans (hb.mono HB1.out.size))
  clear hb
  generalize strOf (tail t.size) = y at htl HA ⊢
  have hadd : (9223372036854775807 < t.size + y.size) = False := eq_false (by omega)
  go_wp2_with fail
  rw [HA.out]
  refine (blocks_any first x w2 Md5Pure.first_ok HBS.out (HT.out.below HB2.out)).mono ?_
  rintro e w3 ⟨rfl, hb⟩
  have HB3 := Aside0.mk (HB2.out.trans (hb.mono HB2.out.size))
  clear hb
  have hk := HOK.out (x.size / 64)
  generalize blkN first x.data.toList (x.size / 64) = st at hk HMD ⊢
  have hn := Go.heap_alloc_new w3 (.cells #[Value.int .i64 0, Value.int .i64 0, Value.int .i64 0, Value.int .i64 0] 75)
  have hth : (w3.alloc (.cells #[Value.int .i64 0, Value.int .i64 0, Value.int .i64 0, Value.int .i64 0] 75)).there w3.heap.size 0 4 := fL_there (s := zeroS) hn
  have h1c := fL_one st
  have hrg := World.rangeAt_setCells_same (w3.alloc (.cells #[Value.int .i64 0, Value.int .i64 0, Value.int .i64 0, Value.int .i64 0] 75)) w3.heap.size 0 (fL st) hth
  have HB4 := Aside0.mk (HB3.out.trans ((StepsRef.below_setCells (((Below.refl w3.heap.size w3).alloc (Nat.le_refl _) (.cells #[Value.int .i64 0, Value.int .i64 0, Value.int .i64 0, Value.int .i64 0] 75))) (Nat.le_refl _) (fL st) 0).mono HB3.out.size))
  go_wp2_with (first | ((with_reducible refine gate_store (ty := 75) (x := .tmp 3) (y := .tmp 10) rfl ?_); refine wpList_store_mid rfl 75 (.tmp 3) (.tmp 10) rfl w3.heap.size 0 (fL st).toArray rfl rfl hth hi h1c ?_) | ((with_reducible refine gate_load (ty := 75) (x := .tmp 3) rfl ?_); refine wpList_load_mid rfl 75 (.tmp 3) rfl w3.heap.size 0 rfl (fL st) _ hrg Tryd.underlying75 rfl hi ?_))
  refine (told_L st _ hk).mono ?_
  rintro e w5 ⟨rfl, hb⟩
  have HB5 := Aside0.mk (HB4.out.trans (hb.mono HB4.out.size))
  clear hb hth hrg
  rw [HMD.out]
  go_wp2
  go_ret
  exact ⟨rfl, HB5.out⟩
end Go.Proofs.YthnobhifepnakaaDoor.RefMD5
