/- The document's MD5: one block, all blocks. -/
import Derived.Test.YthnobhifepnakaaDoorRefPure
set_option linter.unusedVariables false
set_option linter.unusedSimpArgs false
namespace Go.Proofs.YthnobhifepnakaaDoor.RefMD5
open Go.RowKit Go.Proofs.YthnobhifepnakaaDoorW.PrintWords Go.Proofs.YthnobhifepnakaaDoorW.PrintLast Go.Proofs.YthnobhifepnakaaDoorW.PrintMore
open Go.Proofs.YthnobhifepnakaaDoor.Base Go.Proofs.YthnobhifepnakaaDoor.StepsRef Go.Proofs.YthnobhifepnakaaDoor.Words Go.Proofs.YthnobhifepnakaaDoor.PDigestMD5s
open Go.Proofs.YthnobhifepnakaaDoor.Md5Pure (St mdStep mdSteps mdBlock wordAt fF gG K R M rotl plus bytes4 told first blkN tail md5 padN len8)
def fL (s : St) : List Value := [.int .i64 (s.a : Nat), .int .i64 (s.b : Nat), .int .i64 (s.c : Nat), .int .i64 (s.d : Nat)]
def fV (s : St) : Array Value := #[.int .i64 (s.a : Nat), .int .i64 (s.b : Nat), .int .i64 (s.c : Nat), .int .i64 (s.d : Nat)]
def zeroF : Array Value := #[.int .i64 0, .int .i64 0, .int .i64 0, .int .i64 0]
/-- the document's row: a, d, c and the values of b -/
def rv (m : Nat → Nat) (s : St) : Nat → Nat
  | 0 => s.a
  | 1 => s.d
  | 2 => s.c
  | j + 3 => (mdSteps m s j).b
theorem rv_a (m : Nat → Nat) (s : St) : ∀ k, rv m s k = (mdSteps m s k).a
  | 0 => rfl
  | 1 => rfl
  | 2 => rfl
  | k + 3 => rfl
theorem rv_d (m : Nat → Nat) (s : St) : ∀ k, rv m s (k + 1) = (mdSteps m s k).d
  | 0 => rfl
  | 1 => rfl
  | k + 2 => rfl
theorem rv_c (m : Nat → Nat) (s : St) : ∀ k, rv m s (k + 2) = (mdSteps m s k).c
  | 0 => rfl
  | k + 1 => rfl
theorem rv_b (m : Nat → Nat) (s : St) (k : Nat) : rv m s (k + 3) = (mdSteps m s k).b := rfl
def cR (m : Nat → Nat) (s : St) (k i : Nat) : Value := .int .i64 ((if i < k then rv m s i else 0 : Nat) : Int)
theorem cR_next (m : Nat → Nat) (s : St) (k i : Nat) (x : Nat) (hx : x = rv m s k) : (if i = k then Value.int .i64 (x : Int) else cR m s k i) = cR m s (k + 1) i := by
  subst hx
  unfold cR
  by_cases h : i = k
  · subst h; rw [if_pos rfl, if_pos (by omega)]
  · rw [if_neg h]
    by_cases h2 : i < k
    · rw [if_pos h2, if_pos (by omega)]
    · rw [if_neg h2, if_neg (by omega)]
theorem cR_at (m : Nat → Nat) (s : St) (k i : Nat) (h : i < k) : cR m s k i = .int .i64 (rv m s i : Nat) := by unfold cR; rw [if_pos h]
theorem cR_zero (m : Nat → Nat) (s : St) (i : Nat) : cR m s 0 i = .int .i64 0 := by unfold cR; simp
/-- what the three blocks hold -/
structure Mem (w wr : World) (s : St) (f : Nat → Value) : Prop where mk ::
  (st : wr.heap[w.heap.size]? = some (.cells (fV s) 75 (0, 0)))
  (re : wr.heap[w.heap.size + 1]? = some (.cells zeroF 75 (0, 0))) (ms : wr.rowIs (w.heap.size + 1 + 1) 96 68 f) (be : Below w.heap.size w wr)
theorem Mem.after {w wr w3 : World} {s : St} {f : Nat → Value} (h : Mem w wr s f) (hb : Below wr.heap.size wr w3) : Mem w w3 s f := by
  have hlt := h.ms.lt
  exact ⟨(hb.block _ (by omega)).trans h.st, (hb.block _ (by omega)).trans h.re, h.ms.of_block (hb.block _ hlt), below_then h.be h.be.size hb⟩
theorem Mem.store {w wr : World} {s : St} {f : Nat → Value} (h : Mem w wr s f) (k : Nat) (v : Value) : Mem w (wr.setCell ⟨w.heap.size + 1 + 1, k, none⟩ v) s (fun i => if i = k then v else f i) := by
  refine ⟨?_, ?_, h.ms.set k v, h.be.setCell (by simp; omega) _⟩
  · rw [heap_setCell_other _ _ _ _ (by simp; omega)]; exact h.st
  · rw [heap_setCell_other _ _ _ _ (by simp)]; exact h.re
theorem Mem.congr {w wr : World} {s : St} {f g : Nat → Value} (h : Mem w wr s f) (e : ∀ i, i < 68 → f i = g i) : Mem w wr s g := ⟨h.st, h.re, h.ms.congr e, h.be⟩
theorem Mem.sts {w wr : World} {s : St} {f : Nat → Value} (h : Mem w wr s f) : wr.cell? ⟨w.heap.size, 0, none⟩ = some (.int .i64 (s.a : Nat)) ∧ wr.cell? ⟨w.heap.size, 1, none⟩ = some (.int .i64 (s.b : Nat)) ∧ wr.cell? ⟨w.heap.size, 2, none⟩ = some (.int .i64 (s.c : Nat)) ∧ wr.cell? ⟨w.heap.size, 3, none⟩ = some (.int .i64 (s.d : Nat)) :=
  ⟨cell_of_row _ _ _ _ _ _ h.st, cell_of_row _ _ _ _ _ _ h.st, cell_of_row _ _ _ _ _ _ h.st, cell_of_row _ _ _ _ _ _ h.st⟩
theorem three3 (w : World) (A B C : Obj) : (((w.alloc A).alloc B).alloc C).heap[w.heap.size]? = some A ∧ (((w.alloc A).alloc B).alloc C).heap[w.heap.size + 1]? = some B ∧ (((w.alloc A).alloc B).alloc C).heap[w.heap.size + 1 + 1]? = some C := by
  refine ⟨?_, ?_, ?_⟩
  · rw [Go.heap_alloc_old _ _ (by simp; omega), Go.heap_alloc_old _ _ (by simp), Go.heap_alloc_new]
  · rw [Go.heap_alloc_old _ _ (by simp)]; exact Go.heap_alloc_new (w.alloc A) B |> (by simpa using ·)
  · exact Go.heap_alloc_new ((w.alloc A).alloc B) C |> (by simpa using ·)
theorem zero68_row (w : World) (b : Nat) (t : TypeId) (f : Nat → Value) (h : w.heap[b]? = some (.cells Tryd.zeroCells96 t (0, 0))) (hf : ∀ i, i < 68 → f i = .int .i64 0) : w.rowIs b t 68 f := by
  refine ⟨_, h, rfl, fun i hi => ?_⟩
  rw [hf i hi]
  have : ∀ i : Fin 68, Tryd.zeroCells96[i.1]? = some (.int .i64 0) := by
    have e : Tryd.zeroCells96 = (List.replicate 68 (Value.int .i64 0)).toArray := rfl
    intro i
    rw [e, List.getElem?_toArray, List.getElem?_replicate, if_pos i.2]
  exact this ⟨i, hi⟩
set_option maxRecDepth 100000 in
set_option maxHeartbeats 4000000 in
theorem block_any (s : St) (t : ByteArray) (at_ : Nat) (w : World) (hs : s.ok) (h : at_ + 64 ≤ t.size) (ht : t.size ≤ 4611686018427387904) (hT : RTabs w) :
    Calls Tryd.prog 51 #[.agg (fV s), .string t, .int .i64 (at_ : Nat)] w fun e w' => e = .returned (.agg (fV (mdBlock s (blk t at_)))) ∧ Below w.heap.size w w' := by
  have HT := Aside0.mk hT
  clear hT
  obtain ⟨m, hm⟩ : ∃ m, m = wordAt (blk t at_) := ⟨_, rfl⟩
  have HMM := Aside0.mk hm
  clear hm
  have h3 := three3 w (.cells (fV s) 75) (.cells zeroF 75) (.cells Tryd.zeroCells96 96)
  have HM0 := Aside0.mk (Mem.mk h3.1 h3.2.1 (zero68_row _ _ _ (cR m s 0) h3.2.2 (fun i hi => cR_zero m s i)) ((((Below.refl w.heap.size w).alloc (Nat.le_refl _) _).alloc (by simp) _).alloc (by simp; omega) _))
  clear h3
  unfold zeroF at HM0
  go_enter Tryd.func51, Tryd.ntmps51
  go_wp2_with ((with_reducible refine gate_load (ty := 3) (x := .tmp 13) rfl ?_); have HM := Aside0.mk HM0.out; clear HM0; have hcs := HM.out.sts; generalize ((w.alloc (Obj.cells (fV s) 75)).alloc (Obj.cells #[Value.int IntKind.i64 0, Value.int IntKind.i64 0, Value.int IntKind.i64 0, Value.int IntKind.i64 0] 75)).alloc (Obj.cells Tryd.zeroCells96 96) = wr at HM hcs ⊢; obtain ⟨hca, hcb, hcc, hcd⟩ := hcs; have hz0 := HM.out.ms.cell (i := 0) (by decide); have hz1 := HM.out.ms.cell (i := 1) (by decide); have hz2 := HM.out.ms.cell (i := 2) (by decide); have hz3 := HM.out.ms.cell (i := 3) (by decide); have hf0 := HM.out.ms.frozen 0; have hf1 := HM.out.ms.frozen 1; have hf2 := HM.out.ms.frozen 2; have hf3 := HM.out.ms.frozen 3)
  have HM := Aside0.mk (((((HM.out.store 0 (.int .i64 (s.a : Nat))).store 1 (.int .i64 (s.d : Nat))).store 2 (.int .i64 (s.c : Nat))).store 3 (.int .i64 (s.b : Nat))).congr (g := cR m s 4) (fun i hi => by rw [cR_next m s 0 i s.a rfl, cR_next m s 1 i s.d rfl, cR_next m s 2 i s.c rfl, cR_next m s 3 i s.b rfl]))
  clear hca hcb hcc hcd hz0 hz1 hz2 hz3 hf0 hf1 hf2 hf3
  go_loopw [8, 9, 10, 11, 12] (fun iv _ _ _ _ wr => ∃ k : Nat, k ≤ 64 ∧ iv = .int .i64 k ∧ Aside0 (Mem w wr s (cR m s (k + 4)))) (fun iv _ _ _ _ _ => 64 - (intOf iv).toNat)
  case atStart => exact ⟨0, Nat.zero_le _, rfl, HM⟩
  case round =>
    clear HM
    obtain ⟨k, hk, rfl, HM⟩ := hrel
    obtain ⟨wo, rfl⟩ : ∃ wo : World, wo = wr := ⟨_, rfl⟩
    by_cases hlt : k < 64
    · have hok := Md5Pure.mdSteps_ok m s hs k
      have HN := Lib.hid (show (mdSteps m s (k + 1)).b = ((mdSteps m s k).b + Md5Pure.stepX m k (mdSteps m s k)) % 4294967296 from rfl)
      have HV0 := Aside0.mk (show some (cR m s (k + 4) k) = some (.int .i64 ((mdSteps m s k).a : Nat)) by rw [cR_at _ _ _ _ (by omega), rv_a])
      have HV1 := Aside0.mk (show some (cR m s (k + 4) (k + 1)) = some (.int .i64 ((mdSteps m s k).d : Nat)) by rw [cR_at _ _ _ _ (by omega), rv_d])
      have HV2 := Aside0.mk (show some (cR m s (k + 4) (k + 2)) = some (.int .i64 ((mdSteps m s k).c : Nat)) by rw [cR_at _ _ _ _ (by omega), rv_c])
      have HV3 := Aside0.mk (show some (cR m s (k + 4) (k + 3)) = some (.int .i64 ((mdSteps m s k).b : Nat)) by rw [cR_at _ _ _ _ (by omega), rv_b])
      generalize hte : mdSteps m s k = tt at hok HN HV0 HV1 HV2 HV3
      clear hte
      obtain ⟨ta, tb, tc, td⟩ := tt
      obtain ⟨ha, hb, hc, hd⟩ := hok
      simp only [] at HN HV0 HV1 HV2 HV3 ha hb hc hd
      have HRR := Aside0.mk (Md5Pure.R_range k hlt)
      have HG16 := Aside0.mk (Md5Pure.gG_lt k hlt)
      have HKL := Aside0.mk (Md5Pure.K_lt k hlt)
      have HFL := Aside0.mk (Md5Pure.fF_lt (k / 16) tb tc td hb hc hd)
      have HW := Aside0.mk (show ∀ at_ j, wordAt (blk t at_) j < 4294967296 from fun _ _ => Md5Pure.wordAt_lt _ _)
      obtain ⟨q, hqn⟩ : ∃ q : Nat, q = k / 16 := ⟨_, rfl⟩
      have hk0 : k < 68 := by omega
      have hk1 : k + 1 < 68 := by omega
      have hk2 : k + 2 < 68 := by omega
      have hk3 : k + 3 < 68 := by omega
      have hq : (k : Int) / 16 = (q : Int) := by omega
      have hqt : (k : Int).tdiv 16 = (q : Int) := by rw [Int.tdiv_eq_ediv_of_nonneg (by omega)]; exact hq
      have hv1 : Value.int .i64 (wrap64 ((k : Int) + 1)) = .int .i64 ((k : Int) + 1) := by rw [w64 _ (by omega) (by omega)]
      have hv2 : Value.int .i64 (wrap64 ((k : Int) + 2)) = .int .i64 ((k : Int) + 2) := by rw [w64 _ (by omega) (by omega)]
      have hv3 : Value.int .i64 (wrap64 ((k : Int) + 3)) = .int .i64 ((k : Int) + 3) := by rw [w64 _ (by omega) (by omega)]
      have hvq : Value.int .i64 (wrap64 (q : Int)) = .int .i64 (q : Int) := by rw [w64 _ (by omega) (by omega)]
      have hz1 : (0 ≤ (k : Int) + 1) = True := eq_true (by omega)
      have hz2 : (0 ≤ (k : Int) + 2) = True := eq_true (by omega)
      have hz3 : (0 ≤ (k : Int) + 3) = True := eq_true (by omega)
      have hl1 : ((k : Int) + 1 < 68) = True := eq_true (by omega)
      have hl2 : ((k : Int) + 2 < 68) = True := eq_true (by omega)
      have hl3 : ((k : Int) + 3 < 68) = True := eq_true (by omega)
      have ht1 : ((k : Int) + 1).toNat = k + 1 := by omega
      have ht2 : ((k : Int) + 2).toNat = k + 2 := by omega
      have ht3 : ((k : Int) + 3).toNat = k + 3 := by omega
      have HQ := Lib.hid hqn
      clear hqn
      have hc1 := (HM.out.ms.cell hk1).trans HV1.out
      have hc2 := (HM.out.ms.cell hk2).trans HV2.out
      have hc3 := (HM.out.ms.cell hk3).trans HV3.out
      go_wp2
      refine start_ (n := 16) (S := fun w' => w'.cell? ⟨w.heap.size + 1 + 1, k + 3, none⟩ = some (.int .i64 (tb : Nat)) ∧ w'.cell? ⟨w.heap.size + 1 + 1, k + 2, none⟩ = some (.int .i64 (tc : Nat)) ∧ w'.cell? ⟨w.heap.size + 1 + 1, k + 1, none⟩ = some (.int .i64 (td : Nat))) (ds := []) #[false, false, false, false, false, false, false, false, false, false, false, false, false, false, false, false] (by kernel_rfl) rfl rfl ⟨hc3, hc2, hc1⟩ (fun hHeld => ?_)
      refine pure_ (i := 0) (N := some 29) (v := ?_) (a' := ?_) #[true, false, false, false, false, false, false, false, false, false, false, false, false, false, false, false] rfl rfl (by kernel_rfl) (fun _ _ _ h => h) (Or.inl ⟨by rfl, ?_⟩) ?_ ?_
      rotate_left
      · intro w'
        go_simp
        with_reducible rfl
      rotate_left
      · simp only [Act.put, List.setIfInBounds_toArray, List.set_cons_zero, List.set_cons_succ, i64_w, i32_w]
        rfl
      refine pure_ (i := 1) (N := some 30) (v := ?_) (a' := ?_) #[true, true, false, false, false, false, false, false, false, false, false, false, false, false, false, false] rfl rfl (by kernel_rfl) (fun _ _ _ h => h) (Or.inl ⟨by rfl, ?_⟩) ?_ ?_
      rotate_left
      · intro w'
        go_simp
        with_reducible rfl
      rotate_left
      · simp only [Act.put, List.setIfInBounds_toArray, List.set_cons_zero, List.set_cons_succ, i64_w, i32_w]
        rfl
      refine pure_ (i := 2) (N := some 31) (v := ?_) (a' := ?_) #[true, true, true, false, false, false, false, false, false, false, false, false, false, false, false, false] rfl rfl (by kernel_rfl) (fun _ _ _ h => h) (Or.inl ⟨by rfl, ?_⟩) ?_ ?_
      rotate_left
      · intro w'
        go_simp
        with_reducible rfl
      rotate_left
      · simp only [Act.put, List.setIfInBounds_toArray, List.set_cons_zero, List.set_cons_succ, i64_w, i32_w]
        rfl
      refine pure_ (i := 3) (N := some 32) (v := ?_) (a' := ?_) #[true, true, true, true, false, false, false, false, false, false, false, false, false, false, false, false] rfl rfl (by kernel_rfl) (fun _ _ _ h => h) (Or.inl ⟨by rfl, ?_⟩) ?_ ?_
      rotate_left
      · intro w'
        go_simp
        with_reducible rfl
      rotate_left
      · simp only [Act.put, List.setIfInBounds_toArray, List.set_cons_zero, List.set_cons_succ, i64_w, i32_w]
        rfl
      refine pure_ (i := 4) (N := some 33) (v := ?_) (a' := ?_) #[true, true, true, true, true, false, false, false, false, false, false, false, false, false, false, false] rfl rfl (by kernel_rfl) (fun _ _ _ h => h) (Or.inl ⟨by rfl, ?_⟩) ?_ ?_
      rotate_left
      · intro w'
        go_simp
        with_reducible rfl
      rotate_left
      · simp only [Act.put, List.setIfInBounds_toArray, List.set_cons_zero, List.set_cons_succ, i64_w, i32_w]
        rfl
      refine pure_ (i := 6) (N := some 35) (v := ?_) (a' := ?_) #[true, true, true, true, true, false, true, false, false, false, false, false, false, false, false, false] rfl rfl (by kernel_rfl) (fun _ _ _ h => h) (Or.inl ⟨by rfl, ?_⟩) ?_ ?_
      rotate_left
      · intro w'
        go_simp
        with_reducible rfl
      rotate_left
      · simp only [Act.put, List.setIfInBounds_toArray, List.set_cons_zero, List.set_cons_succ, i64_w, i32_w]
        rfl
      refine pure_ (i := 7) (N := some 36) (v := ?_) (a' := ?_) #[true, true, true, true, true, false, true, true, false, false, false, false, false, false, false, false] rfl rfl (by kernel_rfl) (fun _ _ _ h => h) (Or.inl ⟨by rfl, ?_⟩) ?_ ?_
      rotate_left
      · intro w'
        go_simp
        with_reducible rfl
      rotate_left
      · simp only [Act.put, List.setIfInBounds_toArray, List.set_cons_zero, List.set_cons_succ, i64_w, i32_w]
        rfl
      refine pure_ (i := 8) (N := some 37) (v := ?_) (a' := ?_) #[true, true, true, true, true, false, true, true, true, false, false, false, false, false, false, false] rfl rfl (by kernel_rfl) (fun _ _ _ h => h) (Or.inl ⟨by rfl, ?_⟩) ?_ ?_
      rotate_left
      · intro w'
        go_simp
        with_reducible rfl
      rotate_left
      · simp only [Act.put, List.setIfInBounds_toArray, List.set_cons_zero, List.set_cons_succ, i64_w, i32_w]
        rfl
      refine pure_ (i := 10) (N := some 39) (v := ?_) (a' := ?_) #[true, true, true, true, true, false, true, true, true, false, true, false, false, false, false, false] rfl rfl (by kernel_rfl) (fun _ _ _ h => h) (Or.inl ⟨by rfl, ?_⟩) ?_ ?_
      rotate_left
      · intro w'
        go_simp
        with_reducible rfl
      rotate_left
      · simp only [Act.put, List.setIfInBounds_toArray, List.set_cons_zero, List.set_cons_succ, i64_w, i32_w]
        rfl
      refine pure_ (i := 11) (N := some 40) (v := ?_) (a' := ?_) #[true, true, true, true, true, false, true, true, true, false, true, true, false, false, false, false] rfl rfl (by kernel_rfl) (fun _ _ _ h => h) (Or.inl ⟨by rfl, ?_⟩) ?_ ?_
      rotate_left
      · intro w'
        go_simp
        with_reducible rfl
      rotate_left
      · simp only [Act.put, List.setIfInBounds_toArray, List.set_cons_zero, List.set_cons_succ, i64_w, i32_w]
        rfl
      refine pure_ (i := 12) (N := some 41) (v := ?_) (a' := ?_) #[true, true, true, true, true, false, true, true, true, false, true, true, true, false, false, false] rfl rfl (by kernel_rfl) (fun _ _ _ h => h) (Or.inl ⟨by rfl, ?_⟩) ?_ ?_
      rotate_left
      · intro w'
        go_simp
        with_reducible rfl
      rotate_left
      · simp only [Act.put, List.setIfInBounds_toArray, List.set_cons_zero, List.set_cons_succ, i64_w, i32_w]
        rfl
      refine take_ (i := 5) (N := some 34) (v := ?_) (a' := ?_) #[true, true, true, true, true, true, true, true, true, false, true, true, true, false, false, false] rfl rfl (by kernel_rfl) (fun _ _ _ h => h) (Or.inl ⟨by rfl, ?_⟩) hHeld ?_ ?_
      rotate_left
      · rintro w' ⟨s0, s1, s2⟩
        go_simp
        with_reducible rfl
      rotate_left
      · simp only [Act.put, List.setIfInBounds_toArray, List.set_cons_zero, List.set_cons_succ, i64_w, i32_w]
        rfl
      refine take_ (i := 9) (N := some 38) (v := ?_) (a' := ?_) #[true, true, true, true, true, true, true, true, true, true, true, true, true, false, false, false] rfl rfl (by kernel_rfl) (fun _ _ _ h => h) (Or.inl ⟨by rfl, ?_⟩) hHeld ?_ ?_
      rotate_left
      · rintro w' ⟨s0, s1, s2⟩
        go_simp
        with_reducible rfl
      rotate_left
      · simp only [Act.put, List.setIfInBounds_toArray, List.set_cons_zero, List.set_cons_succ, i64_w, i32_w]
        rfl
      refine take_ (i := 13) (N := some 42) (v := ?_) (a' := ?_) #[true, true, true, true, true, true, true, true, true, true, true, true, true, true, false, false] rfl rfl (by kernel_rfl) (fun _ _ _ h => h) (Or.inl ⟨by rfl, ?_⟩) hHeld ?_ ?_
      rotate_left
      · rintro w' ⟨s0, s1, s2⟩
        go_simp
        with_reducible rfl
      rotate_left
      · simp only [Act.put, List.setIfInBounds_toArray, List.set_cons_zero, List.set_cons_succ, i64_w, i32_w]
        rfl
      refine one_ (i := 14) (N := some 43) #[true, true, true, true, true, true, true, true, true, true, true, true, true, true, true, false] rfl rfl (by kernel_rfl) (by decide) (fun K hK => ?_)
      refine goes_ Tryd.func55 (by kernel_rfl) rfl #[.int .i64 (wrap64 ((q : Nat) : Int)), .int .i64 (tb : Nat), .int .i64 (tc : Nat), .int .i64 (td : Nat)] (by rfl) rfl rfl (by simp only [List.map_toArray, List.map_cons, List.map_nil]; rfl) ?_
      rw [hvq]
      with_reducible refine (mixed_any q tb tc td _ hb hc hd).mono ?_
      rintro e w3 ⟨rfl, hd3⟩
      have HM3 := Aside0.mk (HM.out.after (below_drew_left hd3.below))
      refine ⟨_, rfl, ?_⟩
      refine hK.out _ _ ⟨(HM3.out.ms.cell hk3).trans HV3.out, (HM3.out.ms.cell hk2).trans HV2.out, (HM3.out.ms.cell hk1).trans HV1.out⟩ (fun hHeld => ?_)
      clear hK K
      refine norm_ (a' := ?_) ?_ ?_
      rotate_left
      · show Act.put _ (some 43) _ = _
        simp only [Act.put, List.setIfInBounds_toArray, List.set_cons_zero, List.set_cons_succ, i64_w, i32_w]
        rfl
      refine pure_ (i := 15) (N := some 9) (v := ?_) (a' := ?_) #[true, true, true, true, true, true, true, true, true, true, true, true, true, true, true, true] rfl rfl (by kernel_rfl) (fun _ _ _ h => h) (Or.inl ⟨by rfl, ?_⟩) ?_ ?_
      rotate_left
      · intro w'
        go_simp
        with_reducible rfl
      rotate_left
      · simp only [Act.put, List.setIfInBounds_toArray, List.set_cons_zero, List.set_cons_succ, i64_w, i32_w]
        rfl
      refine done_ (by kernel_rfl) ?_
      clear hc1 hc2 hc3 hv1 hv2 hv3 hvq hz1 hz2 hz3 hl1 hl2 hl3 ht1 ht2 ht3 HM hd3
      have HM := HM3
      clear HM3
      go_wp2_with fail
      refine (which_any k hlt w3).mono ?_
      rintro e w4 ⟨rfl, hd⟩
      have HM := Aside0.mk (HM.out.after hd.below)
      clear hd
      generalize hgg : gG k = gg at HG16 ⊢
      have HGG := Lib.hid hgg
      have hgl := HG16.out
      clear hgg
      go_wp2_with fail
      refine (four_any t at_ gg h hgl ht w4).mono ?_
      rintro e w5 ⟨rfl, hd⟩
      have HM := Aside0.mk (HM.out.after hd.below)
      clear hd
      have hmm := HW.out at_ gg
      have HMG := Lib.hid (congrFun HMM.out gg)
      generalize wordAt (blk t at_) gg = mm at hmm HMG ⊢
      have hR := HRR.out
      have hKl := HKL.out
      have hff := HFL.out
      have HR := Aside0.mk (show (mdSteps m s (k + 1)).b = (tb + Md5Pure.rotl ((ta + fF q tb tc td + K k + mm) % 4294967296) (R k)) % 4294967296 by
        rw [HN.out]; unfold Md5Pure.stepX; simp only []; rw [HGG.out, HMG.out, ← HQ.out])
      rw [← HQ.out] at hff
      clear HN HFL
      generalize fF q tb tc td = ff at hff HR ⊢
      obtain ⟨ri, hrin⟩ : ∃ ri : Nat, ri = 4 * q + k % 4 := ⟨_, rfl⟩
      have hq4 : q < 4 := by rw [HQ.out]; omega
      have hri : ri < 16 := by omega
      have hcr0 : Md5Pure.turns.getD ri 0 = R k := by unfold Md5Pure.R; rw [← HQ.out, hrin]
      have HCR := Aside0.mk (show some (Value.int .i64 ((Md5Pure.turns.getD ri 0 : Nat) : Int)) = some (.int .i64 (R k : Nat)) by rw [hcr0])
      clear hcr0
      have hcs := (HT.out.below HM.out.be).sine k hlt
      have hct := ((HT.out.below HM.out.be).turn ri hri).trans HCR.out
      have hc0 := (HM.out.ms.cell hk0).trans HV0.out
      obtain ⟨kk, hkk⟩ : ∃ kk, kk = K k := ⟨_, rfl⟩
      rw [← hkk] at hKl hcs HR
      have HKE := Aside0.mk (show some (Value.int .i64 (K k : Nat)) = some (Value.int .i64 (kk : Nat)) by rw [hkk])
      obtain ⟨rr, hrr⟩ : ∃ rr, rr = R k := ⟨_, rfl⟩
      rw [← hrr] at hR hct HR HCR
      obtain ⟨xx, hxn⟩ : ∃ xx : Nat, xx = (ta + ff + kk + mm) % 4294967296 := ⟨_, rfl⟩
      rw [← hxn] at HR
      have hxx : xx < 4294967296 := by rw [hxn]; exact Nat.mod_lt _ (by decide)
      have HX := Lib.hid (show Int.tmod (wrap64 (wrap64 (wrap64 ((ta : Int) + (ff : Int)) + (kk : Int)) + (mm : Int))) 4294967296 = (xx : Int) by
        rw [w64 ((ta : Int) + (ff : Int)) (by omega) (by omega), w64 ((ta : Int) + (ff : Int) + (kk : Int)) (by omega) (by omega), w64 ((ta : Int) + (ff : Int) + (kk : Int) + (mm : Int)) (by omega) (by omega), Int.tmod_eq_emod_of_nonneg (by omega)]
        omega)
      obtain ⟨r4, hr4⟩ : ∃ r4 : Nat, (k : Int).tmod 4 = (r4 : Int) := ⟨k % 4, by rw [Int.tmod_eq_emod_of_nonneg (by omega)]; omega⟩
      have hr4e : (k : Int) % 4 = (r4 : Int) := by rw [← Int.tmod_eq_emod_of_nonneg (by omega)]; exact hr4
      have hvI : Value.int .i64 (wrap64 (wrap64 (4 * wrap64 (q : Int)) + (r4 : Int))) = .int .i64 (ri : Int) := by
        rw [w64 (q : Int) (by omega) (by omega), w64 (4 * (q : Int)) (by omega) (by omega), w64 _ (by omega) (by omega)]
        congr 1; omega
      have hrl : ((ri : Int) < 16) = True := eq_true (by omega)
      have hkl : ((k : Int) < 68) = True := eq_true (by omega)
      have hkl2 : ((k : Int) < 64) = True := eq_true (by omega)
      have HRI := Aside0.mk hrin
      have HXN := Aside0.mk hxn
      have HRR2 := Aside0.mk hrr
      have HKK2 := Aside0.mk hkk
      clear hrin hxn hrr hkk
      go_wp2
      refine start_ (n := 22) (S := fun w' => w'.cell? ⟨w.heap.size + 1 + 1, k, none⟩ = some (.int .i64 (ta : Nat)) ∧ w'.cell? ⟨5, k, none⟩ = some (.int .i64 (kk : Nat)) ∧ w'.cell? ⟨6, ri, none⟩ = some (.int .i64 (rr : Nat))) (ds := []) #[false, false, false, false, false, false, false, false, false, false, false, false, false, false, false, false, false, false, false, false, false, false] (by kernel_rfl) rfl rfl ⟨hc0, hcs, hct⟩ (fun hHeld => ?_)
      refine pure_ (i := 0) (N := some 52) (v := ?_) (a' := ?_) #[true, false, false, false, false, false, false, false, false, false, false, false, false, false, false, false, false, false, false, false, false, false] rfl rfl (by kernel_rfl) (fun _ _ _ h => h) (Or.inl ⟨by rfl, ?_⟩) ?_ ?_
      rotate_left
      · intro w'
        go_simp
        with_reducible rfl
      rotate_left
      · simp only [Act.put, List.setIfInBounds_toArray, List.set_cons_zero, List.set_cons_succ, i64_w, i32_w]
        rfl
      refine pure_ (i := 1) (N := some 53) (v := ?_) (a' := ?_) #[true, true, false, false, false, false, false, false, false, false, false, false, false, false, false, false, false, false, false, false, false, false] rfl rfl (by kernel_rfl) (fun _ _ _ h => h) (Or.inl ⟨by rfl, ?_⟩) ?_ ?_
      rotate_left
      · intro w'
        go_simp
        with_reducible rfl
      rotate_left
      · simp only [Act.put, List.setIfInBounds_toArray, List.set_cons_zero, List.set_cons_succ, i64_w, i32_w]
        rfl
      refine pure_ (i := 3) (N := some 55) (v := ?_) (a' := ?_) #[true, true, false, true, false, false, false, false, false, false, false, false, false, false, false, false, false, false, false, false, false, false] rfl rfl (by kernel_rfl) (fun _ _ _ h => h) (Or.inl ⟨by rfl, ?_⟩) ?_ ?_
      rotate_left
      · intro w'
        go_simp
        with_reducible rfl
      rotate_left
      · simp only [Act.put, List.setIfInBounds_toArray, List.set_cons_zero, List.set_cons_succ, i64_w, i32_w]
        rfl
      refine pure_ (i := 5) (N := some 57) (v := ?_) (a' := ?_) #[true, true, false, true, false, true, false, false, false, false, false, false, false, false, false, false, false, false, false, false, false, false] rfl rfl (by kernel_rfl) (fun _ _ _ h => h) (Or.inl ⟨by rfl, ?_⟩) ?_ ?_
      rotate_left
      · intro w'
        go_simp
        with_reducible rfl
      rotate_left
      · simp only [Act.put, List.setIfInBounds_toArray, List.set_cons_zero, List.set_cons_succ, i64_w, i32_w]
        rfl
      refine pure_ (i := 6) (N := some 58) (v := ?_) (a' := ?_) #[true, true, false, true, false, true, true, false, false, false, false, false, false, false, false, false, false, false, false, false, false, false] rfl rfl (by kernel_rfl) (fun _ _ _ h => h) (Or.inl ⟨by rfl, ?_⟩) ?_ ?_
      rotate_left
      · intro w'
        go_simp
        with_reducible rfl
      rotate_left
      · simp only [Act.put, List.setIfInBounds_toArray, List.set_cons_zero, List.set_cons_succ, i64_w, i32_w]
        rfl
      refine pure_ (i := 9) (N := some 61) (v := ?_) (a' := ?_) #[true, true, false, true, false, true, true, false, false, true, false, false, false, false, false, false, false, false, false, false, false, false] rfl rfl (by kernel_rfl) (fun _ _ _ h => h) (Or.inl ⟨by rfl, ?_⟩) ?_ ?_
      rotate_left
      · intro w'
        go_simp
        with_reducible rfl
      rotate_left
      · simp only [Act.put, List.setIfInBounds_toArray, List.set_cons_zero, List.set_cons_succ, i64_w, i32_w]
        rfl
      refine pure_ (i := 12) (N := some 64) (v := ?_) (a' := ?_) #[true, true, false, true, false, true, true, false, false, true, false, false, true, false, false, false, false, false, false, false, false, false] rfl rfl (by kernel_rfl) (fun _ _ _ h => h) (Or.inl ⟨by rfl, ?_⟩) ?_ ?_
      rotate_left
      · intro w'
        go_simp
        with_reducible rfl
      rotate_left
      · simp only [Act.put, List.setIfInBounds_toArray, List.set_cons_zero, List.set_cons_succ, i64_w, i32_w]
        rfl
      refine pure_ (i := 13) (N := some 65) (v := ?_) (a' := ?_) #[true, true, false, true, false, true, true, false, false, true, false, false, true, true, false, false, false, false, false, false, false, false] rfl rfl (by kernel_rfl) (fun _ _ _ h => h) (Or.inl ⟨by rfl, ?_⟩) ?_ ?_
      rotate_left
      · intro w'
        go_simp
        with_reducible rfl
      rotate_left
      · simp only [Act.put, List.setIfInBounds_toArray, List.set_cons_zero, List.set_cons_succ, i64_w, i32_w]
        rfl
      refine pure_ (i := 14) (N := some 66) (v := ?_) (a' := ?_) #[true, true, false, true, false, true, true, false, false, true, false, false, true, true, true, false, false, false, false, false, false, false] rfl rfl (by kernel_rfl) (fun _ _ _ h => h) (Or.inl ⟨by rfl, ?_⟩) ?_ ?_
      rotate_left
      · intro w'
        go_simp
        with_reducible rfl
      rotate_left
      · simp only [Act.put, List.setIfInBounds_toArray, List.set_cons_zero, List.set_cons_succ, i64_w, i32_w]
        rfl
      refine pure_ (i := 15) (N := some 67) (v := ?_) (a' := ?_) #[true, true, false, true, false, true, true, false, false, true, false, false, true, true, true, true, false, false, false, false, false, false] rfl rfl (by kernel_rfl) (fun _ _ _ h => h) (Or.inl ⟨by rfl, ?_⟩) ?_ ?_
      rotate_left
      · intro w'
        go_simp
        with_reducible rfl
      rotate_left
      · simp only [Act.put, List.setIfInBounds_toArray, List.set_cons_zero, List.set_cons_succ, i64_w, i32_w]
        rfl
      refine pure_ (i := 16) (N := some 68) (v := ?_) (a' := ?_) #[true, true, false, true, false, true, true, false, false, true, false, false, true, true, true, true, true, false, false, false, false, false] rfl rfl (by kernel_rfl) (fun _ _ _ h => h) (Or.inl ⟨by rfl, ?_⟩) ?_ ?_
      rotate_left
      · intro w'
        go_simp
        with_reducible rfl
      rotate_left
      · simp only [Act.put, List.setIfInBounds_toArray, List.set_cons_zero, List.set_cons_succ, i64_w, i32_w]
        rfl
      refine pure_ (i := 17) (N := some 69) (v := ?_) (a' := ?_) #[true, true, false, true, false, true, true, false, false, true, false, false, true, true, true, true, true, true, false, false, false, false] rfl rfl (by kernel_rfl) (fun _ _ _ h => h) (Or.inl ⟨by rfl, ?_⟩) ?_ ?_
      rotate_left
      · intro w'
        go_simp
        with_reducible rfl
      rotate_left
      · simp only [Act.put, List.setIfInBounds_toArray, List.set_cons_zero, List.set_cons_succ, i64_w, i32_w]
        rfl
      refine pure_ (i := 18) (N := some 70) (v := ?_) (a' := ?_) #[true, true, false, true, false, true, true, false, false, true, false, false, true, true, true, true, true, true, true, false, false, false] rfl rfl (by kernel_rfl) (fun _ _ _ h => h) (Or.inl ⟨by rfl, ?_⟩) ?_ ?_
      rotate_left
      · intro w'
        go_simp
        with_reducible rfl
      rotate_left
      · simp only [Act.put, List.setIfInBounds_toArray, List.set_cons_zero, List.set_cons_succ, i64_w, i32_w]
        rfl
      refine take_ (i := 2) (N := some 54) (v := ?_) (a' := ?_) #[true, true, true, true, false, true, true, false, false, true, false, false, true, true, true, true, true, true, true, false, false, false] rfl rfl (by kernel_rfl) (fun _ _ _ h => h) (Or.inl ⟨by rfl, ?_⟩) hHeld ?_ ?_
      rotate_left
      · rintro w' ⟨s0, s1, s2⟩
        go_simp
        with_reducible rfl
      rotate_left
      · simp only [Act.put, List.setIfInBounds_toArray, List.set_cons_zero, List.set_cons_succ, i64_w, i32_w]
        rfl
      refine pure_ (i := 4) (N := some 56) (v := ?_) (a' := ?_) #[true, true, true, true, true, true, true, false, false, true, false, false, true, true, true, true, true, true, true, false, false, false] rfl rfl (by kernel_rfl) (fun _ _ _ h => h) (Or.inl ⟨by rfl, ?_⟩) ?_ ?_
      rotate_left
      · intro w'
        go_simp
        with_reducible rfl
      rotate_left
      · simp only [Act.put, List.setIfInBounds_toArray, List.set_cons_zero, List.set_cons_succ, i64_w, i32_w]
        rfl
      refine take_ (i := 7) (N := some 59) (v := ?_) (a' := ?_) #[true, true, true, true, true, true, true, true, false, true, false, false, true, true, true, true, true, true, true, false, false, false] rfl rfl (by kernel_rfl) (fun _ _ _ h => h) (Or.inl ⟨by rfl, ?_⟩) hHeld ?_ ?_
      rotate_left
      · rintro w' ⟨s0, s1, s2⟩
        go_simp
        with_reducible rfl
      rotate_left
      · simp only [Act.put, List.setIfInBounds_toArray, List.set_cons_zero, List.set_cons_succ, i64_w, i32_w]
        rfl
      refine pure_ (i := 8) (N := some 60) (v := ?_) (a' := ?_) #[true, true, true, true, true, true, true, true, true, true, false, false, true, true, true, true, true, true, true, false, false, false] rfl rfl (by kernel_rfl) (fun _ _ _ h => h) (Or.inl ⟨by rfl, ?_⟩) ?_ ?_
      rotate_left
      · intro w'
        go_simp
        with_reducible rfl
      rotate_left
      · simp only [Act.put, List.setIfInBounds_toArray, List.set_cons_zero, List.set_cons_succ, i64_w, i32_w]
        rfl
      refine pure_ (i := 10) (N := some 62) (v := ?_) (a' := ?_) #[true, true, true, true, true, true, true, true, true, true, true, false, true, true, true, true, true, true, true, false, false, false] rfl rfl (by kernel_rfl) (fun _ _ _ h => h) (Or.inl ⟨by rfl, ?_⟩) ?_ ?_
      rotate_left
      · intro w'
        go_simp
        with_reducible rfl
      rotate_left
      · simp only [Act.put, List.setIfInBounds_toArray, List.set_cons_zero, List.set_cons_succ, i64_w, i32_w]
        rfl
      refine pure_ (i := 11) (N := some 63) (v := ?_) (a' := ?_) #[true, true, true, true, true, true, true, true, true, true, true, true, true, true, true, true, true, true, true, false, false, false] rfl rfl (by kernel_rfl) (fun _ _ _ h => h) (Or.inl ⟨by rfl, ?_⟩) ?_ ?_
      rotate_left
      · intro w'
        go_simp
        with_reducible rfl
      rotate_left
      · simp only [Act.put, List.setIfInBounds_toArray, List.set_cons_zero, List.set_cons_succ, i64_w, i32_w]
        rfl
      refine take_ (i := 19) (N := some 71) (v := ?_) (a' := ?_) #[true, true, true, true, true, true, true, true, true, true, true, true, true, true, true, true, true, true, true, true, false, false] rfl rfl (by kernel_rfl) (fun _ _ _ h => h) (Or.inl ⟨by rfl, ?_⟩) hHeld ?_ ?_
      rotate_left
      · rintro w' ⟨s0, s1, s2⟩
        go_simp
        with_reducible rfl
      rotate_left
      · simp only [Act.put, List.setIfInBounds_toArray, List.set_cons_zero, List.set_cons_succ, i64_w, i32_w]
        rfl
      refine one_ (i := 20) (N := some 72) #[true, true, true, true, true, true, true, true, true, true, true, true, true, true, true, true, true, true, true, true, true, false] rfl rfl (by kernel_rfl) (by decide) (fun K hK => ?_)
      refine goes_ Tryd.func58 (by kernel_rfl) rfl #[.int .i64 (Int.tmod (wrap64 (wrap64 (wrap64 ((ta : Int) + (ff : Int)) + (kk : Int)) + (mm : Int))) 4294967296), .int .i64 (rr : Nat)] (by rfl) rfl rfl (by simp only [List.map_toArray, List.map_cons, List.map_nil]; rfl) ?_
      rw [HX.out]
      with_reducible refine (turn_any xx rr hxx hR.1 hR.2 _ (HT.out.pows.below (below_drew HM.out.be))).mono ?_
      rintro e w3 ⟨rfl, hd3⟩
      have HM3 := Aside0.mk (HM.out.after (below_drew_left hd3.below))
      refine ⟨_, rfl, ?_⟩
      refine hK.out _ _ ⟨(HM3.out.ms.cell hk0).trans HV0.out, ((HT.out.below HM3.out.be).sine k hlt).trans HKE.out, ((HT.out.below HM3.out.be).turn ri hri).trans HCR.out⟩ (fun hHeld => ?_)
      clear hK K
      refine norm_ (a' := ?_) ?_ ?_
      rotate_left
      · show Act.put _ (some 72) _ = _
        simp only [Act.put, List.setIfInBounds_toArray, List.set_cons_zero, List.set_cons_succ, i64_w, i32_w]
        rfl
      refine pure_ (i := 21) (N := some 12) (v := ?_) (a' := ?_) #[true, true, true, true, true, true, true, true, true, true, true, true, true, true, true, true, true, true, true, true, true, true] rfl rfl (by kernel_rfl) (fun _ _ _ h => h) (Or.inl ⟨by rfl, ?_⟩) ?_ ?_
      rotate_left
      · intro w'
        go_simp
        with_reducible rfl
      rotate_left
      · simp only [Act.put, List.setIfInBounds_toArray, List.set_cons_zero, List.set_cons_succ, i64_w, i32_w]
        rfl
      refine done_ (by kernel_rfl) ?_
      have hrl2 := (Mix.rotl_lt xx rr hxx hR.1 hR.2).1
      clear hc0 hcs hct hvI hrl hkl hkl2 hr4 hr4e HX HM hd3 hq hqt
      generalize rotl xx rr = x at hrl2 HR ⊢
      have hc3 := (HM3.out.ms.cell hk3).trans HV3.out
      have hc4 := HM3.out.ms.cell (i := k + 4) (by omega)
      have hf4 := HM3.out.ms.frozen (k + 4)
      have hrb := rv_b m s (k + 1)
      have HRB := Aside0.mk (show (tb + x) % 4294967296 = rv m s (k + 4) from HR.out.symm)
      clear HR hrb
      go_wp2
      go_roundw
      case rel => exact ⟨k + 1, by omega, by go_num, ⟨(HM3.out.store (k + 4) _).congr (fun i hi => cR_next m s (k + 4) i ((tb + x) % 4294967296) HRB.out)⟩⟩
      case measure => simp [intOf]; omega
    · obtain rfl : k = 64 := by omega
      have hok := Md5Pure.mdSteps_ok m s hs 64
      have hc0 := (HM.out.ms.cell (i := 64) (by decide)).trans (show some (cR m s (64 + 4) 64) = some (.int .i64 ((mdSteps m s 64).a : Nat)) by rw [cR_at _ _ _ _ (by omega), rv_a])
      have hc1 := (HM.out.ms.cell (i := 65) (by decide)).trans (show some (cR m s (64 + 4) 65) = some (.int .i64 ((mdSteps m s 64).d : Nat)) by rw [cR_at _ _ _ _ (by omega), rv_d])
      have hc2 := (HM.out.ms.cell (i := 66) (by decide)).trans (show some (cR m s (64 + 4) 66) = some (.int .i64 ((mdSteps m s 64).c : Nat)) by rw [cR_at _ _ _ _ (by omega), rv_c])
      have hc3 := (HM.out.ms.cell (i := 67) (by decide)).trans (show some (cR m s (64 + 4) 67) = some (.int .i64 ((mdSteps m s 64).b : Nat)) by rw [cR_at _ _ _ _ (by omega), rv_b])
      obtain ⟨hca, hcb, hcc, hcd⟩ := HM.out.sts
      have hth : wo.there (w.heap.size + 1) 0 4 := by
        intro j hj
        rw [Nat.zero_add]
        refine ⟨?_, frozen_of_row _ _ j _ _ HM.out.re⟩
        rw [cell_of_row _ _ j _ _ _ HM.out.re]
        have e : j = 0 ∨ j = 1 ∨ j = 2 ∨ j = 3 := by omega
        rcases e with e | e | e | e <;> subst e <;> rfl
      have HE := Lib.hid (show mdBlock s (blk t at_) = plus s (mdSteps m s 64) by rw [HMM.out]; rfl)
      generalize mdSteps m s 64 = tt at hok HE hc0 hc1 hc2 hc3
      obtain ⟨ta, tb, tc, td⟩ := tt
      obtain ⟨ha, hb, hc, hd⟩ := hok
      obtain ⟨hsa, hsb, hsc, hsd⟩ := hs
      simp only [] at ha hb hc hd hc0 hc1 hc2 hc3
      have hi1 : (Tryd.prog.info? 75).map (·.size) = some 4 := by kernel_rfl
      have h1c : (List.toArray [Value.int .i64 ((((s.a : Nat) : Int) + (ta : Nat)) % 4294967296), .int .i64 ((((s.b : Nat) : Int) + (tb : Nat)) % 4294967296), .int .i64 ((((s.c : Nat) : Int) + (tc : Nat)) % 4294967296), .int .i64 ((((s.d : Nat) : Int) + (td : Nat)) % 4294967296)]).all (·.oneCell') = true := all_oneCell_toArray (by simp [Value.oneCell'])
      go_wp2_with ((with_reducible refine gate_store (ty := 75) (x := .tmp 6) (y := .tmp 107) rfl ?_); refine wpList_store_mid rfl 75 (.tmp 6) (.tmp 107) rfl (w.heap.size + 1) 0 (List.toArray [Value.int .i64 ((((s.a : Nat) : Int) + (ta : Nat)) % 4294967296), .int .i64 ((((s.b : Nat) : Int) + (tb : Nat)) % 4294967296), .int .i64 ((((s.c : Nat) : Int) + (tc : Nat)) % 4294967296), .int .i64 ((((s.d : Nat) : Int) + (td : Nat)) % 4294967296)]) rfl rfl hth hi1 h1c ?_)
      refine bodyPost_ret (v := .agg (fV (mdBlock s (blk t at_)))) ?_ rfl ⟨rfl, StepsRef.below_setCells HM.out.be (by omega) _ _⟩
      rw [HE.out]
      exact results_cell_mid (by rfl) _ _ (w.heap.size + 1) 0 [.int .i64 ((((s.a : Nat) : Int) + (ta : Nat)) % 4294967296), .int .i64 ((((s.b : Nat) : Int) + (tb : Nat)) % 4294967296), .int .i64 ((((s.c : Nat) : Int) + (tc : Nat)) % 4294967296), .int .i64 ((((s.d : Nat) : Int) + (td : Nat)) % 4294967296)] _ (by rfl) (World.rangeAt_setCells_same _ _ _ _ (by simpa using hth)) Tryd.underlying75 rfl hi1
end Go.Proofs.YthnobhifepnakaaDoor.RefMD5
