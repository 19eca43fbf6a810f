/- Joined texts of this claim: RefBlock, RefTail, RefMD5, RLoc -/
import Derived.Test.YtljjpdjknnhceaaDoorJRLoc17
import Derived.Test.YtljjpdjknnhceaaDoorJRLoc15
set_option linter.unusedVariables false
set_option linter.unusedSimpArgs false
/- The document's MD5: one block, all blocks. -/
set_option linter.unusedVariables false
set_option linter.unusedSimpArgs false
namespace Go.Proofs.YtljjpdjknnhceaaDoor.RefMD5
open Go.RowKit Go.Proofs.YtljjpdjknnhceaaDoorW.PrintWords Go.Proofs.YtljjpdjknnhceaaDoorW.PrintLast Go.Proofs.YtljjpdjknnhceaaDoorW.PrintMore
open Go.Proofs.YtljjpdjknnhceaaDoor.Base Go.Proofs.YtljjpdjknnhceaaDoor.StepsRef Go.Proofs.YtljjpdjknnhceaaDoor.Words Go.Proofs.YtljjpdjknnhceaaDoor.PRingLocates
open Go.Proofs.YtljjpdjknnhceaaDoor.Md5Pure (St mdStep mdSteps mdBlock wordAt fF gG K R M rotl plus bytes4 told first blkN tail md5 padN len8)
def fL (s : St) : List Value := [.int .i64 (s.a : Nat), .int .i64 (s.b : Nat), .int .i64 (s.c : Nat), .int .i64 (s.d : Nat)]
def fV (s : St) : Array Value := #[.int .i64 (s.a : Nat), .int .i64 (s.b : Nat), .int .i64 (s.c : Nat), .int .i64 (s.d : Nat)]
def zeroF : Array Value := #[.int .i64 0, .int .i64 0, .int .i64 0, .int .i64 0]
/-- the document's row: a, d, c and the values of b -/
def rv (m : Nat → Nat) (s : St) : Nat → Nat
  | 0 => s.a
  | 1 => s.d
  | 2 => s.c
  | j + 3 => (mdSteps m s j).b
theorem rv_a (m : Nat → Nat) (s : St) : ∀ k, rv m s k = (mdSteps m s k).a
  | 0 => rfl
  | 1 => rfl
  | 2 => rfl
  | k + 3 => rfl
theorem rv_d (m : Nat → Nat) (s : St) : ∀ k, rv m s (k + 1) = (mdSteps m s k).d
  | 0 => rfl
  | 1 => rfl
  | k + 2 => rfl
theorem rv_c (m : Nat → Nat) (s : St) : ∀ k, rv m s (k + 2) = (mdSteps m s k).c
  | 0 => rfl
  | k + 1 => rfl
theorem rv_b (m : Nat → Nat) (s : St) (k : Nat) : rv m s (k + 3) = (mdSteps m s k).b := rfl
def cR (m : Nat → Nat) (s : St) (k i : Nat) : Value := .int .i64 ((if i < k then rv m s i else 0 : Nat) : Int)
theorem cR_next (m : Nat → Nat) (s : St) (k i : Nat) (x : Nat) (hx : x = rv m s k) : (if i = k then Value.int .i64 (x : Int) else cR m s k i) = cR m s (k + 1) i := by
  subst hx
  unfold cR
  by_cases h : i = k
  · subst h; rw [if_pos rfl, if_pos (by omega)]
  · rw [if_neg h]
    by_cases h2 : i < k
    · rw [if_pos h2, if_pos (by omega)]
    · rw [if_neg h2, if_neg (by omega)]
theorem cR_at (m : Nat → Nat) (s : St) (k i : Nat) (h : i < k) : cR m s k i = .int .i64 (rv m s i : Nat) := by unfold cR; rw [if_pos h]
theorem cR_zero (m : Nat → Nat) (s : St) (i : Nat) : cR m s 0 i = .int .i64 0 := by unfold cR; simp
/-- what the three blocks hold -/
structure Mem (w wr : World) (s : St) (f : Nat → Value) : Prop where mk ::
  (st : wr.heap[w.heap.size]? = some (.cells (fV s) 148 (0, 0)))
  (re : wr.heap[w.heap.size + 1]? = some (.cells zeroF 148 (0, 0))) (ms : wr.rowIs (w.heap.size + 1 + 1) 185 68 f) (be : Below w.heap.size w wr)
theorem Mem.after {w wr w3 : World} {s : St} {f : Nat → Value} (h : Mem w wr s f) (hb : Below wr.heap.size wr w3) : Mem w w3 s f := by
  have hlt := h.ms.lt
  exact ⟨(hb.block _ (by omega)).trans h.st, (hb.block _ (by omega)).trans h.re, h.ms.of_block (hb.block _ hlt), below_then h.be h.be.size hb⟩
theorem Mem.store {w wr : World} {s : St} {f : Nat → Value} (h : Mem w wr s f) (k : Nat) (v : Value) : Mem w (wr.setCell ⟨w.heap.size + 1 + 1, k, none⟩ v) s (fun i => if i = k then v else f i) := by
  refine ⟨?_, ?_, h.ms.set k v, h.be.setCell (by simp; omega) _⟩
  · rw [heap_setCell_other _ _ _ _ (by simp; omega)]; exact h.st
  · rw [heap_setCell_other _ _ _ _ (by simp)]; exact h.re
theorem Mem.congr {w wr : World} {s : St} {f g : Nat → Value} (h : Mem w wr s f) (e : ∀ i, i < 68 → f i = g i) : Mem w wr s g := ⟨h.st, h.re, h.ms.congr e, h.be⟩
theorem Mem.sts {w wr : World} {s : St} {f : Nat → Value} (h : Mem w wr s f) : wr.cell? ⟨w.heap.size, 0, none⟩ = some (.int .i64 (s.a : Nat)) ∧ wr.cell? ⟨w.heap.size, 1, none⟩ = some (.int .i64 (s.b : Nat)) ∧ wr.cell? ⟨w.heap.size, 2, none⟩ = some (.int .i64 (s.c : Nat)) ∧ wr.cell? ⟨w.heap.size, 3, none⟩ = some (.int .i64 (s.d : Nat)) :=
  ⟨cell_of_row _ _ _ _ _ _ h.st, cell_of_row _ _ _ _ _ _ h.st, cell_of_row _ _ _ _ _ _ h.st, cell_of_row _ _ _ _ _ _ h.st⟩
theorem three3 (w : World) (A B C : Obj) : (((w.alloc A).alloc B).alloc C).heap[w.heap.size]? = some A ∧ (((w.alloc A).alloc B).alloc C).heap[w.heap.size + 1]? = some B ∧ (((w.alloc A).alloc B).alloc C).heap[w.heap.size + 1 + 1]? = some C := by
  refine ⟨?_, ?_, ?_⟩
  · rw [Go.heap_alloc_old _ _ (by simp; omega), Go.heap_alloc_old _ _ (by simp), Go.heap_alloc_new]
  · rw [Go.heap_alloc_old _ _ (by simp)]; exact Go.heap_alloc_new (w.alloc A) B |> (by simpa using ·)
  · exact Go.heap_alloc_new ((w.alloc A).alloc B) C |> (by simpa using ·)
theorem zero68_row (w : World) (b : Nat) (t : TypeId) (f : Nat → Value) (h : w.heap[b]? = some (.cells Tryd.zeroCells185 t (0, 0))) (hf : ∀ i, i < 68 → f i = .int .i64 0) : w.rowIs b t 68 f := by
  refine ⟨_, h, rfl, fun i hi => ?_⟩
  rw [hf i hi]
  have : ∀ i : Fin 68, Tryd.zeroCells185[i.1]? = some (.int .i64 0) := by
    have e : Tryd.zeroCells185 = (List.replicate 68 (Value.int .i64 0)).toArray := rfl
    intro i
    rw [e, List.getElem?_toArray, List.getElem?_replicate, if_pos i.2]
  exact this ⟨i, hi⟩
set_option maxRecDepth 100000 in
set_option maxHeartbeats 4000000 in
theorem block_any (s : St) (t : ByteArray) (at_ : Nat) (w : World) (hs : s.ok) (h : at_ + 64 ≤ t.size) (ht : t.size ≤ 4611686018427387904) (hT : RTabs w) :
    Calls Tryd.prog 119 #[.agg (fV s), .string t, .int .i64 (at_ : Nat)] w fun e w' => e = .returned (.agg (fV (mdBlock s (blk t at_)))) ∧ Below w.heap.size w w' := by
  have HT := Aside0.mk hT
  clear hT
  obtain ⟨m, hm⟩ : ∃ m, m = wordAt (blk t at_) := ⟨_, rfl⟩
  have HMM := Aside0.mk hm
  clear hm
  have h3 := three3 w (.cells (fV s) 148) (.cells zeroF 148) (.cells Tryd.zeroCells185 185)
  have HM0 := Aside0.mk (Mem.mk h3.1 h3.2.1 (zero68_row _ _ _ (cR m s 0) h3.2.2 (fun i hi => cR_zero m s i)) ((((Below.refl w.heap.size w).alloc (Nat.le_refl _) _).alloc (by simp) _).alloc (by simp; omega) _))
  clear h3
  unfold zeroF at HM0
  go_enter Tryd.func119, Tryd.ntmps119
  go_wp2_with ((with_reducible refine gate_load (ty := 3) (x := .tmp 13) rfl ?_); have HM := Aside0.mk HM0.out; clear HM0; have hcs := HM.out.sts; generalize ((w.alloc (Obj.cells (fV s) 148)).alloc (Obj.cells #[Value.int IntKind.i64 0, Value.int IntKind.i64 0, Value.int IntKind.i64 0, Value.int IntKind.i64 0] 148)).alloc (Obj.cells Tryd.zeroCells185 185) = wr at HM hcs ⊢; obtain ⟨hca, hcb, hcc, hcd⟩ := hcs; have hz0 := HM.out.ms.cell (i := 0) (by decide); have hz1 := HM.out.ms.cell (i := 1) (by decide); have hz2 := HM.out.ms.cell (i := 2) (by decide); have hz3 := HM.out.ms.cell (i := 3) (by decide); have hf0 := HM.out.ms.frozen 0; have hf1 := HM.out.ms.frozen 1; have hf2 := HM.out.ms.frozen 2; have hf3 := HM.out.ms.frozen 3)
  have HM := Aside0.mk (((((HM.out.store 0 (.int .i64 (s.a : Nat))).store 1 (.int .i64 (s.d : Nat))).store 2 (.int .i64 (s.c : Nat))).store 3 (.int .i64 (s.b : Nat))).congr (g := cR m s 4) (fun i hi => by rw [cR_next m s 0 i s.a rfl, cR_next m s 1 i s.d rfl, cR_next m s 2 i s.c rfl, cR_next m s 3 i s.b rfl]))
  clear hca hcb hcc hcd hz0 hz1 hz2 hz3 hf0 hf1 hf2 hf3
  go_loopw [8, 9, 10, 11, 12] (fun iv _ _ _ _ wr => ∃ k : Nat, k ≤ 64 ∧ iv = .int .i64 k ∧ Aside0 (Mem w wr s (cR m s (k + 4)))) (fun iv _ _ _ _ _ => 64 - (intOf iv).toNat)
  case atStart => exact ⟨0, Nat.zero_le _, rfl, HM⟩
  case round =>
    clear HM
    obtain ⟨k, hk, rfl, HM⟩ := hrel
    obtain ⟨wo, rfl⟩ : ∃ wo : World, wo = wr := ⟨_, rfl⟩
    by_cases hlt : k < 64
    · have hok := Md5Pure.mdSteps_ok m s hs k
      have HN := Lib.hid (show (mdSteps m s (k + 1)).b = ((mdSteps m s k).b + Md5Pure.stepX m k (mdSteps m s k)) % 4294967296 from rfl)
      have HV0 := Aside0.mk (show some (cR m s (k + 4) k) = some (.int .i64 ((mdSteps m s k).a : Nat)) by rw [cR_at _ _ _ _ (by omega), rv_a])
      have HV1 := Aside0.mk (show some (cR m s (k + 4) (k + 1)) = some (.int .i64 ((mdSteps m s k).d : Nat)) by rw [cR_at _ _ _ _ (by omega), rv_d])
      have HV2 := Aside0.mk (show some (cR m s (k + 4) (k + 2)) = some (.int .i64 ((mdSteps m s k).c : Nat)) by rw [cR_at _ _ _ _ (by omega), rv_c])
      have HV3 := Aside0.mk (show some (cR m s (k + 4) (k + 3)) = some (.int .i64 ((mdSteps m s k).b : Nat)) by rw [cR_at _ _ _ _ (by omega), rv_b])
      generalize hte : mdSteps m s k = tt at hok HN HV0 HV1 HV2 HV3
      clear hte
      obtain ⟨ta, tb, tc, td⟩ := tt
      obtain ⟨ha, hb, hc, hd⟩ := hok
      simp only [] at HN HV0 HV1 HV2 HV3 ha hb hc hd
      have HRR := Aside0.mk (Md5Pure.R_range k hlt)
      have HG16 := Aside0.mk (Md5Pure.gG_lt k hlt)
      have HKL := Aside0.mk (Md5Pure.K_lt k hlt)
      have HFL := Aside0.mk (Md5Pure.fF_lt (k / 16) tb tc td hb hc hd)
      have HW := Aside0.mk (show ∀ at_ j, wordAt (blk t at_) j < 4294967296 from fun _ _ => Md5Pure.wordAt_lt _ _)
      obtain ⟨q, hqn⟩ : ∃ q : Nat, q = k / 16 := ⟨_, rfl⟩
      have hk0 : k < 68 := by omega
      have hk1 : k + 1 < 68 := by omega
      have hk2 : k + 2 < 68 := by omega
      have hk3 : k + 3 < 68 := by omega
      have hq : (k : Int) / 16 = (q : Int) := by omega
      have hqt : (k : Int).tdiv 16 = (q : Int) := by rw [Int.tdiv_eq_ediv_of_nonneg (by omega)]; exact hq
      have hv1 : Value.int .i64 (wrap64 ((k : Int) + 1)) = .int .i64 ((k : Int) + 1) := by rw [w64 _ (by omega) (by omega)]
      have hv2 : Value.int .i64 (wrap64 ((k : Int) + 2)) = .int .i64 ((k : Int) + 2) := by rw [w64 _ (by omega) (by omega)]
      have hv3 : Value.int .i64 (wrap64 ((k : Int) + 3)) = .int .i64 ((k : Int) + 3) := by rw [w64 _ (by omega) (by omega)]
      have hvq : Value.int .i64 (wrap64 (q : Int)) = .int .i64 (q : Int) := by rw [w64 _ (by omega) (by omega)]
      have hz1 : (0 ≤ (k : Int) + 1) = True := eq_true (by omega)
      have hz2 : (0 ≤ (k : Int) + 2) = True := eq_true (by omega)
      have hz3 : (0 ≤ (k : Int) + 3) = True := eq_true (by omega)
      have hl1 : ((k : Int) + 1 < 68) = True := eq_true (by omega)
      have hl2 : ((k : Int) + 2 < 68) = True := eq_true (by omega)
      have hl3 : ((k : Int) + 3 < 68) = True := eq_true (by omega)
      have ht1 : ((k : Int) + 1).toNat = k + 1 := by omega
      have ht2 : ((k : Int) + 2).toNat = k + 2 := by omega
      have ht3 : ((k : Int) + 3).toNat = k + 3 := by omega
      have HQ := Lib.hid hqn
      clear hqn
      have hc1 := (HM.out.ms.cell hk1).trans HV1.out
      have hc2 := (HM.out.ms.cell hk2).trans HV2.out
      have hc3 := (HM.out.ms.cell hk3).trans HV3.out
      go_wp2
      refine start_ (n := 16) (S := fun w' => w'.cell? ⟨w.heap.size + 1 + 1, k + 3, none⟩ = some (.int .i64 (tb : Nat)) ∧ w'.cell? ⟨w.heap.size + 1 + 1, k + 2, none⟩ = some (.int .i64 (tc : Nat)) ∧ w'.cell? ⟨w.heap.size + 1 + 1, k + 1, none⟩ = some (.int .i64 (td : Nat))) (ds := []) #[false, false, false, false, false, false, false, false, false, false, false, false, false, false, false, false] (by kernel_rfl) rfl rfl ⟨hc3, hc2, hc1⟩ (fun hHeld => ?_)
      refine pure_ (i := 0) (N := some 29) (v := ?_) (a' := ?_) #[true, false, false, false, false, false, false, false, false, false, false, false, false, false, false, false] rfl rfl (by kernel_rfl) (fun _ _ _ h => h) (Or.inl ⟨by rfl, ?_⟩) ?_ ?_
      rotate_left
      · intro w'
        go_simp
        with_reducible rfl
      rotate_left
      · simp only [Act.put, List.setIfInBounds_toArray, List.set_cons_zero, List.set_cons_succ, i64_w, i32_w]
        rfl
      refine pure_ (i := 1) (N := some 30) (v := ?_) (a' := ?_) #[true, true, false, false, false, false, false, false, false, false, false, false, false, false, false, false] rfl rfl (by kernel_rfl) (fun _ _ _ h => h) (Or.inl ⟨by rfl, ?_⟩) ?_ ?_
      rotate_left
      · intro w'
        go_simp
        with_reducible rfl
      rotate_left
      · simp only [Act.put, List.setIfInBounds_toArray, List.set_cons_zero, List.set_cons_succ, i64_w, i32_w]
        rfl
      refine pure_ (i := 2) (N := some 31) (v := ?_) (a' := ?_) #[true, true, true, false, false, false, false, false, false, false, false, false, false, false, false, false] rfl rfl (by kernel_rfl) (fun _ _ _ h => h) (Or.inl ⟨by rfl, ?_⟩) ?_ ?_
      rotate_left
      · intro w'
        go_simp
        with_reducible rfl
      rotate_left
      · simp only [Act.put, List.setIfInBounds_toArray, List.set_cons_zero, List.set_cons_succ, i64_w, i32_w]
        rfl
      refine pure_ (i := 3) (N := some 32) (v := ?_) (a' := ?_) #[true, true, true, true, false, false, false, false, false, false, false, false, false, false, false, false] rfl rfl (by kernel_rfl) (fun _ _ _ h => h) (Or.inl ⟨by rfl, ?_⟩) ?_ ?_
      rotate_left
      · intro w'
        go_simp
        with_reducible rfl
      rotate_left
      · simp only [Act.put, List.setIfInBounds_toArray, List.set_cons_zero, List.set_cons_succ, i64_w, i32_w]
        rfl
      refine pure_ (i := 4) (N := some 33) (v := ?_) (a' := ?_) #[true, true, true, true, true, false, false, false, false, false, false, false, false, false, false, false] rfl rfl (by kernel_rfl) (fun _ _ _ h => h) (Or.inl ⟨by rfl, ?_⟩) ?_ ?_
      rotate_left
      · intro w'
        go_simp
        with_reducible rfl
      rotate_left
      · simp only [Act.put, List.setIfInBounds_toArray, List.set_cons_zero, List.set_cons_succ, i64_w, i32_w]
        rfl
      refine pure_ (i := 6) (N := some 35) (v := ?_) (a' := ?_) #[true, true, true, true, true, false, true, false, false, false, false, false, false, false, false, false] rfl rfl (by kernel_rfl) (fun _ _ _ h => h) (Or.inl ⟨by rfl, ?_⟩) ?_ ?_
      rotate_left
      · intro w'
        go_simp
        with_reducible rfl
      rotate_left
      · simp only [Act.put, List.setIfInBounds_toArray, List.set_cons_zero, List.set_cons_succ, i64_w, i32_w]
        rfl
      refine pure_ (i := 7) (N := some 36) (v := ?_) (a' := ?_) #[true, true, true, true, true, false, true, true, false, false, false, false, false, false, false, false] rfl rfl (by kernel_rfl) (fun _ _ _ h => h) (Or.inl ⟨by rfl, ?_⟩) ?_ ?_
      rotate_left
      · intro w'
        go_simp
        with_reducible rfl
      rotate_left
      · simp only [Act.put, List.setIfInBounds_toArray, List.set_cons_zero, List.set_cons_succ, i64_w, i32_w]
        rfl
      refine pure_ (i := 8) (N := some 37) (v := ?_) (a' := ?_) #[true, true, true, true, true, false, true, true, true, false, false, false, false, false, false, false] rfl rfl (by kernel_rfl) (fun _ _ _ h => h) (Or.inl ⟨by rfl, ?_⟩) ?_ ?_
      rotate_left
      · intro w'
        go_simp
        with_reducible rfl
      rotate_left
      · simp only [Act.put, List.setIfInBounds_toArray, List.set_cons_zero, List.set_cons_succ, i64_w, i32_w]
        rfl
      refine pure_ (i := 10) (N := some 39) (v := ?_) (a' := ?_) #[true, true, true, true, true, false, true, true, true, false, true, false, false, false, false, false] rfl rfl (by kernel_rfl) (fun _ _ _ h => h) (Or.inl ⟨by rfl, ?_⟩) ?_ ?_
      rotate_left
      · intro w'
        go_simp
        with_reducible rfl
      rotate_left
      · simp only [Act.put, List.setIfInBounds_toArray, List.set_cons_zero, List.set_cons_succ, i64_w, i32_w]
        rfl
      refine pure_ (i := 11) (N := some 40) (v := ?_) (a' := ?_) #[true, true, true, true, true, false, true, true, true, false, true, true, false, false, false, false] rfl rfl (by kernel_rfl) (fun _ _ _ h => h) (Or.inl ⟨by rfl, ?_⟩) ?_ ?_
      rotate_left
      · intro w'
        go_simp
        with_reducible rfl
      rotate_left
      · simp only [Act.put, List.setIfInBounds_toArray, List.set_cons_zero, List.set_cons_succ, i64_w, i32_w]
        rfl
      refine pure_ (i := 12) (N := some 41) (v := ?_) (a' := ?_) #[true, true, true, true, true, false, true, true, true, false, true, true, true, false, false, false] rfl rfl (by kernel_rfl) (fun _ _ _ h => h) (Or.inl ⟨by rfl, ?_⟩) ?_ ?_
      rotate_left
      · intro w'
        go_simp
        with_reducible rfl
      rotate_left
      · simp only [Act.put, List.setIfInBounds_toArray, List.set_cons_zero, List.set_cons_succ, i64_w, i32_w]
        rfl
      refine take_ (i := 5) (N := some 34) (v := ?_) (a' := ?_) #[true, true, true, true, true, true, true, true, true, false, true, true, true, false, false, false] rfl rfl (by kernel_rfl) (fun _ _ _ h => h) (Or.inl ⟨by rfl, ?_⟩) hHeld ?_ ?_
      rotate_left
      · rintro w' ⟨s0, s1, s2⟩
        go_simp
        with_reducible rfl
      rotate_left
      · simp only [Act.put, List.setIfInBounds_toArray, List.set_cons_zero, List.set_cons_succ, i64_w, i32_w]
        rfl
      refine take_ (i := 9) (N := some 38) (v := ?_) (a' := ?_) #[true, true, true, true, true, true, true, true, true, true, true, true, true, false, false, false] rfl rfl (by kernel_rfl) (fun _ _ _ h => h) (Or.inl ⟨by rfl, ?_⟩) hHeld ?_ ?_
      rotate_left
      · rintro w' ⟨s0, s1, s2⟩
        go_simp
        with_reducible rfl
      rotate_left
      · simp only [Act.put, List.setIfInBounds_toArray, List.set_cons_zero, List.set_cons_succ, i64_w, i32_w]
        rfl
      refine take_ (i := 13) (N := some 42) (v := ?_) (a' := ?_) #[true, true, true, true, true, true, true, true, true, true, true, true, true, true, false, false] rfl rfl (by kernel_rfl) (fun _ _ _ h => h) (Or.inl ⟨by rfl, ?_⟩) hHeld ?_ ?_
      rotate_left
      · rintro w' ⟨s0, s1, s2⟩
        go_simp
        with_reducible rfl
      rotate_left
      · simp only [Act.put, List.setIfInBounds_toArray, List.set_cons_zero, List.set_cons_succ, i64_w, i32_w]
        rfl
      refine one_ (i := 14) (N := some 43) #[true, true, true, true, true, true, true, true, true, true, true, true, true, true, true, false] rfl rfl (by kernel_rfl) (by decide) (fun K hK => ?_)
      refine goes_ Tryd.func135 (by kernel_rfl) rfl #[.int .i64 (wrap64 ((q : Nat) : Int)), .int .i64 (tb : Nat), .int .i64 (tc : Nat), .int .i64 (td : Nat)] (by rfl) rfl rfl (by simp only [List.map_toArray, List.map_cons, List.map_nil]; rfl) ?_
      rw [hvq]
      with_reducible refine (mixed_any q tb tc td _ hb hc hd).mono ?_
      rintro e w3 ⟨rfl, hd3⟩
      have HM3 := Aside0.mk (HM.out.after (below_drew_left hd3.below))
      refine ⟨_, rfl, ?_⟩
      refine hK.out _ _ ⟨(HM3.out.ms.cell hk3).trans HV3.out, (HM3.out.ms.cell hk2).trans HV2.out, (HM3.out.ms.cell hk1).trans HV1.out⟩ (fun hHeld => ?_)
      clear hK K
      refine norm_ (a' := ?_) ?_ ?_
      rotate_left
      · show Act.put _ (some 43) _ = _
        simp only [Act.put, List.setIfInBounds_toArray, List.set_cons_zero, List.set_cons_succ, i64_w, i32_w]
        rfl
      refine pure_ (i := 15) (N := some 9) (v := ?_) (a' := ?_) #[true, true, true, true, true, true, true, true, true, true, true, true, true, true, true, true] rfl rfl (by kernel_rfl) (fun _ _ _ h => h) (Or.inl ⟨by rfl, ?_⟩) ?_ ?_
      rotate_left
      · intro w'
        go_simp
        with_reducible rfl
      rotate_left
      · simp only [Act.put, List.setIfInBounds_toArray, List.set_cons_zero, List.set_cons_succ, i64_w, i32_w]
        rfl
      refine done_ (by kernel_rfl) ?_
      clear hc1 hc2 hc3 hv1 hv2 hv3 hvq hz1 hz2 hz3 hl1 hl2 hl3 ht1 ht2 ht3 HM hd3
      have HM := HM3
      clear HM3
      go_wp2_with fail
      refine (which_any k hlt w3).mono ?_
      rintro e w4 ⟨rfl, hd⟩
      have HM := Aside0.mk (HM.out.after hd.below)
      clear hd
      generalize hgg : gG k = gg at HG16 ⊢
      have HGG := Lib.hid hgg
      have hgl := HG16.out
      clear hgg
      go_wp2_with fail
      refine (four_any t at_ gg h hgl ht w4).mono ?_
      rintro e w5 ⟨rfl, hd⟩
      have HM := Aside0.mk (HM.out.after hd.below)
      clear hd
      have hmm := HW.out at_ gg
      have HMG := Lib.hid (congrFun HMM.out gg)
      generalize wordAt (blk t at_) gg = mm at hmm HMG ⊢
      have hR := HRR.out
      have hKl := HKL.out
      have hff := HFL.out
      have HR := Aside0.mk (show (mdSteps m s (k + 1)).b = (tb + Md5Pure.rotl ((ta + fF q tb tc td + K k + mm) % 4294967296) (R k)) % 4294967296 by
        rw [HN.out]; unfold Md5Pure.stepX; simp only []; rw [HGG.out, HMG.out, ← HQ.out])
      rw [← HQ.out] at hff
      clear HN HFL
      generalize fF q tb tc td = ff at hff HR ⊢
      obtain ⟨ri, hrin⟩ : ∃ ri : Nat, ri = 4 * q + k % 4 := ⟨_, rfl⟩
      have hq4 : q < 4 := by rw [HQ.out]; omega
      have hri : ri < 16 := by omega
      have hcr0 : Md5Pure.turns.getD ri 0 = R k := by unfold Md5Pure.R; rw [← HQ.out, hrin]
      have HCR := Aside0.mk (show some (Value.int .i64 ((Md5Pure.turns.getD ri 0 : Nat) : Int)) = some (.int .i64 (R k : Nat)) by rw [hcr0])
      clear hcr0
      have hcs := (HT.out.below HM.out.be).sine k hlt
      have hct := ((HT.out.below HM.out.be).turn ri hri).trans HCR.out
      have hc0 := (HM.out.ms.cell hk0).trans HV0.out
      obtain ⟨kk, hkk⟩ : ∃ kk, kk = K k := ⟨_, rfl⟩
      rw [← hkk] at hKl hcs HR
      have HKE := Aside0.mk (show some (Value.int .i64 (K k : Nat)) = some (Value.int .i64 (kk : Nat)) by rw [hkk])
      obtain ⟨rr, hrr⟩ : ∃ rr, rr = R k := ⟨_, rfl⟩
      rw [← hrr] at hR hct HR HCR
      obtain ⟨xx, hxn⟩ : ∃ xx : Nat, xx = (ta + ff + kk + mm) % 4294967296 := ⟨_, rfl⟩
      rw [← hxn] at HR
      have hxx : xx < 4294967296 := by rw [hxn]; exact Nat.mod_lt _ (by decide)
      have HX := Lib.hid (show Int.tmod (wrap64 (wrap64 (wrap64 ((ta : Int) + (ff : Int)) + (kk : Int)) + (mm : Int))) 4294967296 = (xx : Int) by
        rw [w64 ((ta : Int) + (ff : Int)) (by omega) (by omega), w64 ((ta : Int) + (ff : Int) + (kk : Int)) (by omega) (by omega), w64 ((ta : Int) + (ff : Int) + (kk : Int) + (mm : Int)) (by omega) (by omega), Int.tmod_eq_emod_of_nonneg (by omega)]
        omega)
      obtain ⟨r4, hr4⟩ : ∃ r4 : Nat, (k : Int).tmod 4 = (r4 : Int) := ⟨k % 4, by rw [Int.tmod_eq_emod_of_nonneg (by omega)]; omega⟩
      have hr4e : (k : Int) % 4 = (r4 : Int) := by rw [← Int.tmod_eq_emod_of_nonneg (by omega)]; exact hr4
      have hvI : Value.int .i64 (wrap64 (wrap64 (4 * wrap64 (q : Int)) + (r4 : Int))) = .int .i64 (ri : Int) := by
        rw [w64 (q : Int) (by omega) (by omega), w64 (4 * (q : Int)) (by omega) (by omega), w64 _ (by omega) (by omega)]
        congr 1; omega
      have hrl : ((ri : Int) < 16) = True := eq_true (by omega)
      have hkl : ((k : Int) < 68) = True := eq_true (by omega)
      have hkl2 : ((k : Int) < 64) = True := eq_true (by omega)
      have HRI := Aside0.mk hrin
      have HXN := Aside0.mk hxn
      have HRR2 := Aside0.mk hrr
      have HKK2 := Aside0.mk hkk
      clear hrin hxn hrr hkk
      go_wp2
      refine start_ (n := 22) (S := fun w' => w'.cell? ⟨w.heap.size + 1 + 1, k, none⟩ = some (.int .i64 (ta : Nat)) ∧ w'.cell? ⟨5, k, none⟩ = some (.int .i64 (kk : Nat)) ∧ w'.cell? ⟨6, ri, none⟩ = some (.int .i64 (rr : Nat))) (ds := []) #[false, false, false, false, false, false, false, false, false, false, false, false, false, false, false, false, false, false, false, false, false, false] (by kernel_rfl) rfl rfl ⟨hc0, hcs, hct⟩ (fun hHeld => ?_)
      refine pure_ (i := 0) (N := some 52) (v := ?_) (a' := ?_) #[true, false, false, false, false, false, false, false, false, false, false, false, false, false, false, false, false, false, false, false, false, false] rfl rfl (by kernel_rfl) (fun _ _ _ h => h) (Or.inl ⟨by rfl, ?_⟩) ?_ ?_
      rotate_left
      · intro w'
        go_simp
        with_reducible rfl
      rotate_left
      · simp only [Act.put, List.setIfInBounds_toArray, List.set_cons_zero, List.set_cons_succ, i64_w, i32_w]
        rfl
      refine pure_ (i := 1) (N := some 53) (v := ?_) (a' := ?_) #[true, true, false, false, false, false, false, false, false, false, false, false, false, false, false, false, false, false, false, false, false, false] rfl rfl (by kernel_rfl) (fun _ _ _ h => h) (Or.inl ⟨by rfl, ?_⟩) ?_ ?_
      rotate_left
      · intro w'
        go_simp
        with_reducible rfl
      rotate_left
      · simp only [Act.put, List.setIfInBounds_toArray, List.set_cons_zero, List.set_cons_succ, i64_w, i32_w]
        rfl
      refine pure_ (i := 3) (N := some 55) (v := ?_) (a' := ?_) #[true, true, false, true, false, false, false, false, false, false, false, false, false, false, false, false, false, false, false, false, false, false] rfl rfl (by kernel_rfl) (fun _ _ _ h => h) (Or.inl ⟨by rfl, ?_⟩) ?_ ?_
      rotate_left
      · intro w'
        go_simp
        with_reducible rfl
      rotate_left
      · simp only [Act.put, List.setIfInBounds_toArray, List.set_cons_zero, List.set_cons_succ, i64_w, i32_w]
        rfl
      refine pure_ (i := 5) (N := some 57) (v := ?_) (a' := ?_) #[true, true, false, true, false, true, false, false, false, false, false, false, false, false, false, false, false, false, false, false, false, false] rfl rfl (by kernel_rfl) (fun _ _ _ h => h) (Or.inl ⟨by rfl, ?_⟩) ?_ ?_
      rotate_left
      · intro w'
        go_simp
        with_reducible rfl
      rotate_left
      · simp only [Act.put, List.setIfInBounds_toArray, List.set_cons_zero, List.set_cons_succ, i64_w, i32_w]
        rfl
      refine pure_ (i := 6) (N := some 58) (v := ?_) (a' := ?_) #[true, true, false, true, false, true, true, false, false, false, false, false, false, false, false, false, false, false, false, false, false, false] rfl rfl (by kernel_rfl) (fun _ _ _ h => h) (Or.inl ⟨by rfl, ?_⟩) ?_ ?_
      rotate_left
      · intro w'
        go_simp
        with_reducible rfl
      rotate_left
      · simp only [Act.put, List.setIfInBounds_toArray, List.set_cons_zero, List.set_cons_succ, i64_w, i32_w]
        rfl
      refine pure_ (i := 9) (N := some 61) (v := ?_) (a' := ?_) #[true, true, false, true, false, true, true, false, false, true, false, false, false, false, false, false, false, false, false, false, false, false] rfl rfl (by kernel_rfl) (fun _ _ _ h => h) (Or.inl ⟨by rfl, ?_⟩) ?_ ?_
      rotate_left
      · intro w'
        go_simp
        with_reducible rfl
      rotate_left
      · simp only [Act.put, List.setIfInBounds_toArray, List.set_cons_zero, List.set_cons_succ, i64_w, i32_w]
        rfl
      refine pure_ (i := 12) (N := some 64) (v := ?_) (a' := ?_) #[true, true, false, true, false, true, true, false, false, true, false, false, true, false, false, false, false, false, false, false, false, false] rfl rfl (by kernel_rfl) (fun _ _ _ h => h) (Or.inl ⟨by rfl, ?_⟩) ?_ ?_
      rotate_left
      · intro w'
        go_simp
        with_reducible rfl
      rotate_left
      · simp only [Act.put, List.setIfInBounds_toArray, List.set_cons_zero, List.set_cons_succ, i64_w, i32_w]
        rfl
      refine pure_ (i := 13) (N := some 65) (v := ?_) (a' := ?_) #[true, true, false, true, false, true, true, false, false, true, false, false, true, true, false, false, false, false, false, false, false, false] rfl rfl (by kernel_rfl) (fun _ _ _ h => h) (Or.inl ⟨by rfl, ?_⟩) ?_ ?_
      rotate_left
      · intro w'
        go_simp
        with_reducible rfl
      rotate_left
      · simp only [Act.put, List.setIfInBounds_toArray, List.set_cons_zero, List.set_cons_succ, i64_w, i32_w]
        rfl
      refine pure_ (i := 14) (N := some 66) (v := ?_) (a' := ?_) #[true, true, false, true, false, true, true, false, false, true, false, false, true, true, true, false, false, false, false, false, false, false] rfl rfl (by kernel_rfl) (fun _ _ _ h => h) (Or.inl ⟨by rfl, ?_⟩) ?_ ?_
      rotate_left
      · intro w'
        go_simp
        with_reducible rfl
      rotate_left
      · simp only [Act.put, List.setIfInBounds_toArray, List.set_cons_zero, List.set_cons_succ, i64_w, i32_w]
        rfl
      refine pure_ (i := 15) (N := some 67) (v := ?_) (a' := ?_) #[true, true, false, true, false, true, true, false, false, true, false, false, true, true, true, true, false, false, false, false, false, false] rfl rfl (by kernel_rfl) (fun _ _ _ h => h) (Or.inl ⟨by rfl, ?_⟩) ?_ ?_
      rotate_left
      · intro w'
        go_simp
        with_reducible rfl
      rotate_left
      · simp only [Act.put, List.setIfInBounds_toArray, List.set_cons_zero, List.set_cons_succ, i64_w, i32_w]
        rfl
      refine pure_ (i := 16) (N := some 68) (v := ?_) (a' := ?_) #[true, true, false, true, false, true, true, false, false, true, false, false, true, true, true, true, true, false, false, false, false, false] rfl rfl (by kernel_rfl) (fun _ _ _ h => h) (Or.inl ⟨by rfl, ?_⟩) ?_ ?_
      rotate_left
      · intro w'
        go_simp
        with_reducible rfl
      rotate_left
      · simp only [Act.put, List.setIfInBounds_toArray, List.set_cons_zero, List.set_cons_succ, i64_w, i32_w]
        rfl
      refine pure_ (i := 17) (N := some 69) (v := ?_) (a' := ?_) #[true, true, false, true, false, true, true, false, false, true, false, false, true, true, true, true, true, true, false, false, false, false] rfl rfl (by kernel_rfl) (fun _ _ _ h => h) (Or.inl ⟨by rfl, ?_⟩) ?_ ?_
      rotate_left
      · intro w'
        go_simp
        with_reducible rfl
      rotate_left
      · simp only [Act.put, List.setIfInBounds_toArray, List.set_cons_zero, List.set_cons_succ, i64_w, i32_w]
        rfl
      refine pure_ (i := 18) (N := some 70) (v := ?_) (a' := ?_) #[true, true, false, true, false, true, true, false, false, true, false, false, true, true, true, true, true, true, true, false, false, false] rfl rfl (by kernel_rfl) (fun _ _ _ h => h) (Or.inl ⟨by rfl, ?_⟩) ?_ ?_
      rotate_left
      · intro w'
        go_simp
        with_reducible rfl
      rotate_left
      · simp only [Act.put, List.setIfInBounds_toArray, List.set_cons_zero, List.set_cons_succ, i64_w, i32_w]
        rfl
      refine take_ (i := 2) (N := some 54) (v := ?_) (a' := ?_) #[true, true, true, true, false, true, true, false, false, true, false, false, true, true, true, true, true, true, true, false, false, false] rfl rfl (by kernel_rfl) (fun _ _ _ h => h) (Or.inl ⟨by rfl, ?_⟩) hHeld ?_ ?_
      rotate_left
      · rintro w' ⟨s0, s1, s2⟩
        go_simp
        with_reducible rfl
      rotate_left
      · simp only [Act.put, List.setIfInBounds_toArray, List.set_cons_zero, List.set_cons_succ, i64_w, i32_w]
        rfl
      refine pure_ (i := 4) (N := some 56) (v := ?_) (a' := ?_) #[true, true, true, true, true, true, true, false, false, true, false, false, true, true, true, true, true, true, true, false, false, false] rfl rfl (by kernel_rfl) (fun _ _ _ h => h) (Or.inl ⟨by rfl, ?_⟩) ?_ ?_
      rotate_left
      · intro w'
        go_simp
        with_reducible rfl
      rotate_left
      · simp only [Act.put, List.setIfInBounds_toArray, List.set_cons_zero, List.set_cons_succ, i64_w, i32_w]
        rfl
      refine take_ (i := 7) (N := some 59) (v := ?_) (a' := ?_) #[true, true, true, true, true, true, true, true, false, true, false, false, true, true, true, true, true, true, true, false, false, false] rfl rfl (by kernel_rfl) (fun _ _ _ h => h) (Or.inl ⟨by rfl, ?_⟩) hHeld ?_ ?_
      rotate_left
      · rintro w' ⟨s0, s1, s2⟩
        go_simp
        with_reducible rfl
      rotate_left
      · simp only [Act.put, List.setIfInBounds_toArray, List.set_cons_zero, List.set_cons_succ, i64_w, i32_w]
        rfl
      refine pure_ (i := 8) (N := some 60) (v := ?_) (a' := ?_) #[true, true, true, true, true, true, true, true, true, true, false, false, true, true, true, true, true, true, true, false, false, false] rfl rfl (by kernel_rfl) (fun _ _ _ h => h) (Or.inl ⟨by rfl, ?_⟩) ?_ ?_
      rotate_left
      · intro w'
        go_simp
        with_reducible rfl
      rotate_left
      · simp only [Act.put, List.setIfInBounds_toArray, List.set_cons_zero, List.set_cons_succ, i64_w, i32_w]
        rfl
      refine pure_ (i := 10) (N := some 62) (v := ?_) (a' := ?_) #[true, true, true, true, true, true, true, true, true, true, true, false, true, true, true, true, true, true, true, false, false, false] rfl rfl (by kernel_rfl) (fun _ _ _ h => h) (Or.inl ⟨by rfl, ?_⟩) ?_ ?_
      rotate_left
      · intro w'
        go_simp
        with_reducible rfl
      rotate_left
      · simp only [Act.put, List.setIfInBounds_toArray, List.set_cons_zero, List.set_cons_succ, i64_w, i32_w]
        rfl
      refine pure_ (i := 11) (N := some 63) (v := ?_) (a' := ?_) #[true, true, true, true, true, true, true, true, true, true, true, true, true, true, true, true, true, true, true, false, false, false] rfl rfl (by kernel_rfl) (fun _ _ _ h => h) (Or.inl ⟨by rfl, ?_⟩) ?_ ?_
      rotate_left
      · intro w'
        go_simp
        with_reducible rfl
      rotate_left
      · simp only [Act.put, List.setIfInBounds_toArray, List.set_cons_zero, List.set_cons_succ, i64_w, i32_w]
        rfl
      refine take_ (i := 19) (N := some 71) (v := ?_) (a' := ?_) #[true, true, true, true, true, true, true, true, true, true, true, true, true, true, true, true, true, true, true, true, false, false] rfl rfl (by kernel_rfl) (fun _ _ _ h => h) (Or.inl ⟨by rfl, ?_⟩) hHeld ?_ ?_
      rotate_left
      · rintro w' ⟨s0, s1, s2⟩
        go_simp
        with_reducible rfl
      rotate_left
      · simp only [Act.put, List.setIfInBounds_toArray, List.set_cons_zero, List.set_cons_succ, i64_w, i32_w]
        rfl
      refine one_ (i := 20) (N := some 72) #[true, true, true, true, true, true, true, true, true, true, true, true, true, true, true, true, true, true, true, true, true, false] rfl rfl (by kernel_rfl) (by decide) (fun K hK => ?_)
      refine goes_ Tryd.func138 (by kernel_rfl) rfl #[.int .i64 (Int.tmod (wrap64 (wrap64 (wrap64 ((ta : Int) + (ff : Int)) + (kk : Int)) + (mm : Int))) 4294967296), .int .i64 (rr : Nat)] (by rfl) rfl rfl (by simp only [List.map_toArray, List.map_cons, List.map_nil]; rfl) ?_
      rw [HX.out]
      with_reducible refine (turn_any xx rr hxx hR.1 hR.2 _ (HT.out.pows.below (below_drew HM.out.be))).mono ?_
      rintro e w3 ⟨rfl, hd3⟩
      have HM3 := Aside0.mk (HM.out.after (below_drew_left hd3.below))
      refine ⟨_, rfl, ?_⟩
      refine hK.out _ _ ⟨(HM3.out.ms.cell hk0).trans HV0.out, ((HT.out.below HM3.out.be).sine k hlt).trans HKE.out, ((HT.out.below HM3.out.be).turn ri hri).trans HCR.out⟩ (fun hHeld => ?_)
      clear hK K
      refine norm_ (a' := ?_) ?_ ?_
      rotate_left
      · show Act.put _ (some 72) _ = _
        simp only [Act.put, List.setIfInBounds_toArray, List.set_cons_zero, List.set_cons_succ, i64_w, i32_w]
        rfl
      refine pure_ (i := 21) (N := some 12) (v := ?_) (a' := ?_) #[true, true, true, true, true, true, true, true, true, true, true, true, true, true, true, true, true, true, true, true, true, true] rfl rfl (by kernel_rfl) (fun _ _ _ h => h) (Or.inl ⟨by rfl, ?_⟩) ?_ ?_
      rotate_left
      · intro w'
        go_simp
        with_reducible rfl
      rotate_left
      · simp only [Act.put, List.setIfInBounds_toArray, List.set_cons_zero, List.set_cons_succ, i64_w, i32_w]
        rfl
      refine done_ (by kernel_rfl) ?_
      have hrl2 := (Mix.rotl_lt xx rr hxx hR.1 hR.2).1
      clear hc0 hcs hct hvI hrl hkl hkl2 hr4 hr4e HX HM hd3 hq hqt
      generalize rotl xx rr = x at hrl2 HR ⊢
      have hc3 := (HM3.out.ms.cell hk3).trans HV3.out
      have hc4 := HM3.out.ms.cell (i := k + 4) (by omega)
      have hf4 := HM3.out.ms.frozen (k + 4)
      have hrb := rv_b m s (k + 1)
      have HRB := Aside0.mk (show (tb + x) % 4294967296 = rv m s (k + 4) from HR.out.symm)
      clear HR hrb
      go_wp2
      go_roundw
      case rel => exact ⟨k + 1, by omega, by go_num, ⟨(HM3.out.store (k + 4) _).congr (fun i hi => cR_next m s (k + 4) i ((tb + x) % 4294967296) HRB.out)⟩⟩
      case measure => simp [intOf]; omega
    · obtain rfl : k = 64 := by omega
      have hok := Md5Pure.mdSteps_ok m s hs 64
      have hc0 := (HM.out.ms.cell (i := 64) (by decide)).trans (show some (cR m s (64 + 4) 64) = some (.int .i64 ((mdSteps m s 64).a : Nat)) by rw [cR_at _ _ _ _ (by omega), rv_a])
      have hc1 := (HM.out.ms.cell (i := 65) (by decide)).trans (show some (cR m s (64 + 4) 65) = some (.int .i64 ((mdSteps m s 64).d : Nat)) by rw [cR_at _ _ _ _ (by omega), rv_d])
      have hc2 := (HM.out.ms.cell (i := 66) (by decide)).trans (show some (cR m s (64 + 4) 66) = some (.int .i64 ((mdSteps m s 64).c : Nat)) by rw [cR_at _ _ _ _ (by omega), rv_c])
      have hc3 := (HM.out.ms.cell (i := 67) (by decide)).trans (show some (cR m s (64 + 4) 67) = some (.int .i64 ((mdSteps m s 64).b : Nat)) by rw [cR_at _ _ _ _ (by omega), rv_b])
      obtain ⟨hca, hcb, hcc, hcd⟩ := HM.out.sts
      have hth : wo.there (w.heap.size + 1) 0 4 := by
        intro j hj
        rw [Nat.zero_add]
        refine ⟨?_, frozen_of_row _ _ j _ _ HM.out.re⟩
        rw [cell_of_row _ _ j _ _ _ HM.out.re]
        have e : j = 0 ∨ j = 1 ∨ j = 2 ∨ j = 3 := by omega
        rcases e with e | e | e | e <;> subst e <;> rfl
      have HE := Lib.hid (show mdBlock s (blk t at_) = plus s (mdSteps m s 64) by rw [HMM.out]; rfl)
      generalize mdSteps m s 64 = tt at hok HE hc0 hc1 hc2 hc3
      obtain ⟨ta, tb, tc, td⟩ := tt
      obtain ⟨ha, hb, hc, hd⟩ := hok
      obtain ⟨hsa, hsb, hsc, hsd⟩ := hs
      simp only [] at ha hb hc hd hc0 hc1 hc2 hc3
      have hi1 : (Tryd.prog.info? 148).map (·.size) = some 4 := by kernel_rfl
      have h1c : (List.toArray [Value.int .i64 ((((s.a : Nat) : Int) + (ta : Nat)) % 4294967296), .int .i64 ((((s.b : Nat) : Int) + (tb : Nat)) % 4294967296), .int .i64 ((((s.c : Nat) : Int) + (tc : Nat)) % 4294967296), .int .i64 ((((s.d : Nat) : Int) + (td : Nat)) % 4294967296)]).all (·.oneCell') = true := all_oneCell_toArray (by simp [Value.oneCell'])
      go_wp2_with ((with_reducible refine gate_store (ty := 148) (x := .tmp 6) (y := .tmp 107) rfl ?_); refine wpList_store_mid rfl 148 (.tmp 6) (.tmp 107) rfl (w.heap.size + 1) 0 (List.toArray [Value.int .i64 ((((s.a : Nat) : Int) + (ta : Nat)) % 4294967296), .int .i64 ((((s.b : Nat) : Int) + (tb : Nat)) % 4294967296), .int .i64 ((((s.c : Nat) : Int) + (tc : Nat)) % 4294967296), .int .i64 ((((s.d : Nat) : Int) + (td : Nat)) % 4294967296)]) rfl rfl hth hi1 h1c ?_)
      refine bodyPost_ret (v := .agg (fV (mdBlock s (blk t at_)))) ?_ rfl ⟨rfl, StepsRef.below_setCells HM.out.be (by omega) _ _⟩
      rw [HE.out]
      exact results_cell_mid (by rfl) _ _ (w.heap.size + 1) 0 [.int .i64 ((((s.a : Nat) : Int) + (ta : Nat)) % 4294967296), .int .i64 ((((s.b : Nat) : Int) + (tb : Nat)) % 4294967296), .int .i64 ((((s.c : Nat) : Int) + (tc : Nat)) % 4294967296), .int .i64 ((((s.d : Nat) : Int) + (td : Nat)) % 4294967296)] _ (by rfl) (World.rangeAt_setCells_same _ _ _ _ (by simpa using hth)) Tryd.underlying148 rfl hi1
end Go.Proofs.YtljjpdjknnhceaaDoor.RefMD5

/- The document's MD5: the padding, the four words as bytes. -/
set_option linter.unusedVariables false
set_option linter.unusedSimpArgs false
namespace Go.Proofs.YtljjpdjknnhceaaDoor.RefMD5
open Go.RowKit Go.Proofs.YtljjpdjknnhceaaDoorW.PrintWords Go.Proofs.YtljjpdjknnhceaaDoorW.PrintLast Go.Proofs.YtljjpdjknnhceaaDoorW.PrintMore
open Go.Proofs.YtljjpdjknnhceaaDoor.Base Go.Proofs.YtljjpdjknnhceaaDoor.StepsRef Go.Proofs.YtljjpdjknnhceaaDoor.Words Go.Proofs.YtljjpdjknnhceaaDoor.PRingLocates
open Go.Proofs.YtljjpdjknnhceaaDoor.Sum (endI endI_next endI_length endI_str lenI)
open Go.Proofs.YtljjpdjknnhceaaDoor.Md5Pure (St bytes4 told first tail md5 padN len8)
set_option maxRecDepth 100000 in
set_option maxHeartbeats 1000000 in
theorem bytes4_any (x : Nat) (w : World) (hx : x < 4294967296) : Calls Tryd.prog 120 #[.int .i64 (x : Nat)] w fun e w' => e = .returned (.string (strOf (bytes4 x))) ∧ Below w.heap.size w w' := by
  have hnew := news w [.int .u8 ((x : Int) % 256), .int .u8 ((x : Int) / 256 % 256), .int .u8 ((x : Int) / 65536 % 256), .int .u8 ((x : Int) / 16777216 % 256)] 5
  have hcv := run_convert_bytes_arg (P := Tryd.prog) (w.alloc (.cells [Value.int .u8 ((x : Int) % 256), .int .u8 ((x : Int) / 256 % 256), .int .u8 ((x : Int) / 65536 % 256), .int .u8 ((x : Int) / 16777216 % 256)].toArray 5)) 109 5 Tryd.underlying109 Tryd.underlying5 w.heap.size 0 4 4 (b4 x) rfl (fun i hi => by
    rw [Nat.zero_add]
    refine hnew i _ ?_
    have e : i = 0 ∨ i = 1 ∨ i = 2 ∨ i = 3 := by omega
    rcases e with e | e | e | e <;> subst e <;> simp [b4]) 9 Tryd.underlying9
  have e1 : strOfNums (b4 x) = strOf (bytes4 x) := by unfold strOfNums; rw [b4_bytes]; rfl
  rw [e1] at hcv
  have HB := Aside0.mk ((Below.refl w.heap.size w).alloc (Nat.le_refl _) (.cells [Value.int .u8 ((x : Int) % 256), .int .u8 ((x : Int) / 256 % 256), .int .u8 ((x : Int) / 65536 % 256), .int .u8 ((x : Int) / 16777216 % 256)].toArray 5))
  clear hnew e1
  go_enter Tryd.func120, Tryd.ntmps120
  go_wp2
  go_ret
  exact ⟨rfl, HB.out⟩
theorem lit_owns (w : World) (n : Nat) (e : TypeId) : (w.alloc (.cells #[.int .u8 128] e)).ownsRow w.heap.size e 1 (.slice (some ⟨w.heap.size, 0, none⟩) 1 1) (1 + 0) (nums .u8 (endI 0 n 0)) :=
  ⟨rfl, .inr ⟨w.heap.size, 1, _, rfl, Nat.le_refl _, heap_alloc_new w _, by omega, by simp only [maxLen]; omega, by simp, rfl⟩⟩
theorem own_slice {w : World} {base : Nat} {e : TypeId} {v : Value} {n : Nat} {xs : List Value} (h : w.ownsRow base e 1 v n xs) (hn : n ≠ 0) : ∃ g c, v = .slice (some ⟨g, 0, none⟩) n c := by
  rcases h.2 with ⟨_, h2⟩ | ⟨g, cap, cs, rfl, _⟩
  · exact absurd h2 hn
  · exact ⟨g, cap, rfl⟩
def lenV : Value → Nat
  | .slice _ n _ => n
  | _ => 0
theorem endI_pad (k n : Nat) : endI (k + 1) n 0 = endI k n 0 ++ [0] := by simp [endI, lenI, List.replicate_succ']
/-- what is left of the bits ahead of byte i -/
def left (n i : Nat) : Nat := if i = 0 then n else 8 * n / 2 ^ (8 * i)
theorem left_one (n : Nat) : n / 32 = left n (0 + 1) := by unfold left; simp; omega
theorem left_next (n i : Nat) (h : i ≠ 0) : left n i / 256 = left n (i + 1) := by
  unfold left
  rw [if_neg h, if_neg (by omega), Nat.div_div_eq_div_mul, show 8 * (i + 1) = 8 * i + 8 by omega, Nat.pow_add]
theorem left_le (n i : Nat) : left n i ≤ 8 * n := by unfold left; split; omega; exact Nat.div_le_self _ _
set_option maxRecDepth 100000 in
set_option maxHeartbeats 4000000 in
theorem tail_any (n : Nat) (w : World) (hn : n ≤ 1099511627776) :
    Calls Tryd.prog 84 #[.int .i64 (n : Nat)] w fun e w' => e = .returned (.string (strOf (tail n))) ∧ Below w.heap.size w w' := by
  have HO := Aside0.mk (lit_owns w n 5)
  have HB := Aside0.mk ((Below.refl w.heap.size w).alloc (Nat.le_refl _) (.cells #[.int .u8 128] 5))
  obtain ⟨p, hp⟩ : ∃ p : Nat, p = padN n := ⟨_, rfl⟩
  have hpn : p = (119 - n % 64) % 64 := hp
  have HP := Aside0.mk hp
  clear hp
  go_enter Tryd.func84, Tryd.ntmps84
  go_wp2
  go_loopw [3] (fun v wr => ∃ k : Nat, k ≤ p ∧ Aside0 (wr.ownsRow w.heap.size 5 1 v (1 + k) (nums .u8 (endI k n 0))) ∧ Aside0 (Below w.heap.size w wr)) (fun v _ => 65 - lenV v)
  case atStart => exact ⟨0, Nat.zero_le _, HO, HB⟩
  case round =>
    clear HO HB
    obtain ⟨k, hk, HO, HB⟩ := hrel
    obtain ⟨wo, rfl⟩ : ∃ wo : World, wo = wr := ⟨_, rfl⟩
    obtain ⟨g, c, rfl⟩ := own_slice HO.out (by omega)
    by_cases hlt : k < p
    · have hcd : (((n : Int) + (1 + (k : Int))) % 64 == 56) = false := beq_eq_false_iff_ne.2 (by omega)
      have hnew := news wo [.int .u8 0] 5
      have HN := Lib.hid (endI_pad k n)
      have HZ := Aside0.mk HB.out.size
      have hk64 : k < 64 := by omega
      clear hpn
      go_wp2_with (at_builtin; go_loud (refine list_append_at (P := Tryd.prog) (w0 := w) w.heap.size rfl (.tmp 14) (.tmp 15) 109 5 (.int .u8 0) 1 rfl Tryd.underlying109 info8 rfl (by decide) _ (1 + k) (nums .u8 (endI k n 0)) wo.heap.size 1 1 [.int .u8 0] rfl rfl rfl ?h1 ?hc (HO.out.alloc _) (HB.out.alloc HZ.out _) ?hs ?hl ?_); (case h1 => simp [Value.oneCell']); (case hc => exact hnew); (case hs => have := HZ.out; simp; omega); (case hl => omega); intro v1 w2 HO1 HB1 _)
      go_roundw
      case rel => exact ⟨k + 1, by omega, ⟨by rw [HN.out, nums_append]; exact HO1⟩, ⟨HB1⟩⟩
      case measure =>
        obtain ⟨g1, c1, rfl⟩ := own_slice HO1 (by omega)
        simp [lenV]; omega
    · obtain rfl : k = p := by omega
      have hcd : (((n : Int) + (1 + (k : Int))) % 64 == 56) = true := beq_iff_eq.2 (by omega)
      have hcd2 : (((n : Int) + (1 + (k : Int))) % 64 != 56) = false := by rw [bne, hcd]; rfl
      have hk64 : k < 64 := by omega
      clear hpn
      have HOa : Aside0 (wo.ownsRow w.heap.size 5 1 (.slice (some ⟨g, 0, none⟩) (1 + k) c) (1 + k + 0) (nums .u8 (endI k n 0))) := HO
      go_wp2
      go_loopw [3, 4, 5, 6] (fun v bv iv _ wr => ∃ i : Nat, i ≤ 8 ∧ iv = .int .i64 i ∧ bv = .int .i64 (left n i : Nat) ∧ Aside0 (wr.ownsRow w.heap.size 5 1 v (1 + k + i) (nums .u8 (endI k n i))) ∧ Aside0 (Below w.heap.size w wr)) (fun _ _ iv _ _ => 8 - (intOf iv).toNat)
      case atStart => exact ⟨0, by omega, rfl, rfl, HOa, HB⟩
      case round =>
        clear HOa HB HO
        obtain ⟨i, hi, rfl, rfl, HO, HB⟩ := hrel
        obtain ⟨wo, rfl⟩ : ∃ wo : World, wo = wr := ⟨_, rfl⟩
        by_cases hlt : i < 8
        · have HN := Lib.hid (endI_next k n i)
          have HZ := Aside0.mk HB.out.size
          by_cases h0 : i = 0
          · subst h0
            have hnew := news wo [.int .u8 ((n : Int) % 32 * 8)] 5
            have HV : Aside0 (((8 * n / 2 ^ (8 * 0) % 256 : Nat) : Int) = (n : Int) % 32 * 8) := ⟨by simp; omega⟩
            have HL := Aside0.mk (left_one n)
            have hl0 : left n 0 = n := rfl
            rw [hl0]
            go_wp2_with (at_builtin; go_loud (refine list_append_at (P := Tryd.prog) (w0 := w) w.heap.size rfl (.tmp 33) (.tmp 36) 109 5 (.int .u8 0) 1 rfl Tryd.underlying109 info8 rfl (by decide) _ (1 + k + 0) (nums .u8 (endI k n 0)) wo.heap.size 1 1 [.int .u8 ((n : Int) % 32 * 8)] rfl rfl rfl ?h1 ?hc (HO.out.alloc _) (HB.out.alloc HZ.out _) ?hs ?hl ?_); (case h1 => simp [Value.oneCell']); (case hc => exact hnew); (case hs => have := HZ.out; simp; omega); (case hl => omega); intro v1 w2 HO1 HB1 _)
            go_roundw
            case rel => exact ⟨0 + 1, by omega, by go_num, by rw [← HL.out]; go_num, ⟨by rw [HN.out, nums_append, HV.out]; exact HO1⟩, ⟨HB1⟩⟩
            case measure => simp [intOf]
          · have hle := left_le n i
            have hi0 : ((i : Int) == 0) = false := beq_eq_false_iff_ne.2 (by omega)
            have HL := Aside0.mk (left_next n i h0)
            have HV : Aside0 (((8 * n / 2 ^ (8 * i) % 256 : Nat) : Int) = ((left n i : Nat) : Int) % 256) := ⟨by unfold left; rw [if_neg h0]; omega⟩
            generalize left n i = q at hle HL HV ⊢
            have hnew := news wo [.int .u8 ((q : Int) % 256)] 5
            go_wp2_with (at_builtin; go_loud (refine list_append_at (P := Tryd.prog) (w0 := w) w.heap.size rfl (.tmp 33) (.tmp 36) 109 5 (.int .u8 0) 1 rfl Tryd.underlying109 info8 rfl (by decide) _ (1 + k + i) (nums .u8 (endI k n i)) wo.heap.size 1 1 [.int .u8 ((q : Int) % 256)] rfl rfl rfl ?h1 ?hc (HO.out.alloc _) (HB.out.alloc HZ.out _) ?hs ?hl ?_); (case h1 => simp [Value.oneCell']); (case hc => exact hnew); (case hs => have := HZ.out; simp; omega); (case hl => omega); intro v1 w2 HO1 HB1 _)
            go_roundw
            case rel => exact ⟨i + 1, by omega, by go_num, by rw [← HL.out]; go_num, ⟨by rw [HN.out, nums_append, HV.out]; exact HO1⟩, ⟨HB1⟩⟩
            case measure => simp [intOf]; omega
        · obtain rfl : i = 8 := by omega
          have hcv := own_string (P := Tryd.prog) Tryd.underlying109 Tryd.underlying5 Tryd.underlying9 HO.out
          rw [endI_str k n HP.out] at hcv
          go_wp2
          go_ret
          exact ⟨rfl, HB.out⟩
end Go.Proofs.YtljjpdjknnhceaaDoor.RefMD5

/- The document's MD5 of one text. -/
set_option linter.unusedVariables false
set_option linter.unusedSimpArgs false
namespace Go.Proofs.YtljjpdjknnhceaaDoor.RefMD5
open Go.RowKit Go.Proofs.YtljjpdjknnhceaaDoorW.PrintWords Go.Proofs.YtljjpdjknnhceaaDoorW.PrintLast Go.Proofs.YtljjpdjknnhceaaDoorW.PrintMore
open Go.Proofs.YtljjpdjknnhceaaDoor.Base Go.Proofs.YtljjpdjknnhceaaDoor.StepsRef Go.Proofs.YtljjpdjknnhceaaDoor.Words Go.Proofs.YtljjpdjknnhceaaDoor.PRingLocates
open Go.Proofs.YtljjpdjknnhceaaDoor.Md5Pure (St mdStep mdSteps mdBlock wordAt plus bytes4 told first blkN tail md5 padN len8)
structure Box (w wr : World) (s : St) : Prop where mk ::
  (st : wr.heap[w.heap.size]? = some (.cells (fV s) 148 (0, 0))) (be : Below w.heap.size w wr) (lt : w.heap.size < wr.heap.size)
theorem Box.after {w wr w3 : World} {s : St} (h : Box w wr s) (hb : Below wr.heap.size wr w3) : Box w w3 s :=
  ⟨(hb.block _ h.lt).trans h.st, below_then h.be h.be.size hb, Nat.lt_of_lt_of_le h.lt hb.size⟩
theorem Box.sts {w wr : World} {s : St} (h : Box w wr s) : wr.cell? ⟨w.heap.size, 0, none⟩ = some (.int .i64 (s.a : Nat)) ∧ wr.cell? ⟨w.heap.size, 1, none⟩ = some (.int .i64 (s.b : Nat)) ∧ wr.cell? ⟨w.heap.size, 2, none⟩ = some (.int .i64 (s.c : Nat)) ∧ wr.cell? ⟨w.heap.size, 3, none⟩ = some (.int .i64 (s.d : Nat)) :=
  ⟨cell_of_row _ _ _ _ _ _ h.st, cell_of_row _ _ _ _ _ _ h.st, cell_of_row _ _ _ _ _ _ h.st, cell_of_row _ _ _ _ _ _ h.st⟩
theorem Box.new (w : World) (s : St) : Box w (w.alloc (.cells (fV s) 148)) s :=
  ⟨Go.heap_alloc_new w _, (Below.refl w.heap.size w).alloc (Nat.le_refl _) _, by simp⟩
theorem told_app (s : St) : ((strOf (bytes4 s.a) ++ strOf (bytes4 s.b)) ++ strOf (bytes4 s.c)) ++ strOf (bytes4 s.d) = strOf (told s) := by
  have e : ∀ a b : ByteArray, a ++ b = strOf (a.data.toList ++ b.data.toList) := fun a b => by
    have h : (a ++ b).data.toList = a.data.toList ++ b.data.toList := by simp
    rw [← h, strOf_data]
  rw [e (strOf (bytes4 s.a)) (strOf (bytes4 s.b)), e _ (strOf (bytes4 s.c)), e _ (strOf (bytes4 s.d))]
  simp only [strOf_toList]
  rfl
set_option maxRecDepth 100000 in
set_option maxHeartbeats 4000000 in
theorem told_any (s : St) (w : World) (hs : s.ok) :
    Calls Tryd.prog 85 #[.agg (fV s)] w fun e w' => e = .returned (.string (strOf (told s))) ∧ Below w.heap.size w w' := by
  have HM0 := Aside0.mk (Box.new w s)
  have ka := fun w => bytes4_any s.a w hs.1
  have kb := fun w => bytes4_any s.b w hs.2.1
  have kc := fun w => bytes4_any s.c w hs.2.2.1
  have kd := fun w => bytes4_any s.d w hs.2.2.2
  have hap := told_app s
  have z : ∀ x, (strOf (bytes4 x)).size = 4 := fun x => rfl
  have za := z s.a
  have zb := z s.b
  have zc := z s.c
  have zd := z s.d
  clear z
  generalize strOf (bytes4 s.a) = tA at ka hap za
  generalize strOf (bytes4 s.b) = tB at kb hap zb
  generalize strOf (bytes4 s.c) = tC at kc hap zc
  generalize strOf (bytes4 s.d) = tD at kd hap zd
  have Ka := Aside0.mk ka
  have Kb := Aside0.mk kb
  have Kc := Aside0.mk kc
  have Kd := Aside0.mk kd
  have HAP := Lib.hid hap
  have g1 : (9223372036854775807 < tA.size + tB.size) = False := eq_false (by omega)
  have g2 : (9223372036854775807 < tA.size + tB.size + tC.size) = False := eq_false (by omega)
  have g3 : (9223372036854775807 < tA.size + tB.size + tC.size + tD.size) = False := eq_false (by omega)
  clear ka kb kc kd hap
  go_enter Tryd.func85, Tryd.ntmps85
  go_wp2
  refine start_ (n := 16) (S := fun w' => w'.cell? ⟨w.heap.size, 0, none⟩ = some (.int .i64 (s.a : Nat)) ∧ w'.cell? ⟨w.heap.size, 1, none⟩ = some (.int .i64 (s.b : Nat)) ∧ w'.cell? ⟨w.heap.size, 2, none⟩ = some (.int .i64 (s.c : Nat)) ∧ w'.cell? ⟨w.heap.size, 3, none⟩ = some (.int .i64 (s.d : Nat))) (ds := []) #[false, false, false, false, false, false, false, false, false, false, false, false, false, false, false, false] (by kernel_rfl) rfl rfl ⟨HM0.out.sts.1, HM0.out.sts.2.1, HM0.out.sts.2.2.1, HM0.out.sts.2.2.2⟩ (fun hHeld => ?_)
  refine pure_ (i := 0) (N := some 3) (v := ?_) (a' := ?_) #[true, false, false, false, false, false, false, false, false, false, false, false, false, false, false, false] rfl rfl (by kernel_rfl) (fun _ _ _ h => h) (Or.inl ⟨by rfl, ?_⟩) ?_ ?_
  rotate_left
  · intro w'
    go_simp
    with_reducible rfl
  rotate_left
  · simp only [Act.put, List.setIfInBounds_toArray, List.set_cons_zero, List.set_cons_succ, i64_w, i32_w]
    rfl
  refine pure_ (i := 3) (N := some 6) (v := ?_) (a' := ?_) #[true, false, false, true, false, false, false, false, false, false, false, false, false, false, false, false] rfl rfl (by kernel_rfl) (fun _ _ _ h => h) (Or.inl ⟨by rfl, ?_⟩) ?_ ?_
  rotate_left
  · intro w'
    go_simp
    with_reducible rfl
  rotate_left
  · simp only [Act.put, List.setIfInBounds_toArray, List.set_cons_zero, List.set_cons_succ, i64_w, i32_w]
    rfl
  refine pure_ (i := 7) (N := some 10) (v := ?_) (a' := ?_) #[true, false, false, true, false, false, false, true, false, false, false, false, false, false, false, false] rfl rfl (by kernel_rfl) (fun _ _ _ h => h) (Or.inl ⟨by rfl, ?_⟩) ?_ ?_
  rotate_left
  · intro w'
    go_simp
    with_reducible rfl
  rotate_left
  · simp only [Act.put, List.setIfInBounds_toArray, List.set_cons_zero, List.set_cons_succ, i64_w, i32_w]
    rfl
  refine pure_ (i := 11) (N := some 14) (v := ?_) (a' := ?_) #[true, false, false, true, false, false, false, true, false, false, false, true, false, false, false, false] rfl rfl (by kernel_rfl) (fun _ _ _ h => h) (Or.inl ⟨by rfl, ?_⟩) ?_ ?_
  rotate_left
  · intro w'
    go_simp
    with_reducible rfl
  rotate_left
  · simp only [Act.put, List.setIfInBounds_toArray, List.set_cons_zero, List.set_cons_succ, i64_w, i32_w]
    rfl
  refine take_ (i := 1) (N := some 4) (v := ?_) (a' := ?_) #[true, true, false, true, false, false, false, true, false, false, false, true, false, false, false, false] rfl rfl (by kernel_rfl) (fun _ _ _ h => h) (Or.inl ⟨by rfl, ?_⟩) hHeld ?_ ?_
  rotate_left
  · rintro w' ⟨s0, s1, s2, s3⟩
    go_simp
    with_reducible rfl
  rotate_left
  · simp only [Act.put, List.setIfInBounds_toArray, List.set_cons_zero, List.set_cons_succ, i64_w, i32_w]
    rfl
  refine take_ (i := 4) (N := some 7) (v := ?_) (a' := ?_) #[true, true, false, true, true, false, false, true, false, false, false, true, false, false, false, false] rfl rfl (by kernel_rfl) (fun _ _ _ h => h) (Or.inl ⟨by rfl, ?_⟩) hHeld ?_ ?_
  rotate_left
  · rintro w' ⟨s0, s1, s2, s3⟩
    go_simp
    with_reducible rfl
  rotate_left
  · simp only [Act.put, List.setIfInBounds_toArray, List.set_cons_zero, List.set_cons_succ, i64_w, i32_w]
    rfl
  refine take_ (i := 8) (N := some 11) (v := ?_) (a' := ?_) #[true, true, false, true, true, false, false, true, true, false, false, true, false, false, false, false] rfl rfl (by kernel_rfl) (fun _ _ _ h => h) (Or.inl ⟨by rfl, ?_⟩) hHeld ?_ ?_
  rotate_left
  · rintro w' ⟨s0, s1, s2, s3⟩
    go_simp
    with_reducible rfl
  rotate_left
  · simp only [Act.put, List.setIfInBounds_toArray, List.set_cons_zero, List.set_cons_succ, i64_w, i32_w]
    rfl
  refine take_ (i := 12) (N := some 15) (v := ?_) (a' := ?_) #[true, true, false, true, true, false, false, true, true, false, false, true, true, false, false, false] rfl rfl (by kernel_rfl) (fun _ _ _ h => h) (Or.inl ⟨by rfl, ?_⟩) hHeld ?_ ?_
  rotate_left
  · rintro w' ⟨s0, s1, s2, s3⟩
    go_simp
    with_reducible rfl
  rotate_left
  · simp only [Act.put, List.setIfInBounds_toArray, List.set_cons_zero, List.set_cons_succ, i64_w, i32_w]
    rfl
  refine one_ (i := 2) (N := some 5) #[true, true, true, true, true, false, false, true, true, false, false, true, true, false, false, false] rfl rfl (by kernel_rfl) (by decide) (fun K hK => ?_)
  refine goes_ Tryd.func120 (by kernel_rfl) rfl #[.int .i64 (s.a : Nat)] (by rfl) rfl rfl (by simp only [List.map_toArray, List.map_cons, List.map_nil]; rfl) ?_
  with_reducible refine (Ka.out _).mono ?_
  rintro e w2 ⟨rfl, hb2⟩
  have HM2 := Aside0.mk (HM0.out.after (below_drew_left hb2))
  refine ⟨_, rfl, ?_⟩
  refine hK.out _ _ ⟨HM2.out.sts.1, HM2.out.sts.2.1, HM2.out.sts.2.2.1, HM2.out.sts.2.2.2⟩ (fun hHeld => ?_)
  clear hK K
  refine norm_ (a' := ?_) ?_ ?_
  rotate_left
  · show Act.put _ (some 5) _ = _
    simp only [Act.put, List.setIfInBounds_toArray, List.set_cons_zero, List.set_cons_succ, i64_w, i32_w]
    rfl
  refine one_ (i := 5) (N := some 8) #[true, true, true, true, true, true, false, true, true, false, false, true, true, false, false, false] rfl rfl (by kernel_rfl) (by decide) (fun K hK => ?_)
  refine goes_ Tryd.func120 (by kernel_rfl) rfl #[.int .i64 (s.b : Nat)] (by rfl) rfl rfl (by simp only [List.map_toArray, List.map_cons, List.map_nil]; rfl) ?_
  with_reducible refine (Kb.out _).mono ?_
  rintro e w5 ⟨rfl, hb5⟩
  have HM5 := Aside0.mk (HM2.out.after hb5)
  refine ⟨_, rfl, ?_⟩
  refine hK.out _ _ ⟨HM5.out.sts.1, HM5.out.sts.2.1, HM5.out.sts.2.2.1, HM5.out.sts.2.2.2⟩ (fun hHeld => ?_)
  clear hK K
  refine norm_ (a' := ?_) ?_ ?_
  rotate_left
  · show Act.put _ (some 8) _ = _
    simp only [Act.put, List.setIfInBounds_toArray, List.set_cons_zero, List.set_cons_succ, i64_w, i32_w]
    rfl
  refine pure_ (i := 6) (N := some 9) (v := ?_) (a' := ?_) #[true, true, true, true, true, true, true, true, true, false, false, true, true, false, false, false] rfl rfl (by kernel_rfl) (fun _ _ _ h => h) (Or.inl ⟨by rfl, ?_⟩) ?_ ?_
  rotate_left
  · intro w'
    go_simp
    with_reducible rfl
  rotate_left
  · simp only [Act.put, List.setIfInBounds_toArray, List.set_cons_zero, List.set_cons_succ, i64_w, i32_w]
    rfl
  refine one_ (i := 9) (N := some 12) #[true, true, true, true, true, true, true, true, true, true, false, true, true, false, false, false] rfl rfl (by kernel_rfl) (by decide) (fun K hK => ?_)
  refine goes_ Tryd.func120 (by kernel_rfl) rfl #[.int .i64 (s.c : Nat)] (by rfl) rfl rfl (by simp only [List.map_toArray, List.map_cons, List.map_nil]; rfl) ?_
  with_reducible refine (Kc.out _).mono ?_
  rintro e w9 ⟨rfl, hb9⟩
  have HM9 := Aside0.mk (HM5.out.after hb9)
  refine ⟨_, rfl, ?_⟩
  refine hK.out _ _ ⟨HM9.out.sts.1, HM9.out.sts.2.1, HM9.out.sts.2.2.1, HM9.out.sts.2.2.2⟩ (fun hHeld => ?_)
  clear hK K
  refine norm_ (a' := ?_) ?_ ?_
  rotate_left
  · show Act.put _ (some 12) _ = _
    simp only [Act.put, List.setIfInBounds_toArray, List.set_cons_zero, List.set_cons_succ, i64_w, i32_w]
    rfl
  refine pure_ (i := 10) (N := some 13) (v := ?_) (a' := ?_) #[true, true, true, true, true, true, true, true, true, true, true, true, true, false, false, false] rfl rfl (by kernel_rfl) (fun _ _ _ h => h) (Or.inl ⟨by rfl, ?_⟩) ?_ ?_
  rotate_left
  · intro w'
    go_simp
    with_reducible rfl
  rotate_left
  · simp only [Act.put, List.setIfInBounds_toArray, List.set_cons_zero, List.set_cons_succ, i64_w, i32_w]
    rfl
  refine one_ (i := 13) (N := some 16) #[true, true, true, true, true, true, true, true, true, true, true, true, true, true, false, false] rfl rfl (by kernel_rfl) (by decide) (fun K hK => ?_)
  refine goes_ Tryd.func120 (by kernel_rfl) rfl #[.int .i64 (s.d : Nat)] (by rfl) rfl rfl (by simp only [List.map_toArray, List.map_cons, List.map_nil]; rfl) ?_
  with_reducible refine (Kd.out _).mono ?_
  rintro e w13 ⟨rfl, hb13⟩
  have HM13 := Aside0.mk (HM9.out.after hb13)
  refine ⟨_, rfl, ?_⟩
  refine hK.out _ _ ⟨HM13.out.sts.1, HM13.out.sts.2.1, HM13.out.sts.2.2.1, HM13.out.sts.2.2.2⟩ (fun hHeld => ?_)
  clear hK K
  refine norm_ (a' := ?_) ?_ ?_
  rotate_left
  · show Act.put _ (some 16) _ = _
    simp only [Act.put, List.setIfInBounds_toArray, List.set_cons_zero, List.set_cons_succ, i64_w, i32_w]
    rfl
  refine pure_ (i := 14) (N := some 17) (v := ?_) (a' := ?_) #[true, true, true, true, true, true, true, true, true, true, true, true, true, true, true, false] rfl rfl (by kernel_rfl) (fun _ _ _ h => h) (Or.inl ⟨by rfl, ?_⟩) ?_ ?_
  rotate_left
  · intro w'
    go_simp
    with_reducible rfl
  rotate_left
  · simp only [Act.put, List.setIfInBounds_toArray, List.set_cons_zero, List.set_cons_succ, i64_w, i32_w]
    rfl
  refine pure_ (i := 15) (N := some 2) (v := ?_) (a' := ?_) #[true, true, true, true, true, true, true, true, true, true, true, true, true, true, true, true] rfl rfl (by kernel_rfl) (fun _ _ _ h => h) (Or.inl ⟨by rfl, ?_⟩) ?_ ?_
  rotate_left
  · intro w'
    go_simp
    with_reducible rfl
  rotate_left
  · simp only [Act.put, List.setIfInBounds_toArray, List.set_cons_zero, List.set_cons_succ, i64_w, i32_w]
    rfl
  refine done_ (by kernel_rfl) ?_
  go_wp2
  go_ret
  exact ⟨by rw [← HAP.out]; rfl, HM13.out.be⟩
theorem setCells_other {b b' : Nat} : ∀ (vs : List Value) (o : Nat) (w : World), b' ≠ b → (w.setCells b o vs).heap[b']? = w.heap[b']?
  | [], _, _, _ => rfl
  | v :: vs, o, w, h => by
    show ((w.setCell ⟨b, o, none⟩ v).setCells b (o + 1) vs).heap[b']? = _
    rw [setCells_other vs (o + 1) _ h, heap_setCell_other _ _ _ _ h]
theorem fL_one (s : St) : (fL s).toArray.all (·.oneCell') = true := all_oneCell_toArray (by simp [fL, Value.oneCell'])
theorem block_L (s : St) (t : ByteArray) (at_ : Nat) (w : World) (hs : s.ok) (h : at_ + 64 ≤ t.size) (ht : t.size ≤ 4611686018427387904) (hT : RTabs w) :
    Calls Tryd.prog 119 #[.agg (fL s).toArray, .string t, .int .i64 (at_ : Nat)] w fun e w' => e = .returned (.agg (fL (mdBlock s (blk t at_))).toArray) ∧ Below w.heap.size w w' := block_any s t at_ w hs h ht hT
theorem told_L (s : St) (w : World) (hs : s.ok) :
    Calls Tryd.prog 85 #[.agg (fL s).toArray] w fun e w' => e = .returned (.string (strOf (told s))) ∧ Below w.heap.size w w' := told_any s w hs
theorem fL_range {w : World} {b : Nat} {t : TypeId} {s : St} (h : w.heap[b]? = some (.cells (fL s).toArray t (0, 0))) : w.rangeAt b 0 (fL s) := by
  intro j v hv
  rw [Nat.zero_add, cell_of_row _ _ _ _ _ _ h]
  simpa using hv
theorem fL_there {w : World} {b : Nat} {t : TypeId} {s : St} (h : w.heap[b]? = some (.cells (fL s).toArray t (0, 0))) : w.there b 0 4 := by
  intro j hj
  rw [Nat.zero_add]
  refine ⟨?_, frozen_of_row _ _ j _ _ h⟩
  rw [cell_of_row _ _ j _ _ _ h]
  have e : j = 0 ∨ j = 1 ∨ j = 2 ∨ j = 3 := by omega
  rcases e with e | e | e | e <;> subst e <;> rfl
theorem fL_set {w : World} {b : Nat} {t : TypeId} {s r : St} (h : w.heap[b]? = some (.cells (fL s).toArray t (0, 0))) : (w.setCells b 0 (fL r)).heap[b]? = some (.cells (fL r).toArray t (0, 0)) := by
  have := Take.heap_setCells b t (fL r) 0 w (fL s) (by show 0 + 4 ≤ 4; decide) h
  rw [this]; rfl
def zeroS : St := ⟨0, 0, 0, 0⟩
/-- the two blocks of blocks -/
structure Two (w wr : World) (s : St) : Prop where mk ::
  (st : wr.heap[w.heap.size]? = some (.cells (fL s).toArray 148 (0, 0))) (re : wr.heap[w.heap.size + 1]? = some (.cells (fL zeroS).toArray 148 (0, 0))) (be : Below w.heap.size w wr)
theorem Two.lt {w wr : World} {s : St} (h : Two w wr s) : w.heap.size + 1 < wr.heap.size := by
  rcases Nat.lt_or_ge (w.heap.size + 1) wr.heap.size with k | k
  · exact k
  · have := h.re; rw [Array.getElem?_eq_none k] at this; cases this
theorem Two.after {w wr w3 : World} {s : St} (h : Two w wr s) (hb : Below wr.heap.size wr w3) : Two w w3 s :=
  ⟨(hb.block _ (by have := h.lt; omega)).trans h.st, (hb.block _ h.lt).trans h.re, below_then h.be h.be.size hb⟩
theorem Two.set {w wr : World} {s : St} (h : Two w wr s) (r : St) : Two w (wr.setCells w.heap.size 0 (fL r)) r :=
  ⟨fL_set h.st, (setCells_other _ _ _ (by omega)).trans h.re, StepsRef.below_setCells h.be (Nat.le_refl _) _ _⟩
theorem Two.new (w : World) (s : St) : Two w ((w.alloc (.cells (fL s).toArray 148)).alloc (.cells (fL zeroS).toArray 148)) s := by
  refine ⟨?_, ?_, ((Below.refl w.heap.size w).alloc (Nat.le_refl _) _).alloc (by simp) _⟩
  · rw [Go.heap_alloc_old _ _ (by simp), Go.heap_alloc_new]
  · exact Go.heap_alloc_new (w.alloc _) _ |> (by simpa using ·)
set_option maxRecDepth 100000 in
set_option maxHeartbeats 4000000 in
theorem blocks_any (s : St) (t : ByteArray) (w : World) (hs : s.ok) (ht : t.size ≤ 4611686018427387904) (hT : RTabs w) :
    Calls Tryd.prog 82 #[.agg (fL s).toArray, .string t] w fun e w' => e = .returned (.agg (fL (blkN s t.data.toList (t.size / 64))).toArray) ∧ Below w.heap.size w w' := by
  have HT := Aside0.mk hT
  have HS := Aside0.mk (fun k => Md5Pure.blkN_ok s hs t.data.toList k)
  have HM := Aside0.mk (Two.new w s)
  have hi : (Tryd.prog.info? 148).map (·.size) = some 4 := by kernel_rfl
  clear hT hs
  unfold zeroS at HM
  go_enter Tryd.func82, Tryd.ntmps82
  go_wp2
  go_loopw [5] (fun iv wr => ∃ k : Nat, k ≤ t.size / 64 ∧ iv = .int .i64 ((64 * k : Nat) : Int) ∧ Aside0 (Two w wr (blkN s t.data.toList k))) (fun iv _ => t.size - (intOf iv).toNat)
  case atStart => exact ⟨0, Nat.zero_le _, rfl, HM⟩
  case round =>
    clear HM
    obtain ⟨k, hk, rfl, HM⟩ := hrel
    obtain ⟨wo, rfl⟩ : ∃ wo : World, wo = wr := ⟨_, rfl⟩
    by_cases hlt : k < t.size / 64
    · have hle : 64 * k + 64 ≤ t.size := by omega
      have HN := Lib.hid (show blkN s t.data.toList (k + 1) = mdBlock (blkN s t.data.toList k) (blk t (64 * k)) from rfl)
      have HK := Aside0.mk (HS.out k)
      generalize blkN s t.data.toList k = st at HN HK HM
      have hrg := fL_range HM.out.st
      generalize hat : 64 * k = at_ at hle HN
      go_wp2_with ((with_reducible refine gate_load (ty := 148) (x := .tmp 2) rfl ?_); refine wpList_load_mid rfl 148 (.tmp 2) rfl w.heap.size 0 rfl (fL st) _ hrg Tryd.underlying148 rfl hi ?_)
      refine (block_L st t at_ wo HK.out hle ht (HT.out.below HM.out.be)).mono ?_
      rintro e w3 ⟨rfl, hb⟩
      have HM := Aside0.mk (HM.out.after hb)
      clear hb hrg
      rw [← HN.out]
      obtain ⟨st2, hst2⟩ : ∃ st2, st2 = blkN s t.data.toList (k + 1) := ⟨_, rfl⟩
      have HST2 := Lib.hid hst2
      rw [← hst2]
      clear hst2
      have hth := fL_there HM.out.st
      have h1c := fL_one st2
      go_wp2_with ((with_reducible refine gate_store (ty := 148) (x := .tmp 2) (y := .tmp 16) rfl ?_); refine wpList_store_mid rfl 148 (.tmp 2) (.tmp 16) rfl w.heap.size 0 (fL st2).toArray rfl rfl hth hi h1c ?_)
      go_roundw
      case rel => exact ⟨k + 1, by omega, by rw [Nat.mul_add, hat]; go_num, ⟨HST2.out ▸ HM.out.set st2⟩⟩
      case measure => simp [intOf]; omega
    · obtain rfl : k = t.size / 64 := by omega
      have hge : t.size < 64 * (t.size / 64) + 64 := by omega
      have hle : 64 * (t.size / 64) ≤ t.size := by omega
      obtain ⟨st, hst⟩ : ∃ st, st = blkN s t.data.toList (t.size / 64) := ⟨_, rfl⟩
      have HST := Lib.hid hst
      rw [← hst] at HM
      clear hst
      generalize 64 * (t.size / 64) = at_ at hge hle
      have hrg := fL_range HM.out.st
      have hth := fL_there HM.out.re
      have h1c := fL_one st
      go_wp2_with (first | ((with_reducible refine gate_load (ty := 148) (x := .tmp 2) rfl ?_); refine wpList_load_mid rfl 148 (.tmp 2) rfl w.heap.size 0 rfl (fL st) _ hrg Tryd.underlying148 rfl hi ?_) | ((with_reducible refine gate_store (ty := 148) (x := .tmp 4) (y := .tmp 17) rfl ?_); refine wpList_store_mid rfl 148 (.tmp 4) (.tmp 17) rfl (w.heap.size + 1) 0 (fL st).toArray rfl rfl hth hi h1c ?_))
      refine bodyPost_ret (v := .agg (fL st).toArray) ?_ rfl ⟨by rw [HST.out], StepsRef.below_setCells HM.out.be (by omega) _ _⟩
      exact results_cell_mid (by rfl) _ _ (w.heap.size + 1) 0 (fL st) _ (by rfl) (World.rangeAt_setCells_same _ _ _ _ hth) Tryd.underlying148 rfl hi
theorem first_any (w : World) : Calls Tryd.prog 83 #[] w fun e w' => e = .returned (.agg (fL first).toArray) ∧ Below w.heap.size w w' := granaryref2_First.calls _ _ _ _ w rfl
theorem app_str (t : ByteArray) (l : List UInt8) : t ++ strOf l = strOf (t.data.toList ++ l) := by
  have h : (t ++ strOf l).data.toList = t.data.toList ++ l := by simp [strOf_toList]
  rw [← h, strOf_data]
theorem md5_ref (L : List UInt8) : told (blkN first (strOf (L ++ tail L.length)).data.toList ((strOf (L ++ tail L.length)).size / 64)) = md5 L := rfl
set_option maxRecDepth 100000 in
set_option maxHeartbeats 4000000 in
theorem refmd5_any (t : ByteArray) (w : World) (ht : t.size ≤ 1099511627776) (hT : RTabs w) :
    Calls Tryd.prog 55 #[.string t] w fun e w' => e = .returned (.string (strOf (md5 t.data.toList))) ∧ Below w.heap.size w w' := by
  have HT := Aside0.mk hT
  have htl : (strOf (tail t.size)).size ≤ 200 := by rw [strOf_size]; simp [tail, len8, padN]; omega
  have hap := app_str t (tail t.size)
  have hmd := md5_ref t.data.toList
  rw [Take.size_toList] at hmd
  have hbs : (strOf (t.data.toList ++ tail t.size)).size ≤ 4611686018427387904 := by rw [← hap, ByteArray.size_append]; omega
  have hok := fun k => Md5Pure.blkN_ok first Md5Pure.first_ok (strOf (t.data.toList ++ tail t.size)).data.toList k
  generalize strOf (t.data.toList ++ tail t.size) = x at hap hmd hbs hok
  have HA := Lib.hid hap
  have HMD := Lib.hid hmd
  have HBS := Aside0.mk hbs
  have HOK := Aside0.mk hok
  have hi : (Tryd.prog.info? 148).map (·.size) = some 4 := by kernel_rfl
  clear hT hap hmd hbs hok
  go_enter Tryd.func55, Tryd.ntmps55
  go_wp2_with fail
  refine (first_any w).mono ?_
  rintro e w1 ⟨rfl, hb⟩
  have HB1 := Aside0.mk hb
  clear hb
  go_wp2_with fail
  refine (tail_any t.size w1 ht).mono ?_
  rintro e w2 ⟨rfl, hb⟩
  have HB2 := Aside0.mk (HB1.out.trans (hb.mono HB1.out.size))
  clear hb
  generalize strOf (tail t.size) = y at htl HA ⊢
  have hadd : (9223372036854775807 < t.size + y.size) = False := eq_false (by omega)
  go_wp2_with fail
  rw [HA.out]
  refine (blocks_any first x w2 Md5Pure.first_ok HBS.out (HT.out.below HB2.out)).mono ?_
  rintro e w3 ⟨rfl, hb⟩
  have HB3 := Aside0.mk (HB2.out.trans (hb.mono HB2.out.size))
  clear hb
  have hk := HOK.out (x.size / 64)
  generalize blkN first x.data.toList (x.size / 64) = st at hk HMD ⊢
  have hn := Go.heap_alloc_new w3 (.cells #[Value.int .i64 0, Value.int .i64 0, Value.int .i64 0, Value.int .i64 0] 148)
  have hth : (w3.alloc (.cells #[Value.int .i64 0, Value.int .i64 0, Value.int .i64 0, Value.int .i64 0] 148)).there w3.heap.size 0 4 := fL_there (s := zeroS) hn
  have h1c := fL_one st
  have hrg := World.rangeAt_setCells_same (w3.alloc (.cells #[Value.int .i64 0, Value.int .i64 0, Value.int .i64 0, Value.int .i64 0] 148)) w3.heap.size 0 (fL st) hth
  have HB4 := Aside0.mk (HB3.out.trans ((StepsRef.below_setCells (((Below.refl w3.heap.size w3).alloc (Nat.le_refl _) (.cells #[Value.int .i64 0, Value.int .i64 0, Value.int .i64 0, Value.int .i64 0] 148))) (Nat.le_refl _) (fL st) 0).mono HB3.out.size))
  go_wp2_with (first | ((with_reducible refine gate_store (ty := 148) (x := .tmp 3) (y := .tmp 10) rfl ?_); refine wpList_store_mid rfl 148 (.tmp 3) (.tmp 10) rfl w3.heap.size 0 (fL st).toArray rfl rfl hth hi h1c ?_) | ((with_reducible refine gate_load (ty := 148) (x := .tmp 3) rfl ?_); refine wpList_load_mid rfl 148 (.tmp 3) rfl w3.heap.size 0 rfl (fL st) _ hrg Tryd.underlying148 rfl hi ?_))
  refine (told_L st _ hk).mono ?_
  rintro e w5 ⟨rfl, hb⟩
  have HB5 := Aside0.mk (HB4.out.trans (hb.mono HB4.out.size))
  clear hb hth hrg
  rw [HMD.out]
  go_wp2
  go_ret
  exact ⟨rfl, HB5.out⟩
end Go.Proofs.YtljjpdjknnhceaaDoor.RefMD5

/- The document's Locate. -/
set_option linter.unusedVariables false
set_option linter.unusedSimpArgs false
namespace Go.Proofs.YtljjpdjknnhceaaDoor.RLoc
open Go.RowKit Go.Proofs.YtljjpdjknnhceaaDoorW.PrintWords Go.Proofs.YtljjpdjknnhceaaDoorW.PrintLast Go.Proofs.YtljjpdjknnhceaaDoorW.PrintMore
open Go.Proofs.YtljjpdjknnhceaaDoor.Base Go.Proofs.YtljjpdjknnhceaaDoor.App Go.Proofs.YtljjpdjknnhceaaDoor.RingPure Go.Proofs.YtljjpdjknnhceaaDoor.ChkPure Go.Proofs.YtljjpdjknnhceaaDoor.Clus Go.Proofs.YtljjpdjknnhceaaDoor.Mids Go.Proofs.YtljjpdjknnhceaaDoor.Chkd Go.Proofs.YtljjpdjknnhceaaDoor.LocPure Go.Proofs.YtljjpdjknnhceaaDoor.LocKit Go.Proofs.YtljjpdjknnhceaaDoor.TakeN Go.Proofs.YtljjpdjknnhceaaDoor.Sort Go.Proofs.YtljjpdjknnhceaaDoor.Name Go.Proofs.YtljjpdjknnhceaaDoor.Ref6 Go.Proofs.YtljjpdjknnhceaaDoor.RefCheck
open Go.Proofs.YtljjpdjknnhceaaDoor.Words (strOf strOf_size)
open Go.Proofs.YtljjpdjknnhceaaDoor.WithV (list_build)
theorem rloc_results (tmps : Array Value) (W : World) (g : Nat) (cs : List Value) (x : Value) (hp : tmps.getD 4 undef = .pointer (some ⟨g, 0, none⟩)) (hx : tmps.getD 5 undef = x) (hl : cs.length = 3) (h : W.heap[g]? = some (.cells cs.toArray 44 (0, 0))) :
    (results Tryd.f23 tmps).run Tryd.prog W = .ok (.tuple #[.agg cs.toArray, x]) W := by
  subst hx
  exact results_ct_mid rfl tmps W g 0 cs _ hp (blk_range h) Tryd.underlying44 rfl (by rw [hl]; exact infoP)
set_option maxRecDepth 100000 in
set_option maxHeartbeats 8000000 in
theorem reflocate_any (c : Cl) (A : Option Addr) (cap : Nat) (ns : List Nd) (key : ByteArray) (w : World) (hN : NodesAt w A ns) (hcap : ns.length ≤ cap) (hs : c.store.size ≤ 2147483647) (hl : ns.length ≤ 1099511627776) (hc : cnt ns ≤ 1099511627776) (hk : key.size ≤ 1073741824) (hG : GTab w) (hT : RefMD5.RTabs w) :
    Calls Tryd.prog 23 #[.agg (cL c (.slice A ns.length cap)).toArray, .string key] w (LocPost (locP c ns key) w) := by
  have HW := Aside0.mk (lw_of c (.slice A ns.length cap) w)
  have HN := Aside0.mk hN
  have HG := Aside0.mk hG
  have HT := Aside0.mk hT
  clear hN hG hT
  go_enter Tryd.func23, Tryd.ntmps23
  go_upto_region 1 with fail
  generalize (w.alloc (.cells (cL c (.slice A ns.length cap)).toArray 24)).alloc (.cells #[.int .i64 0, .int .i64 0, .string { data := #[] }] 44) = w1 at HW ⊢
  obtain ⟨ga, hga⟩ : ∃ ga, ga = w.heap.size := ⟨_, rfl⟩
  have HBX : Aside0 (w1.heap[ga]? = some (.cells (cL c (.slice A ns.length cap)).toArray 24 (0, 0))) := ⟨by rw [hga]; exact HW.out.box⟩
  have HRS : Aside0 (w1.heap[ga + 1]? = some (.cells plZ.toArray 44 (0, 0))) := ⟨by rw [hga]; exact HW.out.res⟩
  have HGA : Aside0 (w.heap.size ≤ ga + 1) := ⟨by omega⟩
  have HB := Aside0.mk HW.out.bel
  rw [← hga]
  clear hga HW
  have hrg := blk_range HBX.out
  go_wp2_with ((with_reducible refine gate_load (ty := 24) (x := .tmp 2) rfl ?_); refine wpList_load_mid rfl 24 (.tmp 2) rfl ga 0 rfl (cL c (.slice A ns.length cap)) _ hrg Tryd.underlying24 rfl infoC23 ?_)
  clear hrg
  refine (refcheck_any c A cap ns w1 (HN.out.below HB.out) hcap hs hl hc (HG.out.below HB.out)).mono ?_
  rintro e w2 ⟨rfl, hb⟩
  have HB2 := Aside0.mk (HB.out.trans (hb.mono HB.out.size))
  have HR2 : Aside0 (w2.heap[ga + 1]? = some (.cells plZ.toArray 44 (0, 0))) := ⟨(hb.block _ (blk_lt HRS.out)).trans HRS.out⟩
  have HBX2 : Aside0 (w2.heap[ga]? = some (.cells (cL c (.slice A ns.length cap)).toArray 24 (0, 0))) := ⟨(hb.block _ (blk_lt HBX.out)).trans HBX.out⟩
  clear hb HB HRS HBX
  have HTH : Aside0 (w2.there (ga + 1) 0 plZ.length) := ⟨blk_there HR2.out⟩
  have HX : Aside0 ((w2.setCells (ga + 1) 0 plZ).heap[ga + 1]? = some (.cells plZ.toArray 44 (0, 0))) := ⟨setCells_whole HR2.out rfl⟩
  have HBF : Aside0 (Below w.heap.size w (w2.setCells (ga + 1) 0 plZ)) := ⟨Go.Proofs.YtljjpdjknnhceaaDoor.Mids.below_setCells HB2.out HGA.out _ _⟩
  by_cases h0 : (chkC c ns).1 ≠ 0
  · have HE : Aside0 (locP c ns key = ⟨(chkC c ns).1, 0, 0, []⟩) := ⟨by unfold locP; rw [if_pos h0]⟩
    generalize (chkC c ns).1 = code at h0 HE ⊢
    have hne : (code != 0) = true := by simpa using h0
    go_wp2_with (first | ((with_reducible refine gate_build (t := 44) (parts := #[]) rfl ?_); go_loud (refine list_build rfl 44 #[] rfl plZ.toArray built_z ?_)) | ((with_reducible refine gate_store (ty := 44) (x := .tmp 4) (y := .tmp 12) rfl ?_); go_loud (refine wpList_store_mid rfl 44 (.tmp 4) (.tmp 12) rfl (ga + 1) 0 plZ.toArray rfl rfl HTH.out infoP plZ_one ?_)))
    refine bodyPost_ret (v := .tuple #[.agg plZ.toArray, .int .i64 code]) ?_ rfl ⟨HBF.out, by rw [HE.out]; rfl⟩
    exact rloc_results _ _ (ga + 1) plZ _ rfl rfl rfl HX.out
  · have h0' : (chkC c ns).1 = 0 := Classical.byContradiction h0
    have HGOOD := Aside0.mk (chk_ok (nm := nmB c.store) h0')
    obtain ⟨hde, hhl, _⟩ := homes_some HGOOD.out.hom
    have hb6 := setAt_bounds HGOOD.out.set
    have hP1 := hde.1
    have hP2 := hde.2.1
    have HH0 := Aside0.mk h0'
    obtain ⟨P, hP⟩ : ∃ P, P = cnt ns := ⟨_, rfl⟩
    have HPE := Aside0.mk hP
    rw [← hP] at hP1 hP2
    obtain ⟨W, hW⟩ : ∃ W : Nat, c.width = (W : Int) := ⟨c.width.toNat, by omega⟩
    obtain ⟨C, hC⟩ : ∃ C : Nat, c.chunks = (C : Int) := ⟨c.chunks.toNat, by omega⟩
    have hWb : 1 ≤ W ∧ W ≤ 16 := by omega
    have hCb : 1 ≤ C ∧ C ≤ 16 := by omega
    have HWE := Aside0.mk hW
    have HCE := Aside0.mk hC
    rw [h0']
    clear h0 h0' hde hhl hb6 hP hW hC
    by_cases hkey : key.size < 1 ∨ 255 < key.size
    · have HE : Aside0 (locP c ns key = ⟨32, 0, 0, []⟩) := ⟨by unfold locP; rw [if_neg (by rw [HH0.out]; decide), if_pos hkey]⟩
      rcases hkey with hk1 | hk1
      · have hke : key.toList.isEmpty = true := by rw [ByteArray.toList_eq, List.isEmpty_iff]; exact List.eq_nil_of_length_eq_zero (by rw [data_length]; omega)
        go_wp2_with (first | ((with_reducible refine gate_build (t := 44) (parts := #[]) rfl ?_); go_loud (refine list_build rfl 44 #[] rfl plZ.toArray built_z ?_)) | ((with_reducible refine gate_store (ty := 44) (x := .tmp 4) (y := .tmp 21) rfl ?_); go_loud (refine wpList_store_mid rfl 44 (.tmp 4) (.tmp 21) rfl (ga + 1) 0 plZ.toArray rfl rfl HTH.out infoP plZ_one ?_)))
        refine bodyPost_ret (v := .tuple #[.agg plZ.toArray, .int .i64 32]) ?_ rfl ⟨HBF.out, by rw [HE.out]; rfl⟩
        exact rloc_results _ _ (ga + 1) plZ _ rfl rfl rfl HX.out
      · have hke : key.toList.isEmpty = false := by rw [ByteArray.toList_eq, List.isEmpty_eq_false_iff]; exact List.ne_nil_of_length_pos (by rw [data_length]; omega)
        have hlt : decide ((255 : Int) < (key.size : Int)) = true := decide_eq_true (by omega)
        go_wp2_with (first | ((with_reducible refine gate_build (t := 44) (parts := #[]) rfl ?_); go_loud (refine list_build rfl 44 #[] rfl plZ.toArray built_z ?_)) | ((with_reducible refine gate_store (ty := 44) (x := .tmp 4) (y := .tmp 21) rfl ?_); go_loud (refine wpList_store_mid rfl 44 (.tmp 4) (.tmp 21) rfl (ga + 1) 0 plZ.toArray rfl rfl HTH.out infoP plZ_one ?_)))
        refine bodyPost_ret (v := .tuple #[.agg plZ.toArray, .int .i64 32]) ?_ rfl ⟨HBF.out, by rw [HE.out]; rfl⟩
        exact rloc_results _ _ (ga + 1) plZ _ rfl rfl rfl HX.out
    · have HE : Aside0 (locP c ns key = ⟨0, ((num4 key 0 % P : Nat) : Int), ((num4 key 4 % C : Nat) : Int), (md key).drop (16 - W)⟩) := ⟨by
        unfold locP; rw [if_neg (by rw [HH0.out]; decide), if_neg hkey, HPE.out, HCE.out, HWE.out]; rfl⟩
      have hke : key.toList.isEmpty = false := by rw [ByteArray.toList_eq, List.isEmpty_eq_false_iff]; exact List.ne_nil_of_length_pos (by rw [data_length]; omega)
      have hkb : key.size ≤ 255 := by omega
      clear hkey HTH HX HBF
      go_wp2_with fail
      refine (RefMD5.refmd5_any key w2 (by omega) (HT.out.below HB2.out)).mono ?_
      rintro e w3 ⟨rfl, hb⟩
      have HB3 := Aside0.mk (HB2.out.trans (hb.mono HB2.out.size))
      have HR3 : Aside0 (w3.heap[ga + 1]? = some (.cells plZ.toArray 44 (0, 0))) := ⟨(hb.block _ (blk_lt HR2.out)).trans HR2.out⟩
      have HBX3 : Aside0 (w3.heap[ga]? = some (.cells (cL c (.slice A ns.length cap)).toArray 24 (0, 0))) := ⟨(hb.block _ (blk_lt HBX2.out)).trans HBX2.out⟩
      have HML := Aside0.mk (md_length key)
      have HN0 : Aside0 (num4 key 0 = beV ((md key).take 4)) := ⟨rfl⟩
      have HN4 : Aside0 (num4 key 4 = beV (((md key).drop 4).take 4)) := ⟨rfl⟩
      have HL0 := Aside0.mk (num4_lt key 0)
      have HL4 := Aside0.mk (num4_lt key 4)
      rw [show Md5Pure.md5 key.data.toList = md key from rfl]
      clear hb HB2 HR2 HBX2 hke
      obtain ⟨M, hM⟩ : ∃ M, M = md key := ⟨_, rfl⟩
      rw [← hM] at HN0 HN4 HML HE ⊢
      clear hM
      obtain ⟨X0, hX0⟩ : ∃ X, X = num4 key 0 := ⟨_, rfl⟩
      obtain ⟨X4, hX4⟩ : ∃ X, X = num4 key 4 := ⟨_, rfl⟩
      rw [← hX0] at HN0 HL0 HE
      rw [← hX4] at HN4 HL4 HE
      clear hX0 hX4
      go_upto_region 7 with fail
      refine RLocR.rloc7 _ _ w w3 ga cap P W C X0 X4 c A ns M HN hcap hl hc HPE HN0 HN4 HB3 HBX3 HR3 HGA.out HCE HWE hP1 hP2 hCb hWb HL0.out HL4.out HML.out rfl rfl rfl rfl ?_
      intro wv hbv hrv
      have HBV := Aside0.mk hbv
      have HRV := Aside0.mk hrv
      clear hbv hrv
      simp only [RegA.putV, Act.put, List.setIfInBounds_toArray, List.set_cons_zero, List.set_cons_succ]
      go_wp2_with fail
      refine bodyPost_ret (v := .tuple #[.agg (plL ⟨0, ((X0 % P : Nat) : Int), ((X4 % C : Nat) : Int), M.drop (16 - W)⟩).toArray, .int .i64 0]) ?_ rfl ⟨HBV.out, by rw [HE.out]⟩
      exact rloc_results _ _ (ga + 1) _ _ rfl rfl rfl HRV.out
end Go.Proofs.YtljjpdjknnhceaaDoor.RLoc
