/- Joined texts of this claim: WithV, MadePure -/
import Derived.Test.YtljjpdjknnhceaaDoorJRPlc3
import Derived.Test.YtljjpdjknnhceaaDoorJRPlc0
set_option linter.unusedVariables false
set_option linter.unusedSimpArgs false
/- With walked. -/
set_option linter.unusedVariables false
set_option linter.unusedSimpArgs false
namespace Go.Proofs.YtljjpdjknnhceaaDoor.WithV
open Go.RowKit Go.Proofs.YtljjpdjknnhceaaDoorW.PrintWords Go.Proofs.YtljjpdjknnhceaaDoorW.PrintLast Go.Proofs.YtljjpdjknnhceaaDoorW.PrintMore
open Go.Proofs.YtljjpdjknnhceaaDoor.Base Go.Proofs.YtljjpdjknnhceaaDoor.App Go.Proofs.YtljjpdjknnhceaaDoor.RingPure Go.Proofs.YtljjpdjknnhceaaDoor.ChkPure Go.Proofs.YtljjpdjknnhceaaDoor.Clus Go.Proofs.YtljjpdjknnhceaaDoor.Mids Go.Proofs.YtljjpdjknnhceaaDoor.Chkd Go.Proofs.YtljjpdjknnhceaaDoor.AppR Go.Proofs.YtljjpdjknnhceaaDoor.Twin Go.Proofs.YtljjpdjknnhceaaDoor.TwinW
def aL (c : Cl) : List Value := [.int .i64 c.replicas, .int .i64 c.width, .int .i64 c.chunks, .int .i64 c.retain, .int .i64 c.block, .int .i64 c.rate, .int .i64 c.per, .int .i64 c.burst, .int .i64 c.tries, .int .i64 c.base, .int .i64 c.most, .int .i64 c.quota, .int .i64 c.room, .int .i64 c.depot, .int .i64 c.resend, .int .i64 c.limit, .int .i64 c.patience, .int .i64 c.getwait, .int .i64 c.strikes, .int .i64 c.ban, .int .i64 c.home]
theorem aL_length (c : Cl) : (aL c).length = 21 := rfl
structure WW (c : Cl) (w w1 : World) : Prop where mk ::
  (box : w1.heap[w.heap.size]? = some (.cells (aL c).toArray 102 (0, 0))) (res : w1.heap[w.heap.size + 1]? = some (.cells zL.toArray 24 (0, 0))) (bel : Below w.heap.size w w1)
theorem ww_of (c : Cl) (w : World) : WW c w ((w.alloc (.cells (aL c).toArray 102)).alloc (.cells #[.string { data := #[] }, .int .i64 0, .int .i64 0, .int .i64 0, .int .i64 0, .int .i64 0, .int .i64 0, .int .i64 0, .int .i64 0, .int .i64 0, .int .i64 0, .int .i64 0, .int .i64 0, .int .i64 0, .int .i64 0, .int .i64 0, .int .i64 0, .int .i64 0, .int .i64 0, .int .i64 0, .int .i64 0, .int .i64 0, .slice none 0 0] 24)) := by
  obtain ⟨w0, hw0⟩ : ∃ w0, w0 = w.alloc (.cells (aL c).toArray 102) := ⟨_, rfl⟩
  rw [← hw0]
  have hb0 : Below w.heap.size w w0 := by rw [hw0]; exact (Below.refl _ _).alloc (Nat.le_refl _) _
  have hs0 : w0.heap.size = w.heap.size + 1 := by rw [hw0]; simp
  have hb1 : Below w0.heap.size w0 (w0.alloc (.cells #[.string { data := #[] }, .int .i64 0, .int .i64 0, .int .i64 0, .int .i64 0, .int .i64 0, .int .i64 0, .int .i64 0, .int .i64 0, .int .i64 0, .int .i64 0, .int .i64 0, .int .i64 0, .int .i64 0, .int .i64 0, .int .i64 0, .int .i64 0, .int .i64 0, .int .i64 0, .int .i64 0, .int .i64 0, .int .i64 0, .slice none 0 0] 24)) := (Below.refl _ _).alloc (Nat.le_refl _) _
  have hc : w0.heap[w.heap.size]? = some (.cells (aL c).toArray 102 (0, 0)) := by rw [hw0]; exact Go.heap_alloc_new w _
  exact ⟨(hb1.block _ (by omega)).trans hc, by rw [← hs0]; exact Go.heap_alloc_new w0 _, hb0.trans (hb1.mono hb0.size)⟩
theorem exec_build {P : Program} {ρ : Operand → Value} {o : Oper} {w : World} (t : TypeId) (parts : Array (Nat × Operand)) (ho : o.op = .build t parts) (cs : Array Value)
    (h : P.built t (parts.map fun (i, x) => (i, ρ x)).toList = some cs) : (execOp ρ o).run P w = .ok (.value (.agg cs)) w := by
  unfold execOp
  simp only [ho]
  have hb := run_build (P := P) w t (parts.map fun (i, x) => (i, ρ x)) cs h
  simp only [Sem.run_bind, hb, Result.andThen_ok, Sem.run_pure]
theorem list_build {P : Program} {ops : Array Oper} {rest : List Oper} {o : Oper} {act : Act} {Q : Exit → Act → World → Prop} {w : World} (hg : o.guard = none) (t : TypeId) (parts : Array (Nat × Operand)) (ho : o.op = .build t parts) (cs : Array Value)
    (h0 : P.built t (parts.map fun (i, x) => (i, act.eval x)).toList = some cs) (h : wpList P ops Q rest (act.put o.dst (.agg cs)) w) : wpList P ops Q (o :: rest) act w := by
  refine wpList_plain hg fun K hK => ?_
  unfold Oper.wp
  rw [exec_build t parts ho cs h0]
  exact hK _ _ h
theorem gate_build {P : Program} {ops : Array Oper} {rest : List Oper} {o : Oper} {act : Act} {Q : Exit → Act → World → Prop} {w : World} {t : TypeId} {parts : Array (Nat × Operand)} (_ho : o.op = .build t parts) (h : wpList P ops Q (o :: rest) act w) : wpList P ops Q (o :: rest) act w := h
theorem built_cl (c : Cl) (A : Option Addr) (n m : Nat) : Tryd.prog.built 24 [(0, .string c.store), (1, .int .i64 c.replicas), (2, .int .i64 c.width), (3, .int .i64 c.chunks), (4, .int .i64 c.retain), (5, .int .i64 c.block), (6, .int .i64 c.rate), (7, .int .i64 c.per), (8, .int .i64 c.burst), (9, .int .i64 c.tries), (10, .int .i64 c.base), (11, .int .i64 c.most), (12, .int .i64 c.quota), (13, .int .i64 c.room), (14, .int .i64 c.depot), (15, .int .i64 c.resend), (16, .int .i64 c.limit), (17, .int .i64 c.patience), (18, .int .i64 c.getwait), (19, .int .i64 c.strikes), (20, .int .i64 c.ban), (21, .int .i64 c.home), (22, .slice A n m)] = some (cL c (.slice A n m)).toArray := by kernel_rfl
set_option maxRecDepth 100000 in
set_option maxHeartbeats 8000000 in
theorem with_any (c : Cl) (A : Option Addr) (n m : Nat) (w : World) : Calls Tryd.prog 58 #[.string c.store, .agg (aL c).toArray, .slice A n m] w fun e w' => e = .returned (.agg (cL c (.slice A n m)).toArray) ∧ Below w.heap.size w w' := by
  have HW := Aside0.mk (ww_of c w)
  have hone := cl_one c A n m
  go_enter Tryd.func58, Tryd.ntmps58
  go_upto_region 1 with fail
  generalize (w.alloc (.cells (aL c).toArray 102)).alloc (.cells #[.string { data := #[] }, .int .i64 0, .int .i64 0, .int .i64 0, .int .i64 0, .int .i64 0, .int .i64 0, .int .i64 0, .int .i64 0, .int .i64 0, .int .i64 0, .int .i64 0, .int .i64 0, .int .i64 0, .int .i64 0, .int .i64 0, .int .i64 0, .int .i64 0, .int .i64 0, .int .i64 0, .int .i64 0, .int .i64 0, .slice none 0 0] 24) = w1 at HW ⊢
  have h0 : w1.cell? ⟨w.heap.size, 0, none⟩ = some (.int .i64 c.replicas) := by rw [blk_cell HW.out.box]; rfl
  have h1 : w1.cell? ⟨w.heap.size, 1, none⟩ = some (.int .i64 c.width) := by rw [blk_cell HW.out.box]; rfl
  have h2 : w1.cell? ⟨w.heap.size, 2, none⟩ = some (.int .i64 c.chunks) := by rw [blk_cell HW.out.box]; rfl
  have h3 : w1.cell? ⟨w.heap.size, 3, none⟩ = some (.int .i64 c.retain) := by rw [blk_cell HW.out.box]; rfl
  have h4 : w1.cell? ⟨w.heap.size, 4, none⟩ = some (.int .i64 c.block) := by rw [blk_cell HW.out.box]; rfl
  have h5 : w1.cell? ⟨w.heap.size, 5, none⟩ = some (.int .i64 c.rate) := by rw [blk_cell HW.out.box]; rfl
  have h6 : w1.cell? ⟨w.heap.size, 6, none⟩ = some (.int .i64 c.per) := by rw [blk_cell HW.out.box]; rfl
  have h7 : w1.cell? ⟨w.heap.size, 7, none⟩ = some (.int .i64 c.burst) := by rw [blk_cell HW.out.box]; rfl
  have h8 : w1.cell? ⟨w.heap.size, 8, none⟩ = some (.int .i64 c.tries) := by rw [blk_cell HW.out.box]; rfl
  have h9 : w1.cell? ⟨w.heap.size, 9, none⟩ = some (.int .i64 c.base) := by rw [blk_cell HW.out.box]; rfl
  have h10 : w1.cell? ⟨w.heap.size, 10, none⟩ = some (.int .i64 c.most) := by rw [blk_cell HW.out.box]; rfl
  have h11 : w1.cell? ⟨w.heap.size, 11, none⟩ = some (.int .i64 c.quota) := by rw [blk_cell HW.out.box]; rfl
  have h12 : w1.cell? ⟨w.heap.size, 12, none⟩ = some (.int .i64 c.room) := by rw [blk_cell HW.out.box]; rfl
  have h13 : w1.cell? ⟨w.heap.size, 13, none⟩ = some (.int .i64 c.depot) := by rw [blk_cell HW.out.box]; rfl
  have h14 : w1.cell? ⟨w.heap.size, 14, none⟩ = some (.int .i64 c.resend) := by rw [blk_cell HW.out.box]; rfl
  have h15 : w1.cell? ⟨w.heap.size, 15, none⟩ = some (.int .i64 c.limit) := by rw [blk_cell HW.out.box]; rfl
  have h16 : w1.cell? ⟨w.heap.size, 16, none⟩ = some (.int .i64 c.patience) := by rw [blk_cell HW.out.box]; rfl
  have h17 : w1.cell? ⟨w.heap.size, 17, none⟩ = some (.int .i64 c.getwait) := by rw [blk_cell HW.out.box]; rfl
  have h18 : w1.cell? ⟨w.heap.size, 18, none⟩ = some (.int .i64 c.strikes) := by rw [blk_cell HW.out.box]; rfl
  have h19 : w1.cell? ⟨w.heap.size, 19, none⟩ = some (.int .i64 c.ban) := by rw [blk_cell HW.out.box]; rfl
  have h20 : w1.cell? ⟨w.heap.size, 20, none⟩ = some (.int .i64 c.home) := by rw [blk_cell HW.out.box]; rfl
  have ht := blk_there HW.out.res
  have HX : Aside0 ((w1.setCells (w.heap.size + 1) 0 (cL c (.slice A n m))).heap[w.heap.size + 1]? = some (.cells (cL c (.slice A n m)).toArray 24 (0, 0))) := ⟨setCells_whole HW.out.res rfl⟩
  have HB : Aside0 (Below w.heap.size w (w1.setCells (w.heap.size + 1) 0 (cL c (.slice A n m)))) := ⟨below_setCells HW.out.bel (by omega) _ _⟩
  go_wp2_with (first | ((with_reducible refine gate_build (t := 24) (parts := #[(0, .tmp 7), (1, .tmp 9), (2, .tmp 11), (3, .tmp 13), (4, .tmp 15), (5, .tmp 17), (6, .tmp 19), (7, .tmp 21), (8, .tmp 23), (9, .tmp 25), (10, .tmp 27), (11, .tmp 29), (12, .tmp 31), (13, .tmp 33), (14, .tmp 35), (15, .tmp 37), (16, .tmp 39), (17, .tmp 41), (18, .tmp 43), (19, .tmp 45), (20, .tmp 47), (21, .tmp 49), (22, .tmp 50)]) rfl ?_); go_loud (refine list_build rfl 24 #[(0, .tmp 7), (1, .tmp 9), (2, .tmp 11), (3, .tmp 13), (4, .tmp 15), (5, .tmp 17), (6, .tmp 19), (7, .tmp 21), (8, .tmp 23), (9, .tmp 25), (10, .tmp 27), (11, .tmp 29), (12, .tmp 31), (13, .tmp 33), (14, .tmp 35), (15, .tmp 37), (16, .tmp 39), (17, .tmp 41), (18, .tmp 43), (19, .tmp 45), (20, .tmp 47), (21, .tmp 49), (22, .tmp 50)] rfl (cL c (.slice A n m)).toArray (by simp only [List.map_toArray, List.map_cons, List.map_nil]; exact built_cl c A n m) ?_)) | ((with_reducible refine gate_store (ty := 24) (x := .tmp 6) (y := .tmp 51) rfl ?_); go_loud (refine wpList_store_mid rfl 24 (.tmp 6) (.tmp 51) rfl (w.heap.size + 1) 0 (cL c (.slice A n m)).toArray rfl rfl ht infoC23 hone ?_)))
  refine bodyPost_ret (v := .agg (cL c (.slice A n m)).toArray) ?_ rfl ⟨rfl, HB.out⟩
  exact results_c_mid rfl _ _ (w.heap.size + 1) 0 (cL c (.slice A n m)) _ rfl (blk_range HX.out) Tryd.underlying24 rfl infoC23
end Go.Proofs.YtljjpdjknnhceaaDoor.WithV

/- A made definition: plain lists. -/
set_option linter.unusedVariables false
set_option linter.unusedSimpArgs false
namespace Go.Proofs.YtljjpdjknnhceaaDoor.MadePure
open Go.Proofs.YtljjpdjknnhceaaDoor.RingPure Go.Proofs.YtljjpdjknnhceaaDoor.ChkPure Go.Proofs.YtljjpdjknnhceaaDoor.Chkd Go.Proofs.YtljjpdjknnhceaaDoor.Name
def md (x m : Int) : Int := Int.tmod (Int.tmod x m + m) m
theorem md_lt (x m : Int) (h : 0 < m) : 0 ≤ md x m ∧ md x m < m := by
  unfold md
  have h1 := Int.lt_tmod_of_pos x h
  have h2 : 0 ≤ Int.tmod x m + m := by omega
  exact ⟨Int.tmod_nonneg _ h2, Int.tmod_lt_of_pos _ h⟩
def atL (l : List Int) (i : Nat) : Int := if l.length = 0 then 0 else l.getD (i % l.length) 0
/-- the partitions of node i -/
def ps (f : Nat → Int) (i : Int) : Nat → List Int
  | 0 => []
  | j + 1 => if f j = i then ps f i j ++ [(j : Int)] else ps f i j
def nds (f z : Nat → Int) (p : Nat) : Nat → List Nd
  | 0 => []
  | k + 1 => nds f z p k ++ [(z k, ps f (k : Nat) p)]
theorem nds_length (f z : Nat → Int) (p k : Nat) : (nds f z p k).length = k := by
  induction k with
  | zero => rfl
  | succ k ih => simp [nds, ih]
theorem ps_lt (f : Nat → Int) (i : Int) : ∀ (p : Nat) (x : Int), x ∈ ps f i p → 0 ≤ x ∧ x < (p : Int)
  | 0, x, h => by cases h
  | p + 1, x, h => by
    unfold ps at h
    split at h
    · rcases List.mem_append.1 h with h | h
      · have := ps_lt f i p x h; omega
      · simp only [List.mem_singleton] at h; omega
    · have := ps_lt f i p x h; omega
theorem ris_snoc : ∀ (l : List Int) (x : Int), ris l = true → (∀ y ∈ l, y < x) → ris (l ++ [x]) = true
  | [], _, _, _ => rfl
  | [a], x, _, h => by simp [ris, h a (by simp)]
  | a :: b :: l, x, h, hx => by
    simp only [ris, Bool.and_eq_true, decide_eq_true_eq, List.cons_append] at h ⊢
    exact ⟨h.1, ris_snoc (b :: l) x h.2 (fun y hy => hx y (List.mem_cons_of_mem _ hy))⟩
theorem ps_ris (f : Nat → Int) (i : Int) : ∀ p : Nat, ris (ps f i p) = true
  | 0 => rfl
  | p + 1 => by
    unfold ps
    split
    · exact ris_snoc _ _ (ps_ris f i p) (fun y hy => (ps_lt f i p y hy).2)
    · exact ps_ris f i p
theorem ps_count (f : Nat → Int) (i : Int) : ∀ (p q : Nat), (ps f i p).count (q : Int) = if q < p ∧ f q = i then 1 else 0
  | 0, q => by simp [ps]
  | p + 1, q => by
    have ih := ps_count f i p q
    unfold ps
    by_cases h : f p = i
    · rw [if_pos h, List.count_append, ih, List.count_singleton]
      by_cases e : q = p
      · subst e; simp [h]
      · have e2 : ((p : Int) == (q : Int)) = false := by simp; omega
        rw [e2, if_neg (show ¬ (false = true) by decide)]
        by_cases h3 : q < p ∧ f q = i
        · rw [if_pos h3, if_pos ⟨by omega, h3.2⟩]
        · rw [if_neg h3, if_neg (fun h4 => h3 ⟨by omega, h4.2⟩)]
    · rw [if_neg h, ih]
      by_cases h3 : q < p ∧ f q = i
      · rw [if_pos h3, if_pos ⟨by omega, h3.2⟩]
      · rw [if_neg h3, if_neg (fun h4 => h3 ⟨by
          by_cases e : q = p
          · subst e; exact absurd h4.2 h
          · omega, h4.2⟩)]
theorem ps_le (f : Nat → Int) (i : Int) : ∀ p : Nat, (ps f i p).length ≤ p
  | 0 => Nat.le_refl _
  | p + 1 => by
    have := ps_le f i p
    unfold ps
    split <;> (try rw [List.length_append, List.length_singleton]) <;> omega
/-- how many partitions lie with nodes below k -/
def blw (f : Nat → Int) (k : Int) : Nat → Nat
  | 0 => 0
  | j + 1 => blw f k j + if f j < k then 1 else 0
theorem blw_succ (f : Nat → Int) (k : Int) : ∀ p : Nat, blw f (k + 1) p = blw f k p + (ps f k p).length
  | 0 => rfl
  | p + 1 => by
    have ih := blw_succ f k p
    unfold blw ps
    by_cases h : f p = k
    · rw [if_pos h, if_pos (by omega), if_neg (by omega), List.length_append, List.length_singleton]; omega
    · rw [if_neg h]
      by_cases h2 : f p < k
      · rw [if_pos h2, if_pos (by omega)]; omega
      · rw [if_neg h2, if_neg (by omega)]; omega
theorem blw_zero (f : Nat → Int) (hf : ∀ j, 0 ≤ f j) : ∀ p : Nat, blw f 0 p = 0
  | 0 => rfl
  | p + 1 => by unfold blw; rw [blw_zero f hf p, if_neg (by have := hf p; omega)]
theorem blw_all (f : Nat → Int) (n : Int) (hf : ∀ j, f j < n) : ∀ p : Nat, blw f n p = p
  | 0 => rfl
  | p + 1 => by unfold blw; rw [blw_all f n hf p, if_pos (hf p)]
theorem cnt_app (a b : List Nd) : cnt (a ++ b) = cnt a + cnt b := by unfold cnt; rw [List.map_append, List.sum_append]
theorem times_app (a b : List Nd) (q : Int) : times (a ++ b) q = times a q + times b q := by unfold times; rw [List.map_append, List.sum_append]
theorem full_app (a b : List Nd) : full (a ++ b) = full a + full b := by unfold full; rw [List.filter_append, List.length_append]
theorem cnt_nds (f z : Nat → Int) (p : Nat) (hf : ∀ j, 0 ≤ f j) : ∀ k : Nat, cnt (nds f z p k) = blw f (k : Nat) p
  | 0 => (blw_zero f hf p).symm
  | k + 1 => by
    show cnt (nds f z p k ++ [(z k, ps f (k : Nat) p)]) = _
    rw [cnt_app, cnt_nds f z p hf k]
    have := blw_succ f (k : Nat) p
    simp only [cnt, List.map_cons, List.map_nil, List.sum_cons, List.sum_nil, Nat.add_zero]
    rw [show ((k + 1 : Nat) : Int) = (k : Int) + 1 by omega]
    omega
theorem times_nds (f z : Nat → Int) (p : Nat) (hf : ∀ j, 0 ≤ f j) (q : Nat) (hq : q < p) : ∀ k : Nat, times (nds f z p k) (q : Int) = if f q < (k : Int) then 1 else 0
  | 0 => by rw [if_neg (by have := hf q; omega)]; rfl
  | k + 1 => by
    show times (nds f z p k ++ [(z k, ps f (k : Nat) p)]) _ = _
    rw [times_app, times_nds f z p hf q hq k]
    simp only [times, List.map_cons, List.map_nil, List.sum_cons, List.sum_nil, Nat.add_zero]
    rw [ps_count]
    by_cases h : f q = (k : Int)
    · rw [if_neg (by omega), if_pos ⟨hq, h⟩, if_pos (by omega)]
    · rw [if_neg (show ¬ (q < p ∧ f q = (k : Int)) from fun e => h e.2)]
      by_cases h2 : f q < (k : Int)
      · rw [if_pos h2, if_pos (by omega)]
      · rw [if_neg h2, if_neg (by omega)]
theorem nds_mem (f z : Nat → Int) (p : Nat) : ∀ (k : Nat) (n : Nd), n ∈ nds f z p k → ∃ i : Nat, n = (z i, ps f (i : Nat) p)
  | 0, n, h => by cases h
  | k + 1, n, h => by
    rcases List.mem_append.1 (show n ∈ nds f z p k ++ [(z k, ps f (k : Nat) p)] from h) with h | h
    · exact nds_mem f z p k n h
    · exact ⟨k, by simpa using h⟩
theorem full_pos {ns : List Nd} (h : 0 < cnt ns) : 0 < full ns := by
  induction ns with
  | nil => exact absurd h (by decide)
  | cons n ns ih =>
    unfold full
    by_cases hn : 0 < n.2.length
    · rw [List.filter_cons_of_pos (by simpa using hn)]; simp
    · rw [List.filter_cons_of_neg (by simpa using hn)]
      exact ih (by unfold cnt at h ⊢; simp only [List.map_cons, List.sum_cons] at h; omega)
structure Fz (f z : Nat → Int) (n : Nat) : Prop where mk ::
  (lo : ∀ j, 0 ≤ f j) (hi : ∀ j, f j < (n : Int)) (zo : ∀ i, 0 ≤ z i ∧ z i ≤ 7)
theorem made_cnt {f z : Nat → Int} {n : Nat} (h : Fz f z n) (p : Nat) : cnt (nds f z p n) = p := by rw [cnt_nds f z p h.lo n, blw_all f (n : Nat) h.hi p]
theorem made_dealt {f z : Nat → Int} {n : Nat} (h : Fz f z n) (p : Nat) (hp : 1 ≤ p ∧ p ≤ 64) : dealt (nds f z p n) := by
  have hc := made_cnt h p
  refine ⟨by omega, by omega, fun i hi => ?_, fun m hm => ?_⟩
  · rw [times_nds f z p h.lo i (by omega) n, if_pos (h.hi i)]
  · obtain ⟨i, rfl⟩ := nds_mem f z p n m hm
    exact ps_ris f _ p
theorem made_zoned {f z : Nat → Int} {n : Nat} (h : Fz f z n) (p k : Nat) : zoned (nds f z p k) = true := by
  unfold zoned
  rw [List.all_eq_true]
  intro m hm
  obtain ⟨i, rfl⟩ := nds_mem f z p k m hm
  have := h.zo i
  simp only [Bool.and_eq_true, decide_eq_true_eq]
  omega
theorem made_chk {f z : Nat → Int} {n p : Nat} (h : Fz f z n) (hn : 1 ≤ n ∧ n ≤ 16) (hp : 1 ≤ p ∧ p ≤ 64) {c : Cl} (hnm : nmB c.store = true) (hset : setB c = true) (hrep : c.replicas ≤ full (nds f z p n)) (hfl : (p : Int) * c.replicas * c.chunks ≤ 512) : (chkC c (nds f z p n)).1 = 0 := by
  have hc := made_cnt h p
  have hl := nds_length f z p n
  unfold chkC chk
  rw [if_neg (by rw [hnm]; decide), if_neg (by rw [hset]; decide), if_neg (by omega), if_neg (by rw [made_zoned h p n]; decide)]
  have hs := (homes_iff _).2 (made_dealt h p hp)
  cases e : homesP (nds f z p n) with
  | none => rw [e] at hs; exact absurd hs (by decide)
  | some l =>
    simp only
    rw [if_neg (by omega), hc, if_neg (by omega)]
end Go.Proofs.YtljjpdjknnhceaaDoor.MadePure
