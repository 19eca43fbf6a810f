/- Joined texts of this claim: WithV -/
import Derived.Test.YtljjpdjknnhceaaDoorJRNam13
set_option linter.unusedVariables false
set_option linter.unusedSimpArgs false
/- With walked. -/
set_option linter.unusedVariables false
set_option linter.unusedSimpArgs false
namespace Go.Proofs.YtljjpdjknnhceaaDoor.WithV
open Go.RowKit Go.Proofs.YtljjpdjknnhceaaDoorW.PrintWords Go.Proofs.YtljjpdjknnhceaaDoorW.PrintLast Go.Proofs.YtljjpdjknnhceaaDoorW.PrintMore
open Go.Proofs.YtljjpdjknnhceaaDoor.Base Go.Proofs.YtljjpdjknnhceaaDoor.App Go.Proofs.YtljjpdjknnhceaaDoor.RingPure Go.Proofs.YtljjpdjknnhceaaDoor.ChkPure Go.Proofs.YtljjpdjknnhceaaDoor.Clus Go.Proofs.YtljjpdjknnhceaaDoor.Mids Go.Proofs.YtljjpdjknnhceaaDoor.Chkd Go.Proofs.YtljjpdjknnhceaaDoor.AppR Go.Proofs.YtljjpdjknnhceaaDoor.Twin Go.Proofs.YtljjpdjknnhceaaDoor.TwinW
def aL (c : Cl) : List Value := [.int .i64 c.replicas, .int .i64 c.width, .int .i64 c.chunks, .int .i64 c.retain, .int .i64 c.block, .int .i64 c.rate, .int .i64 c.per, .int .i64 c.burst, .int .i64 c.tries, .int .i64 c.base, .int .i64 c.most, .int .i64 c.quota, .int .i64 c.room, .int .i64 c.depot, .int .i64 c.resend, .int .i64 c.limit, .int .i64 c.patience, .int .i64 c.getwait, .int .i64 c.strikes, .int .i64 c.ban, .int .i64 c.home]
theorem aL_length (c : Cl) : (aL c).length = 21 := rfl
structure WW (c : Cl) (w w1 : World) : Prop where mk ::
  (box : w1.heap[w.heap.size]? = some (.cells (aL c).toArray 102 (0, 0))) (res : w1.heap[w.heap.size + 1]? = some (.cells zL.toArray 24 (0, 0))) (bel : Below w.heap.size w w1)
theorem ww_of (c : Cl) (w : World) : WW c w ((w.alloc (.cells (aL c).toArray 102)).alloc (.cells #[.string { data := #[] }, .int .i64 0, .int .i64 0, .int .i64 0, .int .i64 0, .int .i64 0, .int .i64 0, .int .i64 0, .int .i64 0, .int .i64 0, .int .i64 0, .int .i64 0, .int .i64 0, .int .i64 0, .int .i64 0, .int .i64 0, .int .i64 0, .int .i64 0, .int .i64 0, .int .i64 0, .int .i64 0, .int .i64 0, .slice none 0 0] 24)) := by
  obtain ⟨w0, hw0⟩ : ∃ w0, w0 = w.alloc (.cells (aL c).toArray 102) := ⟨_, rfl⟩
  rw [← hw0]
  have hb0 : Below w.heap.size w w0 := by rw [hw0]; exact (Below.refl _ _).alloc (Nat.le_refl _) _
  have hs0 : w0.heap.size = w.heap.size + 1 := by rw [hw0]; simp
  have hb1 : Below w0.heap.size w0 (w0.alloc (.cells #[.string { data := #[] }, .int .i64 0, .int .i64 0, .int .i64 0, .int .i64 0, .int .i64 0, .int .i64 0, .int .i64 0, .int .i64 0, .int .i64 0, .int .i64 0, .int .i64 0, .int .i64 0, .int .i64 0, .int .i64 0, .int .i64 0, .int .i64 0, .int .i64 0, .int .i64 0, .int .i64 0, .int .i64 0, .int .i64 0, .slice none 0 0] 24)) := (Below.refl _ _).alloc (Nat.le_refl _) _
  have hc : w0.heap[w.heap.size]? = some (.cells (aL c).toArray 102 (0, 0)) := by rw [hw0]; exact Go.heap_alloc_new w _
  exact ⟨(hb1.block _ (by omega)).trans hc, by rw [← hs0]; exact Go.heap_alloc_new w0 _, hb0.trans (hb1.mono hb0.size)⟩
theorem exec_build {P : Program} {ρ : Operand → Value} {o : Oper} {w : World} (t : TypeId) (parts : Array (Nat × Operand)) (ho : o.op = .build t parts) (cs : Array Value)
    (h : P.built t (parts.map fun (i, x) => (i, ρ x)).toList = some cs) : (execOp ρ o).run P w = .ok (.value (.agg cs)) w := by
  unfold execOp
  simp only [ho]
  have hb := run_build (P := P) w t (parts.map fun (i, x) => (i, ρ x)) cs h
  simp only [Sem.run_bind, hb, Result.andThen_ok, Sem.run_pure]
theorem list_build {P : Program} {ops : Array Oper} {rest : List Oper} {o : Oper} {act : Act} {Q : Exit → Act → World → Prop} {w : World} (hg : o.guard = none) (t : TypeId) (parts : Array (Nat × Operand)) (ho : o.op = .build t parts) (cs : Array Value)
    (h0 : P.built t (parts.map fun (i, x) => (i, act.eval x)).toList = some cs) (h : wpList P ops Q rest (act.put o.dst (.agg cs)) w) : wpList P ops Q (o :: rest) act w := by
  refine wpList_plain hg fun K hK => ?_
  unfold Oper.wp
  rw [exec_build t parts ho cs h0]
  exact hK _ _ h
theorem gate_build {P : Program} {ops : Array Oper} {rest : List Oper} {o : Oper} {act : Act} {Q : Exit → Act → World → Prop} {w : World} {t : TypeId} {parts : Array (Nat × Operand)} (_ho : o.op = .build t parts) (h : wpList P ops Q (o :: rest) act w) : wpList P ops Q (o :: rest) act w := h
theorem built_cl (c : Cl) (A : Option Addr) (n m : Nat) : Tryd.prog.built 24 [(0, .string c.store), (1, .int .i64 c.replicas), (2, .int .i64 c.width), (3, .int .i64 c.chunks), (4, .int .i64 c.retain), (5, .int .i64 c.block), (6, .int .i64 c.rate), (7, .int .i64 c.per), (8, .int .i64 c.burst), (9, .int .i64 c.tries), (10, .int .i64 c.base), (11, .int .i64 c.most), (12, .int .i64 c.quota), (13, .int .i64 c.room), (14, .int .i64 c.depot), (15, .int .i64 c.resend), (16, .int .i64 c.limit), (17, .int .i64 c.patience), (18, .int .i64 c.getwait), (19, .int .i64 c.strikes), (20, .int .i64 c.ban), (21, .int .i64 c.home), (22, .slice A n m)] = some (cL c (.slice A n m)).toArray := by kernel_rfl
set_option maxRecDepth 100000 in
set_option maxHeartbeats 8000000 in
theorem with_any (c : Cl) (A : Option Addr) (n m : Nat) (w : World) : Calls Tryd.prog 58 #[.string c.store, .agg (aL c).toArray, .slice A n m] w fun e w' => e = .returned (.agg (cL c (.slice A n m)).toArray) ∧ Below w.heap.size w w' := by
  have HW := Aside0.mk (ww_of c w)
  have hone := cl_one c A n m
  go_enter Tryd.func58, Tryd.ntmps58
  go_upto_region 1 with fail
  generalize (w.alloc (.cells (aL c).toArray 102)).alloc (.cells #[.string { data := #[] }, .int .i64 0, .int .i64 0, .int .i64 0, .int .i64 0, .int .i64 0, .int .i64 0, .int .i64 0, .int .i64 0, .int .i64 0, .int .i64 0, .int .i64 0, .int .i64 0, .int .i64 0, .int .i64 0, .int .i64 0, .int .i64 0, .int .i64 0, .int .i64 0, .int .i64 0, .int .i64 0, .int .i64 0, .slice none 0 0] 24) = w1 at HW ⊢
  have h0 : w1.cell? ⟨w.heap.size, 0, none⟩ = some (.int .i64 c.replicas) := by rw [blk_cell HW.out.box]; rfl
  have h1 : w1.cell? ⟨w.heap.size, 1, none⟩ = some (.int .i64 c.width) := by rw [blk_cell HW.out.box]; rfl
  have h2 : w1.cell? ⟨w.heap.size, 2, none⟩ = some (.int .i64 c.chunks) := by rw [blk_cell HW.out.box]; rfl
  have h3 : w1.cell? ⟨w.heap.size, 3, none⟩ = some (.int .i64 c.retain) := by rw [blk_cell HW.out.box]; rfl
  have h4 : w1.cell? ⟨w.heap.size, 4, none⟩ = some (.int .i64 c.block) := by rw [blk_cell HW.out.box]; rfl
  have h5 : w1.cell? ⟨w.heap.size, 5, none⟩ = some (.int .i64 c.rate) := by rw [blk_cell HW.out.box]; rfl
  have h6 : w1.cell? ⟨w.heap.size, 6, none⟩ = some (.int .i64 c.per) := by rw [blk_cell HW.out.box]; rfl
  have h7 : w1.cell? ⟨w.heap.size, 7, none⟩ = some (.int .i64 c.burst) := by rw [blk_cell HW.out.box]; rfl
  have h8 : w1.cell? ⟨w.heap.size, 8, none⟩ = some (.int .i64 c.tries) := by rw [blk_cell HW.out.box]; rfl
  have h9 : w1.cell? ⟨w.heap.size, 9, none⟩ = some (.int .i64 c.base) := by rw [blk_cell HW.out.box]; rfl
  have h10 : w1.cell? ⟨w.heap.size, 10, none⟩ = some (.int .i64 c.most) := by rw [blk_cell HW.out.box]; rfl
  have h11 : w1.cell? ⟨w.heap.size, 11, none⟩ = some (.int .i64 c.quota) := by rw [blk_cell HW.out.box]; rfl
  have h12 : w1.cell? ⟨w.heap.size, 12, none⟩ = some (.int .i64 c.room) := by rw [blk_cell HW.out.box]; rfl
  have h13 : w1.cell? ⟨w.heap.size, 13, none⟩ = some (.int .i64 c.depot) := by rw [blk_cell HW.out.box]; rfl
  have h14 : w1.cell? ⟨w.heap.size, 14, none⟩ = some (.int .i64 c.resend) := by rw [blk_cell HW.out.box]; rfl
  have h15 : w1.cell? ⟨w.heap.size, 15, none⟩ = some (.int .i64 c.limit) := by rw [blk_cell HW.out.box]; rfl
  have h16 : w1.cell? ⟨w.heap.size, 16, none⟩ = some (.int .i64 c.patience) := by rw [blk_cell HW.out.box]; rfl
  have h17 : w1.cell? ⟨w.heap.size, 17, none⟩ = some (.int .i64 c.getwait) := by rw [blk_cell HW.out.box]; rfl
  have h18 : w1.cell? ⟨w.heap.size, 18, none⟩ = some (.int .i64 c.strikes) := by rw [blk_cell HW.out.box]; rfl
  have h19 : w1.cell? ⟨w.heap.size, 19, none⟩ = some (.int .i64 c.ban) := by rw [blk_cell HW.out.box]; rfl
  have h20 : w1.cell? ⟨w.heap.size, 20, none⟩ = some (.int .i64 c.home) := by rw [blk_cell HW.out.box]; rfl
  have ht := blk_there HW.out.res
  have HX : Aside0 ((w1.setCells (w.heap.size + 1) 0 (cL c (.slice A n m))).heap[w.heap.size + 1]? = some (.cells (cL c (.slice A n m)).toArray 24 (0, 0))) := ⟨setCells_whole HW.out.res rfl⟩
  have HB : Aside0 (Below w.heap.size w (w1.setCells (w.heap.size + 1) 0 (cL c (.slice A n m)))) := ⟨below_setCells HW.out.bel (by omega) _ _⟩
  go_wp2_with (first | ((with_reducible refine gate_build (t := 24) (parts := #[(0, .tmp 7), (1, .tmp 9), (2, .tmp 11), (3, .tmp 13), (4, .tmp 15), (5, .tmp 17), (6, .tmp 19), (7, .tmp 21), (8, .tmp 23), (9, .tmp 25), (10, .tmp 27), (11, .tmp 29), (12, .tmp 31), (13, .tmp 33), (14, .tmp 35), (15, .tmp 37), (16, .tmp 39), (17, .tmp 41), (18, .tmp 43), (19, .tmp 45), (20, .tmp 47), (21, .tmp 49), (22, .tmp 50)]) rfl ?_); go_loud (refine list_build rfl 24 #[(0, .tmp 7), (1, .tmp 9), (2, .tmp 11), (3, .tmp 13), (4, .tmp 15), (5, .tmp 17), (6, .tmp 19), (7, .tmp 21), (8, .tmp 23), (9, .tmp 25), (10, .tmp 27), (11, .tmp 29), (12, .tmp 31), (13, .tmp 33), (14, .tmp 35), (15, .tmp 37), (16, .tmp 39), (17, .tmp 41), (18, .tmp 43), (19, .tmp 45), (20, .tmp 47), (21, .tmp 49), (22, .tmp 50)] rfl (cL c (.slice A n m)).toArray (by simp only [List.map_toArray, List.map_cons, List.map_nil]; exact built_cl c A n m) ?_)) | ((with_reducible refine gate_store (ty := 24) (x := .tmp 6) (y := .tmp 51) rfl ?_); go_loud (refine wpList_store_mid rfl 24 (.tmp 6) (.tmp 51) rfl (w.heap.size + 1) 0 (cL c (.slice A n m)).toArray rfl rfl ht infoC23 hone ?_)))
  refine bodyPost_ret (v := .agg (cL c (.slice A n m)).toArray) ?_ rfl ⟨rfl, HB.out⟩
  exact results_c_mid rfl _ _ (w.heap.size + 1) 0 (cL c (.slice A n m)) _ rfl (blk_range HX.out) Tryd.underlying24 rfl infoC23
end Go.Proofs.YtljjpdjknnhceaaDoor.WithV
