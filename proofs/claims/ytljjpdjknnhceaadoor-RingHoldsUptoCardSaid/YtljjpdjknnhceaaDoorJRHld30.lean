/- Joined texts of this claim: RegA, WithV, FilR, FilesR, LawHolds, Bulk -/
import Derived.Test.YtljjpdjknnhceaaDoorJRHld7
import Derived.Test.YtljjpdjknnhceaaDoorJRHld11
import Derived.Test.YtljjpdjknnhceaaDoorJRHld27
import Derived.Test.YtljjpdjknnhceaaDoorJRHld29
import Derived.Test.YtljjpdjknnhceaaDoorJRHld17
import Derived.Test.YtljjpdjknnhceaaDoorRows
set_option linter.unusedVariables false
set_option linter.unusedSimpArgs false
/- A region of a function, taken out of its code, so that it is walked in a declaration of its own. -/
set_option linter.unusedVariables false
set_option linter.unusedSimpArgs false
namespace Go.Proofs.YtljjpdjknnhceaaDoor.RegA
open Go.RowKit Go.Proofs.YtljjpdjknnhceaaDoorW.PrintWords Go.Proofs.YtljjpdjknnhceaaDoorW.PrintLast
def regOf (n : Nat) : Code → Option Code
  | .region k ops d => if k = n then some (.region k ops d) else none
  | .seq a b => match regOf n a with
    | some c => some c
    | none => regOf n b
  | .cond _ a b => match regOf n a with
    | some c => some c
    | none => regOf n b
  | .loop c => regOf n c
  | .block _ c => regOf n c
  | .scope c => regOf n c
  | _ => none
noncomputable def regC (n : Nat) (f : Func) : Code := ((f.body.bind (regOf n)).getD .skip)
def putV : List (Option Tmp × Value) → Act → Act
  | [], a => a
  | p :: l, a => putV l (a.put p.1 p.2)
end Go.Proofs.YtljjpdjknnhceaaDoor.RegA

/- With walked. -/
set_option linter.unusedVariables false
set_option linter.unusedSimpArgs false
namespace Go.Proofs.YtljjpdjknnhceaaDoor.WithV
open Go.RowKit Go.Proofs.YtljjpdjknnhceaaDoorW.PrintWords Go.Proofs.YtljjpdjknnhceaaDoorW.PrintLast Go.Proofs.YtljjpdjknnhceaaDoorW.PrintMore
open Go.Proofs.YtljjpdjknnhceaaDoor.Base Go.Proofs.YtljjpdjknnhceaaDoor.App Go.Proofs.YtljjpdjknnhceaaDoor.RingPure Go.Proofs.YtljjpdjknnhceaaDoor.ChkPure Go.Proofs.YtljjpdjknnhceaaDoor.Clus Go.Proofs.YtljjpdjknnhceaaDoor.Mids Go.Proofs.YtljjpdjknnhceaaDoor.Chkd Go.Proofs.YtljjpdjknnhceaaDoor.AppR Go.Proofs.YtljjpdjknnhceaaDoor.Twin Go.Proofs.YtljjpdjknnhceaaDoor.TwinW
def aL (c : Cl) : List Value := [.int .i64 c.replicas, .int .i64 c.width, .int .i64 c.chunks, .int .i64 c.retain, .int .i64 c.block, .int .i64 c.rate, .int .i64 c.per, .int .i64 c.burst, .int .i64 c.tries, .int .i64 c.base, .int .i64 c.most, .int .i64 c.quota, .int .i64 c.room, .int .i64 c.depot, .int .i64 c.resend, .int .i64 c.limit, .int .i64 c.patience, .int .i64 c.getwait, .int .i64 c.strikes, .int .i64 c.ban, .int .i64 c.home]
theorem aL_length (c : Cl) : (aL c).length = 21 := rfl
structure WW (c : Cl) (w w1 : World) : Prop where mk ::
  (box : w1.heap[w.heap.size]? = some (.cells (aL c).toArray 102 (0, 0))) (res : w1.heap[w.heap.size + 1]? = some (.cells zL.toArray 24 (0, 0))) (bel : Below w.heap.size w w1)
theorem ww_of (c : Cl) (w : World) : WW c w ((w.alloc (.cells (aL c).toArray 102)).alloc (.cells #[.string { data := #[] }, .int .i64 0, .int .i64 0, .int .i64 0, .int .i64 0, .int .i64 0, .int .i64 0, .int .i64 0, .int .i64 0, .int .i64 0, .int .i64 0, .int .i64 0, .int .i64 0, .int .i64 0, .int .i64 0, .int .i64 0, .int .i64 0, .int .i64 0, .int .i64 0, .int .i64 0, .int .i64 0, .int .i64 0, .slice none 0 0] 24)) := by
  obtain ⟨w0, hw0⟩ : ∃ w0, w0 = w.alloc (.cells (aL c).toArray 102) := ⟨_, rfl⟩
  rw [← hw0]
  have hb0 : Below w.heap.size w w0 := by rw [hw0]; exact (Below.refl _ _).alloc (Nat.le_refl _) _
  have hs0 : w0.heap.size = w.heap.size + 1 := by rw [hw0]; simp
  have hb1 : Below w0.heap.size w0 (w0.alloc (.cells #[.string { data := #[] }, .int .i64 0, .int .i64 0, .int .i64 0, .int .i64 0, .int .i64 0, .int .i64 0, .int .i64 0, .int .i64 0, .int .i64 0, .int .i64 0, .int .i64 0, .int .i64 0, .int .i64 0, .int .i64 0, .int .i64 0, .int .i64 0, .int .i64 0, .int .i64 0, .int .i64 0, .int .i64 0, .int .i64 0, .slice none 0 0] 24)) := (Below.refl _ _).alloc (Nat.le_refl _) _
  have hc : w0.heap[w.heap.size]? = some (.cells (aL c).toArray 102 (0, 0)) := by rw [hw0]; exact Go.heap_alloc_new w _
  exact ⟨(hb1.block _ (by omega)).trans hc, by rw [← hs0]; exact Go.heap_alloc_new w0 _, hb0.trans (hb1.mono hb0.size)⟩
theorem exec_build {P : Program} {ρ : Operand → Value} {o : Oper} {w : World} (t : TypeId) (parts : Array (Nat × Operand)) (ho : o.op = .build t parts) (cs : Array Value)
    (h : P.built t (parts.map fun (i, x) => (i, ρ x)).toList = some cs) : (execOp ρ o).run P w = .ok (.value (.agg cs)) w := by
  unfold execOp
  simp only [ho]
  have hb := run_build (P := P) w t (parts.map fun (i, x) => (i, ρ x)) cs h
  simp only [Sem.run_bind, hb, Result.andThen_ok, Sem.run_pure]
theorem list_build {P : Program} {ops : Array Oper} {rest : List Oper} {o : Oper} {act : Act} {Q : Exit → Act → World → Prop} {w : World} (hg : o.guard = none) (t : TypeId) (parts : Array (Nat × Operand)) (ho : o.op = .build t parts) (cs : Array Value)
    (h0 : P.built t (parts.map fun (i, x) => (i, act.eval x)).toList = some cs) (h : wpList P ops Q rest (act.put o.dst (.agg cs)) w) : wpList P ops Q (o :: rest) act w := by
  refine wpList_plain hg fun K hK => ?_
  unfold Oper.wp
  rw [exec_build t parts ho cs h0]
  exact hK _ _ h
theorem gate_build {P : Program} {ops : Array Oper} {rest : List Oper} {o : Oper} {act : Act} {Q : Exit → Act → World → Prop} {w : World} {t : TypeId} {parts : Array (Nat × Operand)} (_ho : o.op = .build t parts) (h : wpList P ops Q (o :: rest) act w) : wpList P ops Q (o :: rest) act w := h
theorem built_cl (c : Cl) (A : Option Addr) (n m : Nat) : Tryd.prog.built 24 [(0, .string c.store), (1, .int .i64 c.replicas), (2, .int .i64 c.width), (3, .int .i64 c.chunks), (4, .int .i64 c.retain), (5, .int .i64 c.block), (6, .int .i64 c.rate), (7, .int .i64 c.per), (8, .int .i64 c.burst), (9, .int .i64 c.tries), (10, .int .i64 c.base), (11, .int .i64 c.most), (12, .int .i64 c.quota), (13, .int .i64 c.room), (14, .int .i64 c.depot), (15, .int .i64 c.resend), (16, .int .i64 c.limit), (17, .int .i64 c.patience), (18, .int .i64 c.getwait), (19, .int .i64 c.strikes), (20, .int .i64 c.ban), (21, .int .i64 c.home), (22, .slice A n m)] = some (cL c (.slice A n m)).toArray := by kernel_rfl
set_option maxRecDepth 100000 in
set_option maxHeartbeats 8000000 in
theorem with_any (c : Cl) (A : Option Addr) (n m : Nat) (w : World) : Calls Tryd.prog 58 #[.string c.store, .agg (aL c).toArray, .slice A n m] w fun e w' => e = .returned (.agg (cL c (.slice A n m)).toArray) ∧ Below w.heap.size w w' := by
  have HW := Aside0.mk (ww_of c w)
  have hone := cl_one c A n m
  go_enter Tryd.func58, Tryd.ntmps58
  go_upto_region 1 with fail
  generalize (w.alloc (.cells (aL c).toArray 102)).alloc (.cells #[.string { data := #[] }, .int .i64 0, .int .i64 0, .int .i64 0, .int .i64 0, .int .i64 0, .int .i64 0, .int .i64 0, .int .i64 0, .int .i64 0, .int .i64 0, .int .i64 0, .int .i64 0, .int .i64 0, .int .i64 0, .int .i64 0, .int .i64 0, .int .i64 0, .int .i64 0, .int .i64 0, .int .i64 0, .int .i64 0, .slice none 0 0] 24) = w1 at HW ⊢
  have h0 : w1.cell? ⟨w.heap.size, 0, none⟩ = some (.int .i64 c.replicas) := by rw [blk_cell HW.out.box]; rfl
  have h1 : w1.cell? ⟨w.heap.size, 1, none⟩ = some (.int .i64 c.width) := by rw [blk_cell HW.out.box]; rfl
  have h2 : w1.cell? ⟨w.heap.size, 2, none⟩ = some (.int .i64 c.chunks) := by rw [blk_cell HW.out.box]; rfl
  have h3 : w1.cell? ⟨w.heap.size, 3, none⟩ = some (.int .i64 c.retain) := by rw [blk_cell HW.out.box]; rfl
  have h4 : w1.cell? ⟨w.heap.size, 4, none⟩ = some (.int .i64 c.block) := by rw [blk_cell HW.out.box]; rfl
  have h5 : w1.cell? ⟨w.heap.size, 5, none⟩ = some (.int .i64 c.rate) := by rw [blk_cell HW.out.box]; rfl
  have h6 : w1.cell? ⟨w.heap.size, 6, none⟩ = some (.int .i64 c.per) := by rw [blk_cell HW.out.box]; rfl
  have h7 : w1.cell? ⟨w.heap.size, 7, none⟩ = some (.int .i64 c.burst) := by rw [blk_cell HW.out.box]; rfl
  have h8 : w1.cell? ⟨w.heap.size, 8, none⟩ = some (.int .i64 c.tries) := by rw [blk_cell HW.out.box]; rfl
  have h9 : w1.cell? ⟨w.heap.size, 9, none⟩ = some (.int .i64 c.base) := by rw [blk_cell HW.out.box]; rfl
  have h10 : w1.cell? ⟨w.heap.size, 10, none⟩ = some (.int .i64 c.most) := by rw [blk_cell HW.out.box]; rfl
  have h11 : w1.cell? ⟨w.heap.size, 11, none⟩ = some (.int .i64 c.quota) := by rw [blk_cell HW.out.box]; rfl
  have h12 : w1.cell? ⟨w.heap.size, 12, none⟩ = some (.int .i64 c.room) := by rw [blk_cell HW.out.box]; rfl
  have h13 : w1.cell? ⟨w.heap.size, 13, none⟩ = some (.int .i64 c.depot) := by rw [blk_cell HW.out.box]; rfl
  have h14 : w1.cell? ⟨w.heap.size, 14, none⟩ = some (.int .i64 c.resend) := by rw [blk_cell HW.out.box]; rfl
  have h15 : w1.cell? ⟨w.heap.size, 15, none⟩ = some (.int .i64 c.limit) := by rw [blk_cell HW.out.box]; rfl
  have h16 : w1.cell? ⟨w.heap.size, 16, none⟩ = some (.int .i64 c.patience) := by rw [blk_cell HW.out.box]; rfl
  have h17 : w1.cell? ⟨w.heap.size, 17, none⟩ = some (.int .i64 c.getwait) := by rw [blk_cell HW.out.box]; rfl
  have h18 : w1.cell? ⟨w.heap.size, 18, none⟩ = some (.int .i64 c.strikes) := by rw [blk_cell HW.out.box]; rfl
  have h19 : w1.cell? ⟨w.heap.size, 19, none⟩ = some (.int .i64 c.ban) := by rw [blk_cell HW.out.box]; rfl
  have h20 : w1.cell? ⟨w.heap.size, 20, none⟩ = some (.int .i64 c.home) := by rw [blk_cell HW.out.box]; rfl
  have ht := blk_there HW.out.res
  have HX : Aside0 ((w1.setCells (w.heap.size + 1) 0 (cL c (.slice A n m))).heap[w.heap.size + 1]? = some (.cells (cL c (.slice A n m)).toArray 24 (0, 0))) := ⟨setCells_whole HW.out.res rfl⟩
  have HB : Aside0 (Below w.heap.size w (w1.setCells (w.heap.size + 1) 0 (cL c (.slice A n m)))) := ⟨below_setCells HW.out.bel (by omega) _ _⟩
  go_wp2_with (first | ((with_reducible refine gate_build (t := 24) (parts := #[(0, .tmp 7), (1, .tmp 9), (2, .tmp 11), (3, .tmp 13), (4, .tmp 15), (5, .tmp 17), (6, .tmp 19), (7, .tmp 21), (8, .tmp 23), (9, .tmp 25), (10, .tmp 27), (11, .tmp 29), (12, .tmp 31), (13, .tmp 33), (14, .tmp 35), (15, .tmp 37), (16, .tmp 39), (17, .tmp 41), (18, .tmp 43), (19, .tmp 45), (20, .tmp 47), (21, .tmp 49), (22, .tmp 50)]) rfl ?_); go_loud (refine list_build rfl 24 #[(0, .tmp 7), (1, .tmp 9), (2, .tmp 11), (3, .tmp 13), (4, .tmp 15), (5, .tmp 17), (6, .tmp 19), (7, .tmp 21), (8, .tmp 23), (9, .tmp 25), (10, .tmp 27), (11, .tmp 29), (12, .tmp 31), (13, .tmp 33), (14, .tmp 35), (15, .tmp 37), (16, .tmp 39), (17, .tmp 41), (18, .tmp 43), (19, .tmp 45), (20, .tmp 47), (21, .tmp 49), (22, .tmp 50)] rfl (cL c (.slice A n m)).toArray (by simp only [List.map_toArray, List.map_cons, List.map_nil]; exact built_cl c A n m) ?_)) | ((with_reducible refine gate_store (ty := 24) (x := .tmp 6) (y := .tmp 51) rfl ?_); go_loud (refine wpList_store_mid rfl 24 (.tmp 6) (.tmp 51) rfl (w.heap.size + 1) 0 (cL c (.slice A n m)).toArray rfl rfl ht infoC23 hone ?_)))
  refine bodyPost_ret (v := .agg (cL c (.slice A n m)).toArray) ?_ rfl ⟨rfl, HB.out⟩
  exact results_c_mid rfl _ _ (w.heap.size + 1) 0 (cL c (.slice A n m)) _ rfl (blk_range HX.out) Tryd.underlying24 rfl infoC23
end Go.Proofs.YtljjpdjknnhceaaDoor.WithV

/- The document's Files: the regions that draw their order. -/
set_option linter.unusedVariables false
set_option linter.unusedSimpArgs false
namespace Go.Proofs.YtljjpdjknnhceaaDoor.FilR
open Go.RowKit Go.Proofs.YtljjpdjknnhceaaDoorW.PrintWords Go.Proofs.YtljjpdjknnhceaaDoorW.PrintLast Go.Proofs.YtljjpdjknnhceaaDoorW.PrintMore
open Go.Proofs.YtljjpdjknnhceaaDoor.Base Go.Proofs.YtljjpdjknnhceaaDoor.Mids Go.Proofs.YtljjpdjknnhceaaDoor.Clus Go.Proofs.YtljjpdjknnhceaaDoor.Chkd Go.Proofs.YtljjpdjknnhceaaDoor.AppR Go.Proofs.YtljjpdjknnhceaaDoor.NumR Go.Proofs.YtljjpdjknnhceaaDoor.NamePure Go.Proofs.YtljjpdjknnhceaaDoor.FileN Go.Proofs.YtljjpdjknnhceaaDoor.FilesP Go.Proofs.YtljjpdjknnhceaaDoor.RegA
open Go.Proofs.YtljjpdjknnhceaaDoor.WithV (exec_build)
set_option maxRecDepth 100000 in
set_option maxHeartbeats 4000000 in
theorem fil11 (Q : Exit → Act → World → Prop) (a0 : Act) (wi : World) (b i n cap x y k : Nat) (S : ByteArray) (hi : i < n)
    (HX : Aside0 (wi.cell? ⟨b, i * 2, none⟩ = some (.int .i64 ((x : Nat) : Int)))) (HY : Aside0 (wi.cell? ⟨b, i * 2 + 1, none⟩ = some (.int .i64 ((y : Nat) : Int))))
    (HNM : Aside0 (nameF ⟨(x : Int), (y : Int), (k : Int), false⟩ = S ∧ errF ⟨(x : Int), (y : Int), (k : Int), false⟩ = 0))
    (hN : a0.tmps.size = 75) (h6 : a0.tmps.getD 6 undef = .slice (some ⟨b, 0, none⟩) n cap) (h9 : a0.tmps.getD 9 undef = .int .i64 ((i : Nat) : Int)) (h10 : a0.tmps.getD 10 undef = .int .i64 ((k : Nat) : Int))
    (hQ : ∀ wv : World, Below wi.heap.size wi wv → Q .normal (putV [(some 37, .slice (some ⟨b, 0, none⟩) n cap), (some 38, .int .i64 ((i : Nat) : Int)), (some 39, .pointer (some ⟨b, i * 2, none⟩)), (some 40, .pointer (some ⟨b, i * 2, none⟩)), (some 41, .int .i64 ((x : Nat) : Int)), (some 42, .slice (some ⟨b, 0, none⟩) n cap), (some 43, .int .i64 ((i : Nat) : Int)), (some 44, .pointer (some ⟨b, i * 2, none⟩)), (some 45, .pointer (some ⟨b, i * 2 + 1, none⟩)), (some 46, .int .i64 ((y : Nat) : Int)), (some 47, .int .i64 ((k : Nat) : Int)), (some 48, fV ⟨(x : Int), (y : Int), (k : Int), false⟩), (some 49, .tuple #[.string S, .int .i64 0]), (some 36, .tuple #[.string S, .int .i64 0]), (some 50, .string S), (some 51, .int .i64 0), (some 11, .string S), (some 12, .int .i64 0)] a0) wv) :
    Code.wp Tryd.prog (regC 11 Tryd.f41) Q a0 wi := by
  have HIX : Aside0 ((i : Int) < (n : Int)) := ⟨by omega⟩
  conv => arg 2; whnf
  refine Reg.wp_region_rel _ (by kernel_rfl) _ _ _ hN (by kernel_rfl) (fun w' => Below wi.heap.size wi w') (fun _ w w' => Below w.heap.size w w') (fun jq vs w' => match jq with
    | 0 => vs 0 = .slice (some ⟨b, 0, none⟩) n cap
    | 1 => vs 1 = .int .i64 ((i : Nat) : Int)
    | 2 => vs 2 = .pointer (some ⟨b, i * 2, none⟩)
    | 3 => vs 3 = .pointer (some ⟨b, i * 2, none⟩)
    | 4 => vs 4 = .int .i64 ((x : Nat) : Int)
    | 5 => vs 5 = .slice (some ⟨b, 0, none⟩) n cap
    | 6 => vs 6 = .int .i64 ((i : Nat) : Int)
    | 7 => vs 7 = .pointer (some ⟨b, i * 2, none⟩)
    | 8 => vs 8 = .pointer (some ⟨b, i * 2 + 1, none⟩)
    | 9 => vs 9 = .int .i64 ((y : Nat) : Int)
    | 10 => vs 10 = .int .i64 ((k : Nat) : Int)
    | 11 => vs 11 = fV ⟨(x : Int), (y : Int), (k : Int), false⟩
    | 12 => vs 12 = .tuple #[.string S, .int .i64 0]
    | 13 => vs 13 = .tuple #[.string S, .int .i64 0]
    | 14 => vs 14 = .string S
    | 15 => vs 15 = .int .i64 0
    | 16 => vs 16 = .string S
    | 17 => vs 17 = .int .i64 0
    | _ => True) (below_drew (Below.refl _ _)) ?_ ?_ ?_ ?_
  · intro i j vs w0 w' hij hI hR hb
    rcases j with _ | j
    · exact hR
    rcases j with _ | j
    · exact hR
    rcases j with _ | j
    · exact hR
    rcases j with _ | j
    · exact hR
    rcases j with _ | j
    · exact hR
    rcases j with _ | j
    · exact hR
    rcases j with _ | j
    · exact hR
    rcases j with _ | j
    · exact hR
    rcases j with _ | j
    · exact hR
    rcases j with _ | j
    · exact hR
    rcases j with _ | j
    · exact hR
    rcases j with _ | j
    · exact hR
    rcases j with _ | j
    · exact hR
    rcases j with _ | j
    · exact hR
    rcases j with _ | j
    · exact hR
    rcases j with _ | j
    · exact hR
    rcases j with _ | j
    · exact hR
    rcases j with _ | j
    · exact hR
    exact trivial
  · intro j o vs vs1 w0 ho he hp hR
    rcases j with _ | j
    · exact he.trans hR
    rcases j with _ | j
    · exact he.trans hR
    rcases j with _ | j
    · exact he.trans hR
    rcases j with _ | j
    · exact he.trans hR
    rcases j with _ | j
    · exact he.trans hR
    rcases j with _ | j
    · exact he.trans hR
    rcases j with _ | j
    · exact he.trans hR
    rcases j with _ | j
    · exact he.trans hR
    rcases j with _ | j
    · exact he.trans hR
    rcases j with _ | j
    · exact he.trans hR
    rcases j with _ | j
    · exact he.trans hR
    rcases j with _ | j
    · exact he.trans hR
    rcases j with _ | j
    · exact he.trans hR
    rcases j with _ | j
    · exact he.trans hR
    rcases j with _ | j
    · exact he.trans hR
    rcases j with _ | j
    · exact he.trans hR
    rcases j with _ | j
    · exact he.trans hR
    rcases j with _ | j
    · exact he.trans hR
    exact trivial
  · skip
    refine Reg.allOps_cons ?_ ?_
    · intro vs w0 ρ hρ hcst hglb hfun hI hp
      have e6 : ρ (.tmp 6) = .slice (some ⟨b, 0, none⟩) n cap := (hρ (.tmp 6)).trans h6
      clear hρ hp
      refine Reg.rel_value (.slice (some ⟨b, 0, none⟩) n cap) ?_ ⟨hI, rfl⟩
      go_simp
    refine Reg.allOps_cons ?_ ?_
    · intro vs w0 ρ hρ hcst hglb hfun hI hp
      have e9 : ρ (.tmp 9) = .int .i64 ((i : Nat) : Int) := (hρ (.tmp 9)).trans h9
      clear hρ hp
      refine Reg.rel_value (.int .i64 ((i : Nat) : Int)) ?_ ⟨hI, rfl⟩
      go_simp
    refine Reg.allOps_cons ?_ ?_
    · intro vs w0 ρ hρ hcst hglb hfun hI hp
      have e37 : ρ (.tmp 37) = .slice (some ⟨b, 0, none⟩) n cap := (hρ (.tmp 37)).trans (show vs 0 = .slice (some ⟨b, 0, none⟩) n cap from hp 0 rfl)
      have e38 : ρ (.tmp 38) = .int .i64 ((i : Nat) : Int) := (hρ (.tmp 38)).trans (show vs 1 = .int .i64 ((i : Nat) : Int) from hp 1 rfl)
      clear hρ hp
      refine Reg.rel_value (.pointer (some ⟨b, i * 2, none⟩)) ?_ ⟨hI, rfl⟩
      clear hI
      have hq := HIX.out
      go_simp
    refine Reg.allOps_cons ?_ ?_
    · intro vs w0 ρ hρ hcst hglb hfun hI hp
      have e39 : ρ (.tmp 39) = .pointer (some ⟨b, i * 2, none⟩) := (hρ (.tmp 39)).trans (show vs 2 = .pointer (some ⟨b, i * 2, none⟩) from hp 2 rfl)
      clear hρ hp
      refine Reg.rel_value (.pointer (some ⟨b, i * 2, none⟩)) ?_ ⟨hI, rfl⟩
      go_simp
    refine Reg.allOps_cons ?_ ?_
    · intro vs w0 ρ hρ hcst hglb hfun hI hp
      have e40 : ρ (.tmp 40) = .pointer (some ⟨b, i * 2, none⟩) := (hρ (.tmp 40)).trans (show vs 3 = .pointer (some ⟨b, i * 2, none⟩) from hp 3 rfl)
      clear hρ hp
      have hl2 : w0.cell? ⟨b, i * 2, none⟩ = some (.int .i64 ((x : Nat) : Int)) := cell_below hI (Nat.le_refl _) HX.out
      refine Reg.rel_value (.int .i64 ((x : Nat) : Int)) ?_ ⟨hI, rfl⟩
      clear hI
      go_simp
    refine Reg.allOps_cons ?_ ?_
    · intro vs w0 ρ hρ hcst hglb hfun hI hp
      have e6 : ρ (.tmp 6) = .slice (some ⟨b, 0, none⟩) n cap := (hρ (.tmp 6)).trans h6
      clear hρ hp
      refine Reg.rel_value (.slice (some ⟨b, 0, none⟩) n cap) ?_ ⟨hI, rfl⟩
      go_simp
    refine Reg.allOps_cons ?_ ?_
    · intro vs w0 ρ hρ hcst hglb hfun hI hp
      have e9 : ρ (.tmp 9) = .int .i64 ((i : Nat) : Int) := (hρ (.tmp 9)).trans h9
      clear hρ hp
      refine Reg.rel_value (.int .i64 ((i : Nat) : Int)) ?_ ⟨hI, rfl⟩
      go_simp
    refine Reg.allOps_cons ?_ ?_
    · intro vs w0 ρ hρ hcst hglb hfun hI hp
      have e42 : ρ (.tmp 42) = .slice (some ⟨b, 0, none⟩) n cap := (hρ (.tmp 42)).trans (show vs 5 = .slice (some ⟨b, 0, none⟩) n cap from hp 5 rfl)
      have e43 : ρ (.tmp 43) = .int .i64 ((i : Nat) : Int) := (hρ (.tmp 43)).trans (show vs 6 = .int .i64 ((i : Nat) : Int) from hp 6 rfl)
      clear hρ hp
      refine Reg.rel_value (.pointer (some ⟨b, i * 2, none⟩)) ?_ ⟨hI, rfl⟩
      clear hI
      have hq := HIX.out
      go_simp
    refine Reg.allOps_cons ?_ ?_
    · intro vs w0 ρ hρ hcst hglb hfun hI hp
      have e44 : ρ (.tmp 44) = .pointer (some ⟨b, i * 2, none⟩) := (hρ (.tmp 44)).trans (show vs 7 = .pointer (some ⟨b, i * 2, none⟩) from hp 7 rfl)
      clear hρ hp
      refine Reg.rel_value (.pointer (some ⟨b, i * 2 + 1, none⟩)) ?_ ⟨hI, rfl⟩
      go_simp
    refine Reg.allOps_cons ?_ ?_
    · intro vs w0 ρ hρ hcst hglb hfun hI hp
      have e45 : ρ (.tmp 45) = .pointer (some ⟨b, i * 2 + 1, none⟩) := (hρ (.tmp 45)).trans (show vs 8 = .pointer (some ⟨b, i * 2 + 1, none⟩) from hp 8 rfl)
      clear hρ hp
      have hl2 : w0.cell? ⟨b, i * 2 + 1, none⟩ = some (.int .i64 ((y : Nat) : Int)) := cell_below hI (Nat.le_refl _) HY.out
      refine Reg.rel_value (.int .i64 ((y : Nat) : Int)) ?_ ⟨hI, rfl⟩
      clear hI
      go_simp
    refine Reg.allOps_cons ?_ ?_
    · intro vs w0 ρ hρ hcst hglb hfun hI hp
      have e10 : ρ (.tmp 10) = .int .i64 ((k : Nat) : Int) := (hρ (.tmp 10)).trans h10
      clear hρ hp
      refine Reg.rel_value (.int .i64 ((k : Nat) : Int)) ?_ ⟨hI, rfl⟩
      go_simp
    refine Reg.allOps_cons ?_ ?_
    · intro vs w0 ρ hρ hcst hglb hfun hI hp
      have e41 : ρ (.tmp 41) = .int .i64 ((x : Nat) : Int) := (hρ (.tmp 41)).trans (show vs 4 = .int .i64 ((x : Nat) : Int) from hp 4 rfl)
      have e46 : ρ (.tmp 46) = .int .i64 ((y : Nat) : Int) := (hρ (.tmp 46)).trans (show vs 9 = .int .i64 ((y : Nat) : Int) from hp 9 rfl)
      have e47 : ρ (.tmp 47) = .int .i64 ((k : Nat) : Int) := (hρ (.tmp 47)).trans (show vs 10 = .int .i64 ((k : Nat) : Int) from hp 10 rfl)
      clear hρ hp
      refine Reg.rel_value (fV ⟨(x : Int), (y : Int), (k : Int), false⟩) (exec_build 70 _ rfl _ ?_) ⟨hI, rfl⟩
      simp only [List.map_toArray, List.map_cons, List.map_nil, hcst, e41, e46, e47]
      kernel_rfl
    refine Reg.allOps_cons ?_ ?_
    · intro vs w0 ρ hρ hcst hglb hfun hI hp
      have e48 : ρ (.tmp 48) = fV ⟨(x : Int), (y : Int), (k : Int), false⟩ := (hρ (.tmp 48)).trans (show vs 11 = fV ⟨(x : Int), (y : Int), (k : Int), false⟩ from hp 11 rfl)
      clear hρ hp
      refine Reg.rel_call Tryd.func34 (by kernel_rfl) rfl #[fV ⟨(x : Int), (y : Int), (k : Int), false⟩] rfl (hfun _) (by simp [e48]) ?_
      refine (ref_any ⟨(x : Int), (y : Int), (k : Int), false⟩ w0).mono ?_
      rintro e w3 ⟨rfl, hd⟩
      rw [HNM.out.1, HNM.out.2]
      exact ⟨_, rfl, hd, hI.trans (hd.mono hI.size), rfl⟩
    refine Reg.allOps_cons ?_ ?_
    · intro vs w0 ρ hρ hcst hglb hfun hI hp
      have e49 : ρ (.tmp 49) = .tuple #[.string S, .int .i64 0] := (hρ (.tmp 49)).trans (show vs 12 = .tuple #[.string S, .int .i64 0] from hp 12 rfl)
      clear hρ hp
      refine Reg.rel_value (.tuple #[.string S, .int .i64 0]) ?_ ⟨hI, rfl⟩
      go_simp
    refine Reg.allOps_cons ?_ ?_
    · intro vs w0 ρ hρ hcst hglb hfun hI hp
      have e36 : ρ (.tmp 36) = .tuple #[.string S, .int .i64 0] := (hρ (.tmp 36)).trans (show vs 13 = .tuple #[.string S, .int .i64 0] from hp 13 rfl)
      clear hρ hp
      refine Reg.rel_value (.string S) ?_ ⟨hI, rfl⟩
      go_simp
    refine Reg.allOps_cons ?_ ?_
    · intro vs w0 ρ hρ hcst hglb hfun hI hp
      have e36 : ρ (.tmp 36) = .tuple #[.string S, .int .i64 0] := (hρ (.tmp 36)).trans (show vs 13 = .tuple #[.string S, .int .i64 0] from hp 13 rfl)
      clear hρ hp
      refine Reg.rel_value (.int .i64 0) ?_ ⟨hI, rfl⟩
      go_simp
    refine Reg.allOps_cons ?_ ?_
    · intro vs w0 ρ hρ hcst hglb hfun hI hp
      have e50 : ρ (.tmp 50) = .string S := (hρ (.tmp 50)).trans (show vs 14 = .string S from hp 14 rfl)
      clear hρ hp
      refine Reg.rel_value (.string S) ?_ ⟨hI, rfl⟩
      go_simp
    refine Reg.allOps_cons ?_ ?_
    · intro vs w0 ρ hρ hcst hglb hfun hI hp
      have e51 : ρ (.tmp 51) = .int .i64 0 := (hρ (.tmp 51)).trans (show vs 15 = .int .i64 0 from hp 15 rfl)
      clear hρ hp
      refine Reg.rel_value (.int .i64 0) ?_ ⟨hI, rfl⟩
      go_simp
    exact Reg.allOps_nil
  intro vs w0 hI hR
  have r0 : vs 0 = .slice (some ⟨b, 0, none⟩) n cap := hR 0 (by decide)
  have r1 : vs 1 = .int .i64 ((i : Nat) : Int) := hR 1 (by decide)
  have r2 : vs 2 = .pointer (some ⟨b, i * 2, none⟩) := hR 2 (by decide)
  have r3 : vs 3 = .pointer (some ⟨b, i * 2, none⟩) := hR 3 (by decide)
  have r4 : vs 4 = .int .i64 ((x : Nat) : Int) := hR 4 (by decide)
  have r5 : vs 5 = .slice (some ⟨b, 0, none⟩) n cap := hR 5 (by decide)
  have r6 : vs 6 = .int .i64 ((i : Nat) : Int) := hR 6 (by decide)
  have r7 : vs 7 = .pointer (some ⟨b, i * 2, none⟩) := hR 7 (by decide)
  have r8 : vs 8 = .pointer (some ⟨b, i * 2 + 1, none⟩) := hR 8 (by decide)
  have r9 : vs 9 = .int .i64 ((y : Nat) : Int) := hR 9 (by decide)
  have r10 : vs 10 = .int .i64 ((k : Nat) : Int) := hR 10 (by decide)
  have r11 : vs 11 = fV ⟨(x : Int), (y : Int), (k : Int), false⟩ := hR 11 (by decide)
  have r12 : vs 12 = .tuple #[.string S, .int .i64 0] := hR 12 (by decide)
  have r13 : vs 13 = .tuple #[.string S, .int .i64 0] := hR 13 (by decide)
  have r14 : vs 14 = .string S := hR 14 (by decide)
  have r15 : vs 15 = .int .i64 0 := hR 15 (by decide)
  have r16 : vs 16 = .string S := hR 16 (by decide)
  have r17 : vs 17 = .int .i64 0 := hR 17 (by decide)
  have hq := hQ w0 hI
  simp only [RegA.putV, Act.put] at hq
  simp only [Reg.fillFrom, Act.put, r0, r1, r2, r3, r4, r5, r6, r7, r8, r9, r10, r11, r12, r13, r14, r15, r16, r17]
  exact hq
set_option maxRecDepth 100000 in
set_option maxHeartbeats 4000000 in
theorem fil12 (Q : Exit → Act → World → Prop) (a0 : Act) (wi : World) (b i n cap x y k : Nat) (S : ByteArray) (hi : i < n)
    (HX : Aside0 (wi.cell? ⟨b, i * 2, none⟩ = some (.int .i64 ((x : Nat) : Int)))) (HY : Aside0 (wi.cell? ⟨b, i * 2 + 1, none⟩ = some (.int .i64 ((y : Nat) : Int))))
    (HNM : Aside0 (nameF ⟨(x : Int), (y : Int), (k : Int), true⟩ = S ∧ errF ⟨(x : Int), (y : Int), (k : Int), true⟩ = 0))
    (hN : a0.tmps.size = 75) (h6 : a0.tmps.getD 6 undef = .slice (some ⟨b, 0, none⟩) n cap) (h9 : a0.tmps.getD 9 undef = .int .i64 ((i : Nat) : Int)) (h10 : a0.tmps.getD 10 undef = .int .i64 ((k : Nat) : Int))
    (hQ : ∀ wv : World, Below wi.heap.size wi wv → Q .normal (putV [(some 53, .slice (some ⟨b, 0, none⟩) n cap), (some 54, .int .i64 ((i : Nat) : Int)), (some 55, .pointer (some ⟨b, i * 2, none⟩)), (some 56, .pointer (some ⟨b, i * 2, none⟩)), (some 57, .int .i64 ((x : Nat) : Int)), (some 58, .slice (some ⟨b, 0, none⟩) n cap), (some 59, .int .i64 ((i : Nat) : Int)), (some 60, .pointer (some ⟨b, i * 2, none⟩)), (some 61, .pointer (some ⟨b, i * 2 + 1, none⟩)), (some 62, .int .i64 ((y : Nat) : Int)), (some 63, .int .i64 ((k : Nat) : Int)), (some 64, fV ⟨(x : Int), (y : Int), (k : Int), true⟩), (some 65, .tuple #[.string S, .int .i64 0]), (some 52, .tuple #[.string S, .int .i64 0]), (some 66, .string S), (some 67, .int .i64 0), (some 13, .string S), (some 14, .int .i64 0)] a0) wv) :
    Code.wp Tryd.prog (regC 12 Tryd.f41) Q a0 wi := by
  have HIX : Aside0 ((i : Int) < (n : Int)) := ⟨by omega⟩
  conv => arg 2; whnf
  refine Reg.wp_region_rel _ (by kernel_rfl) _ _ _ hN (by kernel_rfl) (fun w' => Below wi.heap.size wi w') (fun _ w w' => Below w.heap.size w w') (fun jq vs w' => match jq with
    | 0 => vs 0 = .slice (some ⟨b, 0, none⟩) n cap
    | 1 => vs 1 = .int .i64 ((i : Nat) : Int)
    | 2 => vs 2 = .pointer (some ⟨b, i * 2, none⟩)
    | 3 => vs 3 = .pointer (some ⟨b, i * 2, none⟩)
    | 4 => vs 4 = .int .i64 ((x : Nat) : Int)
    | 5 => vs 5 = .slice (some ⟨b, 0, none⟩) n cap
    | 6 => vs 6 = .int .i64 ((i : Nat) : Int)
    | 7 => vs 7 = .pointer (some ⟨b, i * 2, none⟩)
    | 8 => vs 8 = .pointer (some ⟨b, i * 2 + 1, none⟩)
    | 9 => vs 9 = .int .i64 ((y : Nat) : Int)
    | 10 => vs 10 = .int .i64 ((k : Nat) : Int)
    | 11 => vs 11 = fV ⟨(x : Int), (y : Int), (k : Int), true⟩
    | 12 => vs 12 = .tuple #[.string S, .int .i64 0]
    | 13 => vs 13 = .tuple #[.string S, .int .i64 0]
    | 14 => vs 14 = .string S
    | 15 => vs 15 = .int .i64 0
    | 16 => vs 16 = .string S
    | 17 => vs 17 = .int .i64 0
    | _ => True) (below_drew (Below.refl _ _)) ?_ ?_ ?_ ?_
  · intro i j vs w0 w' hij hI hR hb
    rcases j with _ | j
    · exact hR
    rcases j with _ | j
    · exact hR
    rcases j with _ | j
    · exact hR
    rcases j with _ | j
    · exact hR
    rcases j with _ | j
    · exact hR
    rcases j with _ | j
    · exact hR
    rcases j with _ | j
    · exact hR
    rcases j with _ | j
    · exact hR
    rcases j with _ | j
    · exact hR
    rcases j with _ | j
    · exact hR
    rcases j with _ | j
    · exact hR
    rcases j with _ | j
    · exact hR
    rcases j with _ | j
    · exact hR
    rcases j with _ | j
    · exact hR
    rcases j with _ | j
    · exact hR
    rcases j with _ | j
    · exact hR
    rcases j with _ | j
    · exact hR
    rcases j with _ | j
    · exact hR
    exact trivial
  · intro j o vs vs1 w0 ho he hp hR
    rcases j with _ | j
    · exact he.trans hR
    rcases j with _ | j
    · exact he.trans hR
    rcases j with _ | j
    · exact he.trans hR
    rcases j with _ | j
    · exact he.trans hR
    rcases j with _ | j
    · exact he.trans hR
    rcases j with _ | j
    · exact he.trans hR
    rcases j with _ | j
    · exact he.trans hR
    rcases j with _ | j
    · exact he.trans hR
    rcases j with _ | j
    · exact he.trans hR
    rcases j with _ | j
    · exact he.trans hR
    rcases j with _ | j
    · exact he.trans hR
    rcases j with _ | j
    · exact he.trans hR
    rcases j with _ | j
    · exact he.trans hR
    rcases j with _ | j
    · exact he.trans hR
    rcases j with _ | j
    · exact he.trans hR
    rcases j with _ | j
    · exact he.trans hR
    rcases j with _ | j
    · exact he.trans hR
    rcases j with _ | j
    · exact he.trans hR
    exact trivial
  · skip
    refine Reg.allOps_cons ?_ ?_
    · intro vs w0 ρ hρ hcst hglb hfun hI hp
      have e6 : ρ (.tmp 6) = .slice (some ⟨b, 0, none⟩) n cap := (hρ (.tmp 6)).trans h6
      clear hρ hp
      refine Reg.rel_value (.slice (some ⟨b, 0, none⟩) n cap) ?_ ⟨hI, rfl⟩
      go_simp
    refine Reg.allOps_cons ?_ ?_
    · intro vs w0 ρ hρ hcst hglb hfun hI hp
      have e9 : ρ (.tmp 9) = .int .i64 ((i : Nat) : Int) := (hρ (.tmp 9)).trans h9
      clear hρ hp
      refine Reg.rel_value (.int .i64 ((i : Nat) : Int)) ?_ ⟨hI, rfl⟩
      go_simp
    refine Reg.allOps_cons ?_ ?_
    · intro vs w0 ρ hρ hcst hglb hfun hI hp
      have e53 : ρ (.tmp 53) = .slice (some ⟨b, 0, none⟩) n cap := (hρ (.tmp 53)).trans (show vs 0 = .slice (some ⟨b, 0, none⟩) n cap from hp 0 rfl)
      have e54 : ρ (.tmp 54) = .int .i64 ((i : Nat) : Int) := (hρ (.tmp 54)).trans (show vs 1 = .int .i64 ((i : Nat) : Int) from hp 1 rfl)
      clear hρ hp
      refine Reg.rel_value (.pointer (some ⟨b, i * 2, none⟩)) ?_ ⟨hI, rfl⟩
      clear hI
      have hq := HIX.out
      go_simp
    refine Reg.allOps_cons ?_ ?_
    · intro vs w0 ρ hρ hcst hglb hfun hI hp
      have e55 : ρ (.tmp 55) = .pointer (some ⟨b, i * 2, none⟩) := (hρ (.tmp 55)).trans (show vs 2 = .pointer (some ⟨b, i * 2, none⟩) from hp 2 rfl)
      clear hρ hp
      refine Reg.rel_value (.pointer (some ⟨b, i * 2, none⟩)) ?_ ⟨hI, rfl⟩
      go_simp
    refine Reg.allOps_cons ?_ ?_
    · intro vs w0 ρ hρ hcst hglb hfun hI hp
      have e56 : ρ (.tmp 56) = .pointer (some ⟨b, i * 2, none⟩) := (hρ (.tmp 56)).trans (show vs 3 = .pointer (some ⟨b, i * 2, none⟩) from hp 3 rfl)
      clear hρ hp
      have hl2 : w0.cell? ⟨b, i * 2, none⟩ = some (.int .i64 ((x : Nat) : Int)) := cell_below hI (Nat.le_refl _) HX.out
      refine Reg.rel_value (.int .i64 ((x : Nat) : Int)) ?_ ⟨hI, rfl⟩
      clear hI
      go_simp
    refine Reg.allOps_cons ?_ ?_
    · intro vs w0 ρ hρ hcst hglb hfun hI hp
      have e6 : ρ (.tmp 6) = .slice (some ⟨b, 0, none⟩) n cap := (hρ (.tmp 6)).trans h6
      clear hρ hp
      refine Reg.rel_value (.slice (some ⟨b, 0, none⟩) n cap) ?_ ⟨hI, rfl⟩
      go_simp
    refine Reg.allOps_cons ?_ ?_
    · intro vs w0 ρ hρ hcst hglb hfun hI hp
      have e9 : ρ (.tmp 9) = .int .i64 ((i : Nat) : Int) := (hρ (.tmp 9)).trans h9
      clear hρ hp
      refine Reg.rel_value (.int .i64 ((i : Nat) : Int)) ?_ ⟨hI, rfl⟩
      go_simp
    refine Reg.allOps_cons ?_ ?_
    · intro vs w0 ρ hρ hcst hglb hfun hI hp
      have e58 : ρ (.tmp 58) = .slice (some ⟨b, 0, none⟩) n cap := (hρ (.tmp 58)).trans (show vs 5 = .slice (some ⟨b, 0, none⟩) n cap from hp 5 rfl)
      have e59 : ρ (.tmp 59) = .int .i64 ((i : Nat) : Int) := (hρ (.tmp 59)).trans (show vs 6 = .int .i64 ((i : Nat) : Int) from hp 6 rfl)
      clear hρ hp
      refine Reg.rel_value (.pointer (some ⟨b, i * 2, none⟩)) ?_ ⟨hI, rfl⟩
      clear hI
      have hq := HIX.out
      go_simp
    refine Reg.allOps_cons ?_ ?_
    · intro vs w0 ρ hρ hcst hglb hfun hI hp
      have e60 : ρ (.tmp 60) = .pointer (some ⟨b, i * 2, none⟩) := (hρ (.tmp 60)).trans (show vs 7 = .pointer (some ⟨b, i * 2, none⟩) from hp 7 rfl)
      clear hρ hp
      refine Reg.rel_value (.pointer (some ⟨b, i * 2 + 1, none⟩)) ?_ ⟨hI, rfl⟩
      go_simp
    refine Reg.allOps_cons ?_ ?_
    · intro vs w0 ρ hρ hcst hglb hfun hI hp
      have e61 : ρ (.tmp 61) = .pointer (some ⟨b, i * 2 + 1, none⟩) := (hρ (.tmp 61)).trans (show vs 8 = .pointer (some ⟨b, i * 2 + 1, none⟩) from hp 8 rfl)
      clear hρ hp
      have hl2 : w0.cell? ⟨b, i * 2 + 1, none⟩ = some (.int .i64 ((y : Nat) : Int)) := cell_below hI (Nat.le_refl _) HY.out
      refine Reg.rel_value (.int .i64 ((y : Nat) : Int)) ?_ ⟨hI, rfl⟩
      clear hI
      go_simp
    refine Reg.allOps_cons ?_ ?_
    · intro vs w0 ρ hρ hcst hglb hfun hI hp
      have e10 : ρ (.tmp 10) = .int .i64 ((k : Nat) : Int) := (hρ (.tmp 10)).trans h10
      clear hρ hp
      refine Reg.rel_value (.int .i64 ((k : Nat) : Int)) ?_ ⟨hI, rfl⟩
      go_simp
    refine Reg.allOps_cons ?_ ?_
    · intro vs w0 ρ hρ hcst hglb hfun hI hp
      have e57 : ρ (.tmp 57) = .int .i64 ((x : Nat) : Int) := (hρ (.tmp 57)).trans (show vs 4 = .int .i64 ((x : Nat) : Int) from hp 4 rfl)
      have e62 : ρ (.tmp 62) = .int .i64 ((y : Nat) : Int) := (hρ (.tmp 62)).trans (show vs 9 = .int .i64 ((y : Nat) : Int) from hp 9 rfl)
      have e63 : ρ (.tmp 63) = .int .i64 ((k : Nat) : Int) := (hρ (.tmp 63)).trans (show vs 10 = .int .i64 ((k : Nat) : Int) from hp 10 rfl)
      clear hρ hp
      refine Reg.rel_value (fV ⟨(x : Int), (y : Int), (k : Int), true⟩) (exec_build 70 _ rfl _ ?_) ⟨hI, rfl⟩
      simp only [List.map_toArray, List.map_cons, List.map_nil, hcst, e57, e62, e63]
      kernel_rfl
    refine Reg.allOps_cons ?_ ?_
    · intro vs w0 ρ hρ hcst hglb hfun hI hp
      have e64 : ρ (.tmp 64) = fV ⟨(x : Int), (y : Int), (k : Int), true⟩ := (hρ (.tmp 64)).trans (show vs 11 = fV ⟨(x : Int), (y : Int), (k : Int), true⟩ from hp 11 rfl)
      clear hρ hp
      refine Reg.rel_call Tryd.func34 (by kernel_rfl) rfl #[fV ⟨(x : Int), (y : Int), (k : Int), true⟩] rfl (hfun _) (by simp [e64]) ?_
      refine (ref_any ⟨(x : Int), (y : Int), (k : Int), true⟩ w0).mono ?_
      rintro e w3 ⟨rfl, hd⟩
      rw [HNM.out.1, HNM.out.2]
      exact ⟨_, rfl, hd, hI.trans (hd.mono hI.size), rfl⟩
    refine Reg.allOps_cons ?_ ?_
    · intro vs w0 ρ hρ hcst hglb hfun hI hp
      have e65 : ρ (.tmp 65) = .tuple #[.string S, .int .i64 0] := (hρ (.tmp 65)).trans (show vs 12 = .tuple #[.string S, .int .i64 0] from hp 12 rfl)
      clear hρ hp
      refine Reg.rel_value (.tuple #[.string S, .int .i64 0]) ?_ ⟨hI, rfl⟩
      go_simp
    refine Reg.allOps_cons ?_ ?_
    · intro vs w0 ρ hρ hcst hglb hfun hI hp
      have e52 : ρ (.tmp 52) = .tuple #[.string S, .int .i64 0] := (hρ (.tmp 52)).trans (show vs 13 = .tuple #[.string S, .int .i64 0] from hp 13 rfl)
      clear hρ hp
      refine Reg.rel_value (.string S) ?_ ⟨hI, rfl⟩
      go_simp
    refine Reg.allOps_cons ?_ ?_
    · intro vs w0 ρ hρ hcst hglb hfun hI hp
      have e52 : ρ (.tmp 52) = .tuple #[.string S, .int .i64 0] := (hρ (.tmp 52)).trans (show vs 13 = .tuple #[.string S, .int .i64 0] from hp 13 rfl)
      clear hρ hp
      refine Reg.rel_value (.int .i64 0) ?_ ⟨hI, rfl⟩
      go_simp
    refine Reg.allOps_cons ?_ ?_
    · intro vs w0 ρ hρ hcst hglb hfun hI hp
      have e66 : ρ (.tmp 66) = .string S := (hρ (.tmp 66)).trans (show vs 14 = .string S from hp 14 rfl)
      clear hρ hp
      refine Reg.rel_value (.string S) ?_ ⟨hI, rfl⟩
      go_simp
    refine Reg.allOps_cons ?_ ?_
    · intro vs w0 ρ hρ hcst hglb hfun hI hp
      have e67 : ρ (.tmp 67) = .int .i64 0 := (hρ (.tmp 67)).trans (show vs 15 = .int .i64 0 from hp 15 rfl)
      clear hρ hp
      refine Reg.rel_value (.int .i64 0) ?_ ⟨hI, rfl⟩
      go_simp
    exact Reg.allOps_nil
  intro vs w0 hI hR
  have r0 : vs 0 = .slice (some ⟨b, 0, none⟩) n cap := hR 0 (by decide)
  have r1 : vs 1 = .int .i64 ((i : Nat) : Int) := hR 1 (by decide)
  have r2 : vs 2 = .pointer (some ⟨b, i * 2, none⟩) := hR 2 (by decide)
  have r3 : vs 3 = .pointer (some ⟨b, i * 2, none⟩) := hR 3 (by decide)
  have r4 : vs 4 = .int .i64 ((x : Nat) : Int) := hR 4 (by decide)
  have r5 : vs 5 = .slice (some ⟨b, 0, none⟩) n cap := hR 5 (by decide)
  have r6 : vs 6 = .int .i64 ((i : Nat) : Int) := hR 6 (by decide)
  have r7 : vs 7 = .pointer (some ⟨b, i * 2, none⟩) := hR 7 (by decide)
  have r8 : vs 8 = .pointer (some ⟨b, i * 2 + 1, none⟩) := hR 8 (by decide)
  have r9 : vs 9 = .int .i64 ((y : Nat) : Int) := hR 9 (by decide)
  have r10 : vs 10 = .int .i64 ((k : Nat) : Int) := hR 10 (by decide)
  have r11 : vs 11 = fV ⟨(x : Int), (y : Int), (k : Int), true⟩ := hR 11 (by decide)
  have r12 : vs 12 = .tuple #[.string S, .int .i64 0] := hR 12 (by decide)
  have r13 : vs 13 = .tuple #[.string S, .int .i64 0] := hR 13 (by decide)
  have r14 : vs 14 = .string S := hR 14 (by decide)
  have r15 : vs 15 = .int .i64 0 := hR 15 (by decide)
  have r16 : vs 16 = .string S := hR 16 (by decide)
  have r17 : vs 17 = .int .i64 0 := hR 17 (by decide)
  have hq := hQ w0 hI
  simp only [RegA.putV, Act.put] at hq
  simp only [Reg.fillFrom, Act.put, r0, r1, r2, r3, r4, r5, r6, r7, r8, r9, r10, r11, r12, r13, r14, r15, r16, r17]
  exact hq
end Go.Proofs.YtljjpdjknnhceaaDoor.FilR

/- The document's Files walked. -/
set_option linter.unusedVariables false
set_option linter.unusedSimpArgs false
namespace Go.Proofs.YtljjpdjknnhceaaDoor.FilesR
open Go.RowKit Go.Proofs.YtljjpdjknnhceaaDoorW.PrintWords Go.Proofs.YtljjpdjknnhceaaDoorW.PrintLast Go.Proofs.YtljjpdjknnhceaaDoorW.PrintMore
open Go.Proofs.YtljjpdjknnhceaaDoor.Base Go.Proofs.YtljjpdjknnhceaaDoor.App Go.Proofs.YtljjpdjknnhceaaDoor.AppR Go.Proofs.YtljjpdjknnhceaaDoor.RingPure Go.Proofs.YtljjpdjknnhceaaDoor.ChkPure Go.Proofs.YtljjpdjknnhceaaDoor.Clus Go.Proofs.YtljjpdjknnhceaaDoor.Mids Go.Proofs.YtljjpdjknnhceaaDoor.Chkd Go.Proofs.YtljjpdjknnhceaaDoor.Ref6 Go.Proofs.YtljjpdjknnhceaaDoor.Name Go.Proofs.YtljjpdjknnhceaaDoor.Walk Go.Proofs.YtljjpdjknnhceaaDoor.Hold Go.Proofs.YtljjpdjknnhceaaDoor.HoldR Go.Proofs.YtljjpdjknnhceaaDoor.InsPure Go.Proofs.YtljjpdjknnhceaaDoor.NumR Go.Proofs.YtljjpdjknnhceaaDoor.NamePure Go.Proofs.YtljjpdjknnhceaaDoor.FileN Go.Proofs.YtljjpdjknnhceaaDoor.HoldKit Go.Proofs.YtljjpdjknnhceaaDoor.InsW Go.Proofs.YtljjpdjknnhceaaDoor.FilesP
open Go.Proofs.YtljjpdjknnhceaaDoor.RegA Go.Proofs.YtljjpdjknnhceaaDoor.FilR
open Go.Proofs.YtljjpdjknnhceaaDoor.Round (own_later2)
set_option maxRecDepth 100000 in
set_option maxHeartbeats 8000000 in
theorem reffiles_any (c : Cl) (A : Option Addr) (cap : Nat) (ns : List Nd) (node : Int) (w : World) (hN : NodesAt w A ns) (hcap : ns.length ≤ cap) (hs : c.store.size ≤ 2147483647) (hl : ns.length ≤ 1099511627776) (hc : cnt ns ≤ 1099511627776) (hG : GTab w) :
    Calls Tryd.prog 41 #[.agg (cL c (.slice A ns.length cap)).toArray, .int .i64 node] w (WordPost (files c ns node) w) := by
  have hb0 := (Below.refl w.heap.size w).alloc (Nat.le_refl _) (.cells (cL c (.slice A ns.length cap)).toArray 24)
  have HN := Aside0.mk (hN.below hb0)
  have HG := Aside0.mk (hG.below hb0)
  have HB := Aside0.mk hb0
  have HC : Aside0 (CBox (w.alloc (.cells (cL c (.slice A ns.length cap)).toArray 24)) w.heap.size c (.slice A ns.length cap)) := ⟨⟨Go.heap_alloc_new w _⟩⟩
  clear hN hb0 hG
  go_enter Tryd.func41, Tryd.ntmps41
  go_upto_region 1 with fail
  generalize w.alloc (.cells (cL c (.slice A ns.length cap)).toArray 24) = w1 at HN HG HB HC ⊢
  obtain ⟨gc, hgc⟩ : ∃ gc, gc = w.heap.size := ⟨_, rfl⟩
  rw [← hgc] at HC ⊢
  clear hgc
  have hrg := blk_range HC.out.row
  go_wp2_with ((with_reducible refine gate_load (ty := 24) (x := .tmp 2) rfl ?_); refine wpList_load_mid rfl 24 (.tmp 2) rfl gc 0 rfl (cL c (.slice A ns.length cap)) _ hrg Tryd.underlying24 rfl infoC23 ?_)
  clear hrg
  refine (refholds_any c A cap ns node w1 HN.out hcap hs hl hc HG.out).mono ?_
  rintro e w2 ⟨hb, v, rfl, ho⟩
  have HB2 := Aside0.mk (HB.out.trans (hb.mono HB.out.size))
  have HC2 := Aside0.mk (HC.out.below hb HC.out.lt)
  obtain ⟨vA, vc, rfl, hvc⟩ := own_form ho
  by_cases h0 : (hold c ns node).1 = 0
  · have HSA := Aside0.mk (slots_of ho)
    have HSM := Aside0.mk (hold_sm c ns node)
    have hlen := hold_len c ns node
    have hz := hold_zero h0
    have hb6 := setAt_bounds (chk_ok (nm := nmB c.store) hz).set
    obtain ⟨ch, hch⟩ : ∃ ch : Nat, c.chunks = (ch : Int) := ⟨c.chunks.toNat, by omega⟩
    have hch16 : ch ≤ 16 := by omega
    have hcc : w2.cell? ⟨gc, 3, none⟩ = some (.int .i64 (ch : Nat)) := by rw [← hch]; exact HC2.out.c 3
    have HE : Aside0 (files c ns node = (0, insAll (nms ch (hold c ns node).2))) := ⟨by unfold files; rw [if_neg (by rw [h0]; decide), hch]; rfl⟩
    rw [h0]
    obtain ⟨S, hS⟩ : ∃ S, S = (hold c ns node).2 := ⟨_, rfl⟩
    rw [← hS] at HSA HSM HE hlen ⊢
    have HCC := Aside0.mk hcc
    clear h0 hz hb6 hch hS ho hb hvc hcc HB HC
    go_wp2_with fail
    go_loopw [8, 9] (fun v8 v9 wr => ∃ i : Nat, i ≤ S.length ∧ v9 = .int .i64 (i : Nat) ∧ Aside0 (Below w2.heap.size w2 wr) ∧ Aside0 (wr.ownsRow w2.heap.size 9 1 v8 (insAll (nms ch (S.take i))).length (encL (insAll (nms ch (S.take i)))))) (fun _ v9 _ => S.length - (intOf v9).toNat)
    case atStart => exact ⟨0, Nat.zero_le _, rfl, ⟨Below.refl _ _⟩, ⟨World.ownsRow_nil _ _ _ _⟩⟩
    case round =>
      obtain ⟨i, hi, rfl, HR, HO⟩ := hrel
      obtain ⟨wo, rfl⟩ : ∃ wo : World, wo = wr := ⟨_, rfl⟩
      by_cases hil : i < S.length
      · obtain ⟨s, hsx⟩ : ∃ s, S[i]? = some s := ⟨_, List.getElem?_eq_getElem hil⟩
        obtain ⟨b, rfl, hq1, hq2⟩ := HSA.out.get hsx
        have HQ1 := Aside0.mk hq1
        have HQ2 := Aside0.mk hq2
        have HSS := Aside0.mk (HSM.out s (List.mem_of_getElem? hsx))
        have HNX := Aside0.mk (nms_next (ch := ch) hsx)
        have hnl := nms_len ch (S.take i)
        have htl : (S.take i).length = i := by rw [List.length_take]; omega
        rw [htl] at hnl
        have hnl2 : (nms ch (S.take i)).length ≤ 40000 := by rw [hnl]; exact Nat.le_trans (Nat.mul_le_mul (show i ≤ 1024 by omega) (show 2 * ch ≤ 32 by omega)) (by decide)
        obtain ⟨N1, hN1⟩ : ∃ N1, nms ch (S.take (i + 1)) = N1 := ⟨_, rfl⟩
        rw [hN1] at HNX
        have HN1 := Aside0.mk hN1
        generalize nms ch (S.take i) = NM at HO HNX hnl2
        clear hsx hq1 hq2 hnl htl hN1
        go_wp2_with fail
        go_loopw [8, 10] (fun v8 v10 wr => ∃ k : Nat, k ≤ ch ∧ v10 = .int .i64 (k : Nat) ∧ Aside0 (Below w2.heap.size w2 wr) ∧ Aside0 (wr.ownsRow w2.heap.size 9 1 v8 (insAll (NM ++ cks s k)).length (encL (insAll (NM ++ cks s k))))) (fun _ v10 _ => ch - (intOf v10).toNat)
        case atStart => exact ⟨0, Nat.zero_le _, rfl, HR, by rw [cks, List.append_nil]; exact HO⟩
        case round =>
          clear HR HO
          obtain ⟨k, hk, rfl, HR, HO⟩ := hrel
          obtain ⟨wi, rfl⟩ : ∃ wi : World, wi = wr := ⟨_, rfl⟩
          have hcc : wi.cell? ⟨gc, 3, none⟩ = some (.int .i64 (ch : Nat)) := cell_below HR.out (Nat.le_refl _) HCC.out
          by_cases hkl : k < ch
          · have hq1 : wi.cell? ⟨b, i * 2, none⟩ = some (.int .i64 ((s.1 : Nat) : Int)) := cell_below HR.out (Nat.le_refl _) HQ1.out
            have hq2 : wi.cell? ⟨b, i * 2 + 1, none⟩ = some (.int .i64 ((s.2 : Nat) : Int)) := cell_below HR.out (Nat.le_refl _) HQ2.out
            have hk15 : k ≤ 15 := by omega
            have HNF := Aside0.mk (sm_name HSS.out k hk15 false)
            have HNT := Aside0.mk (sm_name HSS.out k hk15 true)
            obtain ⟨x1, hx1⟩ : ∃ x1, x1 = fileN ⟨s.1, s.2, k, false⟩ := ⟨_, rfl⟩
            obtain ⟨x2, hx2⟩ : ∃ x2, x2 = fileN ⟨s.1, s.2, k, true⟩ := ⟨_, rfl⟩
            rw [← hx1] at HNF
            rw [← hx2] at HNT
            have hil2 : (insAll (NM ++ cks s k)).length ≤ 60000 := by rw [insAll_length, List.length_append, cks_len]; omega
            have HI1 : Aside0 (insAll (NM ++ cks s (k + 1)) = ins x2 (ins x1 (insAll (NM ++ cks s k)))) := ⟨by rw [cks, ← List.append_assoc, ← List.append_assoc, insAll_snoc, insAll_snoc, hx1, hx2]⟩
            have HI2 : Aside0 ((ins x1 (insAll (NM ++ cks s k))).length = (insAll (NM ++ cks s k)).length + 1) := ⟨ins_length _ _⟩
            obtain ⟨M3, hM3⟩ : ∃ M3, insAll (NM ++ cks s (k + 1)) = M3 := ⟨_, rfl⟩
            rw [hM3] at HI1
            have HM3 := Aside0.mk hM3
            generalize insAll (NM ++ cks s k) = M at HO HI1 HI2 hil2
            clear hx1 hx2 hM3
            go_upto_region 11 with fail
            clear hcc
            refine fil11 _ _ _ b i S.length vc s.1 s.2 k (strO x1) hil ⟨hq1⟩ ⟨hq2⟩ HNF rfl rfl rfl rfl ?_
            intro w3 hb3
            simp only [putV, Act.put, List.setIfInBounds_toArray, List.set_cons_zero, List.set_cons_succ]
            have HR3 := Aside0.mk (HR.out.trans (hb3.mono HR.out.size))
            have HO3 := Aside0.mk (own_later2 HO.out hb3)
            clear hb3 hq1 hq2 HO HR
            have hq1 : w3.cell? ⟨b, i * 2, none⟩ = some (.int .i64 ((s.1 : Nat) : Int)) := cell_below HR3.out (Nat.le_refl _) HQ1.out
            have hq2 : w3.cell? ⟨b, i * 2 + 1, none⟩ = some (.int .i64 ((s.2 : Nat) : Int)) := cell_below HR3.out (Nat.le_refl _) HQ2.out
            go_upto_region 12 with fail
            refine fil12 _ _ _ b i S.length vc s.1 s.2 k (strO x2) hil ⟨hq1⟩ ⟨hq2⟩ HNT rfl rfl rfl rfl ?_
            intro w5 hb5
            simp only [putV, Act.put, List.setIfInBounds_toArray, List.set_cons_zero, List.set_cons_succ]
            have HR5 := Aside0.mk (HR3.out.trans (hb5.mono HR3.out.size))
            have HO5 := Aside0.mk (own_later2 HO3.out hb5)
            clear hq1 hq2
            obtain ⟨oA, oc, rfl, hoc⟩ := own_form HO5.out
            have HS5 := Aside0.mk (strs_of HO5.out)
            clear hb5 HO3 HR3 hoc
            go_wp2_with fail
            refine (inserted_any oA oc M x1 w5 HS5.out (by omega)).mono ?_
            rintro e w6 ⟨hb6, v6, rfl, ho6⟩
            obtain ⟨A6, c6, rfl, hc6⟩ := own_form ho6
            have HS6 := Aside0.mk (strs_of ho6)
            have HR6 := Aside0.mk (HR5.out.trans (hb6.mono HR5.out.size))
            clear hb6 ho6 HO5 HS5 hc6
            have hl6 : (ins x1 M).length ≤ 1000000 := by rw [HI2.out]; omega
            generalize ins x1 M = M2 at HI1 HS6 hl6 ⊢
            clear HI2
            go_wp2_with fail
            refine (inserted_any A6 c6 M2 x2 w6 HS6.out hl6).mono ?_
            rintro e w7 ⟨hb7, v7, rfl, ho7⟩
            have HR7 := Aside0.mk (HR6.out.trans (hb7.mono HR6.out.size))
            have HO7 : Aside0 (w7.ownsRow w2.heap.size 9 1 v7 M3.length (encL M3)) := ⟨by rw [HI1.out]; exact own_weaken ho7 HR6.out.size⟩
            clear hb7 ho7 HS6
            go_wp2_with fail
            go_roundw
            case rel => exact ⟨k + 1, by omega, by go_num, HR7, by rw [HM3.out]; exact HO7⟩
            case measure => simp [intOf]; omega
          · obtain rfl : k = ch := by omega
            rw [← HNX.out] at HO
            go_wp2_with fail
            go_roundw
            case rel => exact ⟨i + 1, by omega, by go_num, HR, by rw [HN1.out]; exact HO⟩
            case measure => simp [intOf]; omega
      · obtain rfl : i = S.length := by omega
        have HO6 : Aside0 (wo.ownsRow w.heap.size 9 1 u8 (insAll (nms ch S)).length (encL (insAll (nms ch S)))) := ⟨by
          have := own_weaken HO.out HB2.out.size
          rw [List.take_length] at this
          exact this⟩
        generalize insAll (nms ch S) = R at HO6 HE
        obtain ⟨oA, oc, rfl, hoc⟩ := own_form HO6.out
        go_wp2_with fail
        go_ret2
        exact wpost_ok HE.out (HB2.out.trans (HR.out.mono HB2.out.size)) HO6.out
  · have HE : Aside0 (files c ns node = ((hold c ns node).1, [])) := ⟨by unfold files; rw [if_pos h0]⟩
    generalize (hold c ns node).1 = code at h0 HE ⊢
    have hne : (code != 0) = true := by simpa using h0
    clear ho
    go_wp2_with fail
    go_ret2
    exact wpost_err HE.out HB2.out
end Go.Proofs.YtljjpdjknnhceaaDoor.FilesR

/- RingHolds: Holds and Files as the document has them. -/
set_option linter.unusedVariables false
set_option linter.unusedSimpArgs false
namespace Go.Proofs.YtljjpdjknnhceaaDoor.LawHolds
open Go.RowKit Go.Proofs.YtljjpdjknnhceaaDoorW.PrintWords Go.Proofs.YtljjpdjknnhceaaDoorW.PrintLast Go.Proofs.YtljjpdjknnhceaaDoorW.PrintMore
open Go.Proofs.YtljjpdjknnhceaaDoor.Base Go.Proofs.YtljjpdjknnhceaaDoor.App Go.Proofs.YtljjpdjknnhceaaDoor.RingPure Go.Proofs.YtljjpdjknnhceaaDoor.ChkPure Go.Proofs.YtljjpdjknnhceaaDoor.Clus Go.Proofs.YtljjpdjknnhceaaDoor.Mids Go.Proofs.YtljjpdjknnhceaaDoor.Chkd Go.Proofs.YtljjpdjknnhceaaDoor.AppR Go.Proofs.YtljjpdjknnhceaaDoor.Ref6 Go.Proofs.YtljjpdjknnhceaaDoor.Name Go.Proofs.YtljjpdjknnhceaaDoor.Hand Go.Proofs.YtljjpdjknnhceaaDoor.HandW Go.Proofs.YtljjpdjknnhceaaDoor.LeftW Go.Proofs.YtljjpdjknnhceaaDoor.RefCheck Go.Proofs.YtljjpdjknnhceaaDoor.Walk Go.Proofs.YtljjpdjknnhceaaDoor.LawChk Go.Proofs.YtljjpdjknnhceaaDoor.Twin Go.Proofs.YtljjpdjknnhceaaDoor.Hold Go.Proofs.YtljjpdjknnhceaaDoor.HoldR Go.Proofs.YtljjpdjknnhceaaDoor.InsPure Go.Proofs.YtljjpdjknnhceaaDoor.HoldKit Go.Proofs.YtljjpdjknnhceaaDoor.FilesP Go.Proofs.YtljjpdjknnhceaaDoor.FilesW Go.Proofs.YtljjpdjknnhceaaDoor.FilesR
open Go.Proofs.YtljjpdjknnhceaaDoor.Round (own_later2)
theorem files_len (c : Cl) (ns : List Nd) (node : Int) : (files c ns node).2.length ≤ 40000 := by
  unfold files
  by_cases h1 : (hold c ns node).1 ≠ 0
  · rw [if_pos h1]; exact Nat.zero_le _
  · rw [if_neg h1]
    have hz := hold_zero (Classical.byContradiction h1)
    have hb6 := setAt_bounds (chk_ok (nm := nmB c.store) hz).set
    simp only [insAll_length, nms_len]
    exact Nat.le_trans (Nat.mul_le_mul (hold_len c ns node) (show 2 * c.chunks.toNat ≤ 32 by omega)) (by decide)
set_option maxRecDepth 100000 in
set_option maxHeartbeats 8000000 in
theorem law_holds (c : Cl) (A : Option Addr) (cap : Nat) (ns : List Nd) (node : Int) (w : World) (hN : NodesAt w A ns) (hcap : ns.length ≤ cap) (hs : c.store.size ≤ 2147483647) (hl : ns.length ≤ 1073741824) (hc : cnt ns ≤ 1073741824) (hG : GTab w) :
    Calls Tryd.prog 10 #[.agg (cL c (.slice A ns.length cap)).toArray, .int .i64 node] w fun e w' => e = .returned (.bool true) ∧ Below w.heap.size w w' := by
  have hb0 := (Below.refl w.heap.size w).alloc (Nat.le_refl _) (.cells (cL c (.slice A ns.length cap)).toArray 24)
  have HN := Aside0.mk (hN.below hb0)
  have HG := Aside0.mk (hG.below hb0)
  have HB := Aside0.mk hb0
  have HC : Aside0 (CBox (w.alloc (.cells (cL c (.slice A ns.length cap)).toArray 24)) w.heap.size c (.slice A ns.length cap)) := ⟨⟨Go.heap_alloc_new w _⟩⟩
  clear hN hb0 hG
  go_enter Tryd.func10, Tryd.ntmps10
  go_upto_region 1 with fail
  generalize w.alloc (.cells (cL c (.slice A ns.length cap)).toArray 24) = w1 at HN HB HC HG ⊢
  obtain ⟨ga, hga⟩ : ∃ ga, ga = w.heap.size := ⟨_, rfl⟩
  rw [← hga] at HC ⊢
  clear hga
  have hrg := blk_range HC.out.row
  go_wp2_with ((with_reducible refine gate_load (ty := 24) (x := .tmp 2) rfl ?_); refine wpList_load_mid rfl 24 (.tmp 2) rfl ga 0 rfl (cL c (.slice A ns.length cap)) _ hrg Tryd.underlying24 rfl infoC23 ?_)
  clear hrg
  refine (hand_any c A cap ns w1 HN.out hcap hl hc).mono ?_
  rintro e w2 ⟨hb, gh, gn, cn, A2, cap2, pv, gs, vs2, base, bt, rfl, hh⟩
  have HR2 := Aside0.mk hb
  have HH2 := Aside0.mk hh
  clear hb hh
  obtain ⟨hr1, _⟩ := hand_ranges HH2.out.inv.box
  go_wp2_with ((with_reducible refine gate_load (ty := 24) (x := .tmp 19) rfl ?_); refine wpList_load_mid rfl 24 (.tmp 19) rfl gh 0 rfl (cL c (.slice (some ⟨gn, 0, none⟩) ns.length cn)) _ hr1 Tryd.underlying24 rfl infoC23 ?_)
  clear hr1
  refine (holds_any c (some ⟨gn, 0, none⟩) cn ns node w2 (HandOK.nodes HH2.out) (by have := HH2.out.len; omega) hs (by omega) (by omega)).mono ?_
  rintro e w3 ⟨hb, v1, rfl, ho1⟩
  have HR3 := Aside0.mk (HR2.out.trans (hb.mono HR2.out.size))
  have HH3 := Aside0.mk (HH2.out.below hb)
  have hrg := blk_range ((HC.out.below HR3.out HC.out.lt).row)
  obtain ⟨B1, c1, rfl, hc1⟩ := own_form ho1
  have HO1 := Aside0.mk ho1
  clear hb ho1
  go_wp2_with ((with_reducible refine gate_load (ty := 24) (x := .tmp 2) rfl ?_); refine wpList_load_mid rfl 24 (.tmp 2) rfl ga 0 rfl (cL c (.slice A ns.length cap)) _ hrg Tryd.underlying24 rfl infoC23 ?_)
  clear hrg
  refine (refholds_any c A cap ns node w3 (HN.out.below HR3.out) hcap hs (by omega) (by omega) (HG.out.below HR3.out)).mono ?_
  rintro e w4 ⟨hb, v2, rfl, ho2⟩
  have HR4 := Aside0.mk (HR3.out.trans (hb.mono HR3.out.size))
  have HH4 := Aside0.mk (HH3.out.below hb)
  have HO3 := Aside0.mk (own_later2 HO1.out hb)
  obtain ⟨B2, c2, rfl, hc2⟩ := own_form ho2
  have HO2 := Aside0.mk ho2
  clear hb ho2
  have HLN := Aside0.mk (hold_len c ns node)
  obtain ⟨E, l, hE⟩ : ∃ E l, hold c ns node = (E, l) := ⟨_, _, rfl⟩
  rw [hE] at hc1 hc2 HO2 HO3 HLN ⊢
  clear hE HO1
  go_wp2_with fail
  refine (sameSlots_yes B1 B2 c1 c2 l w4 (slots_of HO3.out) (slots_of HO2.out) (by have := HLN.out; omega)).mono ?_
  rintro e w5 ⟨rfl, q2, rfl⟩
  have hb : Below w4.heap.size w4 (w4.drewN q2) := below_drewN (Below.refl _ _) _
  generalize w4.drewN q2 = w5 at hb ⊢
  have HR5 := Aside0.mk (HR4.out.trans (hb.mono HR4.out.size))
  have HH5 := Aside0.mk (HH4.out.below hb)
  clear hb hc1 hc2 HO2 HO3 HLN
  go_wp2_with fail
  refine (num_any E w5).mono ?_
  rintro e w6 ⟨rfl, hb⟩
  have HR6 := Aside0.mk (HR5.out.trans (hb.mono HR5.out.size))
  have HH6 := Aside0.mk (HH5.out.below hb)
  clear hb
  obtain ⟨hr1, _⟩ := hand_ranges HH6.out.inv.box
  go_wp2_with ((with_reducible refine gate_load (ty := 24) (x := .tmp 44) rfl ?_); refine wpList_load_mid rfl 24 (.tmp 44) rfl gh 0 rfl (cL c (.slice (some ⟨gn, 0, none⟩) ns.length cn)) _ hr1 Tryd.underlying24 rfl infoC23 ?_)
  clear hr1
  refine (files_any c (some ⟨gn, 0, none⟩) cn ns node w6 (HandOK.nodes HH6.out) (by have := HH6.out.len; omega) hs (by omega) (by omega)).mono ?_
  rintro e w7 ⟨hb, v1, rfl, ho1⟩
  have HR7 := Aside0.mk (HR6.out.trans (hb.mono HR6.out.size))
  have HH7 := Aside0.mk (HH6.out.below hb)
  have hrg := blk_range ((HC.out.below HR7.out HC.out.lt).row)
  obtain ⟨B1, c1, rfl, hc1⟩ := own_form ho1
  have HO1 := Aside0.mk ho1
  clear hb ho1
  go_wp2_with ((with_reducible refine gate_load (ty := 24) (x := .tmp 2) rfl ?_); refine wpList_load_mid rfl 24 (.tmp 2) rfl ga 0 rfl (cL c (.slice A ns.length cap)) _ hrg Tryd.underlying24 rfl infoC23 ?_)
  clear hrg
  refine (reffiles_any c A cap ns node w7 (HN.out.below HR7.out) hcap hs (by omega) (by omega) (HG.out.below HR7.out)).mono ?_
  rintro e w8 ⟨hb, v2, rfl, ho2⟩
  have HR8 := Aside0.mk (HR7.out.trans (hb.mono HR7.out.size))
  have HH8 := Aside0.mk (HH7.out.below hb)
  have HO3 := Aside0.mk (own_later2 HO1.out hb)
  obtain ⟨B2, c2, rfl, hc2⟩ := own_form ho2
  have HO2 := Aside0.mk ho2
  clear hb ho2
  have HLN := Aside0.mk (files_len c ns node)
  obtain ⟨E, l, hE⟩ : ∃ E l, files c ns node = (E, l) := ⟨_, _, rfl⟩
  rw [hE] at hc1 hc2 HO2 HO3 HLN ⊢
  clear hE HO1
  go_wp2_with fail
  refine (sameWords_yes B1 B2 c1 c2 l w8 (strs_of HO3.out) (strs_of HO2.out) (by have := HLN.out; omega)).mono ?_
  rintro e w9 ⟨rfl, q6, rfl⟩
  have hb : Below w8.heap.size w8 (w8.drewN q6) := below_drewN (Below.refl _ _) _
  generalize w8.drewN q6 = w9 at hb ⊢
  have HR9 := Aside0.mk (HR8.out.trans (hb.mono HR8.out.size))
  have HH9 := Aside0.mk (HH8.out.below hb)
  clear hb hc1 hc2 HO2 HO3 HLN
  go_wp2_with fail
  refine (num_any E w9).mono ?_
  rintro e w10 ⟨rfl, hb⟩
  have HR10 := Aside0.mk (HR9.out.trans (hb.mono HR9.out.size))
  have HH10 := Aside0.mk (HH9.out.below hb)
  clear hb
  go_wp2_with fail
  refine (left_any HH10.out hl hc).mono ?_
  rintro e w11 ⟨rfl, hb⟩
  have HR11 := Aside0.mk (HR10.out.trans (hb.mono HR10.out.size))
  clear hb
  go_wp2_with fail
  go_ret
  exact ⟨rfl, HB.out.trans (HR11.out.mono HB.out.size)⟩
end Go.Proofs.YtljjpdjknnhceaaDoor.LawHolds

/-
  FOR A PROOF OF AN '..UptoSaid': WHAT THE BOUND GIVES. Copy it as <Name>Bulk.lean (put your seat's Name for YtljjpdjknnhceaaDoor, the bound of 'uptoSmall' for 1048576), name it in GOCLAIM.json's 'order' behind <Name>Rows. By an AI agent, Sun Nov 15 2026. No person has read it. No macro, syntax, notation, axiom, sorry.
-/
namespace Go.Proofs.YtljjpdjknnhceaaDoor.bulks

theorem one_le {H : Type} (d : DataW H) : 1 ≤ Rows.uptoBulk d := by
  cases d with
  | lit l => cases l <;> simp [Rows.uptoBulk]
  | nil => simp [Rows.uptoBulk]
  | ptr d => simp [Rows.uptoBulk]
  | slice elems spare => simp [Rows.uptoBulk]
  | agg parts => simp [Rows.uptoBulk]
  | iface t d => simp [Rows.uptoBulk]
  | map entries => simp [Rows.uptoBulk]
  | held h => simp [Rows.uptoBulk]

/-- a part's bulk is at most the whole's -/
theorem part_le {H : Type} {d : DataW H} {l : List (DataW H)} (h : d ∈ l) : Rows.uptoBulk d ≤ Rows.uptoBulkAll l := by
  induction l with
  | nil => cases h
  | cons x r ih =>
    simp only [Rows.uptoBulkAll]
    cases List.mem_cons.1 h with
    | inl e => subst e; omega
    | inr e => have := ih e; omega

theorem append {H : Type} (l r : List (DataW H)) : Rows.uptoBulkAll (l ++ r) = Rows.uptoBulkAll l + Rows.uptoBulkAll r := by
  induction l with
  | nil => simp [Rows.uptoBulkAll]
  | cons x l ih => simp only [List.cons_append, Rows.uptoBulkAll, ih]; omega

/-- so many values at the most -/
theorem length_le {H : Type} (l : List (DataW H)) : l.length ≤ Rows.uptoBulkAll l := by
  induction l with
  | nil => simp [Rows.uptoBulkAll]
  | cons x r ih => have := one_le x; simp only [Rows.uptoBulkAll, List.length_cons]; omega

/-- a slice's places, and what they hold -/
theorem slice_le {H : Type} (elems spare : List (DataW H)) : elems.length + spare.length + 1 ≤ Rows.uptoBulk (.slice elems spare) := by
  have h1 := length_le elems
  have h2 := length_le spare
  simp only [Rows.uptoBulk]
  omega
theorem slice_elems {H : Type} (elems spare : List (DataW H)) : Rows.uptoBulkAll elems + 1 ≤ Rows.uptoBulk (.slice elems spare) := by
  simp only [Rows.uptoBulk]
  omega

/-- a string's letters -/
theorem string_eq {H : Type} (bytes : List UInt8) : Rows.uptoBulk (DataW.lit (H := H) (.string bytes)) = bytes.length + 1 := by
  simp [Rows.uptoBulk]

/-- THE BOUND, as the builder hands it over ('hk') -/
theorem bound {H : Type} {l : List (DataW H)} (hk : Rows.uptoSmall H l = true) : Rows.uptoBulkAll l ≤ 1048576 := by
  simpa [Rows.uptoSmall] using hk

/-- ROOM: a slice of n elements of b bytes, grown by append: below the 2^48 bytes that append, make and a Builder bear. Here n up to 2^21, b up to 4,096: put your own numbers. -/
theorem room {n b : Nat} (hn : n ≤ 2097152) (hb : b ≤ 4096) : (n + n / 4 + 192) * b ≤ 281474976710656 := by
  have h : (n + n / 4 + 192) * b ≤ 2621632 * 4096 := Nat.mul_le_mul (by omega) hb
  omega

end Go.Proofs.YtljjpdjknnhceaaDoor.bulks
