/- The document's detector: New. -/
import Derived.Test.YtbheegamibdbhaaApp
import Derived.Test.YtbheegamibdbhaaBans
set_option linter.unusedVariables false
set_option linter.unusedSimpArgs false
namespace Go.Proofs.Ytbheegamibdbhaa.RefDet
open Go.RowKit Go.Proofs.YtbheegamibdbhaaW.PrintWords Go.Proofs.YtbheegamibdbhaaW.PrintLast Go.Proofs.YtbheegamibdbhaaW.PrintMore
open Go.Proofs.Ytbheegamibdbhaa.Base Go.Proofs.Ytbheegamibdbhaa.App Go.Proofs.Ytbheegamibdbhaa.Det
def rc (nd st bn now : Int) (v : Value) : Nat → Value
  | 0 => .int .i64 nd
  | 1 => .int .i64 st
  | 2 => .int .i64 bn
  | 3 => .int .i64 now
  | _ => v
theorem infoM : (Try.prog.info? 93).map (fun i => (i.zero, i.size, i.bytes)) = some (some (.slice none 0 0), 1, 24) := by kernel_rfl
section
variable (nd st bn : Int) (w : World)
theorem refnew_bad (h : ¬ Fits nd st bn) : Calls Try.prog 29 #[.int .i64 nd, .int .i64 st, .int .i64 bn] w fun e w' => e = .returned (.tuple #[.pointer none, .int .i64 1]) ∧ w = w' := by
  have h1 : nd < 1 ∨ 16 < nd ∨ st < 1 ∨ 64 < st ∨ bn < 1 ∨ 1024 < bn := by unfold Fits at h; omega
  clear h
  go_enter Try.func29, Try.ntmps29
  by_cases a0 : nd < 1
  · go_wp2
    go_ret2
    exact ⟨rfl, rfl⟩
  by_cases a1 : 16 < nd
  · go_wp2
    go_ret2
    exact ⟨rfl, rfl⟩
  by_cases a2 : st < 1
  · go_wp2
    go_ret2
    exact ⟨rfl, rfl⟩
  by_cases a3 : 64 < st
  · go_wp2
    go_ret2
    exact ⟨rfl, rfl⟩
  by_cases a4 : bn < 1
  · go_wp2
    go_ret2
    exact ⟨rfl, rfl⟩
  have a5 : 1024 < bn := by omega
  go_wp2
  go_ret2
  exact ⟨rfl, rfl⟩
set_option maxRecDepth 100000 in
set_option maxHeartbeats 4000000 in
theorem refnew_any (h : Fits nd st bn) : Calls Try.prog 29 #[.int .i64 nd, .int .i64 st, .int .i64 bn] w fun e w' => e = .returned (.tuple #[.pointer (some ⟨w.heap.size, 0, none⟩), .int .i64 0]) ∧ Below w.heap.size w w' ∧ ∃ v, w'.rowIs w.heap.size 75 5 (rc nd st bn 0 v) ∧ w'.ownsRow (w.heap.size + 1) 93 1 v nd.toNat (List.replicate nd.toNat (.slice none 0 0)) := by
  obtain ⟨f0, f1, f2, f3, f4, f5⟩ := h
  have hn := Go.heap_alloc_new w (.cells #[.int .i64 nd, .int .i64 st, .int .i64 bn, .int .i64 0, .slice none 0 0] 75)
  have hr : (w.alloc (.cells #[.int .i64 nd, .int .i64 st, .int .i64 bn, .int .i64 0, .slice none 0 0] 75)).rowIs w.heap.size 75 5 (rc nd st bn 0 (.slice none 0 0)) := ⟨_, hn, rfl, fun i hi => by
    have e : i = 0 ∨ i = 1 ∨ i = 2 ∨ i = 3 ∨ i = 4 := by omega
    rcases e with e | e | e | e | e <;> subst e <;> rfl⟩
  have HR := Aside0.mk hr
  have HB := Aside0.mk ((Below.refl w.heap.size w).alloc (Nat.le_refl _) (.cells #[.int .i64 nd, .int .i64 st, .int .i64 bn, .int .i64 0, .slice none 0 0] 75))
  have HO : Aside0 ((w.alloc (.cells #[.int .i64 nd, .int .i64 st, .int .i64 bn, .int .i64 0, .slice none 0 0] 75)).ownsRow (w.heap.size + 1) 93 1 (.slice none 0 0) 0 []) := ⟨⟨rfl, .inl ⟨rfl, rfl⟩⟩⟩
  clear hn hr
  go_enter Try.func29, Try.ntmps29
  go_wp2
  go_loopw [9] (fun iv wr => ∃ k : Nat, (k : Int) ≤ nd ∧ iv = .int .i64 (k : Int) ∧ ∃ v, Aside0 (wr.rowIs w.heap.size 75 5 (rc nd st bn 0 v)) ∧ Aside0 (wr.ownsRow (w.heap.size + 1) 93 1 v k (List.replicate k (.slice none 0 0))) ∧ Aside0 (Below w.heap.size w wr)) (fun iv _ => 17 - (intOf iv).toNat)
  case atStart => exact ⟨0, by omega, rfl, _, HR, HO, HB⟩
  case round =>
    clear HR HO HB
    obtain ⟨k, hk, rfl, v, HR, HO, HB⟩ := hrel
    obtain ⟨wo, rfl⟩ : ∃ wo : World, wo = wr := ⟨_, rfl⟩
    by_cases hlt : (k : Int) < nd
    · have hc4 : wo.cell? ⟨w.heap.size, 4, none⟩ = some v := HR.out.cell (by decide)
      have hnew := news wo [.slice none 0 0] 93
      have hsz : w.heap.size + 1 ≤ wo.heap.size := HR.out.lt
      have HZ := Aside0.mk hsz
      clear hsz
      go_wp2_with (at_builtin; go_loud (refine list_append_at (P := Try.prog) (w0 := wo) (w.heap.size + 1) rfl (.tmp 46) (.tmp 47) 73 93 (.slice none 0 0) 24 rfl Try.underlying73 infoM rfl (by decide) v k (List.replicate k (.slice none 0 0)) wo.heap.size 1 1 [.slice none 0 0] rfl rfl rfl ?h1 ?hc (HO.out.alloc _) ((Below.refl _ _).alloc HZ.out _) ?hs ?hl ?_); (case h1 => simp [Value.oneCell']); (case hc => exact hnew); (case hs => have := HZ.out; simp; omega); (case hl => omega); intro v1 w1 HO1 HB1 _; obtain ⟨g1, c1, rfl⟩ := own_slice HO1 (by omega); have HR1 := Aside0.mk (HR.out.of_block (HB1.block _ (Nat.lt_succ_self _))); have hc41 : w1.cell? ⟨w.heap.size, 4, none⟩ = some v := HR1.out.cell (by decide); have hf41 := HR1.out.frozen 4; have HO1 := Aside0.mk HO1; have HB1 := Aside0.mk HB1)
      go_roundw
      case rel =>
        refine ⟨k + 1, by omega, by go_num, .slice (some ⟨g1, 0, none⟩) (k + 1) c1, ⟨(HR1.out.set 4 _).congr (fun i hi => ?_)⟩, ⟨?_⟩, ⟨?_⟩⟩
        · have e : i = 0 ∨ i = 1 ∨ i = 2 ∨ i = 3 ∨ i = 4 := by omega
          rcases e with e | e | e | e | e <;> subst e <;> rfl
        · rw [List.replicate_succ']
          exact ownsRow_setCell_other HO1.out (own_ne HO1.out (Nat.lt_succ_self _)) _
        · exact (HB.out.trans (HB1.out.mono (Nat.le_succ _))).setCell (Nat.le_refl _) _
      case measure => simp [intOf]; omega
    · have hke : k = nd.toNat := by omega
      go_wp2
      go_ret2
      exact ⟨rfl, HB.out, v, HR.out, hke ▸ HO.out⟩
end
end Go.Proofs.Ytbheegamibdbhaa.RefDet
