/- made: the program's detector and the document's; a detector that is not there. -/
import Derived.Test.YtbheegamibdbhaaRefDet
set_option linter.unusedVariables false
set_option linter.unusedSimpArgs false
namespace Go.Proofs.Ytbheegamibdbhaa.Made
open Go.RowKit Go.Proofs.YtbheegamibdbhaaW.PrintWords Go.Proofs.YtbheegamibdbhaaW.PrintLast Go.Proofs.YtbheegamibdbhaaW.PrintMore
open Go.Proofs.Ytbheegamibdbhaa.Base Go.Proofs.Ytbheegamibdbhaa.App Go.Proofs.Ytbheegamibdbhaa.Det Go.Proofs.Ytbheegamibdbhaa.Bans Go.Proofs.Ytbheegamibdbhaa.RefDet
theorem silent_nil (k : Int) (w : World) : Calls Try.prog 19 #[.pointer none, .int .i64 k] w fun e w' => e = .returned (.tuple #[.bool false, .int .i64 2]) ∧ w = w' := by
  go_enter Try.func19, Try.ntmps19
  go_wp2_with fail
  refine (known_nil k w).mono ?_
  rintro e w' ⟨rfl, rfl⟩
  go_wp2
  go_ret2
  exact ⟨rfl, rfl⟩
theorem good_nil (k : Int) (w : World) : Calls Try.prog 16 #[.pointer none, .int .i64 k] w fun e w' => e = .returned (.int .i64 2) ∧ w = w' := by
  go_enter Try.func16, Try.ntmps16
  go_wp2_with fail
  refine (known_nil k w).mono ?_
  rintro e w' ⟨rfl, rfl⟩
  go_wp2
  go_ret
  exact ⟨rfl, rfl⟩
theorem bad_nil (k : Int) (w : World) : Calls Try.prog 13 #[.pointer none, .int .i64 k] w fun e w' => e = .returned (.int .i64 2) ∧ w = w' := by
  go_enter Try.func13, Try.ntmps13
  go_wp2_with fail
  refine (known_nil k w).mono ?_
  rintro e w' ⟨rfl, rfl⟩
  go_wp2
  go_ret
  exact ⟨rfl, rfl⟩
theorem tick_nil (w : World) : Calls Try.prog 15 #[.pointer none] w fun e w' => e = .returned (.int .i64 2) ∧ w = w' := by
  go_enter Try.func15, Try.ntmps15
  go_wp2
  go_ret
  exact ⟨rfl, rfl⟩
theorem order_nil (v : Value) (w : World) : Calls Try.prog 20 #[.pointer none, v] w fun e w' => e = .returned (.tuple #[.slice none 0 0, .int .i64 2]) ∧ Below w.heap.size w w' := by
  have HB := Aside0.mk ((Below.refl w.heap.size w).alloc (Nat.le_refl _) (.cells #[.pointer none] 24))
  go_enter Try.func20, Try.ntmps20
  go_wp2
  go_ret2
  exact ⟨rfl, HB.out⟩
section
variable (nd st bn : Int) (w : World)
theorem sbox_new : SBox (w.alloc (.cells (upV nd st bn) 23)) w.heap.size nd st bn := ⟨Go.heap_alloc_new w _, by simp⟩
/-- what made leaves of the document's detector -/
def Ref0 (w : World) (R : Nat) (nd st bn : Int) : Prop := ∃ v, w.rowIs R 75 5 (rc nd st bn 0 v) ∧ w.ownsRow (R + 1) 93 1 v nd.toNat (List.replicate nd.toNat (.slice none 0 0))
set_option maxRecDepth 100000 in
set_option maxHeartbeats 2000000 in
theorem made_yes (h : Fits nd st bn) : Calls Try.prog 17 #[.agg (upV nd st bn)] w fun e w' => ∃ B b1 b2 R, e = .returned (.tuple #[.pointer (some ⟨B, 0, none⟩), .pointer (some ⟨R, 0, none⟩), .bool true, .bool true]) ∧ Det w' B nd st bn 0 b1 b2 0 (fun _ => none) (fun _ => none) ∧ Below w.heap.size w w' ∧ w.heap.size ≤ B ∧ w.heap.size ≤ b1 ∧ w.heap.size ≤ b2 ∧ (B < R ∧ b1 < R ∧ b2 < R) ∧ Ref0 w' R nd st bn := by
  have HS := Aside0.mk (sbox_new nd st bn w)
  have HB0 := Aside0.mk ((Below.refl w.heap.size w).alloc (Nat.le_refl _) (.cells (upV nd st bn) 23))
  have HF := Aside0.mk h
  clear h
  have h0 := HS.out.c0
  have h1 := HS.out.c1
  have h2 := HS.out.c2
  go_enter Try.func17, Try.ntmps17
  go_wp2_with fail
  refine (Det.new_any nd st bn _ HF.out).mono ?_
  rintro e w1 ⟨B, b1, b2, rfl, hD, hb, l1, l2, l3⟩
  have HL : Aside0 (w.heap.size ≤ B ∧ w.heap.size ≤ b1 ∧ w.heap.size ≤ b2) := ⟨by have := HB0.out.size; omega⟩
  have HB1 := Aside0.mk (HB0.out.trans (hb.mono HB0.out.size))
  have HS1 := Aside0.mk (HS.out.after hb)
  have HD := Aside0.mk hD
  clear hD hb l1 l2 l3 h0 h1 h2 HS HB0
  have h0 := HS1.out.c0
  have h1 := HS1.out.c1
  have h2 := HS1.out.c2
  go_wp2_with fail
  refine (refnew_any nd st bn w1 HF.out).mono ?_
  rintro e w2 ⟨rfl, hb, hR⟩
  have HRR : Aside0 (Ref0 w2 w1.heap.size nd st bn) := ⟨hR⟩
  have HLT : Aside0 (B < w1.heap.size ∧ b1 < w1.heap.size ∧ b2 < w1.heap.size) := ⟨⟨HD.out.row.lt, HD.out.m1.lt, HD.out.m2.lt⟩⟩
  have HD2 := Aside0.mk (HD.out.after hb)
  have HB2 := Aside0.mk (HB1.out.trans (hb.mono HB1.out.size))
  clear hb hR h0 h1 h2
  go_wp2_with (go_at_call 11; refine (num_any _ _).mono ?_; rintro e w' ⟨rfl, rfl⟩)
  (try simp only [Exit.inBlock, Exit.then])
  refine bodyPost_ret (results_tmp4 rfl _ _ _) rfl ?_
  exact ⟨B, b1, b2, w1.heap.size, rfl, HD2.out, HB2.out, HL.out.1, HL.out.2.1, HL.out.2.2, HLT.out, HRR.out⟩
theorem made_no (h : ¬ Fits nd st bn) : Calls Try.prog 17 #[.agg (upV nd st bn)] w fun e w' => e = .returned (.tuple #[.pointer none, .pointer none, .bool true, .bool false]) ∧ Below w.heap.size w w' := by
  have HS := Aside0.mk (sbox_new nd st bn w)
  have HB0 := Aside0.mk ((Below.refl w.heap.size w).alloc (Nat.le_refl _) (.cells (upV nd st bn) 23))
  have HF := Aside0.mk h
  clear h
  have h0 := HS.out.c0
  have h1 := HS.out.c1
  have h2 := HS.out.c2
  go_enter Try.func17, Try.ntmps17
  go_wp2_with fail
  refine (Det.new_bad nd st bn _ HF.out).mono ?_
  rintro e w1 ⟨rfl, rfl⟩
  go_wp2_with fail
  refine (refnew_bad nd st bn _ HF.out).mono ?_
  rintro e w1 ⟨rfl, rfl⟩
  go_wp2_with (go_at_call 11; refine (num_any _ _).mono ?_; rintro e w' ⟨rfl, rfl⟩)
  (try simp only [Exit.inBlock, Exit.then])
  refine bodyPost_ret (results_tmp4 rfl _ _ _) rfl ?_
  exact ⟨rfl, HB0.out⟩
end
end Go.Proofs.Ytbheegamibdbhaa.Made
