/- DetectorNews: New's error at all numbers; every call on a detector that is not there. -/
import Derived.Test.YtbheegamibdbhaaMade
set_option linter.unusedVariables false
set_option linter.unusedSimpArgs false
namespace Go.Proofs.Ytbheegamibdbhaa.News
open Go.RowKit Go.Proofs.YtbheegamibdbhaaW.PrintWords Go.Proofs.YtbheegamibdbhaaW.PrintLast Go.Proofs.YtbheegamibdbhaaW.PrintMore
open Go.Proofs.Ytbheegamibdbhaa.Base Go.Proofs.Ytbheegamibdbhaa.App Go.Proofs.Ytbheegamibdbhaa.Det Go.Proofs.Ytbheegamibdbhaa.Bans Go.Proofs.Ytbheegamibdbhaa.RefDet Go.Proofs.Ytbheegamibdbhaa.Made
/-- made, told together -/
theorem made_any (nd st bn : Int) (w : World) : Calls Try.prog 17 #[.agg (upV nd st bn)] w fun e w' => ∃ p q : Option Addr, ∃ x : Bool, e = .returned (.tuple #[.pointer p, .pointer q, .bool true, .bool x]) ∧ Below w.heap.size w w' := by
  by_cases h : Fits nd st bn
  · refine (made_yes nd st bn w h).mono ?_
    rintro e w' ⟨B, b1, b2, R, rfl, _, hb, _⟩
    exact ⟨_, _, _, rfl, hb⟩
  · refine (made_no nd st bn w h).mono ?_
    rintro e w' ⟨rfl, hb⟩
    exact ⟨_, _, _, rfl, hb⟩
set_option maxRecDepth 100000 in
set_option maxHeartbeats 4000000 in
theorem law_news (nd st bn : Int) (w : World) : Calls Try.prog 5 #[.agg (upV nd st bn)] w fun e w' => e = .returned (.bool true) ∧ Below w.heap.size w w' := by
  obtain ⟨wz, rfl⟩ : ∃ w0 : World, w0 = w := ⟨_, rfl⟩
  have HS := Aside0.mk (sbox_new nd st bn wz)
  have HB0 := Aside0.mk ((Below.refl wz.heap.size wz).alloc (Nat.le_refl _) (.cells (upV nd st bn) 23))
  have hrg := HS.out.range
  have hi : (Try.prog.info? 23).map (·.size) = some 3 := by kernel_rfl
  go_enter Try.func5, Try.ntmps5
  go_wp2_with ((with_reducible refine gate_load (ty := 23) (x := .tmp 1) rfl ?_); refine wpList_load_mid rfl 23 (.tmp 1) rfl wz.heap.size 0 rfl (upL nd st bn) _ hrg Try.underlying23 rfl hi ?_)
  refine (made_any nd st bn _).mono ?_
  rintro e w1 ⟨p, q, x, rfl, hb⟩
  have HB1 := Aside0.mk (HB0.out.trans (hb.mono HB0.out.size))
  have HS1 := Aside0.mk (HS.out.after hb)
  clear hb hrg HB0 HS
  have h0 := HS1.out.c0
  have h2 := HS1.out.c2
  go_wp2_with fail
  refine (silent_nil nd w1).mono ?_
  rintro e w' ⟨rfl, rfl⟩
  go_wp2_with fail
  have HB2 := Aside0.mk ((Below.refl w1.heap.size w1).alloc (Nat.le_refl _) (.cells #[.int .i64 nd, .int .i64 bn] 3))
  refine (order_nil _ _).mono ?_
  rintro e w2 ⟨rfl, hb⟩
  have hb2 := below_then HB2.out HB2.out.size hb
  have HB3 := Aside0.mk (HB1.out.trans (hb2.mono HB1.out.size))
  have HS3 := Aside0.mk (HS1.out.after hb2)
  clear hb hb2 h0 h2
  go_wp2_with fail
  refine (order_nil _ _).mono ?_
  rintro e w3 ⟨rfl, hb⟩
  have HB4 := Aside0.mk (HB3.out.trans (hb.mono HB3.out.size))
  have HS4 := Aside0.mk (HS3.out.after hb)
  clear hb
  have h0 := HS4.out.c0
  go_wp2_with (first | (go_at_call 11; refine (num_any _ _).mono ?_; rintro e w' ⟨rfl, rfl⟩) | (go_at_call 16; refine (good_nil _ _).mono ?_; rintro e w' ⟨rfl, rfl⟩) | (go_at_call 13; refine (bad_nil _ _).mono ?_; rintro e w' ⟨rfl, rfl⟩) | (go_at_call 15; refine (tick_nil _).mono ?_; rintro e w' ⟨rfl, rfl⟩))
  go_ret
  exact ⟨rfl, HB4.out⟩
end Go.Proofs.Ytbheegamibdbhaa.News
