/- The closures of Order: a node's rank, and less. -/
import Derived.Test.YtbheegamibdbhaaDet
import Derived.Test.YtbheegamibdbhaaStable
import Derived.Sort.OwnSortedInts
set_option linter.unusedVariables false
set_option linter.unusedSimpArgs false
namespace Go.Proofs.Ytbheegamibdbhaa.OrdLess
open Go.RowKit Go.Proofs.YtbheegamibdbhaaW.PrintWords Go.Proofs.YtbheegamibdbhaaW.PrintLast Go.Proofs.YtbheegamibdbhaaW.PrintMore
open Go.Sort Go.Proofs.Ytbheegamibdbhaa.Base Go.Proofs.Ytbheegamibdbhaa.MapK Go.Proofs.Ytbheegamibdbhaa.Det Go.Proofs.Ytbheegamibdbhaa.SymMerge Go.Proofs.Ytbheegamibdbhaa.StabPure Go.Proofs.Ytbheegamibdbhaa.StabWalk Go.Proofs.Ytbheegamibdbhaa.Stable
def rk (u : Int → Option Int) (now k : Int) : Int := if now < (u k).getD 0 then (u k).getD 0 else 0
/-- what less reads: the boxes of d, rank and out; the detector's time and bans -/
structure LW (w : World) (D R O B b2 n : Nat) (u : Int → Option Int) (now : Int) (g c sz : Nat) : Prop where mk ::
  (d : w.cell? ⟨D, 0, none⟩ = some (.pointer (some ⟨B, 0, none⟩)))
  (r : w.cell? ⟨R, 0, none⟩ = some (.func (.func 30) #[] #[.pointer (some ⟨D, 0, none⟩)]))
  (o : w.cell? ⟨O, 0, none⟩ = some (.slice (some ⟨g, 0, none⟩) sz c))
  (t : w.cell? ⟨B, 3, none⟩ = some (.int .i64 now)) (m : w.cell? ⟨B, 5, none⟩ = some (.map (some b2))) (u : MapAs w b2 n u)
theorem rank_any (w : World) {D R O B b2 n : Nat} {u : Int → Option Int} {now : Int} {g c sz : Nat} (h : LW w D R O B b2 n u now g c sz) (k : Int) (hk : (Lit.int .i64 k).wf = true) (q : Nat) :
    Calls Try.prog 30 #[.int .i64 k, .pointer (some ⟨D, 0, none⟩)] (w.drewN q) fun e w' => e = .returned (.int .i64 (rk u now k)) ∧ w' = w.drewN q := by
  have hd := h.d
  have ht := h.t
  have hm := h.m
  have hlk := fun m => (h.u.of_block (w1 := w.drewN m) rfl).look k hk
  by_cases hr : now < (u k).getD 0
  · have HE := Lib.hid (show rk u now k = (u k).getD 0 from if_pos hr)
    generalize (u k).getD 0 = x at hr hlk HE
    go_enter Try.func30, Try.ntmps30
    go_wp2_with fail
    go_ret
    exact ⟨by rw [HE.out]; rfl, rfl⟩
  · have HE := Lib.hid (show rk u now k = 0 from if_neg hr)
    generalize (u k).getD 0 = x at hr hlk HE
    go_enter Try.func30, Try.ntmps30
    go_wp2_with fail
    go_ret
    exact ⟨by rw [HE.out]; rfl, rfl⟩
set_option maxRecDepth 100000 in
set_option maxHeartbeats 4000000 in
theorem less_any (w : World) {D R O B b2 n : Nat} {u : Int → Option Int} {now : Int} {g c sz : Nat} (h : LW w D R O B b2 n u now g c sz) (i j : Nat) (hi : i < sz) (hj : j < sz) (x y : Int) (hx : w.cell? ⟨g, i, none⟩ = some (.int .i64 x)) (hy : w.cell? ⟨g, j, none⟩ = some (.int .i64 y))
    (kx : (Lit.int .i64 x).wf = true) (ky : (Lit.int .i64 y).wf = true) :
    Calls Try.prog 32 #[.int .i64 i, .int .i64 j, .pointer (some ⟨R, 0, none⟩), .pointer (some ⟨O, 0, none⟩)] w fun e w' => e = .returned (.bool (ltk (rk u now) x y)) ∧ ∃ q, w' = w.drewN q := by
  have H1 := Lib.hid (fun (k : Int) (q : Nat) (hk : (Lit.int .i64 k).wf = true) => rank_any w h k hk q)
  have hr := h.r
  have ho := h.o
  have KX := Lib.hid kx
  have KY := Lib.hid ky
  have HE := Lib.hid (show ltk (rk u now) x y = decide (rk u now x < rk u now y) from rfl)
  have hrk : ∀ k, ∃ a, a = rk u now k := fun k => ⟨_, rfl⟩
  clear kx ky hrk
  have e1 : ∀ args w, (callFunc 30 args).run Try.prog w = .ok (.enter 30 args) w := enters_of Try.func30 (by kernel_rfl) rfl
  go_enter Try.func32, Try.ntmps32
  go_wp2
  go_quiet (exact Calls.quiet_of_same (H1.out _ _ (by first | exact KX.out | exact KY.out)))
  go_wp2
  go_ret
  exact ⟨by rw [HE.out]; rfl, nq, rfl⟩
end Go.Proofs.Ytbheegamibdbhaa.OrdLess
