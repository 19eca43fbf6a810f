/- Joined texts of this claim: EqV -/
import Derived.Test.YtljjpdjknnhceaaDoorJRHld5
import Derived.Laws.StructEq
set_option linter.unusedVariables false
set_option linter.unusedSimpArgs false
/- == of two rows of settings that are the same. -/
set_option linter.unusedVariables false
set_option linter.unusedSimpArgs false
namespace Go.Proofs.YtljjpdjknnhceaaDoor.EqV
open Go.RowKit Go.Proofs.YtljjpdjknnhceaaDoorW.PrintWords Go.Proofs.YtljjpdjknnhceaaDoorW.PrintLast Go.Proofs.YtljjpdjknnhceaaDoorW.PrintMore
open Go.Proofs.YtljjpdjknnhceaaDoor.Base Go.Proofs.YtljjpdjknnhceaaDoor.RingPure Go.Proofs.YtljjpdjknnhceaaDoor.ChkPure Go.Proofs.YtljjpdjknnhceaaDoor.Clus Go.Proofs.YtljjpdjknnhceaaDoor.Ref6
theorem eqInt (d : Nat) (w : World) (x : Int) : (Op.equalIn (d + 1) 3 (.int .i64 x) (.int .i64 x)).run Tryd.prog w = .ok true w := by
  simp [Op.equalIn, run_underlying Tryd.underlying3]
theorem part_at (w : World) (c : Cl) (i : Nat) (h : i < 21) : (part 3 (valL c).toArray i).run Tryd.prog w = .ok (.int .i64 ((vals c).getD i 0)) w := by
  have hv := valL_at c i h
  obtain ⟨i0, hi, hzz⟩ := Option.map_eq_some_iff.1 infoI
  simp only [Prod.mk.injEq] at hzz
  obtain ⟨hz0, hz1, hz2⟩ := hzz
  simp [part, run_underlying Tryd.underlying3, hv]
set_option maxHeartbeats 2000000 in
theorem eqV (w : World) (c : Cl) : (Op.equalIn 10000 102 (.agg (valL c).toArray) (.agg (valL c).toArray)).run Tryd.prog w = .ok true w := by
  have hp := fun i h => part_at w c i h
  obtain ⟨i0, hi, hzz⟩ := Option.map_eq_some_iff.1 infoI
  simp only [Prod.mk.injEq] at hzz
  obtain ⟨hz0, hz1, hz2⟩ := hzz
  rw [Op.equalIn]
  simp [run_underlying Tryd.underlying102, sizeOf, typeInfo, hi, hz1]
  have key : ∀ l : List Nat, (∀ i ∈ l, i < 21) → Sem.run Tryd.prog
          (forIn l ((none, ()) : Option Bool × Unit) fun i __s => do
            let __do_lift ← part 3 (valL c).toArray i
            let __do_lift_1 ← part 3 (valL c).toArray i
            let __do_lift ← Op.equalIn 9999 3 __do_lift __do_lift_1
            if __do_lift = false then pure (ForInStep.done (some false, ())) else pure (ForInStep.yield (none, ()))) w = .ok (none, ()) w := by
    intro l
    induction l with
    | nil => intro _; simp
    | cons i l ih =>
      intro h
      have h1 := hp i (h i (List.mem_cons_self ..))
      obtain ⟨x, hx⟩ : ∃ x, x = (vals c).getD i 0 := ⟨_, rfl⟩
      rw [← hx] at h1
      have h2 : (Op.equalIn 9999 3 (.int .i64 x) (.int .i64 x)).run Tryd.prog w = .ok true w := eqInt 9998 w x
      have h3 := ih (fun j hj => h j (List.mem_cons_of_mem _ hj))
      rw [List.forIn_cons]
      simp [h1, h2, h3]
  rw [key _ (fun i hi => by simp [List.mem_range'] at hi; omega)]
  simp
end Go.Proofs.YtljjpdjknnhceaaDoor.EqV
