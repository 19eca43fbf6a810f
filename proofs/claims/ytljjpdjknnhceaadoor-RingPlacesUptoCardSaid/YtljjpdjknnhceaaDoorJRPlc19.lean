/- Joined texts of this claim: ZoneKit -/
import Derived.Test.YtljjpdjknnhceaaDoorJRPlc18
set_option linter.unusedVariables false
set_option linter.unusedSimpArgs false
/- A made definition whose zones are written over; its settings turned. -/
set_option linter.unusedVariables false
set_option linter.unusedSimpArgs false
namespace Go.Proofs.YtljjpdjknnhceaaDoor.ZoneKit
open Go.RowKit Go.Proofs.YtljjpdjknnhceaaDoorW.PrintWords Go.Proofs.YtljjpdjknnhceaaDoorW.PrintLast Go.Proofs.YtljjpdjknnhceaaDoorW.PrintMore
open Go.Proofs.YtljjpdjknnhceaaDoor.Base Go.Proofs.YtljjpdjknnhceaaDoor.App Go.Proofs.YtljjpdjknnhceaaDoor.RingPure Go.Proofs.YtljjpdjknnhceaaDoor.ChkPure Go.Proofs.YtljjpdjknnhceaaDoor.Clus Go.Proofs.YtljjpdjknnhceaaDoor.Mids Go.Proofs.YtljjpdjknnhceaaDoor.Chkd Go.Proofs.YtljjpdjknnhceaaDoor.AppR Go.Proofs.YtljjpdjknnhceaaDoor.Twin Go.Proofs.YtljjpdjknnhceaaDoor.TwinW Go.Proofs.YtljjpdjknnhceaaDoor.MadePure Go.Proofs.YtljjpdjknnhceaaDoor.FewPure Go.Proofs.YtljjpdjknnhceaaDoor.FewKit Go.Proofs.YtljjpdjknnhceaaDoor.Name
/-- the first k zones are 0 -/
def zk (z : Nat → Int) (k : Nat) : Nat → Int := fun i => if i < k then 0 else z i
theorem zk_zero (z : Nat → Int) : zk z 0 = z := by funext i; simp [zk]
theorem zk_fz {f z : Nat → Int} {n : Nat} (h : Fz f z n) (k : Nat) : Fz f (zk z k) n := by
  refine ⟨h.lo, h.hi, fun i => ?_⟩
  show 0 ≤ (if i < k then 0 else z i) ∧ (if i < k then 0 else z i) ≤ 7
  have := h.zo i
  split <;> omega
theorem zk_set (f z : Nat → Int) (p n k : Nat) (hk : k < n) : (nds f (zk z k) p n).set k (0, ps f (k : Nat) p) = nds f (zk z (k + 1)) p n := by
  apply List.ext_getElem?
  intro i
  by_cases hi : i < n
  · rw [nds_get f (zk z (k + 1)) p n i hi, List.getElem?_set]
    by_cases e : k = i
    · subst e
      rw [if_pos rfl, if_pos (by rw [nds_length]; exact hi)]
      simp [zk]
    · rw [if_neg e, nds_get f (zk z k) p n i hi]
      have : (i < k) = (i < k + 1) := by rw [eq_iff_iff]; omega
      simp [zk, this]
  · rw [List.getElem?_eq_none (by simp [nds_length]; omega), List.getElem?_eq_none (by rw [nds_length]; omega)]
theorem ndsC_set : ∀ (ns : List Nd) (vs : List Value) (k : Nat) (n : Nd) (x : Int), vs.length = ns.length → ns[k]? = some n → (ndsC ns vs).set (k * 2) (.int .i64 x) = ndsC (ns.set k (x, n.2)) vs
  | m :: ns, v :: vs, 0, n, x, hl, h => by
    simp at h
    subst h
    rfl
  | m :: ns, v :: vs, k + 1, n, x, hl, h => by
    have ih := ndsC_set ns vs k n x (by simpa using hl) (by simpa using h)
    rw [show (k + 1) * 2 = k * 2 + 1 + 1 by omega]
    simp only [ndsC, List.set_cons_succ, ih]
  | [], _, _, _, _, _, h => by simp at h
  | m :: ns, [], _, _, _, hl, _ => by simp at hl
/-- a zone is written over -/
theorem Own.zone {w : World} {base b c : Nat} {ns : List Nd} {vs : List Value} {k : Nat} {n : Nd} (h : Own w base (.slice (some ⟨b, 0, none⟩) ns.length c) ns vs) (hk : ns[k]? = some n) (x : Int) :
    Own (w.setCell ⟨b, k * 2, none⟩ (.int .i64 x)) base (.slice (some ⟨b, 0, none⟩) ns.length c) (ns.set k (x, n.2)) vs ∧ w.frozen? ⟨b, k * 2, none⟩ = false ∧ w.cell? ⟨b, k * 2, none⟩ = some (.int .i64 n.1) := by
  obtain ⟨h1, h2⟩ := h.row.stored (k * 2) (.int .i64 x)
  obtain ⟨v, hv⟩ : ∃ v, vs[k]? = some v := ⟨_, List.getElem?_eq_getElem (by rw [h.len]; exact (List.getElem?_eq_some_iff.1 hk).1)⟩
  refine ⟨⟨by rw [h.len, List.length_set], by rw [List.length_set, ← ndsC_set ns vs k n x h.len hk]; exact h1, fun i m v hi hv => ?_⟩, h.row.frozenAt _, ?_⟩
  · have key : ∀ {m : Nd} {u : Value}, w.ownsRow base 3 1 u m.2.length (nums .i64 m.2) → (w.setCell ⟨b, k * 2, none⟩ (.int .i64 x)).ownsRow base 3 1 u m.2.length (nums .i64 m.2) := fun ho => ho.kept h2 (ints_ne ho (by decide) h.row)
    rw [List.getElem?_set] at hi
    by_cases e : k = i
    · subst e
      rw [if_pos rfl, if_pos (List.getElem?_eq_some_iff.1 hk).1] at hi
      simp only [Option.some.injEq] at hi
      subst hi
      exact key (m := (x, n.2)) (h.each k n v hk hv)
    · rw [if_neg e] at hi
      exact key (h.each i m v hi hv)
  · have h3 := h.row.cells (g := b) rfl (k * 2) _ ((ndsC_at ns vs k n v hk hv).1)
    have e2 : (⟨b, 0, none⟩ : Addr).add (k * 2) = ⟨b, k * 2, none⟩ := by unfold Addr.add; split <;> simp_all
    rwa [e2] at h3
def withWC (c : Cl) (W C : Int) : Cl := { c with width := W, chunks := C }
theorem withW_cells (c : Cl) (nv : Value) (W : Int) : (cL c nv).toArray.setIfInBounds 2 (.int .i64 W) = (cL (withWC c W c.chunks) nv).toArray := rfl
theorem withC_cells (c : Cl) (nv : Value) (W C : Int) : (cL (withWC c W c.chunks) nv).toArray.setIfInBounds 3 (.int .i64 C) = (cL (withWC c W C) nv).toArray := rfl
theorem full_z (f z z' : Nat → Int) (p n : Nat) : full (nds f z p n) = full (nds f z' p n) := by rw [fulls_len, fulls_len]
/-- it is valid with another width, with fewer chunks, with other zones -/
theorem chk_wc {f z z' : Nat → Int} {n p : Nat} (hz : Fz f z n) (hz' : Fz f z' n) (hn : 1 ≤ n ∧ n ≤ 16) (hp : 1 ≤ p ∧ p ≤ 64) {c : Cl} (h : (chkC c (nds f z p n)).1 = 0) {W C : Int} (hW : 1 ≤ W ∧ W ≤ 16) (hC : 1 ≤ C ∧ C ≤ c.chunks) : (chkC (withWC c W C) (nds f z' p n)).1 = 0 := by
  have hg := chk_ok (nm := nmB c.store) h
  have hb := setAt_bounds hg.set
  have hs : setB (withWC c W C) = true := by
    have h3 := hg.set
    simp only [setB, Bool.and_eq_true, List.all_eq_true, List.mem_range] at h3 ⊢
    refine ⟨fun i hi => ?_, h3.2⟩
    have h4 := h3.1 i hi
    rcases i with _ | _ | _ | i
    · exact h4
    · simp [setAt, vals, most, least, withWC]; omega
    · simp [setAt, vals, most, least, withWC]; omega
    · exact h4
  refine made_chk hz' hn hp (by show nmB c.store = true; exact chk_nm h) hs (by show c.replicas ≤ _; rw [full_z f z' z]; exact hg.rep) ?_
  have h5 := hg.files
  rw [made_cnt hz p] at h5
  show (p : Int) * c.replicas * C ≤ 512
  have h6 : (p : Int) * c.replicas * C ≤ (p : Int) * c.replicas * c.chunks := Int.mul_le_mul_of_nonneg_left hC.2 (Int.mul_nonneg (by omega) (by omega))
  omega
end Go.Proofs.YtljjpdjknnhceaaDoor.ZoneKit
