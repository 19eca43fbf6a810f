/- Joined texts of this claim: ModAt, RoundPure, Round, Walk, FewPure -/
import Derived.Test.YtljjpdjknnhceaaDoorJRNam15
import Derived.Test.YtljjpdjknnhceaaDoorJRNam10
import Derived.Test.YtljjpdjknnhceaaDoorJRNam9
import Derived.Test.YtljjpdjknnhceaaDoorJRNam17
import Derived.Test.YtljjpdjknnhceaaDoorJRNam7
import Derived.Test.YtljjpdjknnhceaaDoorJRNam12
import Derived.Deep.QuietTactic
import Derived.BigQuiet
import Derived.Outline
set_option linter.unusedVariables false
set_option linter.unusedSimpArgs false
/- mod, at and With walked. -/
set_option linter.unusedVariables false
set_option linter.unusedSimpArgs false
namespace Go.Proofs.YtljjpdjknnhceaaDoor.ModAt
open Go.RowKit Go.Proofs.YtljjpdjknnhceaaDoorW.PrintWords Go.Proofs.YtljjpdjknnhceaaDoorW.PrintLast Go.Proofs.YtljjpdjknnhceaaDoorW.PrintMore
open Go.Proofs.YtljjpdjknnhceaaDoor.Base Go.Proofs.YtljjpdjknnhceaaDoor.RingPure Go.Proofs.YtljjpdjknnhceaaDoor.ChkPure Go.Proofs.YtljjpdjknnhceaaDoor.Clus Go.Proofs.YtljjpdjknnhceaaDoor.Mids Go.Proofs.YtljjpdjknnhceaaDoor.Chkd Go.Proofs.YtljjpdjknnhceaaDoor.MadePure Go.Proofs.YtljjpdjknnhceaaDoor.Sort Go.Proofs.YtljjpdjknnhceaaDoor.PRingPlaces
theorem mod_any (x m : Int) (w : World) (h : 0 < m) (hb : m ≤ 4611686018427387904) : Calls Tryd.prog 26 #[.int .i64 x, .int .i64 m] w fun e w' => e = .returned (.int .i64 (md x m)) ∧ Below w.heap.size w w' := by
  refine (granarylaw6_mod.calls x m (md x m) w ?_).mono fun e w' h => ⟨h.1, h.2.below⟩
  unfold granarylaw6_mod.f md
  have h1 := Int.lt_tmod_of_pos x h
  have h2 := Int.tmod_lt_of_pos x h
  rw [if_neg (by omega), show wrap64 (Int.tmod x m + m) = Int.tmod x m + m by unfold wrap64; omega]
theorem at_any (A : Option Addr) (c : Nat) (l : List Int) (i : Nat) (w : World) (hN : NumsAt w A l) (hc : l.length ≤ c) (hlb : l.length ≤ 1099511627776) : Calls Tryd.prog 57 #[.slice A l.length c, .int .i64 (i : Nat)] w fun e w' => e = .returned (.int .i64 (atL l i)) ∧ Below w.heap.size w w' := by
  by_cases hl : l.length = 0
  · refine (granarylaw6_at.calls A c l (i : Nat) (atL l i) w (NumsAt.kd hN (by omega)) hc ?_).mono fun e w' h => ⟨h.1, h.2.below⟩
    unfold granarylaw6_at.f atL
    rw [if_pos (by omega), if_pos hl]
  · refine (granarylaw6_at.calls A c l (i : Nat) (atL l i) w (NumsAt.kd hN (by omega)) hc ?_).mono fun e w' h => ⟨h.1, h.2.below⟩
    have he : Int.tmod (i : Nat) (l.length : Int) = ((i % l.length : Nat) : Int) := by rw [Int.tmod_eq_emod_of_nonneg (Int.natCast_nonneg i), Int.natCast_emod]
    have hlt := Nat.mod_lt i (show 0 < l.length by omega)
    unfold granarylaw6_at.f atL
    rw [if_neg (by omega), he, if_pos (by omega), if_pos (by omega), if_neg hl]
    rfl
end Go.Proofs.YtljjpdjknnhceaaDoor.ModAt

/- Walking round the ring: the first partition of each new node. Plain lists. -/
namespace Go.Proofs.YtljjpdjknnhceaaDoor.RoundPure
open Go.Proofs.YtljjpdjknnhceaaDoor.RingPure
section
variable (f : Nat → Int) (part P reps : Nat)
def pos (i : Nat) : Nat := (part + i) % P
/-- none of those ahead has its node -/
def fresh (i : Nat) : Bool := (List.range i).all fun j => f (pos part P j) != f (pos part P i)
def tk : Nat → List Nat
  | 0 => []
  | i + 1 => if (tk i).length < reps ∧ fresh f part P i = true then tk i ++ [pos part P i] else tk i
def rnd : List Nat := tk f part P reps P
end
variable {f : Nat → Int} {part P reps : Nat}
theorem fresh_iff (i : Nat) : fresh f part P i = true ↔ ∀ j, j < i → f (pos part P j) ≠ f (pos part P i) := by
  unfold fresh
  rw [List.all_eq_true]
  simp only [List.mem_range, bne_iff_ne, ne_eq]
theorem tk_succ (i : Nat) : tk f part P reps (i + 1) = if (tk f part P reps i).length < reps ∧ fresh f part P i = true then tk f part P reps i ++ [pos part P i] else tk f part P reps i := rfl
theorem pos_lt (hP : 0 < P) (i : Nat) : pos part P i < P := Nat.mod_lt _ hP
theorem tk_len_le (i : Nat) : (tk f part P reps i).length ≤ i := by
  induction i with
  | zero => exact Nat.le_refl _
  | succ i ih => rw [tk_succ]; split <;> (try rw [List.length_append, List.length_singleton]) <;> omega
theorem tk_len_reps (i : Nat) : (tk f part P reps i).length ≤ reps := by
  induction i with
  | zero => exact Nat.zero_le _
  | succ i ih => rw [tk_succ]; split <;> (try rw [List.length_append, List.length_singleton]) <;> omega
theorem tk_full {i : Nat} (h : reps ≤ (tk f part P reps i).length) : ∀ k, tk f part P reps (i + k) = tk f part P reps i := by
  intro k
  induction k with
  | zero => rfl
  | succ k ih => rw [← Nat.add_assoc, tk_succ, ih, if_neg (by omega)]
theorem tk_mem {i t : Nat} (h : t ∈ tk f part P reps i) : ∃ j, j < i ∧ t = pos part P j ∧ fresh f part P j = true := by
  induction i with
  | zero => cases h
  | succ i ih =>
    rw [tk_succ] at h
    split at h
    · rename_i hc
      rcases List.mem_append.1 h with h | h
      · obtain ⟨j, a, b, d⟩ := ih h; exact ⟨j, by omega, b, d⟩
      · simp only [List.mem_singleton] at h; exact ⟨i, by omega, h, hc.2⟩
    · obtain ⟨j, a, b, d⟩ := ih h; exact ⟨j, by omega, b, d⟩
theorem tk_all {i : Nat} (hl : (tk f part P reps i).length < reps) {j : Nat} (hj : j < i) (hf : fresh f part P j = true) : pos part P j ∈ tk f part P reps i := by
  induction i with
  | zero => omega
  | succ i ih =>
    have hl' : (tk f part P reps i).length < reps := by
      rw [tk_succ] at hl
      split at hl
      · simp at hl; omega
      · exact hl
    rw [tk_succ]
    by_cases e : j = i
    · subst e; rw [if_pos ⟨hl', hf⟩]; simp
    · have := ih hl' (by omega)
      split
      · exact List.mem_append_left _ this
      · exact this
/-- the least with that node is fresh -/
theorem least {i : Nat} : ∀ (j : Nat), j < i → f (pos part P j) = f (pos part P i) → ∃ k, k < i ∧ f (pos part P k) = f (pos part P i) ∧ fresh f part P k = true := by
  intro j
  induction j using Nat.strongRecOn with
  | ind j ih =>
    intro hj he
    by_cases hf : fresh f part P j = true
    · exact ⟨j, hj, he, hf⟩
    · rw [fresh_iff] at hf
      have : ∃ k, k < j ∧ f (pos part P k) = f (pos part P j) := by
        refine Classical.byContradiction fun hn => hf fun k hk e => hn ⟨k, hk, e⟩
      obtain ⟨k, a, b⟩ := this
      exact ih k a (by omega) (b.trans he)
/-- the test of the program: one that was taken has the node -/
theorem seen_iff {i : Nat} (hl : (tk f part P reps i).length < reps) : (∃ t ∈ tk f part P reps i, f t = f (pos part P i)) ↔ ¬ fresh f part P i = true := by
  constructor
  · rintro ⟨t, ht, he⟩ hf
    obtain ⟨j, a, rfl, _⟩ := tk_mem ht
    exact (fresh_iff i).1 hf j a he
  · intro hf
    rw [fresh_iff] at hf
    have : ∃ k, k < i ∧ f (pos part P k) = f (pos part P i) := Classical.byContradiction fun hn => hf fun k hk e => hn ⟨k, hk, e⟩
    obtain ⟨j, a, b⟩ := this
    obtain ⟨k, c, d, e⟩ := least j a b
    exact ⟨_, tk_all hl c e, d⟩
theorem rnd_of {i : Nat} (hi : i ≤ P) (h : i = P ∨ reps ≤ (tk f part P reps i).length) : rnd f part P reps = tk f part P reps i := by
  unfold rnd
  rcases h with rfl | h
  · rfl
  · have := tk_full (f := f) (part := part) (P := P) h (P - i)
    rwa [show i + (P - i) = P by omega] at this
theorem tk_lt (hP : 0 < P) {i t : Nat} (h : t ∈ tk f part P reps i) : t < P := by
  obtain ⟨j, _, rfl, _⟩ := tk_mem h
  exact Nat.mod_lt _ hP
theorem tk_congr {g : Nat → Int} (hP : 0 < P) (h : ∀ i, i < P → f i = g i) : ∀ i, tk f part P reps i = tk g part P reps i := by
  have hfr : ∀ i, fresh f part P i = fresh g part P i := fun i => by
    unfold fresh
    congr 1
    funext j
    rw [h _ (pos_lt hP _), h _ (pos_lt hP _)]
  intro i
  induction i with
  | zero => rfl
  | succ i ih => rw [tk_succ, tk_succ, ih, hfr]
end Go.Proofs.YtljjpdjknnhceaaDoor.RoundPure

/- ring.round walked. -/
set_option linter.unusedVariables false
set_option linter.unusedSimpArgs false
namespace Go.Proofs.YtljjpdjknnhceaaDoor.Round
open Go.RowKit Go.Proofs.YtljjpdjknnhceaaDoorW.PrintWords Go.Proofs.YtljjpdjknnhceaaDoorW.PrintLast Go.Proofs.YtljjpdjknnhceaaDoorW.PrintMore
open Go.Proofs.YtljjpdjknnhceaaDoor.Base Go.Proofs.YtljjpdjknnhceaaDoor.App Go.Proofs.YtljjpdjknnhceaaDoor.RingPure Go.Proofs.YtljjpdjknnhceaaDoor.ChkPure Go.Proofs.YtljjpdjknnhceaaDoor.Clus Go.Proofs.YtljjpdjknnhceaaDoor.Homes Go.Proofs.YtljjpdjknnhceaaDoor.RoundPure Go.Proofs.YtljjpdjknnhceaaDoor.AppR
def hm (h : List Int) (i : Nat) : Int := h.getD i 0
def ints (l : List Nat) : List Value := nums .i64 (l.map fun n : Nat => (n : Int))
theorem own_later2 {w w' : World} {base : Nat} {e : TypeId} {size : Nat} {v : Value} {n : Nat} {xs : List Value} (h : w.ownsRow base e size v n xs) (hb : Below w.heap.size w w') : w'.ownsRow base e size v n xs :=
  h.kept (row := none) ⟨hb.os, hb.tape, hb.output, hb.size, fun k hk _ => hb.block k hk⟩ (by cases v.ownBlock <;> simp)
set_option maxRecDepth 100000 in
set_option maxHeartbeats 8000000 in
theorem round_any (g : Nat) (h : List Int) (part : Nat) (R : Nat) (w : World) (hr : RowI w g h) (hP : 0 < h.length) (hP2 : h.length ≤ 64) (hp : part < h.length) (hR : R ≤ 16) :
    Calls Tryd.prog 51 #[.slice (some ⟨g, 0, none⟩) h.length h.length, .int .i64 (part : Nat), .int .i64 (R : Nat)] w fun e w' => ∃ v, e = .returned v ∧ w'.ownsRow w.heap.size 3 1 v (rnd (hm h) part h.length R).length (ints (rnd (hm h) part h.length R)) ∧ Below w.heap.size w w' := by
  have HR := Aside0.mk hr
  clear hr
  go_enter Tryd.func51, Tryd.ntmps51
  go_wp2
  go_step3
  go_wp2
  go_step3
  go_wp2
  go_loopg [7, 8] h.length (fun kq v7 v8 wr => ∃ i : Nat, i ≤ h.length ∧ v8 = .int .i64 (i : Nat) ∧ Aside0 (kq = h.length - i) ∧ Aside0 (wr.ownsRow w.heap.size 3 1 v7 (tk (hm h) part h.length R i).length (ints (tk (hm h) part h.length R i))) ∧ Aside0 (Below w.heap.size w wr))
  case atStart => exact ⟨0, Nat.zero_le _, rfl, ⟨rfl⟩, ⟨World.ownsRow_nil _ _ _ _⟩, ⟨Below.refl _ _⟩⟩
  case round =>
    obtain ⟨i, hi, rfl, HK, HO, HB⟩ := hrel
    obtain ⟨wo, rfl⟩ : ∃ wo : World, wo = wr := ⟨_, rfl⟩
    obtain ⟨T, hT⟩ : ∃ T, T = tk (hm h) part h.length R i := ⟨_, rfl⟩
    have hTl := tk_len_reps (f := hm h) (part := part) (P := h.length) (reps := R) i
    have HT := Aside0.mk hT
    rw [← hT] at HO hTl
    clear hT
    obtain ⟨tA, tc, rfl, htc⟩ := own_form HO.out
    by_cases hlt : i < h.length
    · by_cases hrl : T.length < R
      · obtain ⟨p, hpe⟩ : ∃ p, p = pos part h.length i := ⟨_, rfl⟩
        have hpl : p < h.length := by rw [hpe]; exact pos_lt hP i
        have hq : ((part : Int) + (i : Int)) % (h.length : Int) = (p : Int) := by rw [hpe]; show _ = (((part + i) % h.length : Nat) : Int); rw [Int.natCast_emod, Int.natCast_add]
        have HR1 := Aside0.mk (HR.out.below HB.out (blk_lt HR.out))
        obtain ⟨x, hx⟩ : ∃ x, x = h.getD p 0 := ⟨_, rfl⟩
        have hcp : wo.cell? ⟨g, p, none⟩ = some (.int .i64 x) := by rw [hx]; exact HR1.out.cell p hpl
        have HSE : Aside0 ((∃ t ∈ T, hm h t = x) ↔ ¬ fresh (hm h) part h.length i = true) := ⟨by
          have := seen_iff (f := hm h) (part := part) (P := h.length) (reps := R) (i := i) (by rw [← HT.out]; exact hrl)
          rw [← HT.out, ← hpe] at this
          rw [hx]; exact this⟩
        have HNX : Aside0 (tk (hm h) part h.length R (i + 1) = if fresh (hm h) part h.length i = true then T ++ [p] else T) := ⟨by
          rw [tk_succ, ← HT.out, ← hpe]
          by_cases hf : fresh (hm h) part h.length i = true
          · rw [if_pos ⟨hrl, hf⟩, if_pos hf]
          · rw [if_neg (fun e => hf e.2), if_neg hf]⟩
        have HTL : Aside0 (∀ t ∈ T, t < h.length) := ⟨fun t ht => tk_lt hP (i := i) (by rw [← HT.out]; exact ht)⟩
        have hTb : T.length ≤ 16 := by omega
        have HCP := Aside0.mk hcp
        clear hpe hx hcp
        go_wp2_with fail
        go_loopg [11, 32] T.length (fun kq _ v32 wr => ∃ j : Nat, j ≤ T.length ∧ v32 = .int .i64 (j : Nat) ∧ Aside0 (kq = T.length - j) ∧ Aside0 (∃ q, wr = wo.drewN q) ∧ Aside0 (∀ t ∈ T.take j, hm h t ≠ x))
        case atStart => exact ⟨0, Nat.zero_le _, rfl, ⟨rfl⟩, ⟨⟨0, rfl⟩⟩, ⟨by simp⟩⟩
        case round =>
          obtain ⟨j, hj, rfl, HK2, HD, HN⟩ := hrel
          obtain ⟨⟨nd, rfl⟩⟩ := HD
          by_cases hjl : j < T.length
          · obtain ⟨t, ht⟩ : ∃ t, T[j]? = some t := ⟨_, List.getElem?_eq_getElem hjl⟩
            obtain ⟨b, rfl⟩ : ∃ b, tA = some ⟨b, 0, none⟩ := by
              rcases HO.out.2 with ⟨_, h0⟩ | ⟨b, cap', cs, e, _⟩
              · omega
              · injection e with e; exact ⟨b, e⟩
            have htl := HTL.out t (List.mem_of_getElem? ht)
            have hct : wo.cell? ⟨b, j, none⟩ = some (.int .i64 (t : Nat)) := by
              have h1 := HO.out.cells (g := b) rfl j (.int .i64 (t : Nat)) (by simp [ints, nums, ht])
              have e2 : (⟨b, 0, none⟩ : Addr).add j = ⟨b, j, none⟩ := by unfold Addr.add; split <;> simp_all
              rwa [e2] at h1
            obtain ⟨y, hy⟩ : ∃ y, y = h.getD t 0 := ⟨_, rfl⟩
            have hcy : wo.cell? ⟨g, t, none⟩ = some (.int .i64 y) := by rw [hy]; exact HR1.out.cell t htl
            have HY : Aside0 (hm h t = y) := ⟨hy.symm⟩
            have HTJ := Aside0.mk ht
            have hcp := HCP.out
            clear hy ht
            by_cases he : y = x
            · have hqq : (y == x) = true := by rw [he]; simp
              have HNF : Aside0 (tk (hm h) part h.length R (i + 1) = T) := ⟨by
                rw [HNX.out, if_neg (HSE.out.1 ⟨t, List.mem_of_getElem? HTJ.out, by rw [HY.out, he]⟩)]⟩
              have HO2 : Aside0 ((wo.drewN (nd + 0)).ownsRow w.heap.size 3 1 (.slice (some ⟨b, 0, none⟩) T.length tc) T.length (ints T)) := ⟨own_later2 HO.out (pw_below_drewN (Below.refl _ _) _)⟩
              clear he
              go_wp2_with fail
              go_quiet (fail)
              have HO3 : Aside0 ((wo.drewN (nd + nq)).ownsRow w.heap.size 3 1 (.slice (some ⟨b, 0, none⟩) T.length tc) (tk (hm h) part h.length R (i + 1)).length (ints (tk (hm h) part h.length R (i + 1)))) := ⟨by rw [HNF.out]; exact own_later2 HO.out (pw_below_drewN (Below.refl _ _) _)⟩
              have HB3 : Aside0 (Below w.heap.size w (wo.drewN (nd + nq))) := ⟨HB.out.trans ((pw_below_drewN (Below.refl _ _) _).mono HB.out.size)⟩
              go_wp2_with fail
              go_roundg (h.length - (i + 1))
              case measure => rw [HK.out]; omega
              case rel => exact ⟨i + 1, by omega, by go_num, ⟨rfl⟩, HO3, HB3⟩
            · have hqq : (y == x) = false := by simpa using he
              have HN2 : Aside0 (∀ u ∈ T.take (j + 1), hm h u ≠ x) := ⟨fun u hu => by
                rw [List.take_add_one, HTJ.out] at hu
                rcases List.mem_append.1 hu with hu | hu
                · exact HN.out u hu
                · simp at hu; rw [hu, HY.out]; exact he⟩
              clear he
              go_wp2_with fail
              go_quiet (fail)
              go_wp2_with fail
              go_roundg (T.length - (j + 1))
              case measure => rw [HK2.out]; omega
              case rel => exact ⟨j + 1, by omega, by go_num, ⟨rfl⟩, ⟨⟨_, rfl⟩⟩, HN2⟩
          · have hjj : j = T.length := by omega
            have HFR : Aside0 (tk (hm h) part h.length R (i + 1) = T ++ [p]) := ⟨by
              have hno : ¬ ∃ t ∈ T, hm h t = x := fun ⟨t, ht, he⟩ => HN.out t (by rw [hjj, List.take_length]; exact ht) he
              have : fresh (hm h) part h.length i = true := Classical.byContradiction fun hf => hno (HSE.out.2 hf)
              rw [HNX.out, if_pos this]⟩
            have HO4 : Aside0 ((wo.drewN nd).ownsRow w.heap.size 3 1 (.slice tA T.length tc) T.length (ints T)) := ⟨own_later2 HO.out (pw_below_drewN (Below.refl _ _) _)⟩
            have HB4 : Aside0 (Below w.heap.size w (wo.drewN nd)) := ⟨HB.out.trans ((pw_below_drewN (Below.refl _ _) _).mono HB.out.size)⟩
            clear hjj
            generalize wo.drewN nd = w4 at HO4 HB4 ⊢
            have hs4 := HB4.out.size
            go_wp2_with ((with_reducible refine gate_call (args := #[.tmp 46, .tmp 48]) rfl ?_); refine Hid.out ?_)
            refine Lib.hid ?_
            refine list_append_any (P := Tryd.prog) rfl w.heap.size (.tmp 46) (.tmp 48) 36 3 _ 1 8 rfl Tryd.underlying36 infoI rfl (by decide) (by decide) (.slice tA T.length tc) T.length (ints T) (some ⟨w4.heap.size, 0, none⟩) 1 1 [.int .i64 (p : Nat)] ?hs ?hx rfl (by simp [Value.oneCell']) (.inr ⟨_, rfl, fun j u hj => by have := news w4 [.int .i64 (p : Nat)] 3 j u hj; rwa [show (⟨w4.heap.size, 0, none⟩ : Addr).add j = ⟨w4.heap.size, j, none⟩ by unfold Addr.add; split <;> simp_all]⟩) (HO4.out.alloc _) (by simp; omega) (by omega) (T.length + 1) rfl ?_
            case hs => rfl
            case hx => rfl
            intro A5 c5 w5 hle5 hown5 hg5
            have HO5 : Aside0 (w5.ownsRow w.heap.size 3 1 (.slice A5 (T.length + 1) c5) (tk (hm h) part h.length R (i + 1)).length (ints (tk (hm h) part h.length R (i + 1)))) := ⟨by
              rw [HFR.out, List.length_append]
              have : ints (T ++ [p]) = ints T ++ [.int .i64 (p : Nat)] := by simp [ints, nums]
              rw [this]; exact hown5⟩
            have HB5 : Aside0 (Below w.heap.size w w5) := ⟨(HB4.out.alloc HB4.out.size _).grown hg5 (by simp; omega) (own_base HO4.out)⟩
            clear hown5 hg5 HO4 HB4
            go_wp2_with fail
            go_roundg (h.length - (i + 1))
            case measure => rw [HK.out]; omega
            case rel => exact ⟨i + 1, by omega, by go_num, ⟨rfl⟩, HO5, HB5⟩
      · have HE : Aside0 (rnd (hm h) part h.length R = T) := ⟨by rw [HT.out]; exact rnd_of (by omega) (.inr (by rw [← HT.out]; omega))⟩
        go_wp2_with fail
        try rw [Exit.noGoto_ret]
        go_ret
        exact ⟨_, rfl, by rw [HE.out]; exact HO.out, HB.out⟩
    · have HE : Aside0 (rnd (hm h) part h.length R = T) := ⟨by rw [HT.out]; exact rnd_of (by omega) (.inl (by omega))⟩
      go_wp2_with fail
      try rw [Exit.noGoto_ret]
      go_ret
      exact ⟨_, rfl, by rw [HE.out]; exact HO.out, HB.out⟩
end Go.Proofs.YtljjpdjknnhceaaDoor.Round

/- ring.Walk and ring.Owners walked. -/
set_option linter.unusedVariables false
set_option linter.unusedSimpArgs false
namespace Go.Proofs.YtljjpdjknnhceaaDoor.Walk
open Go.RowKit Go.Proofs.YtljjpdjknnhceaaDoorW.PrintWords Go.Proofs.YtljjpdjknnhceaaDoorW.PrintLast Go.Proofs.YtljjpdjknnhceaaDoorW.PrintMore
open Go.Proofs.YtljjpdjknnhceaaDoor.Base Go.Proofs.YtljjpdjknnhceaaDoor.App Go.Proofs.YtljjpdjknnhceaaDoor.RingPure Go.Proofs.YtljjpdjknnhceaaDoor.ChkPure Go.Proofs.YtljjpdjknnhceaaDoor.Clus Go.Proofs.YtljjpdjknnhceaaDoor.Mids Go.Proofs.YtljjpdjknnhceaaDoor.Chkd Go.Proofs.YtljjpdjknnhceaaDoor.Homes Go.Proofs.YtljjpdjknnhceaaDoor.RoundPure Go.Proofs.YtljjpdjknnhceaaDoor.AppR Go.Proofs.YtljjpdjknnhceaaDoor.Round Go.Proofs.YtljjpdjknnhceaaDoor.Sort Go.Proofs.YtljjpdjknnhceaaDoor.Name
/-- the walk of a partition -/
def wkL (c : Cl) (ns : List Nd) (part : Nat) : List Nat := rnd (hm (chkC c ns).2) part (cnt ns) c.replicas.toNat
def wk (c : Cl) (ns : List Nd) (part : Int) : Int × List Int := if (chkC c ns).1 ≠ 0 then ((chkC c ns).1, []) else if part < 0 ∨ (cnt ns : Int) ≤ part then (69, []) else (0, (wkL c ns part.toNat).map fun n : Nat => (n : Int))
def ow (c : Cl) (ns : List Nd) (part : Int) : Int × List Int := if (chkC c ns).1 ≠ 0 then ((chkC c ns).1, []) else if part < 0 ∨ (cnt ns : Int) ≤ part then (69, []) else (0, (wkL c ns part.toNat).map fun n : Nat => hm (chkC c ns).2 n)
def ListPost (r : Int × List Int) (w : World) (e : Ending) (w' : World) : Prop := Below w.heap.size w w' ∧ ∃ v, e = .returned (.tuple #[v, .int .i64 r.1]) ∧ w'.ownsRow w.heap.size 3 1 v r.2.length (nums .i64 r.2)
theorem post_err {r : Int × List Int} {w w' : World} {code : Int} (h : r = (code, [])) (hb : Below w.heap.size w w') : ListPost r w (.returned (.tuple #[.slice none 0 0, .int .i64 code])) w' := by
  subst h; exact ⟨hb, _, rfl, World.ownsRow_nil _ _ _ _⟩
theorem post_ok {r : Int × List Int} {w w' : World} {l : List Int} {v : Value} {n : Nat} (h : r = (0, l)) (hb : Below w.heap.size w w') (hn : n = l.length) (ho : w'.ownsRow w.heap.size 3 1 v n (nums .i64 l)) : ListPost r w (.returned (.tuple #[v, .int .i64 0])) w' := by
  subst h hn; exact ⟨hb, _, rfl, ho⟩
theorem wiB_part (part : Int) (n : Nat) (h : 0 ≤ part ∧ part < (n : Int)) : wiB part 0 ((n : Int) - 1) = true := by unfold wiB; rw [decide_eq_true h.1, decide_eq_true (by omega)]; rfl
theorem wiB_part_no (part : Int) (n : Nat) (h : part < 0 ∨ (n : Int) ≤ part) : wiB part 0 ((n : Int) - 1) = false := by
  unfold wiB
  by_cases h0 : 0 ≤ part
  · rw [decide_eq_true h0, decide_eq_false (by omega)]; rfl
  · rw [decide_eq_false h0]; rfl
theorem wkL_lt (c : Cl) (ns : List Nd) (part : Nat) (hP : 0 < cnt ns) : ∀ t ∈ wkL c ns part, t < cnt ns := fun t ht => tk_lt hP ht
theorem wkL_len (c : Cl) (ns : List Nd) (part : Nat) : (wkL c ns part).length ≤ c.replicas.toNat := tk_len_reps _
set_option maxRecDepth 100000 in
set_option maxHeartbeats 8000000 in
theorem walk_any (c : Cl) (A : Option Addr) (cap : Nat) (ns : List Nd) (part : Int) (w : World) (hN : NodesAt w A ns) (hcap : ns.length ≤ cap) (hs : c.store.size ≤ 2147483647) (hl : ns.length ≤ 1099511627776) (hc : cnt ns ≤ 1099511627776) :
    Calls Tryd.prog 17 #[.agg (cL c (.slice A ns.length cap)).toArray, .int .i64 part] w (ListPost (wk c ns part) w) := by
  have hb0 := (Below.refl w.heap.size w).alloc (Nat.le_refl _) (.cells (cL c (.slice A ns.length cap)).toArray 24)
  have HN := Aside0.mk (hN.below hb0)
  have HB := Aside0.mk hb0
  have HC : Aside0 (CBox (w.alloc (.cells (cL c (.slice A ns.length cap)).toArray 24)) w.heap.size c (.slice A ns.length cap)) := ⟨⟨Go.heap_alloc_new w _⟩⟩
  clear hN hb0
  go_enter Tryd.func17, Tryd.ntmps17
  go_upto_region 1 with fail
  generalize w.alloc (.cells (cL c (.slice A ns.length cap)).toArray 24) = w1 at HN HB HC ⊢
  obtain ⟨ga, hga⟩ : ∃ ga, ga = w.heap.size := ⟨_, rfl⟩
  rw [← hga] at HC ⊢
  have HGA := Aside0.mk hga
  clear hga
  have hrg := blk_range HC.out.row
  go_wp2_with ((with_reducible refine gate_load (ty := 24) (x := .tmp 2) rfl ?_); refine wpList_load_mid rfl 24 (.tmp 2) rfl ga 0 rfl (cL c (.slice A ns.length cap)) _ hrg Tryd.underlying24 rfl infoC23 ?_)
  clear hrg
  refine (checked_any c A cap ns w1 HN.out hcap hs hl hc).mono ?_
  rintro e w2 ⟨hb, hcase⟩
  have HB2 := Aside0.mk (HB.out.trans (hb.mono HB.out.size))
  have HC2 := Aside0.mk (HC.out.below hb HC.out.lt)
  clear hb HB HC
  rcases hcase with ⟨h0, rfl⟩ | ⟨g, h0, rfl, hg, hrow⟩
  · have HE : Aside0 (wk c ns part = ((chkC c ns).1, [])) := ⟨by unfold wk; rw [if_pos h0]⟩
    generalize (chkC c ns).1 = code at h0 HE ⊢
    have hne : (code != 0) = true := by simpa using h0
    go_wp2_with fail
    go_ret2
    exact post_err HE.out HB2.out
  · have HGOOD := Aside0.mk (chk_ok (nm := nmB c.store) h0)
    obtain ⟨hde, hhl, _⟩ := homes_some HGOOD.out.hom
    have hb6 := setAt_bounds HGOOD.out.set
    have hP1 := hde.1
    have hP2 := hde.2.1
    have HH0 := Aside0.mk h0
    obtain ⟨H, hH⟩ : ∃ H, H = (chkC c ns).2 := ⟨_, rfl⟩
    have hHl : H.length = cnt ns := by rw [hH]; exact hhl
    rw [← hH] at hrow ⊢
    have HROW := Aside0.mk hrow
    have HG := Aside0.mk hg
    have HHE := Aside0.mk hH
    have HHL := Aside0.mk hHl
    obtain ⟨R, hR⟩ : ∃ R : Nat, c.replicas = (R : Int) := ⟨c.replicas.toNat, by omega⟩
    have hR16 : R ≤ 16 := by omega
    have HRE := Aside0.mk hR
    have h1 : w2.cell? ⟨ga, 1, none⟩ = some (.int .i64 (R : Nat)) := by rw [← hR]; exact HC2.out.c 1
    have hHn : 1 ≤ H.length ∧ H.length ≤ 64 := by rw [hHl]; exact ⟨hP1, hP2⟩
    obtain ⟨hn1, hn2⟩ := hHn
    clear h0 hde hhl hb6 hH hrow hg hR hP1 hP2 hHl
    go_wp2_with fail
    refine (within_any _ _ _ _).mono ?_
    rintro e w3 ⟨rfl, hd⟩
    have hbd := hd.below
    have HB3 := Aside0.mk (HB2.out.trans (hbd.mono HB2.out.size))
    have HR3 := Aside0.mk (HROW.out.below hbd (blk_lt HROW.out))
    have h1 := (World.cell?_of_block (hbd.block ga HC2.out.lt)).trans h1
    clear hd hbd HB2 HROW
    by_cases hp : part < 0 ∨ (cnt ns : Int) ≤ part
    · have HE : Aside0 (wk c ns part = (69, [])) := ⟨by unfold wk; rw [if_neg (by rw [HH0.out]; decide), if_pos hp]⟩
      rw [← HHL.out] at hp
      rw [wiB_part_no part H.length hp]
      clear hp
      go_wp2_with fail
      go_ret2
      exact post_err HE.out HB3.out
    · obtain ⟨q, rfl⟩ : ∃ q : Nat, part = (q : Int) := ⟨part.toNat, by omega⟩
      have hq : q < H.length := by rw [HHL.out]; omega
      have HWL : Aside0 (rnd (hm H) q H.length R = wkL c ns q) := ⟨by unfold wkL; rw [← HHE.out, HHL.out, HRE.out]; rfl⟩
      have HE : Aside0 (wk c ns (q : Int) = (0, (wkL c ns q).map fun n : Nat => (n : Int))) := ⟨by unfold wk; rw [if_neg (by rw [HH0.out]; decide), if_neg hp]; rfl⟩
      rw [wiB_part (q : Int) H.length (by omega)]
      clear hp
      go_wp2_with fail
      refine (round_any g H q R w3 HR3.out hn1 hn2 hq hR16).mono ?_
      rintro e w4 ⟨v, rfl, ho, hb4⟩
      have HB4 := Aside0.mk (HB3.out.trans (hb4.mono HB3.out.size))
      have HO4 := Aside0.mk ho
      clear ho hb4 h1
      go_wp2_with fail
      go_ret2
      have ho2 := own_weaken HO4.out HB3.out.size
      rw [HWL.out] at ho2
      exact post_ok HE.out HB4.out (List.length_map _).symm ho2
set_option maxRecDepth 100000 in
set_option maxHeartbeats 8000000 in
theorem owners_any (c : Cl) (A : Option Addr) (cap : Nat) (ns : List Nd) (part : Int) (w : World) (hN : NodesAt w A ns) (hcap : ns.length ≤ cap) (hs : c.store.size ≤ 2147483647) (hl : ns.length ≤ 1099511627776) (hc : cnt ns ≤ 1099511627776) :
    Calls Tryd.prog 20 #[.agg (cL c (.slice A ns.length cap)).toArray, .int .i64 part] w (ListPost (ow c ns part) w) := by
  have hb0 := (Below.refl w.heap.size w).alloc (Nat.le_refl _) (.cells (cL c (.slice A ns.length cap)).toArray 24)
  have HN := Aside0.mk (hN.below hb0)
  have HB := Aside0.mk hb0
  have HC : Aside0 (CBox (w.alloc (.cells (cL c (.slice A ns.length cap)).toArray 24)) w.heap.size c (.slice A ns.length cap)) := ⟨⟨Go.heap_alloc_new w _⟩⟩
  clear hN hb0
  go_enter Tryd.func20, Tryd.ntmps20
  go_upto_region 1 with fail
  generalize w.alloc (.cells (cL c (.slice A ns.length cap)).toArray 24) = w1 at HN HB HC ⊢
  obtain ⟨ga, hga⟩ : ∃ ga, ga = w.heap.size := ⟨_, rfl⟩
  rw [← hga] at HC ⊢
  have HGA := Aside0.mk hga
  clear hga
  have hrg := blk_range HC.out.row
  go_wp2_with ((with_reducible refine gate_load (ty := 24) (x := .tmp 2) rfl ?_); refine wpList_load_mid rfl 24 (.tmp 2) rfl ga 0 rfl (cL c (.slice A ns.length cap)) _ hrg Tryd.underlying24 rfl infoC23 ?_)
  clear hrg
  refine (checked_any c A cap ns w1 HN.out hcap hs hl hc).mono ?_
  rintro e w2 ⟨hb, hcase⟩
  have HB2 := Aside0.mk (HB.out.trans (hb.mono HB.out.size))
  have HC2 := Aside0.mk (HC.out.below hb HC.out.lt)
  clear hb HB HC
  rcases hcase with ⟨h0, rfl⟩ | ⟨g, h0, rfl, hg, hrow⟩
  · have HE : Aside0 (ow c ns part = ((chkC c ns).1, [])) := ⟨by unfold ow; rw [if_pos h0]⟩
    generalize (chkC c ns).1 = code at h0 HE ⊢
    have hne : (code != 0) = true := by simpa using h0
    go_wp2_with fail
    go_ret2
    exact post_err HE.out HB2.out
  · have HGOOD := Aside0.mk (chk_ok (nm := nmB c.store) h0)
    obtain ⟨hde, hhl, _⟩ := homes_some HGOOD.out.hom
    have hb6 := setAt_bounds HGOOD.out.set
    have hP1 := hde.1
    have hP2 := hde.2.1
    have HH0 := Aside0.mk h0
    obtain ⟨H, hH⟩ : ∃ H, H = (chkC c ns).2 := ⟨_, rfl⟩
    have hHl : H.length = cnt ns := by rw [hH]; exact hhl
    rw [← hH] at hrow ⊢
    have HROW := Aside0.mk hrow
    have HG := Aside0.mk hg
    have HHE := Aside0.mk hH
    have HHL := Aside0.mk hHl
    obtain ⟨R, hR⟩ : ∃ R : Nat, c.replicas = (R : Int) := ⟨c.replicas.toNat, by omega⟩
    have hR16 : R ≤ 16 := by omega
    have HRE := Aside0.mk hR
    have h1 : w2.cell? ⟨ga, 1, none⟩ = some (.int .i64 (R : Nat)) := by rw [← hR]; exact HC2.out.c 1
    have hHn : 1 ≤ H.length ∧ H.length ≤ 64 := by rw [hHl]; exact ⟨hP1, hP2⟩
    obtain ⟨hn1, hn2⟩ := hHn
    clear h0 hde hhl hb6 hH hrow hg hR hP1 hP2 hHl
    go_wp2_with fail
    refine (within_any _ _ _ _).mono ?_
    rintro e w3 ⟨rfl, hd⟩
    have hbd := hd.below
    have HB3 := Aside0.mk (HB2.out.trans (hbd.mono HB2.out.size))
    have HR3 := Aside0.mk (HROW.out.below hbd (blk_lt HROW.out))
    have h1 := (World.cell?_of_block (hbd.block ga HC2.out.lt)).trans h1
    clear hd hbd HB2 HROW
    by_cases hp : part < 0 ∨ (cnt ns : Int) ≤ part
    · have HE : Aside0 (ow c ns part = (69, [])) := ⟨by unfold ow; rw [if_neg (by rw [HH0.out]; decide), if_pos hp]⟩
      rw [← HHL.out] at hp
      rw [wiB_part_no part H.length hp]
      clear hp
      go_wp2_with fail
      go_ret2
      exact post_err HE.out HB3.out
    · obtain ⟨q, rfl⟩ : ∃ q : Nat, part = (q : Int) := ⟨part.toNat, by omega⟩
      have hq : q < H.length := by rw [HHL.out]; omega
      have HWL : Aside0 (rnd (hm H) q H.length R = wkL c ns q) := ⟨by unfold wkL; rw [← HHE.out, HHL.out, HRE.out]; rfl⟩
      have HE : Aside0 (ow c ns (q : Int) = (0, (wkL c ns q).map fun n : Nat => hm (chkC c ns).2 n)) := ⟨by unfold ow; rw [if_neg (by rw [HH0.out]; decide), if_neg hp]; rfl⟩
      rw [wiB_part (q : Int) H.length (by omega)]
      clear hp
      go_wp2_with fail
      refine (round_any g H q R w3 HR3.out hn1 hn2 hq hR16).mono ?_
      rintro e w4 ⟨v, rfl, ho, hb4⟩
      have HB4 := Aside0.mk (HB3.out.trans (hb4.mono HB3.out.size))
      have HR4 := Aside0.mk (HR3.out.below hb4 (blk_lt HR3.out))
      rw [HWL.out] at ho
      obtain ⟨L, hL⟩ : ∃ L, L = wkL c ns q := ⟨_, rfl⟩
      have HLT : Aside0 (∀ t ∈ L, t < H.length) := ⟨fun t ht => by rw [HHL.out]; exact wkL_lt c ns q (by have := HHL.out; omega) t (by rw [← hL]; exact ht)⟩
      have hL16 : L.length ≤ 16 := by rw [hL]; have := wkL_len c ns q; rw [HRE.out] at this; simp at this; omega
      rw [← hL] at ho HE
      obtain ⟨vA, vc, rfl, hvc⟩ := own_form ho
      have HO4 := Aside0.mk ho
      have HS4 := Aside0.mk (Nat.le_trans HB3.out.size hb4.size)
      clear ho hb4 h1 hL HR3 HWL
      have HN0 := Aside0.mk (World.ownsRow_nil w4 w.heap.size 3 1)
      go_wp2_with fail
      go_loopw [8, 10, 31] (fun v8 _ v31 wr => ∃ j : Nat, j ≤ L.length ∧ v31 = .int .i64 (j : Nat) ∧ Aside0 (Below w4.heap.size w4 wr) ∧ Aside0 (wr.ownsRow w4.heap.size 3 1 v8 j (nums .i64 ((L.take j).map fun n : Nat => hm H n)))) (fun _ _ v31 _ => L.length - (intOf v31).toNat)
      case atStart => exact ⟨0, Nat.zero_le _, rfl, ⟨Below.refl _ _⟩, ⟨World.ownsRow_nil _ _ _ _⟩⟩
      case round =>
        clear HN0
        obtain ⟨j, hj, rfl, HR, HO⟩ := hrel
        obtain ⟨wo, rfl⟩ : ∃ wo : World, wo = wr := ⟨_, rfl⟩
        by_cases hjl : j < L.length
        · obtain ⟨t, ht⟩ : ∃ t, L[j]? = some t := ⟨_, List.getElem?_eq_getElem hjl⟩
          obtain ⟨b, rfl⟩ : ∃ b, vA = some ⟨b, 0, none⟩ := by
            rcases HO4.out.2 with ⟨_, h0⟩ | ⟨b, cap', cs, e, _⟩
            · omega
            · injection e with e; exact ⟨b, e⟩
          have htl := HLT.out t (List.mem_of_getElem? ht)
          have hct : wo.cell? ⟨b, j, none⟩ = some (.int .i64 (t : Nat)) := by
            have h1 := (own_later2 HO4.out HR.out).cells (g := b) rfl j (.int .i64 (t : Nat)) (by simp [ints, nums, ht])
            have e2 : (⟨b, 0, none⟩ : Addr).add j = ⟨b, j, none⟩ := by unfold Addr.add; split <;> simp_all
            rwa [e2] at h1
          obtain ⟨y, hy⟩ : ∃ y, y = hm H t := ⟨_, rfl⟩
          have hcy : wo.cell? ⟨g, t, none⟩ = some (.int .i64 y) := by rw [hy]; exact (HR4.out.below HR.out (blk_lt HR4.out)).cell t htl
          have HTK : Aside0 (nums .i64 ((L.take (j + 1)).map fun n : Nat => hm H n) = nums .i64 ((L.take j).map fun n : Nat => hm H n) ++ [.int .i64 y]) := ⟨by
            rw [List.take_add_one, ht, hy]; simp [nums]⟩
          clear hy ht
          obtain ⟨oA, oc, rfl, hoc⟩ := own_form HO.out
          have hsz := HR.out.size
          go_wp2_with ((with_reducible refine gate_call (args := #[.tmp 35, .tmp 40]) rfl ?_); refine Hid.out ?_)
          refine Lib.hid ?_
          refine list_append_any (P := Tryd.prog) rfl w4.heap.size (.tmp 35) (.tmp 40) 36 3 _ 1 8 rfl Tryd.underlying36 infoI rfl (by decide) (by decide) (.slice oA j oc) j (nums .i64 ((L.take j).map fun n : Nat => hm H n)) (some ⟨wo.heap.size, 0, none⟩) 1 1 [.int .i64 y] ?hs ?hx rfl (by simp [Value.oneCell']) (.inr ⟨_, rfl, fun j u hj => by have := news wo [.int .i64 y] 3 j u hj; rwa [show (⟨wo.heap.size, 0, none⟩ : Addr).add j = ⟨wo.heap.size, j, none⟩ by unfold Addr.add; split <;> simp_all]⟩) (HO.out.alloc _) (by simp; omega) (by omega) (j + 1) rfl ?_
          case hs => rfl
          case hx => rfl
          intro A5 c5 w5 hle5 hown5 hg5
          have HO5 : Aside0 (w5.ownsRow w4.heap.size 3 1 (.slice A5 (j + 1) c5) (j + 1) (nums .i64 ((L.take (j + 1)).map fun n : Nat => hm H n))) := ⟨by rw [HTK.out]; exact hown5⟩
          have HR5 : Aside0 (Below w4.heap.size w4 w5) := ⟨(HR.out.alloc HR.out.size _).grown hg5 (by simp; omega) (own_base HO.out)⟩
          clear hown5 hg5
          go_wp2_with fail
          go_roundw
          case rel => exact ⟨j + 1, by omega, by go_num, HR5, HO5⟩
          case measure => simp [intOf]; omega
        · obtain rfl : j = L.length := by omega
          have HO6 : Aside0 (wo.ownsRow w.heap.size 3 1 u8 L.length (nums .i64 (L.map fun n : Nat => hm (chkC c ns).2 n))) := ⟨by
            have := own_weaken HO.out HS4.out
            rw [List.take_length, HHE.out] at this
            exact this⟩
          go_wp2_with fail
          go_ret2
          exact post_ok HE.out (HB4.out.trans (HR.out.mono HB4.out.size)) (by rw [List.length_map]) HO6.out
end Go.Proofs.YtljjpdjknnhceaaDoor.Walk

/- With fewer replicas the first of those with more: plain lists. -/
set_option linter.unusedVariables false
set_option linter.unusedSimpArgs false
namespace Go.Proofs.YtljjpdjknnhceaaDoor.FewPure
open Go.Proofs.YtljjpdjknnhceaaDoor.RingPure Go.Proofs.YtljjpdjknnhceaaDoor.ChkPure Go.Proofs.YtljjpdjknnhceaaDoor.Chkd Go.Proofs.YtljjpdjknnhceaaDoor.Name Go.Proofs.YtljjpdjknnhceaaDoor.MadePure Go.Proofs.YtljjpdjknnhceaaDoor.RoundPure Go.Proofs.YtljjpdjknnhceaaDoor.Walk
open Go.Proofs.YtljjpdjknnhceaaDoor.Round (hm)
theorem tk_take {f : Nat → Int} {part P R R' : Nat} (h : R' ≤ R) : ∀ i, tk f part P R' i = (tk f part P R i).take R'
  | 0 => by simp [tk]
  | i + 1 => by
    have ih := tk_take (f := f) (part := part) (P := P) h i
    rw [tk_succ, tk_succ, ih]
    by_cases hl : (tk f part P R i).length < R'
    · have e : (tk f part P R i).take R' = tk f part P R i := List.take_of_length_le (by omega)
      rw [e]
      by_cases hf : fresh f part P i = true
      · rw [if_pos ⟨hl, hf⟩, if_pos ⟨by omega, hf⟩, List.take_of_length_le (by rw [List.length_append, List.length_singleton]; omega)]
      · rw [if_neg (fun e => hf e.2), if_neg (fun e => hf e.2), e]
    · rw [if_neg (by rw [List.length_take]; omega)]
      by_cases hf : (tk f part P R i).length < R ∧ fresh f part P i = true
      · rw [if_pos hf, List.take_append_of_le_length (by omega)]
      · rw [if_neg hf]
theorem sub_len {α : Type} [BEq α] [LawfulBEq α] : ∀ (M L : List α), M.Nodup → (∀ x ∈ M, x ∈ L) → M.length ≤ L.length
  | [], L, _, _ => Nat.zero_le _
  | x :: M, L, hn, hm => by
    obtain ⟨h1, h2⟩ := List.nodup_cons.1 hn
    have hx := hm x (List.mem_cons_self ..)
    have ih := sub_len M (L.erase x) h2 (fun y hy => (List.mem_erase_of_ne (fun e => h1 (by rw [← e]; exact hy))).2 (hm y (List.mem_cons_of_mem _ hy)))
    rw [List.length_erase_of_mem hx] at ih
    have := List.length_pos_of_mem hx
    simp only [List.length_cons]
    omega
theorem nds_get (f z : Nat → Int) (p : Nat) : ∀ (k i : Nat), i < k → (nds f z p k)[i]? = some (z i, ps f (i : Nat) p)
  | k + 1, i, h => by
    show (nds f z p k ++ [(z k, ps f (k : Nat) p)])[i]? = _
    have hl := nds_length f z p k
    by_cases e : i < k
    · rw [List.getElem?_append_left (by omega)]; exact nds_get f z p k i e
    · obtain rfl : i = k := by omega
      rw [List.getElem?_append_right (by omega), hl]; simp
theorem home_of : ∀ (ns : List Nd) (k i : Nat) (n : Nd) (q : Int), ns[i]? = some n → q ∈ n.2 → (∀ j m, j < i → ns[j]? = some m → q ∉ m.2) → homeFrom k ns q = ((k + i : Nat) : Int)
  | [], k, i, n, q, h, _, _ => by simp at h
  | m :: ns, k, 0, n, q, h, hq, _ => by
    simp at h
    subst h
    unfold homeFrom
    rw [if_pos hq]; rfl
  | m :: ns, k, i + 1, n, q, h, hq, hno => by
    unfold homeFrom
    rw [if_neg (hno 0 m (by omega) rfl), home_of ns (k + 1) i n q (by simpa using h) hq (fun j m' hj hm' => hno (j + 1) m' (by omega) (by simpa using hm'))]
    congr 1
    omega
theorem ps_mem (f : Nat → Int) (i : Int) (p q : Nat) : (q : Int) ∈ ps f i p ↔ q < p ∧ f q = i := by
  rw [← List.count_pos_iff, ps_count]
  by_cases h : q < p ∧ f q = i
  · rw [if_pos h]; exact ⟨fun _ => h, fun _ => by omega⟩
  · rw [if_neg h]; exact ⟨fun e => absurd e (by omega), fun e => absurd e h⟩
theorem made_home {f z : Nat → Int} {n : Nat} (h : Fz f z n) (p q : Nat) (hq : q < p) : homeFrom 0 (nds f z p n) (q : Int) = f q := by
  have h1 := h.lo q
  have h2 := h.hi q
  have := home_of (nds f z p n) 0 (f q).toNat _ (q : Int) (nds_get f z p n _ (by omega)) ((ps_mem f _ p q).2 ⟨hq, by omega⟩) (fun j m hj hm he => by
    rw [nds_get f z p n j (by omega)] at hm
    simp only [Option.some.injEq] at hm
    subst hm
    have := ((ps_mem f _ p q).1 he).2
    omega)
  rw [this]
  omega
def fulls (f : Nat → Int) (p k : Nat) : List Int := ((List.range k).filter fun i => decide (0 < (ps f (i : Nat) p).length)).map fun i : Nat => (i : Int)
theorem fulls_len (f z : Nat → Int) (p : Nat) : ∀ k, full (nds f z p k) = (fulls f p k).length
  | 0 => rfl
  | k + 1 => by
    show full (nds f z p k ++ [(z k, ps f (k : Nat) p)]) = _
    rw [full_app, fulls_len f z p k]
    unfold fulls
    rw [List.range_succ, List.filter_append, List.map_append, List.length_append]
    congr 1
    unfold full
    by_cases h : 0 < (ps f (k : Nat) p).length
    · simp [h]
    · simp at h; simp [h]
theorem fulls_nodup (f : Nat → Int) (p k : Nat) : (fulls f p k).Nodup := by
  unfold fulls
  exact List.Pairwise.map _ (fun (a b : Nat) (h : a ≠ b) => show (a : Int) ≠ (b : Int) by omega) (List.Pairwise.filter _ List.nodup_range)
theorem pos_of {part P q : Nat} (hp : part < P) (hq : q < P) : ∃ j, j < P ∧ pos part P j = q := by
  by_cases h : part ≤ q
  · exact ⟨q - part, by omega, by unfold pos; rw [show part + (q - part) = q by omega]; exact Nat.mod_eq_of_lt hq⟩
  · refine ⟨q + P - part, by omega, ?_⟩
    unfold pos
    rw [show part + (q + P - part) = q + P by omega, Nat.add_mod_right]
    exact Nat.mod_eq_of_lt hq
theorem made_len {f z : Nat → Int} {n : Nat} (h : Fz f z n) {p part R : Nat} (hp : part < p) (hR : R ≤ full (nds f z p n)) : (rnd f part p R).length = R := by
  have h1 : (rnd f part p R).length ≤ R := tk_len_reps p
  refine Classical.byContradiction fun hne => ?_
  have hl : (tk f part p R p).length < R := by unfold rnd at h1 hne; omega
  have hsub : ∀ x ∈ fulls f p n, x ∈ (tk f part p R p).map f := fun x hx => by
    obtain ⟨i, hi, rfl⟩ := List.mem_map.1 hx
    have hi2 := (List.mem_filter.1 hi).2
    have hpos : 0 < (ps f (i : Nat) p).length := by simpa using hi2
    obtain ⟨y, hy⟩ := List.exists_mem_of_length_pos hpos
    obtain ⟨y0, y1⟩ := ps_lt f _ p y hy
    obtain ⟨q, rfl⟩ : ∃ q : Nat, y = (q : Int) := ⟨y.toNat, by omega⟩
    have hfq := ((ps_mem f _ p q).1 hy).2
    obtain ⟨j, hj, hjq⟩ := pos_of hp (show q < p by omega)
    refine List.mem_map.2 ?_
    by_cases hf : fresh f part p j = true
    · exact ⟨_, tk_all hl hj hf, by rw [hjq, hfq]⟩
    · rw [fresh_iff] at hf
      have : ∃ k, k < j ∧ f (pos part p k) = f (pos part p j) := Classical.byContradiction fun hn => hf fun k hk e => hn ⟨k, hk, e⟩
      obtain ⟨k, hk, hke⟩ := this
      obtain ⟨l, hl1, hl2, hl3⟩ := least k hk hke
      exact ⟨_, tk_all hl (by omega) hl3, by rw [hl2, hjq, hfq]⟩
  have := sub_len _ _ (fulls_nodup f p n) hsub
  rw [← fulls_len f z p n, List.length_map] at this
  omega
/-- the walk of a made definition -/
theorem made_wk {f z : Nat → Int} {n p : Nat} (h : Fz f z n) {c : Cl} (h0 : (chkC c (nds f z p n)).1 = 0) {q R : Nat} (hq : q < p) (hR : c.replicas = (R : Int)) : wk c (nds f z p n) (q : Int) = (0, (rnd f q p R).map fun t : Nat => (t : Int)) ∧ ow c (nds f z p n) (q : Int) = (0, (rnd f q p R).map f) := by
  have hg := chk_ok (nm := nmB c.store) h0
  have hc := made_cnt h p
  have hhm : ∀ i, i < p → hm (chkC c (nds f z p n)).2 i = f i := fun i hi => by
    have := ((homes_some hg.hom).2.2 i (by omega)).1
    rw [made_home h p i hi] at this
    exact this
  have hL : wkL c (nds f z p n) q = rnd f q p R := by
    unfold wkL
    rw [hc, hR]
    exact tk_congr (by omega) hhm _
  constructor
  · unfold wk
    rw [if_neg (by rw [h0]; decide), if_neg (by rw [hc]; omega), show ((q : Int)).toNat = q by omega, hL]
  · unfold ow
    rw [if_neg (by rw [h0]; decide), if_neg (by rw [hc]; omega), show ((q : Int)).toNat = q by omega, hL]
    congr 1
    refine List.map_congr_left fun t ht => hhm t ?_
    exact tk_lt (by omega) ht
end Go.Proofs.YtljjpdjknnhceaaDoor.FewPure
