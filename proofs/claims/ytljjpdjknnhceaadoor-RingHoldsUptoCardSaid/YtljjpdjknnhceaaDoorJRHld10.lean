/- Joined texts of this claim: Round, Walk, RefWalk, RefOwn, Twin -/
import Derived.Test.YtljjpdjknnhceaaDoorJRHld4
import Derived.Test.YtljjpdjknnhceaaDoorJRHld7
import Derived.Test.YtljjpdjknnhceaaDoorJRHld9
import Derived.Deep.QuietTactic
import Derived.BigQuiet
import Derived.Outline
import Derived.Test.YtljjpdjknnhceaaDoorJRHld5
set_option linter.unusedVariables false
set_option linter.unusedSimpArgs false
/- ring.round walked. -/
set_option linter.unusedVariables false
set_option linter.unusedSimpArgs false
namespace Go.Proofs.YtljjpdjknnhceaaDoor.Round
open Go.RowKit Go.Proofs.YtljjpdjknnhceaaDoorW.PrintWords Go.Proofs.YtljjpdjknnhceaaDoorW.PrintLast Go.Proofs.YtljjpdjknnhceaaDoorW.PrintMore
open Go.Proofs.YtljjpdjknnhceaaDoor.Base Go.Proofs.YtljjpdjknnhceaaDoor.App Go.Proofs.YtljjpdjknnhceaaDoor.RingPure Go.Proofs.YtljjpdjknnhceaaDoor.ChkPure Go.Proofs.YtljjpdjknnhceaaDoor.Clus Go.Proofs.YtljjpdjknnhceaaDoor.Homes Go.Proofs.YtljjpdjknnhceaaDoor.RoundPure Go.Proofs.YtljjpdjknnhceaaDoor.AppR
def hm (h : List Int) (i : Nat) : Int := h.getD i 0
def ints (l : List Nat) : List Value := nums .i64 (l.map fun n : Nat => (n : Int))
theorem own_later2 {w w' : World} {base : Nat} {e : TypeId} {size : Nat} {v : Value} {n : Nat} {xs : List Value} (h : w.ownsRow base e size v n xs) (hb : Below w.heap.size w w') : w'.ownsRow base e size v n xs :=
  h.kept (row := none) ⟨hb.os, hb.tape, hb.output, hb.size, fun k hk _ => hb.block k hk⟩ (by cases v.ownBlock <;> simp)
set_option maxRecDepth 100000 in
set_option maxHeartbeats 8000000 in
theorem round_any (g : Nat) (h : List Int) (part : Nat) (R : Nat) (w : World) (hr : RowI w g h) (hP : 0 < h.length) (hP2 : h.length ≤ 64) (hp : part < h.length) (hR : R ≤ 16) :
    Calls Tryd.prog 51 #[.slice (some ⟨g, 0, none⟩) h.length h.length, .int .i64 (part : Nat), .int .i64 (R : Nat)] w fun e w' => ∃ v, e = .returned v ∧ w'.ownsRow w.heap.size 3 1 v (rnd (hm h) part h.length R).length (ints (rnd (hm h) part h.length R)) ∧ Below w.heap.size w w' := by
  have HR := Aside0.mk hr
  clear hr
  go_enter Tryd.func51, Tryd.ntmps51
  go_wp2
  go_step3
  go_wp2
  go_step3
  go_wp2
  go_loopg [7, 8] h.length (fun kq v7 v8 wr => ∃ i : Nat, i ≤ h.length ∧ v8 = .int .i64 (i : Nat) ∧ Aside0 (kq = h.length - i) ∧ Aside0 (wr.ownsRow w.heap.size 3 1 v7 (tk (hm h) part h.length R i).length (ints (tk (hm h) part h.length R i))) ∧ Aside0 (Below w.heap.size w wr))
  case atStart => exact ⟨0, Nat.zero_le _, rfl, ⟨rfl⟩, ⟨World.ownsRow_nil _ _ _ _⟩, ⟨Below.refl _ _⟩⟩
  case round =>
    obtain ⟨i, hi, rfl, HK, HO, HB⟩ := hrel
    obtain ⟨wo, rfl⟩ : ∃ wo : World, wo = wr := ⟨_, rfl⟩
    obtain ⟨T, hT⟩ : ∃ T, T = tk (hm h) part h.length R i := ⟨_, rfl⟩
    have hTl := tk_len_reps (f := hm h) (part := part) (P := h.length) (reps := R) i
    have HT := Aside0.mk hT
    rw [← hT] at HO hTl
    clear hT
    obtain ⟨tA, tc, rfl, htc⟩ := own_form HO.out
    by_cases hlt : i < h.length
    · by_cases hrl : T.length < R
      · obtain ⟨p, hpe⟩ : ∃ p, p = pos part h.length i := ⟨_, rfl⟩
        have hpl : p < h.length := by rw [hpe]; exact pos_lt hP i
        have hq : ((part : Int) + (i : Int)) % (h.length : Int) = (p : Int) := by rw [hpe]; show _ = (((part + i) % h.length : Nat) : Int); rw [Int.natCast_emod, Int.natCast_add]
        have HR1 := Aside0.mk (HR.out.below HB.out (blk_lt HR.out))
        obtain ⟨x, hx⟩ : ∃ x, x = h.getD p 0 := ⟨_, rfl⟩
        have hcp : wo.cell? ⟨g, p, none⟩ = some (.int .i64 x) := by rw [hx]; exact HR1.out.cell p hpl
        have HSE : Aside0 ((∃ t ∈ T, hm h t = x) ↔ ¬ fresh (hm h) part h.length i = true) := ⟨by
          have := seen_iff (f := hm h) (part := part) (P := h.length) (reps := R) (i := i) (by rw [← HT.out]; exact hrl)
          rw [← HT.out, ← hpe] at this
          rw [hx]; exact this⟩
        have HNX : Aside0 (tk (hm h) part h.length R (i + 1) = if fresh (hm h) part h.length i = true then T ++ [p] else T) := ⟨by
          rw [tk_succ, ← HT.out, ← hpe]
          by_cases hf : fresh (hm h) part h.length i = true
          · rw [if_pos ⟨hrl, hf⟩, if_pos hf]
          · rw [if_neg (fun e => hf e.2), if_neg hf]⟩
        have HTL : Aside0 (∀ t ∈ T, t < h.length) := ⟨fun t ht => tk_lt hP (i := i) (by rw [← HT.out]; exact ht)⟩
        have hTb : T.length ≤ 16 := by omega
        have HCP := Aside0.mk hcp
        clear hpe hx hcp
        go_wp2_with fail
        go_loopg [11, 32] T.length (fun kq _ v32 wr => ∃ j : Nat, j ≤ T.length ∧ v32 = .int .i64 (j : Nat) ∧ Aside0 (kq = T.length - j) ∧ Aside0 (∃ q, wr = wo.drewN q) ∧ Aside0 (∀ t ∈ T.take j, hm h t ≠ x))
        case atStart => exact ⟨0, Nat.zero_le _, rfl, ⟨rfl⟩, ⟨⟨0, rfl⟩⟩, ⟨by simp⟩⟩
        case round =>
          obtain ⟨j, hj, rfl, HK2, HD, HN⟩ := hrel
          obtain ⟨⟨nd, rfl⟩⟩ := HD
          by_cases hjl : j < T.length
          · obtain ⟨t, ht⟩ : ∃ t, T[j]? = some t := ⟨_, List.getElem?_eq_getElem hjl⟩
            obtain ⟨b, rfl⟩ : ∃ b, tA = some ⟨b, 0, none⟩ := by
              rcases HO.out.2 with ⟨_, h0⟩ | ⟨b, cap', cs, e, _⟩
              · omega
              · injection e with e; exact ⟨b, e⟩
            have htl := HTL.out t (List.mem_of_getElem? ht)
            have hct : wo.cell? ⟨b, j, none⟩ = some (.int .i64 (t : Nat)) := by
              have h1 := HO.out.cells (g := b) rfl j (.int .i64 (t : Nat)) (by simp [ints, nums, ht])
              have e2 : (⟨b, 0, none⟩ : Addr).add j = ⟨b, j, none⟩ := by unfold Addr.add; split <;> simp_all
              rwa [e2] at h1
            obtain ⟨y, hy⟩ : ∃ y, y = h.getD t 0 := ⟨_, rfl⟩
            have hcy : wo.cell? ⟨g, t, none⟩ = some (.int .i64 y) := by rw [hy]; exact HR1.out.cell t htl
            have HY : Aside0 (hm h t = y) := ⟨hy.symm⟩
            have HTJ := Aside0.mk ht
            have hcp := HCP.out
            clear hy ht
            by_cases he : y = x
            · have hqq : (y == x) = true := by rw [he]; simp
              have HNF : Aside0 (tk (hm h) part h.length R (i + 1) = T) := ⟨by
                rw [HNX.out, if_neg (HSE.out.1 ⟨t, List.mem_of_getElem? HTJ.out, by rw [HY.out, he]⟩)]⟩
              have HO2 : Aside0 ((wo.drewN (nd + 0)).ownsRow w.heap.size 3 1 (.slice (some ⟨b, 0, none⟩) T.length tc) T.length (ints T)) := ⟨own_later2 HO.out (pw_below_drewN (Below.refl _ _) _)⟩
              clear he
              go_wp2_with fail
              go_quiet (fail)
              have HO3 : Aside0 ((wo.drewN (nd + nq)).ownsRow w.heap.size 3 1 (.slice (some ⟨b, 0, none⟩) T.length tc) (tk (hm h) part h.length R (i + 1)).length (ints (tk (hm h) part h.length R (i + 1)))) := ⟨by rw [HNF.out]; exact own_later2 HO.out (pw_below_drewN (Below.refl _ _) _)⟩
              have HB3 : Aside0 (Below w.heap.size w (wo.drewN (nd + nq))) := ⟨HB.out.trans ((pw_below_drewN (Below.refl _ _) _).mono HB.out.size)⟩
              go_wp2_with fail
              go_roundg (h.length - (i + 1))
              case measure => rw [HK.out]; omega
              case rel => exact ⟨i + 1, by omega, by go_num, ⟨rfl⟩, HO3, HB3⟩
            · have hqq : (y == x) = false := by simpa using he
              have HN2 : Aside0 (∀ u ∈ T.take (j + 1), hm h u ≠ x) := ⟨fun u hu => by
                rw [List.take_add_one, HTJ.out] at hu
                rcases List.mem_append.1 hu with hu | hu
                · exact HN.out u hu
                · simp at hu; rw [hu, HY.out]; exact he⟩
              clear he
              go_wp2_with fail
              go_quiet (fail)
              go_wp2_with fail
              go_roundg (T.length - (j + 1))
              case measure => rw [HK2.out]; omega
              case rel => exact ⟨j + 1, by omega, by go_num, ⟨rfl⟩, ⟨⟨_, rfl⟩⟩, HN2⟩
          · have hjj : j = T.length := by omega
            have HFR : Aside0 (tk (hm h) part h.length R (i + 1) = T ++ [p]) := ⟨by
              have hno : ¬ ∃ t ∈ T, hm h t = x := fun ⟨t, ht, he⟩ => HN.out t (by rw [hjj, List.take_length]; exact ht) he
              have : fresh (hm h) part h.length i = true := Classical.byContradiction fun hf => hno (HSE.out.2 hf)
              rw [HNX.out, if_pos this]⟩
            have HO4 : Aside0 ((wo.drewN nd).ownsRow w.heap.size 3 1 (.slice tA T.length tc) T.length (ints T)) := ⟨own_later2 HO.out (pw_below_drewN (Below.refl _ _) _)⟩
            have HB4 : Aside0 (Below w.heap.size w (wo.drewN nd)) := ⟨HB.out.trans ((pw_below_drewN (Below.refl _ _) _).mono HB.out.size)⟩
            clear hjj
            generalize wo.drewN nd = w4 at HO4 HB4 ⊢
            have hs4 := HB4.out.size
            go_wp2_with ((with_reducible refine gate_call (args := #[.tmp 46, .tmp 48]) rfl ?_); refine Hid.out ?_)
            refine Lib.hid ?_
            refine list_append_any (P := Tryd.prog) rfl w.heap.size (.tmp 46) (.tmp 48) 36 3 _ 1 8 rfl Tryd.underlying36 infoI rfl (by decide) (by decide) (.slice tA T.length tc) T.length (ints T) (some ⟨w4.heap.size, 0, none⟩) 1 1 [.int .i64 (p : Nat)] ?hs ?hx rfl (by simp [Value.oneCell']) (.inr ⟨_, rfl, fun j u hj => by have := news w4 [.int .i64 (p : Nat)] 3 j u hj; rwa [show (⟨w4.heap.size, 0, none⟩ : Addr).add j = ⟨w4.heap.size, j, none⟩ by unfold Addr.add; split <;> simp_all]⟩) (HO4.out.alloc _) (by simp; omega) (by omega) (T.length + 1) rfl ?_
            case hs => rfl
            case hx => rfl
            intro A5 c5 w5 hle5 hown5 hg5
            have HO5 : Aside0 (w5.ownsRow w.heap.size 3 1 (.slice A5 (T.length + 1) c5) (tk (hm h) part h.length R (i + 1)).length (ints (tk (hm h) part h.length R (i + 1)))) := ⟨by
              rw [HFR.out, List.length_append]
              have : ints (T ++ [p]) = ints T ++ [.int .i64 (p : Nat)] := by simp [ints, nums]
              rw [this]; exact hown5⟩
            have HB5 : Aside0 (Below w.heap.size w w5) := ⟨(HB4.out.alloc HB4.out.size _).grown hg5 (by simp; omega) (own_base HO4.out)⟩
            clear hown5 hg5 HO4 HB4
            go_wp2_with fail
            go_roundg (h.length - (i + 1))
            case measure => rw [HK.out]; omega
            case rel => exact ⟨i + 1, by omega, by go_num, ⟨rfl⟩, HO5, HB5⟩
      · have HE : Aside0 (rnd (hm h) part h.length R = T) := ⟨by rw [HT.out]; exact rnd_of (by omega) (.inr (by rw [← HT.out]; omega))⟩
        go_wp2_with fail
        try rw [Exit.noGoto_ret]
        go_ret
        exact ⟨_, rfl, by rw [HE.out]; exact HO.out, HB.out⟩
    · have HE : Aside0 (rnd (hm h) part h.length R = T) := ⟨by rw [HT.out]; exact rnd_of (by omega) (.inl (by omega))⟩
      go_wp2_with fail
      try rw [Exit.noGoto_ret]
      go_ret
      exact ⟨_, rfl, by rw [HE.out]; exact HO.out, HB.out⟩
end Go.Proofs.YtljjpdjknnhceaaDoor.Round

/- ring.Walk and ring.Owners walked. -/
set_option linter.unusedVariables false
set_option linter.unusedSimpArgs false
namespace Go.Proofs.YtljjpdjknnhceaaDoor.Walk
open Go.RowKit Go.Proofs.YtljjpdjknnhceaaDoorW.PrintWords Go.Proofs.YtljjpdjknnhceaaDoorW.PrintLast Go.Proofs.YtljjpdjknnhceaaDoorW.PrintMore
open Go.Proofs.YtljjpdjknnhceaaDoor.Base Go.Proofs.YtljjpdjknnhceaaDoor.App Go.Proofs.YtljjpdjknnhceaaDoor.RingPure Go.Proofs.YtljjpdjknnhceaaDoor.ChkPure Go.Proofs.YtljjpdjknnhceaaDoor.Clus Go.Proofs.YtljjpdjknnhceaaDoor.Mids Go.Proofs.YtljjpdjknnhceaaDoor.Chkd Go.Proofs.YtljjpdjknnhceaaDoor.Homes Go.Proofs.YtljjpdjknnhceaaDoor.RoundPure Go.Proofs.YtljjpdjknnhceaaDoor.AppR Go.Proofs.YtljjpdjknnhceaaDoor.Round Go.Proofs.YtljjpdjknnhceaaDoor.Sort Go.Proofs.YtljjpdjknnhceaaDoor.Name
/-- the walk of a partition -/
def wkL (c : Cl) (ns : List Nd) (part : Nat) : List Nat := rnd (hm (chkC c ns).2) part (cnt ns) c.replicas.toNat
def wk (c : Cl) (ns : List Nd) (part : Int) : Int × List Int := if (chkC c ns).1 ≠ 0 then ((chkC c ns).1, []) else if part < 0 ∨ (cnt ns : Int) ≤ part then (69, []) else (0, (wkL c ns part.toNat).map fun n : Nat => (n : Int))
def ow (c : Cl) (ns : List Nd) (part : Int) : Int × List Int := if (chkC c ns).1 ≠ 0 then ((chkC c ns).1, []) else if part < 0 ∨ (cnt ns : Int) ≤ part then (69, []) else (0, (wkL c ns part.toNat).map fun n : Nat => hm (chkC c ns).2 n)
def ListPost (r : Int × List Int) (w : World) (e : Ending) (w' : World) : Prop := Below w.heap.size w w' ∧ ∃ v, e = .returned (.tuple #[v, .int .i64 r.1]) ∧ w'.ownsRow w.heap.size 3 1 v r.2.length (nums .i64 r.2)
theorem post_err {r : Int × List Int} {w w' : World} {code : Int} (h : r = (code, [])) (hb : Below w.heap.size w w') : ListPost r w (.returned (.tuple #[.slice none 0 0, .int .i64 code])) w' := by
  subst h; exact ⟨hb, _, rfl, World.ownsRow_nil _ _ _ _⟩
theorem post_ok {r : Int × List Int} {w w' : World} {l : List Int} {v : Value} {n : Nat} (h : r = (0, l)) (hb : Below w.heap.size w w') (hn : n = l.length) (ho : w'.ownsRow w.heap.size 3 1 v n (nums .i64 l)) : ListPost r w (.returned (.tuple #[v, .int .i64 0])) w' := by
  subst h hn; exact ⟨hb, _, rfl, ho⟩
theorem wiB_part (part : Int) (n : Nat) (h : 0 ≤ part ∧ part < (n : Int)) : wiB part 0 ((n : Int) - 1) = true := by unfold wiB; rw [decide_eq_true h.1, decide_eq_true (by omega)]; rfl
theorem wiB_part_no (part : Int) (n : Nat) (h : part < 0 ∨ (n : Int) ≤ part) : wiB part 0 ((n : Int) - 1) = false := by
  unfold wiB
  by_cases h0 : 0 ≤ part
  · rw [decide_eq_true h0, decide_eq_false (by omega)]; rfl
  · rw [decide_eq_false h0]; rfl
theorem wkL_lt (c : Cl) (ns : List Nd) (part : Nat) (hP : 0 < cnt ns) : ∀ t ∈ wkL c ns part, t < cnt ns := fun t ht => tk_lt hP ht
theorem wkL_len (c : Cl) (ns : List Nd) (part : Nat) : (wkL c ns part).length ≤ c.replicas.toNat := tk_len_reps _
set_option maxRecDepth 100000 in
set_option maxHeartbeats 8000000 in
theorem walk_any (c : Cl) (A : Option Addr) (cap : Nat) (ns : List Nd) (part : Int) (w : World) (hN : NodesAt w A ns) (hcap : ns.length ≤ cap) (hs : c.store.size ≤ 2147483647) (hl : ns.length ≤ 1099511627776) (hc : cnt ns ≤ 1099511627776) :
    Calls Tryd.prog 17 #[.agg (cL c (.slice A ns.length cap)).toArray, .int .i64 part] w (ListPost (wk c ns part) w) := by
  have hb0 := (Below.refl w.heap.size w).alloc (Nat.le_refl _) (.cells (cL c (.slice A ns.length cap)).toArray 24)
  have HN := Aside0.mk (hN.below hb0)
  have HB := Aside0.mk hb0
  have HC : Aside0 (CBox (w.alloc (.cells (cL c (.slice A ns.length cap)).toArray 24)) w.heap.size c (.slice A ns.length cap)) := ⟨⟨Go.heap_alloc_new w _⟩⟩
  clear hN hb0
  go_enter Tryd.func17, Tryd.ntmps17
  go_upto_region 1 with fail
  generalize w.alloc (.cells (cL c (.slice A ns.length cap)).toArray 24) = w1 at HN HB HC ⊢
  obtain ⟨ga, hga⟩ : ∃ ga, ga = w.heap.size := ⟨_, rfl⟩
  rw [← hga] at HC ⊢
  have HGA := Aside0.mk hga
  clear hga
  have hrg := blk_range HC.out.row
  go_wp2_with ((with_reducible refine gate_load (ty := 24) (x := .tmp 2) rfl ?_); refine wpList_load_mid rfl 24 (.tmp 2) rfl ga 0 rfl (cL c (.slice A ns.length cap)) _ hrg Tryd.underlying24 rfl infoC23 ?_)
  clear hrg
  refine (checked_any c A cap ns w1 HN.out hcap hs hl hc).mono ?_
  rintro e w2 ⟨hb, hcase⟩
  have HB2 := Aside0.mk (HB.out.trans (hb.mono HB.out.size))
  have HC2 := Aside0.mk (HC.out.below hb HC.out.lt)
  clear hb HB HC
  rcases hcase with ⟨h0, rfl⟩ | ⟨g, h0, rfl, hg, hrow⟩
  · have HE : Aside0 (wk c ns part = ((chkC c ns).1, [])) := ⟨by unfold wk; rw [if_pos h0]⟩
    generalize (chkC c ns).1 = code at h0 HE ⊢
    have hne : (code != 0) = true := by simpa using h0
    go_wp2_with fail
    go_ret2
    exact post_err HE.out HB2.out
  · have HGOOD := Aside0.mk (chk_ok (nm := nmB c.store) h0)
    obtain ⟨hde, hhl, _⟩ := homes_some HGOOD.out.hom
    have hb6 := setAt_bounds HGOOD.out.set
    have hP1 := hde.1
    have hP2 := hde.2.1
    have HH0 := Aside0.mk h0
    obtain ⟨H, hH⟩ : ∃ H, H = (chkC c ns).2 := ⟨_, rfl⟩
    have hHl : H.length = cnt ns := by rw [hH]; exact hhl
    rw [← hH] at hrow ⊢
    have HROW := Aside0.mk hrow
    have HG := Aside0.mk hg
    have HHE := Aside0.mk hH
    have HHL := Aside0.mk hHl
    obtain ⟨R, hR⟩ : ∃ R : Nat, c.replicas = (R : Int) := ⟨c.replicas.toNat, by omega⟩
    have hR16 : R ≤ 16 := by omega
    have HRE := Aside0.mk hR
    have h1 : w2.cell? ⟨ga, 1, none⟩ = some (.int .i64 (R : Nat)) := by rw [← hR]; exact HC2.out.c 1
    have hHn : 1 ≤ H.length ∧ H.length ≤ 64 := by rw [hHl]; exact ⟨hP1, hP2⟩
    obtain ⟨hn1, hn2⟩ := hHn
    clear h0 hde hhl hb6 hH hrow hg hR hP1 hP2 hHl
    go_wp2_with fail
    refine (within_any _ _ _ _).mono ?_
    rintro e w3 ⟨rfl, hd⟩
    have hbd := hd.below
    have HB3 := Aside0.mk (HB2.out.trans (hbd.mono HB2.out.size))
    have HR3 := Aside0.mk (HROW.out.below hbd (blk_lt HROW.out))
    have h1 := (World.cell?_of_block (hbd.block ga HC2.out.lt)).trans h1
    clear hd hbd HB2 HROW
    by_cases hp : part < 0 ∨ (cnt ns : Int) ≤ part
    · have HE : Aside0 (wk c ns part = (69, [])) := ⟨by unfold wk; rw [if_neg (by rw [HH0.out]; decide), if_pos hp]⟩
      rw [← HHL.out] at hp
      rw [wiB_part_no part H.length hp]
      clear hp
      go_wp2_with fail
      go_ret2
      exact post_err HE.out HB3.out
    · obtain ⟨q, rfl⟩ : ∃ q : Nat, part = (q : Int) := ⟨part.toNat, by omega⟩
      have hq : q < H.length := by rw [HHL.out]; omega
      have HWL : Aside0 (rnd (hm H) q H.length R = wkL c ns q) := ⟨by unfold wkL; rw [← HHE.out, HHL.out, HRE.out]; rfl⟩
      have HE : Aside0 (wk c ns (q : Int) = (0, (wkL c ns q).map fun n : Nat => (n : Int))) := ⟨by unfold wk; rw [if_neg (by rw [HH0.out]; decide), if_neg hp]; rfl⟩
      rw [wiB_part (q : Int) H.length (by omega)]
      clear hp
      go_wp2_with fail
      refine (round_any g H q R w3 HR3.out hn1 hn2 hq hR16).mono ?_
      rintro e w4 ⟨v, rfl, ho, hb4⟩
      have HB4 := Aside0.mk (HB3.out.trans (hb4.mono HB3.out.size))
      have HO4 := Aside0.mk ho
      clear ho hb4 h1
      go_wp2_with fail
      go_ret2
      have ho2 := own_weaken HO4.out HB3.out.size
      rw [HWL.out] at ho2
      exact post_ok HE.out HB4.out (List.length_map _).symm ho2
set_option maxRecDepth 100000 in
set_option maxHeartbeats 8000000 in
theorem owners_any (c : Cl) (A : Option Addr) (cap : Nat) (ns : List Nd) (part : Int) (w : World) (hN : NodesAt w A ns) (hcap : ns.length ≤ cap) (hs : c.store.size ≤ 2147483647) (hl : ns.length ≤ 1099511627776) (hc : cnt ns ≤ 1099511627776) :
    Calls Tryd.prog 20 #[.agg (cL c (.slice A ns.length cap)).toArray, .int .i64 part] w (ListPost (ow c ns part) w) := by
  have hb0 := (Below.refl w.heap.size w).alloc (Nat.le_refl _) (.cells (cL c (.slice A ns.length cap)).toArray 24)
  have HN := Aside0.mk (hN.below hb0)
  have HB := Aside0.mk hb0
  have HC : Aside0 (CBox (w.alloc (.cells (cL c (.slice A ns.length cap)).toArray 24)) w.heap.size c (.slice A ns.length cap)) := ⟨⟨Go.heap_alloc_new w _⟩⟩
  clear hN hb0
  go_enter Tryd.func20, Tryd.ntmps20
  go_upto_region 1 with fail
  generalize w.alloc (.cells (cL c (.slice A ns.length cap)).toArray 24) = w1 at HN HB HC ⊢
  obtain ⟨ga, hga⟩ : ∃ ga, ga = w.heap.size := ⟨_, rfl⟩
  rw [← hga] at HC ⊢
  have HGA := Aside0.mk hga
  clear hga
  have hrg := blk_range HC.out.row
  go_wp2_with ((with_reducible refine gate_load (ty := 24) (x := .tmp 2) rfl ?_); refine wpList_load_mid rfl 24 (.tmp 2) rfl ga 0 rfl (cL c (.slice A ns.length cap)) _ hrg Tryd.underlying24 rfl infoC23 ?_)
  clear hrg
  refine (checked_any c A cap ns w1 HN.out hcap hs hl hc).mono ?_
  rintro e w2 ⟨hb, hcase⟩
  have HB2 := Aside0.mk (HB.out.trans (hb.mono HB.out.size))
  have HC2 := Aside0.mk (HC.out.below hb HC.out.lt)
  clear hb HB HC
  rcases hcase with ⟨h0, rfl⟩ | ⟨g, h0, rfl, hg, hrow⟩
  · have HE : Aside0 (ow c ns part = ((chkC c ns).1, [])) := ⟨by unfold ow; rw [if_pos h0]⟩
    generalize (chkC c ns).1 = code at h0 HE ⊢
    have hne : (code != 0) = true := by simpa using h0
    go_wp2_with fail
    go_ret2
    exact post_err HE.out HB2.out
  · have HGOOD := Aside0.mk (chk_ok (nm := nmB c.store) h0)
    obtain ⟨hde, hhl, _⟩ := homes_some HGOOD.out.hom
    have hb6 := setAt_bounds HGOOD.out.set
    have hP1 := hde.1
    have hP2 := hde.2.1
    have HH0 := Aside0.mk h0
    obtain ⟨H, hH⟩ : ∃ H, H = (chkC c ns).2 := ⟨_, rfl⟩
    have hHl : H.length = cnt ns := by rw [hH]; exact hhl
    rw [← hH] at hrow ⊢
    have HROW := Aside0.mk hrow
    have HG := Aside0.mk hg
    have HHE := Aside0.mk hH
    have HHL := Aside0.mk hHl
    obtain ⟨R, hR⟩ : ∃ R : Nat, c.replicas = (R : Int) := ⟨c.replicas.toNat, by omega⟩
    have hR16 : R ≤ 16 := by omega
    have HRE := Aside0.mk hR
    have h1 : w2.cell? ⟨ga, 1, none⟩ = some (.int .i64 (R : Nat)) := by rw [← hR]; exact HC2.out.c 1
    have hHn : 1 ≤ H.length ∧ H.length ≤ 64 := by rw [hHl]; exact ⟨hP1, hP2⟩
    obtain ⟨hn1, hn2⟩ := hHn
    clear h0 hde hhl hb6 hH hrow hg hR hP1 hP2 hHl
    go_wp2_with fail
    refine (within_any _ _ _ _).mono ?_
    rintro e w3 ⟨rfl, hd⟩
    have hbd := hd.below
    have HB3 := Aside0.mk (HB2.out.trans (hbd.mono HB2.out.size))
    have HR3 := Aside0.mk (HROW.out.below hbd (blk_lt HROW.out))
    have h1 := (World.cell?_of_block (hbd.block ga HC2.out.lt)).trans h1
    clear hd hbd HB2 HROW
    by_cases hp : part < 0 ∨ (cnt ns : Int) ≤ part
    · have HE : Aside0 (ow c ns part = (69, [])) := ⟨by unfold ow; rw [if_neg (by rw [HH0.out]; decide), if_pos hp]⟩
      rw [← HHL.out] at hp
      rw [wiB_part_no part H.length hp]
      clear hp
      go_wp2_with fail
      go_ret2
      exact post_err HE.out HB3.out
    · obtain ⟨q, rfl⟩ : ∃ q : Nat, part = (q : Int) := ⟨part.toNat, by omega⟩
      have hq : q < H.length := by rw [HHL.out]; omega
      have HWL : Aside0 (rnd (hm H) q H.length R = wkL c ns q) := ⟨by unfold wkL; rw [← HHE.out, HHL.out, HRE.out]; rfl⟩
      have HE : Aside0 (ow c ns (q : Int) = (0, (wkL c ns q).map fun n : Nat => hm (chkC c ns).2 n)) := ⟨by unfold ow; rw [if_neg (by rw [HH0.out]; decide), if_neg hp]; rfl⟩
      rw [wiB_part (q : Int) H.length (by omega)]
      clear hp
      go_wp2_with fail
      refine (round_any g H q R w3 HR3.out hn1 hn2 hq hR16).mono ?_
      rintro e w4 ⟨v, rfl, ho, hb4⟩
      have HB4 := Aside0.mk (HB3.out.trans (hb4.mono HB3.out.size))
      have HR4 := Aside0.mk (HR3.out.below hb4 (blk_lt HR3.out))
      rw [HWL.out] at ho
      obtain ⟨L, hL⟩ : ∃ L, L = wkL c ns q := ⟨_, rfl⟩
      have HLT : Aside0 (∀ t ∈ L, t < H.length) := ⟨fun t ht => by rw [HHL.out]; exact wkL_lt c ns q (by have := HHL.out; omega) t (by rw [← hL]; exact ht)⟩
      have hL16 : L.length ≤ 16 := by rw [hL]; have := wkL_len c ns q; rw [HRE.out] at this; simp at this; omega
      rw [← hL] at ho HE
      obtain ⟨vA, vc, rfl, hvc⟩ := own_form ho
      have HO4 := Aside0.mk ho
      have HS4 := Aside0.mk (Nat.le_trans HB3.out.size hb4.size)
      clear ho hb4 h1 hL HR3 HWL
      have HN0 := Aside0.mk (World.ownsRow_nil w4 w.heap.size 3 1)
      go_wp2_with fail
      go_loopw [8, 10, 31] (fun v8 _ v31 wr => ∃ j : Nat, j ≤ L.length ∧ v31 = .int .i64 (j : Nat) ∧ Aside0 (Below w4.heap.size w4 wr) ∧ Aside0 (wr.ownsRow w4.heap.size 3 1 v8 j (nums .i64 ((L.take j).map fun n : Nat => hm H n)))) (fun _ _ v31 _ => L.length - (intOf v31).toNat)
      case atStart => exact ⟨0, Nat.zero_le _, rfl, ⟨Below.refl _ _⟩, ⟨World.ownsRow_nil _ _ _ _⟩⟩
      case round =>
        clear HN0
        obtain ⟨j, hj, rfl, HR, HO⟩ := hrel
        obtain ⟨wo, rfl⟩ : ∃ wo : World, wo = wr := ⟨_, rfl⟩
        by_cases hjl : j < L.length
        · obtain ⟨t, ht⟩ : ∃ t, L[j]? = some t := ⟨_, List.getElem?_eq_getElem hjl⟩
          obtain ⟨b, rfl⟩ : ∃ b, vA = some ⟨b, 0, none⟩ := by
            rcases HO4.out.2 with ⟨_, h0⟩ | ⟨b, cap', cs, e, _⟩
            · omega
            · injection e with e; exact ⟨b, e⟩
          have htl := HLT.out t (List.mem_of_getElem? ht)
          have hct : wo.cell? ⟨b, j, none⟩ = some (.int .i64 (t : Nat)) := by
            have h1 := (own_later2 HO4.out HR.out).cells (g := b) rfl j (.int .i64 (t : Nat)) (by simp [ints, nums, ht])
            have e2 : (⟨b, 0, none⟩ : Addr).add j = ⟨b, j, none⟩ := by unfold Addr.add; split <;> simp_all
            rwa [e2] at h1
          obtain ⟨y, hy⟩ : ∃ y, y = hm H t := ⟨_, rfl⟩
          have hcy : wo.cell? ⟨g, t, none⟩ = some (.int .i64 y) := by rw [hy]; exact (HR4.out.below HR.out (blk_lt HR4.out)).cell t htl
          have HTK : Aside0 (nums .i64 ((L.take (j + 1)).map fun n : Nat => hm H n) = nums .i64 ((L.take j).map fun n : Nat => hm H n) ++ [.int .i64 y]) := ⟨by
            rw [List.take_add_one, ht, hy]; simp [nums]⟩
          clear hy ht
          obtain ⟨oA, oc, rfl, hoc⟩ := own_form HO.out
          have hsz := HR.out.size
          go_wp2_with ((with_reducible refine gate_call (args := #[.tmp 35, .tmp 40]) rfl ?_); refine Hid.out ?_)
          refine Lib.hid ?_
          refine list_append_any (P := Tryd.prog) rfl w4.heap.size (.tmp 35) (.tmp 40) 36 3 _ 1 8 rfl Tryd.underlying36 infoI rfl (by decide) (by decide) (.slice oA j oc) j (nums .i64 ((L.take j).map fun n : Nat => hm H n)) (some ⟨wo.heap.size, 0, none⟩) 1 1 [.int .i64 y] ?hs ?hx rfl (by simp [Value.oneCell']) (.inr ⟨_, rfl, fun j u hj => by have := news wo [.int .i64 y] 3 j u hj; rwa [show (⟨wo.heap.size, 0, none⟩ : Addr).add j = ⟨wo.heap.size, j, none⟩ by unfold Addr.add; split <;> simp_all]⟩) (HO.out.alloc _) (by simp; omega) (by omega) (j + 1) rfl ?_
          case hs => rfl
          case hx => rfl
          intro A5 c5 w5 hle5 hown5 hg5
          have HO5 : Aside0 (w5.ownsRow w4.heap.size 3 1 (.slice A5 (j + 1) c5) (j + 1) (nums .i64 ((L.take (j + 1)).map fun n : Nat => hm H n))) := ⟨by rw [HTK.out]; exact hown5⟩
          have HR5 : Aside0 (Below w4.heap.size w4 w5) := ⟨(HR.out.alloc HR.out.size _).grown hg5 (by simp; omega) (own_base HO.out)⟩
          clear hown5 hg5
          go_wp2_with fail
          go_roundw
          case rel => exact ⟨j + 1, by omega, by go_num, HR5, HO5⟩
          case measure => simp [intOf]; omega
        · obtain rfl : j = L.length := by omega
          have HO6 : Aside0 (wo.ownsRow w.heap.size 3 1 u8 L.length (nums .i64 (L.map fun n : Nat => hm (chkC c ns).2 n))) := ⟨by
            have := own_weaken HO.out HS4.out
            rw [List.take_length, HHE.out] at this
            exact this⟩
          go_wp2_with fail
          go_ret2
          exact post_ok HE.out (HB4.out.trans (HR.out.mono HB4.out.size)) (by rw [List.length_map]) HO6.out
end Go.Proofs.YtljjpdjknnhceaaDoor.Walk

/- The document's walk, Walk and Owners. -/
set_option linter.unusedVariables false
set_option linter.unusedSimpArgs false
namespace Go.Proofs.YtljjpdjknnhceaaDoor.RefWalk
open Go.RowKit Go.Proofs.YtljjpdjknnhceaaDoorW.PrintWords Go.Proofs.YtljjpdjknnhceaaDoorW.PrintLast Go.Proofs.YtljjpdjknnhceaaDoorW.PrintMore
open Go.Proofs.YtljjpdjknnhceaaDoor.Base Go.Proofs.YtljjpdjknnhceaaDoor.App Go.Proofs.YtljjpdjknnhceaaDoor.RingPure Go.Proofs.YtljjpdjknnhceaaDoor.ChkPure Go.Proofs.YtljjpdjknnhceaaDoor.Clus Go.Proofs.YtljjpdjknnhceaaDoor.Mids Go.Proofs.YtljjpdjknnhceaaDoor.Chkd Go.Proofs.YtljjpdjknnhceaaDoor.RoundPure Go.Proofs.YtljjpdjknnhceaaDoor.AppR Go.Proofs.YtljjpdjknnhceaaDoor.Ref6 Go.Proofs.YtljjpdjknnhceaaDoor.Name Go.Proofs.YtljjpdjknnhceaaDoor.RefCheck Go.Proofs.YtljjpdjknnhceaaDoor.Walk
open Go.Proofs.YtljjpdjknnhceaaDoor.Round (ints own_later2)
open Go.Proofs.YtljjpdjknnhceaaDoor.Count (parts_any homeR_any)
/-- the home as the document seeks it -/
def hf (ns : List Nd) : Nat → Int := fun q => homeFrom 0 ns (q : Int)
def ahead (ns : List Nd) (part i j : Nat) : Bool := (List.range j).all fun t => hf ns (pos part (cnt ns) t) != hf ns (pos part (cnt ns) i)
theorem ahead_succ (ns : List Nd) (part i j : Nat) : ahead ns part i (j + 1) = (ahead ns part i j && (hf ns (pos part (cnt ns) j) != hf ns (pos part (cnt ns) i))) := by
  unfold ahead; rw [List.range_succ, List.all_append]; simp
theorem ahead_fresh (ns : List Nd) (part i : Nat) : ahead ns part i i = fresh (hf ns) part (cnt ns) i := rfl
set_option maxRecDepth 100000 in
set_option maxHeartbeats 8000000 in
theorem walkR_any (c : Cl) (A : Option Addr) (cap : Nat) (ns : List Nd) (part R : Nat) (w : World) (hN : NodesAt w A ns) (hcap : ns.length ≤ cap) (hl : ns.length ≤ 1099511627776) (hc : cnt ns ≤ 1099511627776)
    (hP : 0 < cnt ns) (hP2 : cnt ns ≤ 64) (hp : part < cnt ns) (hR : c.replicas = (R : Int)) (hR2 : R ≤ 16) :
    Calls Tryd.prog 52 #[.agg (cL c (.slice A ns.length cap)).toArray, .int .i64 (part : Nat)] w fun e w' => ∃ v, e = .returned v ∧ w'.ownsRow w.heap.size 3 1 v (rnd (hf ns) part (cnt ns) R).length (ints (rnd (hf ns) part (cnt ns) R)) ∧ Below w.heap.size w w' := by
  have hb0 := (Below.refl w.heap.size w).alloc (Nat.le_refl _) (.cells (cL c (.slice A ns.length cap)).toArray 24)
  have HN := Aside0.mk (hN.below hb0)
  have HB := Aside0.mk hb0
  have HC : Aside0 (CBox (w.alloc (.cells (cL c (.slice A ns.length cap)).toArray 24)) w.heap.size c (.slice A ns.length cap)) := ⟨⟨Go.heap_alloc_new w _⟩⟩
  clear hN hb0
  go_enter Tryd.func52, Tryd.ntmps52
  go_upto_region 2 with fail
  generalize w.alloc (.cells (cL c (.slice A ns.length cap)).toArray 24) = w1 at HN HB HC ⊢
  obtain ⟨gc, hgc⟩ : ∃ gc, gc = w.heap.size := ⟨_, rfl⟩
  rw [← hgc] at HC ⊢
  have HGC := Aside0.mk hgc
  clear hgc
  have hrg := blk_range HC.out.row
  go_wp2_with ((with_reducible refine gate_load (ty := 24) (x := .tmp 2) rfl ?_); refine wpList_load_mid rfl 24 (.tmp 2) rfl gc 0 rfl (cL c (.slice A ns.length cap)) _ hrg Tryd.underlying24 rfl infoC23 ?_)
  clear hrg
  refine (parts_any c A cap ns w1 HN.out hcap hl hc).mono ?_
  rintro e w2 ⟨rfl, hb⟩
  have HR2 := Aside0.mk hb
  have HRE := Aside0.mk hR
  clear hb hR
  obtain ⟨P, hPP⟩ : ∃ P, P = cnt ns := ⟨_, rfl⟩
  rw [← hPP] at hP hP2 hp ⊢
  have HPP := Aside0.mk hPP
  clear hPP
  have HO2 : Aside0 (w2.ownsRow w1.heap.size 3 1 (.slice none 0 0) (tk (hf ns) part P R 0).length (ints (tk (hf ns) part P R 0))) := ⟨World.ownsRow_nil _ _ _ _⟩
  go_wp2_with fail
  go_loopw [5, 7, 8, 9] (fun v5 v7 _ _ wr => ∃ i : Nat, i ≤ P ∧ v7 = .int .i64 (i : Nat) ∧ Aside0 (wr.ownsRow w1.heap.size 3 1 v5 (tk (hf ns) part P R i).length (ints (tk (hf ns) part P R i))) ∧ Aside0 (Below w1.heap.size w1 wr)) (fun _ v7 _ _ _ => P - (intOf v7).toNat)
  case atStart => exact ⟨0, Nat.zero_le _, rfl, HO2, HR2⟩
  case round =>
    clear HO2 HR2
    obtain ⟨i, hi, rfl, HO, HR⟩ := hrel
    obtain ⟨wo, rfl⟩ : ∃ wo : World, wo = wr := ⟨_, rfl⟩
    obtain ⟨T, hT⟩ : ∃ T, T = tk (hf ns) part P R i := ⟨_, rfl⟩
    have hTl := tk_len_reps (f := hf ns) (part := part) (P := P) (reps := R) i
    have HT := Aside0.mk hT
    rw [← hT] at HO hTl
    clear hT
    obtain ⟨tA, tc, rfl, htc⟩ := own_form HO.out
    have HC1 := Aside0.mk (HC.out.below HR.out HC.out.lt)
    have h1 : wo.cell? ⟨gc, 1, none⟩ = some (.int .i64 (R : Nat)) := by rw [← HRE.out]; exact HC1.out.c 1
    by_cases hlt : i < P
    · by_cases hrl : T.length < R
      · obtain ⟨p, hpe⟩ : ∃ p, p = pos part P i := ⟨_, rfl⟩
        have hpl : p < P := by rw [hpe]; exact pos_lt hP i
        have hq : ((part : Int) + (i : Int)) % (P : Int) = (p : Int) := by rw [hpe]; show _ = (((part + i) % P : Nat) : Int); rw [Int.natCast_emod, Int.natCast_add]
        have HQ := Aside0.mk hq
        obtain ⟨y, hy⟩ : ∃ y, y = hf ns p := ⟨_, rfl⟩
        have HY := Aside0.mk hy
        have HPE := Aside0.mk hpe
        have HNX : Aside0 (tk (hf ns) part P R (i + 1) = if ahead ns part i i = true then T ++ [p] else T) := ⟨by
          rw [tk_succ, ← HT.out, ← hpe, ahead_fresh, ← HPP.out]
          by_cases hf' : fresh (hf ns) part P i = true
          · rw [if_pos ⟨hrl, hf'⟩, if_pos hf']
          · rw [if_neg (fun e => hf' e.2), if_neg hf']⟩
        have hTb : T.length ≤ 16 := by omega
        clear hpe hy hq
        go_wp2_with fail
        go_loopw [8, 9] (fun v8 v9 wr => ∃ (j : Nat) (b : Bool), j ≤ i ∧ v9 = .int .i64 (j : Nat) ∧ v8 = .bool b ∧ Aside0 (b = ahead ns part i j) ∧ Aside0 (Below wo.heap.size wo wr)) (fun _ v9 _ => i - (intOf v9).toNat)
        case atStart => exact ⟨0, true, Nat.zero_le _, rfl, rfl, ⟨rfl⟩, ⟨Below.refl _ _⟩⟩
        case round =>
          obtain ⟨j, b, hj, rfl, rfl, HA, HI⟩ := hrel
          obtain ⟨wq, rfl⟩ : ∃ wq : World, wq = wr := ⟨_, rfl⟩
          by_cases hjl : j < i
          · obtain ⟨p2, hpe⟩ : ∃ p2, p2 = pos part P j := ⟨_, rfl⟩
            have hpl2 : p2 < P := by rw [hpe]; exact pos_lt hP j
            have hq2 : ((part : Int) + (j : Int)) % (P : Int) = (p2 : Int) := by rw [hpe]; show _ = (((part + j) % P : Nat) : Int); rw [Int.natCast_emod, Int.natCast_add]
            have HQ2 := Aside0.mk hq2
            obtain ⟨x, hx⟩ : ∃ x, x = hf ns p2 := ⟨_, rfl⟩
            have HX := Aside0.mk hx
            have HAS : Aside0 (ahead ns part i (j + 1) = (b && (x != y))) := ⟨by rw [ahead_succ, ← HA.out, ← HPP.out, ← hpe, ← HPE.out, ← hx, ← HY.out]⟩
            clear hpe hx hq2 h1
            go_upto_region 10 with fail
            refine Reg.wp_region_rel _ (by kernel_rfl) _ _ _ rfl (by kernel_rfl) (fun w' => Below wo.heap.size wo w') (fun _ w w' => Below w.heap.size w w') (fun jq vs w' => match jq with
              | 0 => vs 0 = .agg (cL c (.slice A ns.length cap)).toArray
              | 1 => vs 1 = .int .i64 (part : Nat)
              | 2 => vs 2 = .int .i64 (j : Nat)
              | 3 => vs 3 = .int .i64 ((part : Int) + (j : Int))
              | 4 => vs 4 = .int .i64 (P : Nat)
              | 5 => vs 5 = .int .i64 (p2 : Nat)
              | 6 => vs 6 = .int .i64 x
              | 7 => vs 7 = .agg (cL c (.slice A ns.length cap)).toArray
              | 8 => vs 8 = .int .i64 (part : Nat)
              | 9 => vs 9 = .int .i64 (i : Nat)
              | 10 => vs 10 = .int .i64 ((part : Int) + (i : Int))
              | 11 => vs 11 = .int .i64 (P : Nat)
              | 12 => vs 12 = .int .i64 (p : Nat)
              | 13 => vs 13 = .int .i64 y
              | 14 => vs 14 = .bool (x == y)
              | _ => True) (below_drew HI.out) ?_ ?_ ?_ ?_
            · intro i j vs w0 w' hij hI hR hb
              rcases j with _ | j
              · exact hR
              rcases j with _ | j
              · exact hR
              rcases j with _ | j
              · exact hR
              rcases j with _ | j
              · exact hR
              rcases j with _ | j
              · exact hR
              rcases j with _ | j
              · exact hR
              rcases j with _ | j
              · exact hR
              rcases j with _ | j
              · exact hR
              rcases j with _ | j
              · exact hR
              rcases j with _ | j
              · exact hR
              rcases j with _ | j
              · exact hR
              rcases j with _ | j
              · exact hR
              rcases j with _ | j
              · exact hR
              rcases j with _ | j
              · exact hR
              rcases j with _ | j
              · exact hR
              exact trivial
            · intro j o vs vs1 w0 ho he hp hR
              rcases j with _ | j
              · exact he.trans hR
              rcases j with _ | j
              · exact he.trans hR
              rcases j with _ | j
              · exact he.trans hR
              rcases j with _ | j
              · exact he.trans hR
              rcases j with _ | j
              · exact he.trans hR
              rcases j with _ | j
              · exact he.trans hR
              rcases j with _ | j
              · exact he.trans hR
              rcases j with _ | j
              · exact he.trans hR
              rcases j with _ | j
              · exact he.trans hR
              rcases j with _ | j
              · exact he.trans hR
              rcases j with _ | j
              · exact he.trans hR
              rcases j with _ | j
              · exact he.trans hR
              rcases j with _ | j
              · exact he.trans hR
              rcases j with _ | j
              · exact he.trans hR
              rcases j with _ | j
              · exact he.trans hR
              exact trivial
            · skip
              refine Reg.allOps_cons ?_ ?_
              · intro vs w0 ρ hρ hcst hglb hfun hI hp
                have e2 : ρ (.tmp 2) = .pointer (some ⟨gc, 0, none⟩) := hρ (.tmp 2)
                clear hρ hp
                refine Reg.rel_value (.agg (cL c (.slice A ns.length cap)).toArray) (exec_load_mid 24 (.tmp 2) rfl gc 0 e2 _ _ (blk_range (HC1.out.below hI HC1.out.lt).row) Tryd.underlying24 rfl infoC23) ⟨hI, rfl⟩
              refine Reg.allOps_cons ?_ ?_
              · intro vs w0 ρ hρ hcst hglb hfun hI hp
                have e1 : ρ (.tmp 1) = .int .i64 (part : Nat) := hρ (.tmp 1)
                clear hρ hp
                refine Reg.rel_value (.int .i64 (part : Nat)) ?_ ⟨hI, rfl⟩
                go_simp
              refine Reg.allOps_cons ?_ ?_
              · intro vs w0 ρ hρ hcst hglb hfun hI hp
                have e9 : ρ (.tmp 9) = .int .i64 (j : Nat) := hρ (.tmp 9)
                clear hρ hp
                refine Reg.rel_value (.int .i64 (j : Nat)) ?_ ⟨hI, rfl⟩
                go_simp
              refine Reg.allOps_cons ?_ ?_
              · intro vs w0 ρ hρ hcst hglb hfun hI hp
                have e30 : ρ (.tmp 30) = .int .i64 (part : Nat) := (hρ (.tmp 30)).trans (show vs 1 = .int .i64 (part : Nat) from hp 1 rfl)
                have e31 : ρ (.tmp 31) = .int .i64 (j : Nat) := (hρ (.tmp 31)).trans (show vs 2 = .int .i64 (j : Nat) from hp 2 rfl)
                clear hρ hp
                refine Reg.rel_value (.int .i64 ((part : Int) + (j : Int))) ?_ ⟨hI, rfl⟩
                go_simp
                exact IntWalk.i64_in _ (by omega)
              refine Reg.allOps_cons ?_ ?_
              · intro vs w0 ρ hρ hcst hglb hfun hI hp
                have e6 : ρ (.tmp 6) = .int .i64 (P : Nat) := hρ (.tmp 6)
                clear hρ hp
                refine Reg.rel_value (.int .i64 (P : Nat)) ?_ ⟨hI, rfl⟩
                go_simp
              refine Reg.allOps_cons ?_ ?_
              · intro vs w0 ρ hρ hcst hglb hfun hI hp
                have e32 : ρ (.tmp 32) = .int .i64 ((part : Int) + (j : Int)) := (hρ (.tmp 32)).trans (show vs 3 = .int .i64 ((part : Int) + (j : Int)) from hp 3 rfl)
                have e33 : ρ (.tmp 33) = .int .i64 (P : Nat) := (hρ (.tmp 33)).trans (show vs 4 = .int .i64 (P : Nat) from hp 4 rfl)
                clear hρ hp
                have hq := HQ2.out
                refine Reg.rel_value (.int .i64 (p2 : Nat)) ?_ ⟨hI, rfl⟩
                go_simp
                rw [if_neg (by omega), Int.tmod_eq_emod_of_nonneg (by omega), hq]
              refine Reg.allOps_cons ?_ ?_
              · intro vs w0 ρ hρ hcst hglb hfun hI hp
                have e29 : ρ (.tmp 29) = .agg (cL c (.slice A ns.length cap)).toArray := (hρ (.tmp 29)).trans (show vs 0 = .agg (cL c (.slice A ns.length cap)).toArray from hp 0 rfl)
                have e34 : ρ (.tmp 34) = .int .i64 (p2 : Nat) := (hρ (.tmp 34)).trans (show vs 5 = .int .i64 (p2 : Nat) from hp 5 rfl)
                clear hρ hp
                refine Reg.rel_call Tryd.func53 (by kernel_rfl) rfl #[.agg (cL c (.slice A ns.length cap)).toArray, .int .i64 (p2 : Nat)] rfl (hfun _) (by simp [e29, e34]) ?_
                refine (homeR_any c A cap ns (p2 : Nat) w0 ((HN.out.below HR.out).below hI) hcap hl hc).mono ?_
                rintro e w3 ⟨rfl, hb⟩
                exact ⟨_, rfl, hb, hI.trans (hb.mono hI.size), by rw [HX.out]; rfl⟩
              refine Reg.allOps_cons ?_ ?_
              · intro vs w0 ρ hρ hcst hglb hfun hI hp
                have e2 : ρ (.tmp 2) = .pointer (some ⟨gc, 0, none⟩) := hρ (.tmp 2)
                clear hρ hp
                refine Reg.rel_value (.agg (cL c (.slice A ns.length cap)).toArray) (exec_load_mid 24 (.tmp 2) rfl gc 0 e2 _ _ (blk_range (HC1.out.below hI HC1.out.lt).row) Tryd.underlying24 rfl infoC23) ⟨hI, rfl⟩
              refine Reg.allOps_cons ?_ ?_
              · intro vs w0 ρ hρ hcst hglb hfun hI hp
                have e1 : ρ (.tmp 1) = .int .i64 (part : Nat) := hρ (.tmp 1)
                clear hρ hp
                refine Reg.rel_value (.int .i64 (part : Nat)) ?_ ⟨hI, rfl⟩
                go_simp
              refine Reg.allOps_cons ?_ ?_
              · intro vs w0 ρ hρ hcst hglb hfun hI hp
                have e7 : ρ (.tmp 7) = .int .i64 (i : Nat) := hρ (.tmp 7)
                clear hρ hp
                refine Reg.rel_value (.int .i64 (i : Nat)) ?_ ⟨hI, rfl⟩
                go_simp
              refine Reg.allOps_cons ?_ ?_
              · intro vs w0 ρ hρ hcst hglb hfun hI hp
                have e37 : ρ (.tmp 37) = .int .i64 (part : Nat) := (hρ (.tmp 37)).trans (show vs 8 = .int .i64 (part : Nat) from hp 8 rfl)
                have e38 : ρ (.tmp 38) = .int .i64 (i : Nat) := (hρ (.tmp 38)).trans (show vs 9 = .int .i64 (i : Nat) from hp 9 rfl)
                clear hρ hp
                refine Reg.rel_value (.int .i64 ((part : Int) + (i : Int))) ?_ ⟨hI, rfl⟩
                go_simp
                exact IntWalk.i64_in _ (by omega)
              refine Reg.allOps_cons ?_ ?_
              · intro vs w0 ρ hρ hcst hglb hfun hI hp
                have e6 : ρ (.tmp 6) = .int .i64 (P : Nat) := hρ (.tmp 6)
                clear hρ hp
                refine Reg.rel_value (.int .i64 (P : Nat)) ?_ ⟨hI, rfl⟩
                go_simp
              refine Reg.allOps_cons ?_ ?_
              · intro vs w0 ρ hρ hcst hglb hfun hI hp
                have e39 : ρ (.tmp 39) = .int .i64 ((part : Int) + (i : Int)) := (hρ (.tmp 39)).trans (show vs 10 = .int .i64 ((part : Int) + (i : Int)) from hp 10 rfl)
                have e40 : ρ (.tmp 40) = .int .i64 (P : Nat) := (hρ (.tmp 40)).trans (show vs 11 = .int .i64 (P : Nat) from hp 11 rfl)
                clear hρ hp
                have hq := HQ.out
                refine Reg.rel_value (.int .i64 (p : Nat)) ?_ ⟨hI, rfl⟩
                go_simp
                rw [if_neg (by omega), Int.tmod_eq_emod_of_nonneg (by omega), hq]
              refine Reg.allOps_cons ?_ ?_
              · intro vs w0 ρ hρ hcst hglb hfun hI hp
                have e36 : ρ (.tmp 36) = .agg (cL c (.slice A ns.length cap)).toArray := (hρ (.tmp 36)).trans (show vs 7 = .agg (cL c (.slice A ns.length cap)).toArray from hp 7 rfl)
                have e41 : ρ (.tmp 41) = .int .i64 (p : Nat) := (hρ (.tmp 41)).trans (show vs 12 = .int .i64 (p : Nat) from hp 12 rfl)
                clear hρ hp
                refine Reg.rel_call Tryd.func53 (by kernel_rfl) rfl #[.agg (cL c (.slice A ns.length cap)).toArray, .int .i64 (p : Nat)] rfl (hfun _) (by simp [e36, e41]) ?_
                refine (homeR_any c A cap ns (p : Nat) w0 ((HN.out.below HR.out).below hI) hcap hl hc).mono ?_
                rintro e w3 ⟨rfl, hb⟩
                exact ⟨_, rfl, hb, hI.trans (hb.mono hI.size), by rw [HY.out]; rfl⟩
              refine Reg.allOps_cons ?_ ?_
              · intro vs w0 ρ hρ hcst hglb hfun hI hp
                have e35 : ρ (.tmp 35) = .int .i64 x := (hρ (.tmp 35)).trans (show vs 6 = .int .i64 x from hp 6 rfl)
                have e42 : ρ (.tmp 42) = .int .i64 y := (hρ (.tmp 42)).trans (show vs 13 = .int .i64 y from hp 13 rfl)
                clear hρ hp
                refine Reg.rel_value (.bool (x == y)) ?_ ⟨hI, rfl⟩
                go_simp
              exact Reg.allOps_nil
            intro vs w0 hI hR
            have r0 : vs 0 = .agg (cL c (.slice A ns.length cap)).toArray := hR 0 (by decide)
            have r1 : vs 1 = .int .i64 (part : Nat) := hR 1 (by decide)
            have r2 : vs 2 = .int .i64 (j : Nat) := hR 2 (by decide)
            have r3 : vs 3 = .int .i64 ((part : Int) + (j : Int)) := hR 3 (by decide)
            have r4 : vs 4 = .int .i64 (P : Nat) := hR 4 (by decide)
            have r5 : vs 5 = .int .i64 (p2 : Nat) := hR 5 (by decide)
            have r6 : vs 6 = .int .i64 x := hR 6 (by decide)
            have r7 : vs 7 = .agg (cL c (.slice A ns.length cap)).toArray := hR 7 (by decide)
            have r8 : vs 8 = .int .i64 (part : Nat) := hR 8 (by decide)
            have r9 : vs 9 = .int .i64 (i : Nat) := hR 9 (by decide)
            have r10 : vs 10 = .int .i64 ((part : Int) + (i : Int)) := hR 10 (by decide)
            have r11 : vs 11 = .int .i64 (P : Nat) := hR 11 (by decide)
            have r12 : vs 12 = .int .i64 (p : Nat) := hR 12 (by decide)
            have r13 : vs 13 = .int .i64 y := hR 13 (by decide)
            have r14 : vs 14 = .bool (x == y) := hR 14 (by decide)
            simp only [Reg.fillFrom, Act.put, List.setIfInBounds_toArray, List.set_cons_zero, List.set_cons_succ, r0, r1, r2, r3, r4, r5, r6, r7, r8, r9, r10, r11, r12, r13, r14]
            clear hR r0 r1 r2 r3 r4 r5 r6 r7 r8 r9 r10 r11 r12 r13 r14
            by_cases he : x = y
            · have hqq : (x == y) = true := by rw [he]; simp
              have HA2 : Aside0 (false = ahead ns part i (j + 1)) := ⟨by rw [HAS.out, he]; simp⟩
              have HI2 := Aside0.mk hI
              clear he hI
              go_wp2_with fail
              go_roundw
              case rel => exact ⟨j + 1, false, by omega, by go_num, rfl, HA2, HI2⟩
              case measure => simp [intOf]; omega
            · have hqq : (x == y) = false := by simpa using he
              have HA2 : Aside0 (b = ahead ns part i (j + 1)) := ⟨by rw [HAS.out]; simp [bne, hqq]⟩
              have HI2 := Aside0.mk hI
              clear he hI
              go_wp2_with fail
              go_roundw
              case rel => exact ⟨j + 1, b, by omega, by go_num, rfl, HA2, HI2⟩
              case measure => simp [intOf]; omega
          · obtain rfl : j = i := by omega
            have HO4 := Aside0.mk (own_later2 HO.out HI.out)
            have HB4 := Aside0.mk (HR.out.trans (HI.out.mono HR.out.size))
            clear h1
            cases b with
            | false =>
              have HE : Aside0 (tk (hf ns) part P R (j + 1) = T) := ⟨by rw [HNX.out, if_neg (by rw [← HA.out]; decide)]⟩
              go_wp2_with fail
              go_roundw
              case rel => exact ⟨j + 1, by omega, by go_num, ⟨by rw [HE.out]; exact HO4.out⟩, HB4⟩
              case measure => simp [intOf]; omega
            | true =>
              have HFR : Aside0 (tk (hf ns) part P R (j + 1) = T ++ [p]) := ⟨by rw [HNX.out, if_pos HA.out.symm]⟩
              have hs4 := HB4.out.size
              have hq := HQ.out
              go_wp2_with ((with_reducible refine gate_call (args := #[.tmp 45, .tmp 51]) rfl ?_); refine Hid.out ?_)
              refine Lib.hid ?_
              refine list_append_any (P := Tryd.prog) rfl w1.heap.size (.tmp 45) (.tmp 51) 36 3 _ 1 8 rfl Tryd.underlying36 infoI rfl (by decide) (by decide) (.slice tA T.length tc) T.length (ints T) (some ⟨wq.heap.size, 0, none⟩) 1 1 [.int .i64 (p : Nat)] ?hs ?hx rfl (by simp [Value.oneCell']) (.inr ⟨_, rfl, fun j u hj => by have := news wq [.int .i64 (p : Nat)] 3 j u hj; rwa [show (⟨wq.heap.size, 0, none⟩ : Addr).add j = ⟨wq.heap.size, j, none⟩ by unfold Addr.add; split <;> simp_all]⟩) (HO4.out.alloc _) (by simp; omega) (by omega) (T.length + 1) rfl ?_
              case hs => rfl
              case hx => rfl
              intro A5 c5 w5 hle5 hown5 hg5
              have HO5 : Aside0 (w5.ownsRow w1.heap.size 3 1 (.slice A5 (T.length + 1) c5) (tk (hf ns) part P R (j + 1)).length (ints (tk (hf ns) part P R (j + 1)))) := ⟨by
                rw [HFR.out, List.length_append]
                have : ints (T ++ [p]) = ints T ++ [.int .i64 (p : Nat)] := by simp [ints, nums]
                rw [this]; exact hown5⟩
              have HB5 : Aside0 (Below w1.heap.size w1 w5) := ⟨(HB4.out.alloc HB4.out.size _).grown hg5 (by simp; omega) (own_base HO4.out)⟩
              clear hown5 hg5 HO4 HB4 hq
              go_wp2_with fail
              go_roundw
              case rel => exact ⟨j + 1, by omega, by go_num, HO5, HB5⟩
              case measure => simp [intOf]; omega
      · have HE : Aside0 (rnd (hf ns) part (cnt ns) R = T) := ⟨by rw [HT.out, ← HPP.out]; exact rnd_of (by omega) (.inr (by rw [← HT.out]; omega))⟩
        have HO6 := Aside0.mk (own_weaken HO.out HB.out.size)
        go_wp2_with fail
        try rw [Exit.noGoto_ret]
        go_ret
        exact ⟨_, rfl, by rw [HE.out]; exact HO6.out, HB.out.trans (HR.out.mono HB.out.size)⟩
    · have HE : Aside0 (rnd (hf ns) part (cnt ns) R = T) := ⟨by rw [HT.out, ← HPP.out]; exact rnd_of (by omega) (.inl (by omega))⟩
      have HO6 := Aside0.mk (own_weaken HO.out HB.out.size)
      go_wp2_with fail
      try rw [Exit.noGoto_ret]
      go_ret
      exact ⟨_, rfl, by rw [HE.out]; exact HO6.out, HB.out.trans (HR.out.mono HB.out.size)⟩
end Go.Proofs.YtljjpdjknnhceaaDoor.RefWalk

/- The document's Walk and Owners. -/
set_option linter.unusedVariables false
set_option linter.unusedSimpArgs false
namespace Go.Proofs.YtljjpdjknnhceaaDoor.RefOwn
open Go.RowKit Go.Proofs.YtljjpdjknnhceaaDoorW.PrintWords Go.Proofs.YtljjpdjknnhceaaDoorW.PrintLast Go.Proofs.YtljjpdjknnhceaaDoorW.PrintMore
open Go.Proofs.YtljjpdjknnhceaaDoor.Base Go.Proofs.YtljjpdjknnhceaaDoor.App Go.Proofs.YtljjpdjknnhceaaDoor.RingPure Go.Proofs.YtljjpdjknnhceaaDoor.ChkPure Go.Proofs.YtljjpdjknnhceaaDoor.Clus Go.Proofs.YtljjpdjknnhceaaDoor.Mids Go.Proofs.YtljjpdjknnhceaaDoor.Chkd Go.Proofs.YtljjpdjknnhceaaDoor.RoundPure Go.Proofs.YtljjpdjknnhceaaDoor.AppR Go.Proofs.YtljjpdjknnhceaaDoor.Ref6 Go.Proofs.YtljjpdjknnhceaaDoor.Name Go.Proofs.YtljjpdjknnhceaaDoor.RefCheck Go.Proofs.YtljjpdjknnhceaaDoor.Walk Go.Proofs.YtljjpdjknnhceaaDoor.RefWalk
open Go.Proofs.YtljjpdjknnhceaaDoor.Round (ints own_later2 hm)
open Go.Proofs.YtljjpdjknnhceaaDoor.Count (parts_any homeR_any)

theorem wpList_load_mid_on {P : Program} {ops : Array Oper} {rest : List Oper} {op : Oper} {a : Act} {w : World} {Q : Exit → Act → World → Prop} (hw : Region.wanted op (yielded ops a.tmps) = true) (ty : TypeId) (x : Operand) (ho : op.op = .load ty x)
    (b o : Nat) (hx : a.eval x = .pointer (some ⟨b, o, none⟩)) (cs : List Value) (d : TypeDesc) (hc : w.rangeAt b o cs)
    (hu : P.underlying ty = some d) (hd : d.isRow = true) (hi : (P.info? ty).map (·.size) = some cs.length)
    (h : wpList P ops Q rest (a.put op.dst (.agg cs.toArray)) w) : wpList P ops Q (op :: rest) a w :=
  wpList_step fun K hK => by rw [if_pos hw]; exact wp_load_mid ty x ho b o hx cs d hc hu hd hi (hK _ _ h)
theorem hf_eq {c : Cl} {ns : List Nd} {h : List Int} (hg : ChkPure.Good c ns h) (i : Nat) (hi : i < cnt ns) : hf ns i = hm h i := ((homes_some hg.hom).2.2 i hi).1.symm
theorem rnd_eq {c : Cl} {ns : List Nd} {h : List Int} (hg : ChkPure.Good c ns h) (hP : 0 < cnt ns) (part R : Nat) : rnd (hf ns) part (cnt ns) R = rnd (hm h) part (cnt ns) R := tk_congr hP (hf_eq hg) _
theorem wk_ok {c : Cl} {ns : List Nd} {part : Int} (h : (wk c ns part).1 = 0) : (chkC c ns).1 = 0 ∧ ∃ q : Nat, part = (q : Int) ∧ q < cnt ns := by
  unfold wk at h
  by_cases h1 : (chkC c ns).1 ≠ 0
  · rw [if_pos h1] at h; exact absurd h h1
  · rw [if_neg h1] at h
    by_cases h2 : part < 0 ∨ (cnt ns : Int) ≤ part
    · rw [if_pos h2] at h; exact absurd h (by decide)
    · exact ⟨Classical.byContradiction h1, part.toNat, by omega, by omega⟩
theorem wk_ok2 {c : Cl} {ns : List Nd} {q : Nat} (h : (chkC c ns).1 = 0) (hq : q < cnt ns) : (wk c ns (q : Int)).2 = (wkL c ns q).map fun n : Nat => (n : Int) := by
  unfold wk; rw [if_neg (by rw [h]; decide), if_neg (by omega)]; rfl
theorem ow_ok {c : Cl} {ns : List Nd} {q : Nat} (h : (chkC c ns).1 = 0) (hq : q < cnt ns) : ow c ns (q : Int) = (0, (wkL c ns q).map fun n : Nat => hm (chkC c ns).2 n) := by
  unfold ow; rw [if_neg (by rw [h]; decide), if_neg (by omega)]; rfl
theorem ow_err {c : Cl} {ns : List Nd} {part : Int} (h : (wk c ns part).1 ≠ 0) : ow c ns part = ((wk c ns part).1, []) := by
  unfold wk at h ⊢
  unfold ow
  by_cases h1 : (chkC c ns).1 ≠ 0
  · rw [if_pos h1, if_pos h1]
  · rw [if_neg h1] at h ⊢
    rw [if_neg h1]
    by_cases h2 : part < 0 ∨ (cnt ns : Int) ≤ part
    · rw [if_pos h2, if_pos h2]
    · rw [if_neg h2] at h; exact absurd rfl h
set_option maxRecDepth 100000 in
set_option maxHeartbeats 8000000 in
theorem refwalk_any (c : Cl) (A : Option Addr) (cap : Nat) (ns : List Nd) (part : Int) (w : World) (hN : NodesAt w A ns) (hcap : ns.length ≤ cap) (hs : c.store.size ≤ 2147483647) (hl : ns.length ≤ 1099511627776) (hc : cnt ns ≤ 1099511627776) (hG : GTab w) :
    Calls Tryd.prog 18 #[.agg (cL c (.slice A ns.length cap)).toArray, .int .i64 part] w (ListPost (wk c ns part) w) := by
  have hb0 := (Below.refl w.heap.size w).alloc (Nat.le_refl _) (.cells (cL c (.slice A ns.length cap)).toArray 24)
  have HN := Aside0.mk (hN.below hb0)
  have HG := Aside0.mk (hG.below hb0)
  have HB := Aside0.mk hb0
  have HC : Aside0 (CBox (w.alloc (.cells (cL c (.slice A ns.length cap)).toArray 24)) w.heap.size c (.slice A ns.length cap)) := ⟨⟨Go.heap_alloc_new w _⟩⟩
  clear hN hb0 hG
  go_enter Tryd.func18, Tryd.ntmps18
  go_upto_region 1 with fail
  generalize w.alloc (.cells (cL c (.slice A ns.length cap)).toArray 24) = w1 at HN HG HB HC ⊢
  obtain ⟨gc, hgc⟩ : ∃ gc, gc = w.heap.size := ⟨_, rfl⟩
  rw [← hgc] at HC ⊢
  have HGC := Aside0.mk hgc
  clear hgc
  have hrg := blk_range HC.out.row
  go_wp2_with ((with_reducible refine gate_load (ty := 24) (x := .tmp 2) rfl ?_); refine wpList_load_mid rfl 24 (.tmp 2) rfl gc 0 rfl (cL c (.slice A ns.length cap)) _ hrg Tryd.underlying24 rfl infoC23 ?_)
  clear hrg
  refine (refcheck_any c A cap ns w1 HN.out hcap hs hl hc HG.out).mono ?_
  rintro e w2 ⟨rfl, hb⟩
  have HR2 := Aside0.mk hb
  have HC2 := Aside0.mk (HC.out.below hb HC.out.lt)
  clear hb
  by_cases h0 : (chkC c ns).1 = 0
  · have HGOOD := Aside0.mk (chk_ok (nm := nmB c.store) h0)
    obtain ⟨hde, hhl, _⟩ := homes_some HGOOD.out.hom
    have hb6 := setAt_bounds HGOOD.out.set
    have hP1 := hde.1
    have hP2 := hde.2.1
    have HH0 := Aside0.mk h0
    obtain ⟨R, hR⟩ : ∃ R : Nat, c.replicas = (R : Int) := ⟨c.replicas.toNat, by omega⟩
    have hR16 : R ≤ 16 := by omega
    have HRE := Aside0.mk hR
    have HP := Aside0.mk hP1
    rw [h0]
    clear h0 hde hhl hb6 hR
    have hrg := blk_range HC2.out.row
    by_cases hneg : part < 0
    · have HE : Aside0 (wk c ns part = (69, [])) := ⟨by unfold wk; rw [if_neg (by rw [HH0.out]; decide), if_pos (.inl hneg)]⟩
      go_wp2_with fail
      go_ret2
      exact post_err HE.out (HB.out.trans (HR2.out.mono HB.out.size))
    · by_cases hge : (cnt ns : Int) ≤ part
      · have HE : Aside0 (wk c ns part = (69, [])) := ⟨by unfold wk; rw [if_neg (by rw [HH0.out]; decide), if_pos (.inr hge)]⟩
        go_wp2_with ((with_reducible refine gate_load (ty := 24) (x := .tmp 2) rfl ?_); refine wpList_load_mid_on (by first | rfl | go_simp) 24 (.tmp 2) rfl gc 0 rfl (cL c (.slice A ns.length cap)) _ hrg Tryd.underlying24 rfl infoC23 ?_)
        clear hrg
        refine (parts_any c A cap ns w2 (HN.out.below HR2.out) hcap hl hc).mono ?_
        rintro e w3 ⟨rfl, hb⟩
        have HR3 := Aside0.mk (HR2.out.trans (hb.mono HR2.out.size))
        clear hb
        go_wp2_with fail
        go_ret2
        exact post_err HE.out (HB.out.trans (HR3.out.mono HB.out.size))
      · obtain ⟨q, rfl⟩ : ∃ q : Nat, part = (q : Int) := ⟨part.toNat, by omega⟩
        have hq : q < cnt ns := by omega
        have HE : Aside0 (wk c ns (q : Int) = (0, (wkL c ns q).map fun n : Nat => (n : Int))) := ⟨by unfold wk; rw [if_neg (by rw [HH0.out]; decide), if_neg (fun e => e.elim hneg hge)]; rfl⟩
        have HWL : Aside0 (rnd (hf ns) q (cnt ns) R = wkL c ns q) := ⟨by rw [rnd_eq HGOOD.out HP.out]; unfold wkL; rw [HRE.out]; rfl⟩
        go_wp2_with ((with_reducible refine gate_load (ty := 24) (x := .tmp 2) rfl ?_); refine wpList_load_mid_on (by first | rfl | go_simp) 24 (.tmp 2) rfl gc 0 rfl (cL c (.slice A ns.length cap)) _ hrg Tryd.underlying24 rfl infoC23 ?_)
        clear hrg
        refine (parts_any c A cap ns w2 (HN.out.below HR2.out) hcap hl hc).mono ?_
        rintro e w3 ⟨rfl, hb⟩
        have HR3 := Aside0.mk (HR2.out.trans (hb.mono HR2.out.size))
        have hrg3 := blk_range ((HC.out.below HR3.out HC.out.lt).row)
        clear hb
        go_wp2_with ((with_reducible refine gate_load (ty := 24) (x := .tmp 2) rfl ?_); refine wpList_load_mid rfl 24 (.tmp 2) rfl gc 0 rfl (cL c (.slice A ns.length cap)) _ hrg3 Tryd.underlying24 rfl infoC23 ?_)
        clear hrg3
        refine (walkR_any c A cap ns q R w3 (HN.out.below HR3.out) hcap hl hc hP1 hP2 hq HRE.out hR16).mono ?_
        rintro e w4 ⟨v, rfl, ho, hb4⟩
        rw [HWL.out] at ho
        have HB4 := Aside0.mk (HB.out.trans ((HR3.out.trans (hb4.mono HR3.out.size)).mono HB.out.size))
        have HO4 := Aside0.mk (own_weaken ho (Nat.le_trans HB.out.size HR3.out.size))
        clear ho hb4
        go_wp2_with fail
        go_ret2
        exact post_ok HE.out HB4.out (List.length_map _).symm HO4.out
  · have HE : Aside0 (wk c ns part = ((chkC c ns).1, [])) := ⟨by unfold wk; rw [if_pos h0]⟩
    generalize (chkC c ns).1 = code at h0 HE ⊢
    have hne : (code != 0) = true := by simpa using h0
    go_wp2_with fail
    go_ret2
    exact post_err HE.out (HB.out.trans (HR2.out.mono HB.out.size))
-- OWNERS
set_option maxRecDepth 100000 in
set_option maxHeartbeats 8000000 in
theorem refowners_any (c : Cl) (A : Option Addr) (cap : Nat) (ns : List Nd) (part : Int) (w : World) (hN : NodesAt w A ns) (hcap : ns.length ≤ cap) (hs : c.store.size ≤ 2147483647) (hl : ns.length ≤ 1099511627776) (hc : cnt ns ≤ 1099511627776) (hG : GTab w) :
    Calls Tryd.prog 21 #[.agg (cL c (.slice A ns.length cap)).toArray, .int .i64 part] w (ListPost (ow c ns part) w) := by
  have hb0 := (Below.refl w.heap.size w).alloc (Nat.le_refl _) (.cells (cL c (.slice A ns.length cap)).toArray 24)
  have HN := Aside0.mk (hN.below hb0)
  have HG := Aside0.mk (hG.below hb0)
  have HB := Aside0.mk hb0
  have HC : Aside0 (CBox (w.alloc (.cells (cL c (.slice A ns.length cap)).toArray 24)) w.heap.size c (.slice A ns.length cap)) := ⟨⟨Go.heap_alloc_new w _⟩⟩
  clear hN hb0 hG
  go_enter Tryd.func21, Tryd.ntmps21
  go_upto_region 1 with fail
  generalize w.alloc (.cells (cL c (.slice A ns.length cap)).toArray 24) = w1 at HN HG HB HC ⊢
  obtain ⟨gc, hgc⟩ : ∃ gc, gc = w.heap.size := ⟨_, rfl⟩
  rw [← hgc] at HC ⊢
  have HGC := Aside0.mk hgc
  clear hgc
  have hrg := blk_range HC.out.row
  go_wp2_with ((with_reducible refine gate_load (ty := 24) (x := .tmp 2) rfl ?_); refine wpList_load_mid rfl 24 (.tmp 2) rfl gc 0 rfl (cL c (.slice A ns.length cap)) _ hrg Tryd.underlying24 rfl infoC23 ?_)
  clear hrg
  refine (refwalk_any c A cap ns part w1 HN.out hcap hs hl hc HG.out).mono ?_
  rintro e w2 ⟨hb, v, rfl, ho⟩
  have HR2 := Aside0.mk hb
  clear hb
  by_cases h0 : (wk c ns part).1 = 0
  · obtain ⟨hch, q, hpq, hqc⟩ := wk_ok h0
    have HGOOD := Aside0.mk (chk_ok (nm := nmB c.store) hch)
    have HQC := Aside0.mk hqc
    have HE : Aside0 (ow c ns part = (0, (wkL c ns q).map fun n : Nat => hf ns n)) := ⟨by
      rw [hpq, ow_ok hch hqc]
      congr 1
      refine List.map_congr_left fun t ht => ?_
      exact (hf_eq HGOOD.out t (wkL_lt c ns q (by omega) t ht)).symm⟩
    have hwk2 : (wk c ns part).2 = (wkL c ns q).map fun n : Nat => (n : Int) := by rw [hpq, wk_ok2 hch hqc]
    rw [hwk2, List.length_map] at ho
    obtain ⟨L, hL⟩ : ∃ L, L = wkL c ns q := ⟨_, rfl⟩
    have hL16 : L.length ≤ 16 := by rw [hL]; have := wkL_len c ns q; have := (setAt_bounds HGOOD.out.set); omega
    rw [← hL] at ho HE
    rw [h0]
    obtain ⟨vA, vc, rfl, hvc⟩ := own_form ho
    have HO2 := Aside0.mk ho
    have HB2 := Aside0.mk HR2.out.size
    clear h0 hch hpq hqc hwk2 hL ho
    go_wp2_with fail
    go_loopw [8, 9] (fun v8 v9 wr => ∃ j : Nat, j ≤ L.length ∧ v9 = .int .i64 (j : Nat) ∧ Aside0 (Below w2.heap.size w2 wr) ∧ Aside0 (wr.ownsRow w2.heap.size 3 1 v8 j (nums .i64 ((L.take j).map fun n : Nat => hf ns n)))) (fun _ v9 _ => L.length - (intOf v9).toNat)
    case atStart => exact ⟨0, Nat.zero_le _, rfl, ⟨Below.refl _ _⟩, ⟨World.ownsRow_nil _ _ _ _⟩⟩
    case round =>
      obtain ⟨j, hj, rfl, HR, HO⟩ := hrel
      obtain ⟨wo, rfl⟩ : ∃ wo : World, wo = wr := ⟨_, rfl⟩
      by_cases hjl : j < L.length
      · obtain ⟨t, ht⟩ : ∃ t, L[j]? = some t := ⟨_, List.getElem?_eq_getElem hjl⟩
        obtain ⟨b, rfl⟩ : ∃ b, vA = some ⟨b, 0, none⟩ := by
          rcases HO2.out.2 with ⟨_, h0⟩ | ⟨b, cap', cs, e, _⟩
          · omega
          · injection e with e; exact ⟨b, e⟩
        have hct : wo.cell? ⟨b, j, none⟩ = some (.int .i64 (t : Nat)) := by
          have h1 := (own_later2 HO2.out HR.out).cells (g := b) rfl j (.int .i64 (t : Nat)) (by simp [nums, ht])
          have e2 : (⟨b, 0, none⟩ : Addr).add j = ⟨b, j, none⟩ := by unfold Addr.add; split <;> simp_all
          rwa [e2] at h1
        obtain ⟨y, hy⟩ : ∃ y, y = hf ns t := ⟨_, rfl⟩
        have HY : Aside0 (homeFrom 0 ns (t : Nat) = y) := ⟨hy.symm⟩
        have HTK : Aside0 (nums .i64 ((L.take (j + 1)).map fun n : Nat => hf ns n) = nums .i64 ((L.take j).map fun n : Nat => hf ns n) ++ [.int .i64 y]) := ⟨by
          rw [List.take_add_one, ht, hy]; simp [nums]⟩
        clear hy ht
        obtain ⟨oA, oc, rfl, hoc⟩ := own_form HO.out
        have HSZ := Aside0.mk HR.out.size
        have HRC := Aside0.mk ((HR2.out.trans (HR.out.mono HR2.out.size)))
        have hrg : wo.rangeAt gc 0 (cL c (.slice A ns.length cap)) := blk_range ((HC.out.below HRC.out HC.out.lt).row)
        have hu := Tryd.underlying24
        have hi := infoC23
        go_upto_region 8 with fail
        refine start_ (n := 10) (S := fun w' => w'.rangeAt gc 0 (cL c (.slice A ns.length cap)) ∧ w'.cell? ⟨b, j, none⟩ = some (.int .i64 (t : Nat))) (ds := [8]) #[false, false, false, false, false, false, false, false, false, false] (by kernel_rfl) rfl rfl ⟨hrg, hct⟩ (fun hHeld => ?_)
        refine pure_ (i := 0) (N := some 25) (v := ?_) (a' := ?_) #[true, false, false, false, false, false, false, false, false, false] rfl rfl (by kernel_rfl) (fun _ _ _ h => h) (Or.inl ⟨by rfl, ?_⟩) ?_ ?_
        rotate_left
        · intro w'
          go_simp
          with_reducible rfl
        rotate_left
        · simp only [Act.put, List.setIfInBounds_toArray, List.set_cons_zero, List.set_cons_succ, i64_w, i32_w]
          rfl
        refine pure_ (i := 2) (N := some 27) (v := ?_) (a' := ?_) #[true, false, true, false, false, false, false, false, false, false] rfl rfl (by kernel_rfl) (fun _ _ _ h => h) (Or.inl ⟨by rfl, ?_⟩) ?_ ?_
        rotate_left
        · intro w'
          go_simp
          with_reducible rfl
        rotate_left
        · simp only [Act.put, List.setIfInBounds_toArray, List.set_cons_zero, List.set_cons_succ, i64_w, i32_w]
          rfl
        refine pure_ (i := 3) (N := some 28) (v := ?_) (a' := ?_) #[true, false, true, true, false, false, false, false, false, false] rfl rfl (by kernel_rfl) (fun _ _ _ h => h) (Or.inl ⟨by rfl, ?_⟩) ?_ ?_
        rotate_left
        · intro w'
          go_simp
          with_reducible rfl
        rotate_left
        · simp only [Act.put, List.setIfInBounds_toArray, List.set_cons_zero, List.set_cons_succ, i64_w, i32_w]
          rfl
        refine pure_ (i := 4) (N := some 29) (v := ?_) (a' := ?_) #[true, false, true, true, true, false, false, false, false, false] rfl rfl (by kernel_rfl) (fun _ _ _ h => h) (Or.inl ⟨by rfl, ?_⟩) ?_ ?_
        rotate_left
        · intro w'
          go_simp
          with_reducible rfl
        rotate_left
        · simp only [Act.put, List.setIfInBounds_toArray, List.set_cons_zero, List.set_cons_succ, i64_w, i32_w]
          rfl
        refine take_ (i := 1) (N := some 26) (a' := ?_) #[true, true, true, true, true, false, false, false, false, false] rfl rfl (by kernel_rfl) (fun _ _ _ h => h) (yieldsIf_load_mid (by rfl) _ _ rfl _ _ rfl _ _ (fun w h => h.1) hu rfl hi) hHeld ?_ ?_
        rotate_left
        · simp only [Act.put, List.setIfInBounds_toArray, List.set_cons_zero, List.set_cons_succ, i64_w, i32_w]
          rfl
        refine take_ (i := 5) (N := some 30) (v := ?_) (a' := ?_) #[true, true, true, true, true, true, false, false, false, false] rfl rfl (by kernel_rfl) (fun _ _ _ h => h) (Or.inl ⟨by rfl, ?_⟩) hHeld ?_ ?_
        rotate_left
        · rintro w' ⟨s0, s1⟩
          go_simp
          with_reducible rfl
        rotate_left
        · simp only [Act.put, List.setIfInBounds_toArray, List.set_cons_zero, List.set_cons_succ, i64_w, i32_w]
          rfl
        refine one_ (i := 6) (N := some 31) #[true, true, true, true, true, true, true, false, false, false] rfl rfl (by kernel_rfl) (by decide) (fun K hK => ?_)
        refine goes_ Tryd.func53 (by kernel_rfl) rfl #[.agg (cL c (.slice A ns.length cap)).toArray, .int .i64 (t : Nat)] (by rfl) rfl rfl (by simp only [List.map_toArray, List.map_cons, List.map_nil]; rfl) ?_
        with_reducible refine (homeR_any c A cap ns (t : Nat) wo.drew ((HN.out.below HRC.out).below (below_drew (Below.refl _ _))) hcap hl hc).mono ?_
        rintro e w3 ⟨rfl, hb3⟩
        have HI3 : Aside0 (Below wo.heap.size wo w3) := ⟨below_drew_left hb3⟩
        rw [HY.out]
        refine ⟨_, rfl, ?_⟩
        refine hK.out _ _ ⟨blk_range ((HC.out.below (HRC.out.trans (HI3.out.mono HRC.out.size)) HC.out.lt).row), pw_cell_below HI3.out hct⟩ (fun hHeld => ?_)
        clear hK K
        refine norm_ (a' := ?_) ?_ ?_
        rotate_left
        · show Act.put _ (some 31) _ = _
          simp only [Act.put, List.setIfInBounds_toArray, List.set_cons_zero, List.set_cons_succ, i64_w, i32_w]
          rfl
        refine one_ (i := 7) (N := some 32) #[true, true, true, true, true, true, true, true, false, false] rfl rfl (by kernel_rfl) (by decide) (fun K hK => ?_)
        refine value_ (w1 := ?_) (v := ?_) (by rfl) rfl ?_ ?_
        rotate_left 2
        · go_simp
          constructor
          · rfl
          · rfl
        refine hK.out _ _ ⟨blk_range (((HC.out.below (HRC.out.trans (HI3.out.mono HRC.out.size)) HC.out.lt).below ((Below.refl w3.heap.size w3).alloc (Nat.le_refl _) _) (CBox.lt (HC.out.below (HRC.out.trans (HI3.out.mono HRC.out.size)) HC.out.lt))).row), pw_cell_below ((Below.refl w3.heap.size w3).alloc (Nat.le_refl _) _) (pw_cell_below HI3.out hct)⟩ (fun hHeld => ?_)
        clear hK K
        refine norm_ (a' := ?_) ?_ ?_
        rotate_left
        · show Act.put _ (some 32) _ = _
          simp only [Act.put, List.setIfInBounds_toArray, List.set_cons_zero, List.set_cons_succ, i64_w, i32_w]
          rfl
        refine last_ (i := 8) (N := some 33) #[true, true, true, true, true, true, true, true, true, false] rfl rfl (by kernel_rfl) (by decide) (fun K hK => ?_)
        refine step_append_any rfl w2.heap.size (.tmp 25) (.tmp 32) 36 3 _ 1 8 (by rfl) Tryd.underlying36 infoI rfl (by decide) (by decide) (.slice oA j oc) j (nums .i64 ((L.take j).map fun n : Nat => hf ns n)) (some ⟨w3.heap.size, 0, none⟩) 1 1 [.int .i64 y] (by rfl) (by rfl) rfl (by simp [Value.oneCell']) (.inr ⟨_, rfl, World.news_of_block (cs := #[.int .i64 y]) (t := 3) (fr := (0, 0)) (heap_alloc_new w3 _)⟩) ((own_later2 HO.out HI3.out).alloc _) (by have := HSZ.out; have := HI3.out.size; simp; omega) (by omega) (j + 1) rfl ?_
        intro A5 c5 w5 hle5 hown5 hg5
        refine hK.out _ _ ?_
        clear hK K
        refine norm_ (a' := ?_) ?_ ?_
        rotate_left
        · show Act.put _ (some 33) _ = _
          simp only [Act.put, List.setIfInBounds_toArray, List.set_cons_zero, List.set_cons_succ, i64_w, i32_w]
          rfl
        refine pure_ (i := 9) (N := some 8) (v := ?_) (a' := ?_) #[true, true, true, true, true, true, true, true, true, true] rfl rfl (by kernel_rfl) (fun _ _ _ h => h) (Or.inl ⟨by rfl, ?_⟩) ?_ ?_
        rotate_left
        · intro w'
          go_simp
          with_reducible rfl
        rotate_left
        · simp only [Act.put, List.setIfInBounds_toArray, List.set_cons_zero, List.set_cons_succ, i64_w, i32_w]
          rfl
        refine done_ (by kernel_rfl) ?_
        have HO5 : Aside0 (w5.ownsRow w2.heap.size 3 1 (.slice A5 (j + 1) c5) (j + 1) (nums .i64 ((L.take (j + 1)).map fun n : Nat => hf ns n))) := ⟨by rw [HTK.out]; exact hown5⟩
        have HR5 : Aside0 (Below w2.heap.size w2 w5) := ⟨((HR.out.trans (HI3.out.mono HR.out.size)).alloc (Nat.le_trans HR.out.size HI3.out.size) _).grown hg5 (by have := HSZ.out; have := HI3.out.size; simp; omega) (own_base HO.out)⟩
        clear hown5 hg5
        go_wp2_with fail
        go_roundw
        case rel => exact ⟨j + 1, by omega, by go_num, HR5, HO5⟩
        case measure => simp [intOf]; omega
      · obtain rfl : j = L.length := by omega
        have HO6 : Aside0 (wo.ownsRow w.heap.size 3 1 u8 L.length (nums .i64 (L.map fun n : Nat => hf ns n))) := ⟨by
          have := own_weaken HO.out (Nat.le_trans HB.out.size HB2.out)
          rw [List.take_length] at this
          exact this⟩
        go_wp2_with fail
        go_ret2
        exact post_ok HE.out (HB.out.trans ((HR2.out.trans (HR.out.mono HR2.out.size)).mono HB.out.size)) (by rw [List.length_map]) HO6.out
  · have HE : Aside0 (ow c ns part = ((wk c ns part).1, [])) := ⟨ow_err h0⟩
    generalize (wk c ns part).1 = code at h0 HE ⊢
    have hne : (code != 0) = true := by simpa using h0
    obtain ⟨vA, vc, rfl, hvc⟩ := own_form ho
    clear ho
    go_wp2_with fail
    go_ret2
    exact post_err HE.out (HB.out.trans (HR2.out.mono HB.out.size))
end Go.Proofs.YtljjpdjknnhceaaDoor.RefOwn

/- twin: a definition anew, its lists in memory of their own. -/
set_option linter.unusedVariables false
set_option linter.unusedSimpArgs false
namespace Go.Proofs.YtljjpdjknnhceaaDoor.Twin
open Go.RowKit Go.Proofs.YtljjpdjknnhceaaDoorW.PrintWords Go.Proofs.YtljjpdjknnhceaaDoorW.PrintLast Go.Proofs.YtljjpdjknnhceaaDoorW.PrintMore
open Go.Proofs.YtljjpdjknnhceaaDoor.Base Go.Proofs.YtljjpdjknnhceaaDoor.App Go.Proofs.YtljjpdjknnhceaaDoor.RingPure Go.Proofs.YtljjpdjknnhceaaDoor.ChkPure Go.Proofs.YtljjpdjknnhceaaDoor.Clus Go.Proofs.YtljjpdjknnhceaaDoor.Mids Go.Proofs.YtljjpdjknnhceaaDoor.Chkd Go.Proofs.YtljjpdjknnhceaaDoor.AppR
/-- the nodes' cells, their lists' values given -/
def ndsC : List Nd → List Value → List Value
  | n :: ns, v :: vs => .int .i64 n.1 :: v :: ndsC ns vs
  | _, _ => []
theorem ndsC_length : ∀ (ns : List Nd) (vs : List Value), vs.length = ns.length → (ndsC ns vs).length = ns.length * 2
  | [], [], _ => rfl
  | n :: ns, v :: vs, h => by simp only [ndsC, List.length_cons] at h ⊢; have := ndsC_length ns vs (by omega); omega
theorem ndsC_snoc : ∀ (ns : List Nd) (vs : List Value) (n : Nd) (v : Value), vs.length = ns.length → ndsC (ns ++ [n]) (vs ++ [v]) = ndsC ns vs ++ [.int .i64 n.1, v]
  | [], [], n, v, _ => rfl
  | m :: ns, u :: vs, n, v, h => by simp only [List.cons_append, ndsC]; rw [ndsC_snoc ns vs n v (by simpa using h)]
theorem ndsC_at : ∀ (ns : List Nd) (vs : List Value) (i : Nat) (n : Nd) (v : Value), ns[i]? = some n → vs[i]? = some v → (ndsC ns vs)[i * 2]? = some (.int .i64 n.1) ∧ (ndsC ns vs)[i * 2 + 1]? = some v
  | m :: ns, u :: vs, 0, n, v, h1, h2 => by simp at h1 h2; subst h1 h2; exact ⟨rfl, rfl⟩
  | m :: ns, u :: vs, i + 1, n, v, h1, h2 => by
    have := ndsC_at ns vs i n v (by simpa using h1) (by simpa using h2)
    rw [show (i + 1) * 2 = i * 2 + 2 by omega]
    exact this
  | [], _, _, _, _, h, _ => by simp at h
  | m :: ns, [], _, _, _, _, h => by simp at h
theorem ndsC_one : ∀ (ns : List Nd) (vs : List Value), (∀ v ∈ vs, v.oneCell' = true) → ∀ u ∈ ndsC ns vs, u.oneCell' = true
  | [], _, _, u, hu => by simp [ndsC] at hu
  | _ :: _, [], _, u, hu => by simp [ndsC] at hu
  | n :: ns, v :: vs, h, u, hu => by
    simp only [ndsC, List.mem_cons] at hu
    rcases hu with rfl | rfl | hu
    · rfl
    · exact h _ (List.mem_cons_self ..)
    · exact ndsC_one ns vs (fun v hv => h v (List.mem_cons_of_mem _ hv)) u hu
/-- nodes of the call's own: the row of the nodes is lv, the lists' values vs -/
structure Own (w : World) (base : Nat) (lv : Value) (ns : List Nd) (vs : List Value) : Prop where mk ::
  (len : vs.length = ns.length) (row : w.ownsRow base 56 2 lv ns.length (ndsC ns vs))
  (each : ∀ (i : Nat) (n : Nd) (v : Value), ns[i]? = some n → vs[i]? = some v → w.ownsRow base 3 1 v n.2.length (nums .i64 n.2))
theorem own_later {w w' : World} {base : Nat} {e : TypeId} {size : Nat} {v : Value} {n : Nat} {xs : List Value} (h : w.ownsRow base e size v n xs) (hb : Below w.heap.size w w') : w'.ownsRow base e size v n xs :=
  h.kept (row := none) ⟨hb.os, hb.tape, hb.output, hb.size, fun k hk _ => hb.block k hk⟩ (by cases v.ownBlock <;> simp)
theorem Own.below {w w1 : World} {base : Nat} {lv : Value} {ns : List Nd} {vs : List Value} (h : Own w base lv ns vs) (hb : Below w.heap.size w w1) : Own w1 base lv ns vs :=
  ⟨h.len, own_later h.row hb, fun i n v h1 h2 => own_later (h.each i n v h1 h2) hb⟩
theorem Own.nil (w : World) (base : Nat) : Own w base (.slice none 0 0) [] [] := ⟨rfl, World.ownsRow_nil _ _ _ _, fun i n v h => by simp at h⟩
theorem ints_ne {w : World} {base size n : Nat} {v : Value} {xs : List Value} (h : w.ownsRow base 3 size v n xs) {e : TypeId} (he : e ≠ 3) {b2 s2 n2 : Nat} {v2 : Value} {ys : List Value} (h2 : w.ownsRow b2 e s2 v2 n2 ys) : v.ownBlock = none ∨ v.ownBlock ≠ v2.ownBlock := by
  rcases h.2 with ⟨rfl, _⟩ | ⟨g, cap, cs, rfl, _, hg, _⟩
  · exact .inl rfl
  · refine .inr fun e1 => ?_
    rcases h2.2 with ⟨rfl, _⟩ | ⟨g', cap', cs', rfl, _, hg', _⟩
    · cases e1
    · have e2 : g = g' := by simpa [Value.ownBlock] using e1
      subst e2
      rw [hg] at hg'
      simp only [Option.some.injEq, Obj.cells.injEq] at hg'
      exact he hg'.2.1.symm
/-- one node more -/
theorem Own.snoc {w w1 : World} {base : Nat} {lv lv1 v : Value} {ns : List Nd} {vs : List Value} {n : Nd} (h : Own w base lv ns vs) (hv : w.ownsRow base 3 1 v n.2.length (nums .i64 n.2)) (hr : w1.ownsRow base 56 2 lv1 (ns.length + 1) (ndsC ns vs ++ [.int .i64 n.1, v]))
    (hg : w.grownBy w1 lv.ownBlock) : Own w1 base lv1 (ns ++ [n]) (vs ++ [v]) := by
  refine ⟨by simp [h.len], by rw [ndsC_snoc _ _ _ _ h.len, List.length_append]; exact hr, fun i m u h1 h2 => ?_⟩
  have key : ∀ {m : Nd} {u : Value}, w.ownsRow base 3 1 u m.2.length (nums .i64 m.2) → w1.ownsRow base 3 1 u m.2.length (nums .i64 m.2) := fun ho => ho.kept hg (ints_ne ho (by decide) h.row)
  by_cases e : i < ns.length
  · rw [List.getElem?_append_left e] at h1
    rw [List.getElem?_append_left (by rw [h.len]; exact e)] at h2
    exact key (h.each i m u h1 h2)
  · have hi : i = ns.length := by
      have := (List.getElem?_eq_some_iff.1 h1).1
      simp at this; omega
    subst hi
    rw [List.getElem?_append_right (Nat.le_refl _)] at h1
    rw [List.getElem?_append_right (by rw [h.len]; exact Nat.le_refl _), h.len] at h2
    simp at h1 h2
    subst h1 h2
    exact key hv
theorem own_nums {w : World} {base : Nat} {A : Option Addr} {c : Nat} {l : List Int} (h : w.ownsRow base 3 1 (.slice A l.length c) l.length (nums .i64 l)) : NumsAt w A l := by
  rcases h.2 with ⟨e, h0⟩ | ⟨g, cap, cs, e, _⟩
  · exact .inl (List.eq_nil_of_length_eq_zero h0)
  · refine .inr ⟨g, 0, by injection e, fun i x hi => ?_⟩
    have h1 := h.cells (g := g) (by rw [e]; rfl) i (.int .i64 x) (by simp [nums, hi])
    have e2 : (⟨g, 0, none⟩ : Addr).add i = ⟨g, 0 + i, none⟩ := by unfold Addr.add; split <;> simp_all
    rwa [e2] at h1
theorem own_ok {w : World} {base size n : Nat} {e : TypeId} {A : Option Addr} {c : Nat} {xs : List Value} (h : w.ownsRow base e size (.slice A n c) n xs) : SlOK A n c := by
  rcases h.2 with ⟨e, h0⟩ | ⟨g, cap, cs, e, _⟩
  · injection e with h1 h2 h3
    exact .inl ⟨h1, h2, h3⟩
  · injection e with h1
    exact .inr ⟨_, h1⟩
theorem Own.nodes {w : World} {base : Nat} {A : Option Addr} {c : Nat} {ns : List Nd} {vs : List Value} (h : Own w base (.slice A ns.length c) ns vs) : NodesAt w A ns := by
  rcases h.row.2 with ⟨e, h0⟩ | ⟨g, cap, cs, e, _⟩
  · exact .inl (List.eq_nil_of_length_eq_zero h0)
  · refine .inr ⟨g, 0, by injection e, fun i n hi => ?_⟩
    obtain ⟨v, hv⟩ : ∃ v, vs[i]? = some v := ⟨_, List.getElem?_eq_getElem (by rw [h.len]; exact (List.getElem?_eq_some_iff.1 hi).1)⟩
    have ho := h.each i n v hi hv
    obtain ⟨B, c1, rfl, hle⟩ := own_form ho
    obtain ⟨h1, h2⟩ := ndsC_at ns vs i n _ hi hv
    have k1 := h.row.cells (g := g) (by rw [e]; rfl) _ _ h1
    have k2 := h.row.cells (g := g) (by rw [e]; rfl) _ _ h2
    have e2 : ∀ j, (⟨g, 0, none⟩ : Addr).add j = ⟨g, 0 + j, none⟩ := by intro j; unfold Addr.add; split <;> simp_all
    rw [e2] at k1 k2
    exact ⟨k1, B, c1, k2, ⟨hle, own_ok ho⟩, own_nums ho⟩
/-- the result: an own definition alike -/
def TwinPost (c : Cl) (ns : List Nd) (w : World) (e : Ending) (w' : World) : Prop := Below w.heap.size w w' ∧ ∃ A cap vs, e = .returned (.agg (cL c (.slice A ns.length cap)).toArray) ∧ ns.length ≤ cap ∧ Own w' w.heap.size (.slice A ns.length cap) ns vs
theorem nums_src {w : World} {A : Option Addr} {l : List Int} {c : Nat} (h : NumsAt w A l) (hA : SlOK A l.length c) : (A = none ∧ l.length = 0 ∧ c = 0) ∨ ∃ d, A = some d ∧ ∀ j u, (nums .i64 l)[j]? = some u → w.cell? (d.add j) = some u := by
  rcases h with rfl | ⟨b, o, rfl, h⟩
  · rcases hA with ⟨h1, h2, h3⟩ | ⟨a, h1⟩
    · exact .inl ⟨h1, h2, h3⟩
    · exact .inr ⟨a, h1, fun j u hu => by simp [nums] at hu⟩
  · refine .inr ⟨_, rfl, fun j u hu => ?_⟩
    have e2 : (⟨b, o, none⟩ : Addr).add j = ⟨b, o + j, none⟩ := by unfold Addr.add; split <;> simp_all
    simp only [nums, List.getElem?_map, Option.map_eq_some_iff] at hu
    obtain ⟨x, hx, rfl⟩ := hu
    rw [e2]
    exact h j x hx
end Go.Proofs.YtljjpdjknnhceaaDoor.Twin
