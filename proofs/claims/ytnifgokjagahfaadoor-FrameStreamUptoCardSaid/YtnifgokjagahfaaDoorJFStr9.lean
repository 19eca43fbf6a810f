/- Joined texts of this claim: Proper -/
import Derived.Test.YtnifgokjagahfaaDoorJFStr4
import Derived.Test.YtnifgokjagahfaaDoorJFStr8
import Derived.Test.YtnifgokjagahfaaDoorJFStr1
import Derived.Deep.DeepCutAuto
/- Proper, walked. -/
set_option linter.unusedVariables false
set_option linter.unusedSimpArgs false
namespace Go.Proofs.YtnifgokjagahfaaDoor.Proper
open Go.RowKit Go.Proofs.YtnifgokjagahfaaDoorW.PrintWords Go.Proofs.YtnifgokjagahfaaDoorW.PrintLast Go.Proofs.YtnifgokjagahfaaDoorW.PrintMore
open Go.Proofs.YtnifgokjagahfaaDoor.Base Go.Proofs.YtnifgokjagahfaaDoor.Layouts Go.Proofs.YtnifgokjagahfaaDoor.Msg Go.Proofs.YtnifgokjagahfaaDoor.Put Go.Proofs.YtnifgokjagahfaaDoor.EncPure Go.Proofs.YtnifgokjagahfaaDoor.DecPure Go.Proofs.YtnifgokjagahfaaDoor.Num Go.Proofs.YtnifgokjagahfaaDoor.RefF Go.Proofs.YtnifgokjagahfaaDoor.Mids
theorem infoM : (Tryd.prog.info? 24).map (·.size) = some 11 := by kernel_rfl
theorem mL_one (m : M) : (mL m).toArray.all (·.oneCell') = true := all_oneCell_toArray (by simp [mL, Value.oneCell'])
/-- the table lies where it was laid -/
structure KTab (w : World) : Prop where mk :: (cell : ∀ i, i < 17 → w.cell? ⟨0, i, none⟩ = some (.string (fstr i))) (lt : 0 < w.heap.size)
theorem KTab.below {w w1 : World} (h : KTab w) (hb : Below w.heap.size w w1) : KTab w1 :=
  ⟨fun i hi => (hb.cell (p := ⟨0, i, none⟩) h.lt).trans (h.cell i hi), Nat.lt_of_lt_of_le h.lt hb.size⟩
set_option maxRecDepth 100000 in
set_option maxHeartbeats 16000000 in
theorem proper_any (a : M) (w : World) (hK : KTab w) (hsz : a.key.size ≤ 9223372036854775807 ∧ a.value.size ≤ 9223372036854775807) : Calls Tryd.prog 23 #[.agg (mL a).toArray] w fun e w' => e = .returned (.agg (mL (properM a)).toArray) ∧ Below w.heap.size w w' := by
  obtain ⟨k1, k2, k3⟩ := kP_range a
  have hrg := clip_range a.kind 15 (by decide)
  have hlit : (.agg #[.int .i64 (kP a : Nat), .int .i64 (clip a.from_ 65535), .int .i64 (clip a.to_ 65535), .int .i64 (clip a.id 9007199254740992), .int .i64 0, .int .i64 0, .int .i64 0, .int .i64 0, .int .i64 0, .string { data := #[] }, .string { data := #[] }] : Value) = .agg (mL (mP a)).toArray := rfl
  have hp0 : properM a = PSt a (fieldsOf (kP a)) (fieldsOf (kP a)).length := rfl
  have hnx := PSt_next a (fieldsOf (kP a))
  have hz0 : PSt a (fieldsOf (kP a)) 0 = mP a := rfl
  rw [hp0]
  generalize hkk : kP a = kk at k1 k2 k3 hlit hnx hz0 ⊢
  have HKK := Lib.hid hkk
  have KK := fun (w : World) => Lib.hid (clipped_any a.kind 15 w (by decide) (by decide))
  have hw0 : 1 + clip a.kind 15 = (kk : Int) := by omega
  clear k3
  generalize clip a.kind 15 = ck at KK hw0 hrg
  have K1 := fun (w : World) => Lib.hid (clipped_any a.from_ 65535 w (by decide) (by decide))
  have K2 := fun (w : World) => Lib.hid (clipped_any a.to_ 65535 w (by decide) (by decide))
  have K3 := fun (w : World) => Lib.hid (clipped_any a.id 9007199254740992 w (by decide) (by decide))
  have HLIT := Lib.hid hlit
  have hb2 : Below w.heap.size w ((w.alloc (.cells (mL a).toArray 24)).alloc (.cells (mL zeroM).toArray 24)) := ((Below.refl w.heap.size w).alloc (Nat.le_refl _) _).alloc (by simp) _
  have HMA : Aside0 (MBox ((w.alloc (.cells (mL a).toArray 24)).alloc (.cells (mL zeroM).toArray 24)) w.heap.size a) := ⟨(⟨Go.heap_alloc_new w _, by simp⟩ : MBox (w.alloc (.cells (mL a).toArray 24)) w.heap.size a).below ((Below.refl (w.heap.size + 1) (w.alloc (.cells (mL a).toArray 24))).alloc (by simp) _) (by omega)⟩
  have HMR : Aside0 (MBox ((w.alloc (.cells (mL a).toArray 24)).alloc (.cells (mL zeroM).toArray 24)) (w.heap.size + 1) zeroM) := ⟨by
    have := Go.heap_alloc_new (w.alloc (.cells (mL a).toArray 24)) (.cells (mL zeroM).toArray 24)
    exact ⟨by simpa using this, by simp⟩⟩
  have HB0 := Aside0.mk hb2
  have hT := hK.below hb2
  have hwz : (w.alloc (.cells (mL a).toArray 24)).alloc (.cells #[.int .i64 0, .int .i64 0, .int .i64 0, .int .i64 0, .int .i64 0, .int .i64 0, .int .i64 0, .int .i64 0, .int .i64 0, .string { data := #[] }, .string { data := #[] }] 24) = (w.alloc (.cells (mL a).toArray 24)).alloc (.cells (mL zeroM).toArray 24) := rfl
  generalize (w.alloc (.cells (mL a).toArray 24)).alloc (.cells (mL zeroM).toArray 24) = wz at hwz HB0 HMA HMR hT
  have hct := hT.cell kk k2
  have hgl := hT.lt
  have hlt := HMA.out.lt
  have hc0 : wz.cell? ⟨w.heap.size, 0, none⟩ = some (.int .i64 a.kind) := HMA.out.c 0
  have hc1 : wz.cell? ⟨w.heap.size, 1, none⟩ = some (.int .i64 a.from_) := HMA.out.c 1
  have hc2 : wz.cell? ⟨w.heap.size, 2, none⟩ = some (.int .i64 a.to_) := HMA.out.c 2
  have hc3 : wz.cell? ⟨w.heap.size, 3, none⟩ = some (.int .i64 a.id) := HMA.out.c 3
  have hfs := fstr_size kk
  have hfa := fun j n hn h => fstr_at kk j n k2 hn h
  have HI := Aside0.mk (fun j n => fields_lt kk k2 j n)
  have h6 := fields_len kk k2
  have HNX := Aside0.mk hnx
  have HZ0 := Lib.hid hz0
  clear hK hb2 hT hlit hp0 hnx hz0 hkk
  go_enter Tryd.func23, Tryd.ntmps23
  go_wp2_with fail
  refine (KK _).out.mono ?_
  rintro e w1 ⟨rfl, ⟨⟨nk, rfl⟩⟩⟩
  have hc0' := hc0
  go_upto_region 2 with fail
  try rw [hw0]
  clear hc0 hc0' KK
  go_cut [4] (fun v wx => ∃ g : Nat, v = .pointer (some ⟨g, 0, none⟩) ∧ Aside0 (wz.heap.size ≤ g) ∧ Aside0 (MBox wx g (mP a)) ∧ Aside0 (Below wz.heap.size wz wx))
  case first =>
    refine Reg.wp_region_rel _ (by kernel_rfl) _ _ _ rfl (by kernel_rfl) (fun w' => Below wz.heap.size wz w') (fun i w w' => match i with | 12 => w.heap.size ≤ w'.heap.size ∧ ∀ (g : Nat) (cs : List Value), w.heap[g]? = some (.cells cs.toArray 24 (0, 0)) → ∃ cs1 : List Value, cs1.length = cs.length ∧ w'.heap[g]? = some (.cells cs1.toArray 24 (0, 0)) | _ => Below w.heap.size w w') (fun j vs w' => match j with
      | 0 => vs 0 = .int .i64 (kk : Nat)
      | 1 => vs 1 = .pointer (some ⟨w.heap.size, 1, none⟩)
      | 2 => vs 2 = .int .i64 a.from_
      | 3 => vs 3 = .int .i64 (clip a.from_ 65535)
      | 4 => vs 4 = .pointer (some ⟨w.heap.size, 2, none⟩)
      | 5 => vs 5 = .int .i64 a.to_
      | 6 => vs 6 = .int .i64 (clip a.to_ 65535)
      | 7 => vs 7 = .pointer (some ⟨w.heap.size, 3, none⟩)
      | 8 => vs 8 = .int .i64 a.id
      | 9 => vs 9 = .int .i64 (clip a.id 9007199254740992)
      | 10 => vs 10 = .agg #[.int .i64 (kk : Nat), .int .i64 (clip a.from_ 65535), .int .i64 (clip a.to_ 65535), .int .i64 (clip a.id 9007199254740992), .int .i64 0, .int .i64 0, .int .i64 0, .int .i64 0, .int .i64 0, .string { data := #[] }, .string { data := #[] }]
      | 11 => ∃ (g : Nat) (cs : List Value), (vs 11) = .pointer (some ⟨g, 0, none⟩) ∧ wz.heap.size ≤ g ∧ cs.length = 11 ∧ w'.heap[g]? = some (.cells cs.toArray 24 (0, 0))
      | 12 => ∃ g : Nat, vs 11 = .pointer (some ⟨g, 0, none⟩) ∧ wz.heap.size ≤ g ∧ w'.heap[g]? = some (.cells (mL (mP a)).toArray 24 (0, 0)) ∧ g < w'.heap.size
      | _ => True) (below_drew (pw_below_drewN (Below.refl _ _) nk)) ?_ ?_ ?_ ?_
    · intro i j vs w0 w' hij hI hR hb
      rcases j with _ | j
      · exact hR
      rcases j with _ | j
      · exact hR
      rcases j with _ | j
      · exact hR
      rcases j with _ | j
      · exact hR
      rcases j with _ | j
      · exact hR
      rcases j with _ | j
      · exact hR
      rcases j with _ | j
      · exact hR
      rcases j with _ | j
      · exact hR
      rcases j with _ | j
      · exact hR
      rcases j with _ | j
      · exact hR
      rcases j with _ | j
      · exact hR
      rcases j with _ | j
      · obtain ⟨g, cs, hv, hg, hl, hblk⟩ := hR
        by_cases e : i = 12
        · subst e
          obtain ⟨_, h2⟩ := hb
          obtain ⟨cs1, h3, h4⟩ := h2 g cs hblk
          exact ⟨g, cs1, hv, hg, h3.trans hl, h4⟩
        · have hb2 : Below w0.heap.size w0 w' := by
            match i, e, hb with
            | 0, _, hb | 1, _, hb | 2, _, hb | 3, _, hb | 4, _, hb | 5, _, hb | 6, _, hb | 7, _, hb | 8, _, hb | 9, _, hb | 10, _, hb | 11, _, hb => exact hb
            | n + 13, _, hb => exact hb
          exact ⟨g, cs, hv, hg, hl, (hb2.block g (blk_lt hblk)).trans hblk⟩
      rcases j with _ | j
      · obtain ⟨g, hv, hg, hblk, hlt⟩ := hR
        have hb2 : Below w0.heap.size w0 w' := by
          match i, hij, hb with
          | 0, _, hb | 1, _, hb | 2, _, hb | 3, _, hb | 4, _, hb | 5, _, hb | 6, _, hb | 7, _, hb | 8, _, hb | 9, _, hb | 10, _, hb | 11, _, hb => exact hb
          | 12, hij, _ => exact absurd rfl hij
          | n + 13, _, hb => exact hb
        exact ⟨g, hv, hg, (hb2.block g hlt).trans hblk, Nat.lt_of_lt_of_le hlt hb2.size⟩
      exact trivial
    · intro j o vs vs1 w0 ho he hp hR
      rcases j with _ | j
      · exact he.trans hR
      rcases j with _ | j
      · exact he.trans hR
      rcases j with _ | j
      · exact he.trans hR
      rcases j with _ | j
      · exact he.trans hR
      rcases j with _ | j
      · exact he.trans hR
      rcases j with _ | j
      · exact he.trans hR
      rcases j with _ | j
      · exact he.trans hR
      rcases j with _ | j
      · exact he.trans hR
      rcases j with _ | j
      · exact he.trans hR
      rcases j with _ | j
      · exact he.trans hR
      rcases j with _ | j
      · exact he.trans hR
      rcases j with _ | j
      · show ∃ (g : Nat) (cs : List Value), (vs1 11) = .pointer (some ⟨g, 0, none⟩) ∧ wz.heap.size ≤ g ∧ cs.length = 11 ∧ w0.heap[g]? = some (.cells cs.toArray 24 (0, 0))
        rw [he]; exact hR
      rcases j with _ | j
      · obtain ⟨g, hv, hg, hblk⟩ := hR
        obtain rfl := Option.some.inj ho
        exact ⟨g, (hp 11 rfl).trans hv, hg, hblk⟩
      exact trivial
    · skip
      refine Reg.allOps_cons ?_ ?_
      · intro vs w0 ρ hρ hcst hglb hfun hI hp
        have e3 : ρ (.tmp 3) = .int .i64 (kk : Nat) := hρ (.tmp 3)
        clear hρ hp
        refine Reg.rel_value (.int .i64 (kk : Nat)) ?_ ⟨hI, rfl⟩
        go_simp
      refine Reg.allOps_cons ?_ ?_
      · intro vs w0 ρ hρ hcst hglb hfun hI hp
        have e1 : ρ (.tmp 1) = .pointer (some ⟨w.heap.size, 0, none⟩) := hρ (.tmp 1)
        clear hρ hp
        refine Reg.rel_value (.pointer (some ⟨w.heap.size, 1, none⟩)) ?_ ⟨hI, rfl⟩
        go_simp
      refine Reg.allOps_cons ?_ ?_
      · intro vs w0 ρ hρ hcst hglb hfun hI hp
        have e12 : ρ (.tmp 12) = .pointer (some ⟨w.heap.size, 1, none⟩) := (hρ (.tmp 12)).trans (show vs 1 = .pointer (some ⟨w.heap.size, 1, none⟩) from hp 1 rfl)
        clear hρ hp
        have hl := (hI.cell (p := ⟨w.heap.size, 1, none⟩) hlt).trans hc1
        refine Reg.rel_value (.int .i64 a.from_) ?_ ⟨hI, rfl⟩
        go_simp
      refine Reg.allOps_cons ?_ ?_
      · intro vs w0 ρ hρ hcst hglb hfun hI hp
        have e13 : ρ (.tmp 13) = .int .i64 a.from_ := (hρ (.tmp 13)).trans (show vs 2 = .int .i64 a.from_ from hp 2 rfl)
        clear hρ hp
        refine Reg.rel_call Tryd.func25 (by kernel_rfl) rfl #[.int .i64 a.from_, .int .i64 65535] rfl (hfun _) (by simp [e13, hcst]) ?_
        refine (K1 w0).out.mono ?_
        rintro e w3 ⟨rfl, ⟨⟨n3, rfl⟩⟩⟩
        exact ⟨_, rfl, pw_below_drewN (Below.refl _ _) n3, pw_below_drewN hI n3, rfl⟩
      refine Reg.allOps_cons ?_ ?_
      · intro vs w0 ρ hρ hcst hglb hfun hI hp
        have e1 : ρ (.tmp 1) = .pointer (some ⟨w.heap.size, 0, none⟩) := hρ (.tmp 1)
        clear hρ hp
        refine Reg.rel_value (.pointer (some ⟨w.heap.size, 2, none⟩)) ?_ ⟨hI, rfl⟩
        go_simp
      refine Reg.allOps_cons ?_ ?_
      · intro vs w0 ρ hρ hcst hglb hfun hI hp
        have e15 : ρ (.tmp 15) = .pointer (some ⟨w.heap.size, 2, none⟩) := (hρ (.tmp 15)).trans (show vs 4 = .pointer (some ⟨w.heap.size, 2, none⟩) from hp 4 rfl)
        clear hρ hp
        have hl := (hI.cell (p := ⟨w.heap.size, 2, none⟩) hlt).trans hc2
        refine Reg.rel_value (.int .i64 a.to_) ?_ ⟨hI, rfl⟩
        go_simp
      refine Reg.allOps_cons ?_ ?_
      · intro vs w0 ρ hρ hcst hglb hfun hI hp
        have e16 : ρ (.tmp 16) = .int .i64 a.to_ := (hρ (.tmp 16)).trans (show vs 5 = .int .i64 a.to_ from hp 5 rfl)
        clear hρ hp
        refine Reg.rel_call Tryd.func25 (by kernel_rfl) rfl #[.int .i64 a.to_, .int .i64 65535] rfl (hfun _) (by simp [e16, hcst]) ?_
        refine (K2 w0).out.mono ?_
        rintro e w3 ⟨rfl, ⟨⟨n3, rfl⟩⟩⟩
        exact ⟨_, rfl, pw_below_drewN (Below.refl _ _) n3, pw_below_drewN hI n3, rfl⟩
      refine Reg.allOps_cons ?_ ?_
      · intro vs w0 ρ hρ hcst hglb hfun hI hp
        have e1 : ρ (.tmp 1) = .pointer (some ⟨w.heap.size, 0, none⟩) := hρ (.tmp 1)
        clear hρ hp
        refine Reg.rel_value (.pointer (some ⟨w.heap.size, 3, none⟩)) ?_ ⟨hI, rfl⟩
        go_simp
      refine Reg.allOps_cons ?_ ?_
      · intro vs w0 ρ hρ hcst hglb hfun hI hp
        have e18 : ρ (.tmp 18) = .pointer (some ⟨w.heap.size, 3, none⟩) := (hρ (.tmp 18)).trans (show vs 7 = .pointer (some ⟨w.heap.size, 3, none⟩) from hp 7 rfl)
        clear hρ hp
        have hl := (hI.cell (p := ⟨w.heap.size, 3, none⟩) hlt).trans hc3
        refine Reg.rel_value (.int .i64 a.id) ?_ ⟨hI, rfl⟩
        go_simp
      refine Reg.allOps_cons ?_ ?_
      · intro vs w0 ρ hρ hcst hglb hfun hI hp
        have e19 : ρ (.tmp 19) = .int .i64 a.id := (hρ (.tmp 19)).trans (show vs 8 = .int .i64 a.id from hp 8 rfl)
        clear hρ hp
        refine Reg.rel_call Tryd.func25 (by kernel_rfl) rfl #[.int .i64 a.id, .int .i64 9007199254740992] rfl (hfun _) (by simp [e19, hcst]) ?_
        refine (K3 w0).out.mono ?_
        rintro e w3 ⟨rfl, ⟨⟨n3, rfl⟩⟩⟩
        exact ⟨_, rfl, pw_below_drewN (Below.refl _ _) n3, pw_below_drewN hI n3, rfl⟩
      refine Reg.allOps_cons ?_ ?_
      · intro vs w0 ρ hρ hcst hglb hfun hI hp
        have e11 : ρ (.tmp 11) = .int .i64 (kk : Nat) := (hρ (.tmp 11)).trans (show vs 0 = .int .i64 (kk : Nat) from hp 0 rfl)
        have e14 : ρ (.tmp 14) = .int .i64 (clip a.from_ 65535) := (hρ (.tmp 14)).trans (show vs 3 = .int .i64 (clip a.from_ 65535) from hp 3 rfl)
        have e17 : ρ (.tmp 17) = .int .i64 (clip a.to_ 65535) := (hρ (.tmp 17)).trans (show vs 6 = .int .i64 (clip a.to_ 65535) from hp 6 rfl)
        have e20 : ρ (.tmp 20) = .int .i64 (clip a.id 9007199254740992) := (hρ (.tmp 20)).trans (show vs 9 = .int .i64 (clip a.id 9007199254740992) from hp 9 rfl)
        clear hρ hp
        refine Reg.rel_value (.agg #[.int .i64 (kk : Nat), .int .i64 (clip a.from_ 65535), .int .i64 (clip a.to_ 65535), .int .i64 (clip a.id 9007199254740992), .int .i64 0, .int .i64 0, .int .i64 0, .int .i64 0, .int .i64 0, .string { data := #[] }, .string { data := #[] }]) ?_ ⟨hI, rfl⟩
        go_simp
      refine Reg.allOps_cons ?_ ?_
      · intro vs w0 ρ hρ hcst hglb hfun hI hp
        clear hρ hp
        refine Reg.rel_made (.pointer (some ⟨w0.heap.size, 0, none⟩)) (w' := w0.alloc (.cells (mL zeroM).toArray 24)) ?_ ((Below.refl _ _).alloc (Nat.le_refl _) _) ⟨hI.alloc hI.size _, ⟨w0.heap.size, mL zeroM, rfl, hI.size, rfl, heap_alloc_new w0 _⟩⟩
        go_simp
        rfl
      refine Reg.allOps_cons ?_ ?_
      · intro vs w0 ρ hρ hcst hglb hfun hI hp
        have r11 : ∃ (g : Nat) (cs : List Value), (vs 11) = .pointer (some ⟨g, 0, none⟩) ∧ wz.heap.size ≤ g ∧ cs.length = 11 ∧ w0.heap[g]? = some (.cells cs.toArray 24 (0, 0)) := hp 11 rfl
        have e4 : ρ (.tmp 4) = vs 11 := hρ (.tmp 4)
        obtain ⟨g, cs, hv, hg, hl, hblk⟩ := r11
        have e21 : ρ (.tmp 21) = .agg #[.int .i64 (kk : Nat), .int .i64 (clip a.from_ 65535), .int .i64 (clip a.to_ 65535), .int .i64 (clip a.id 9007199254740992), .int .i64 0, .int .i64 0, .int .i64 0, .int .i64 0, .int .i64 0, .string { data := #[] }, .string { data := #[] }] := (hρ (.tmp 21)).trans (show vs 10 = .agg #[.int .i64 (kk : Nat), .int .i64 (clip a.from_ 65535), .int .i64 (clip a.to_ 65535), .int .i64 (clip a.id 9007199254740992), .int .i64 0, .int .i64 0, .int .i64 0, .int .i64 0, .int .i64 0, .string { data := #[] }, .string { data := #[] }] from hp 10 rfl)
        clear hρ hp
        have hth := blk_there hblk
        rw [hl] at hth
        refine Reg.rel_skip (w' := w0.setCells g 0 (mL (mP a))) ?_ ⟨by rw [setCells_size]; exact Nat.le_refl _, fun g2 cs2 h2 => ?_⟩ ⟨below_setCells hI hg _ _, ⟨g, hv, hg, setCells_whole hblk hl, by rw [setCells_size]; exact blk_lt hblk⟩⟩
        · have hrun := run_storeAt_mid (P := Tryd.prog) w0 g 0 24 (mL (mP a)).toArray hth infoM (mL_one _)
          have e21b : ρ (.tmp 21) = .agg (mL (mP a)).toArray := e21.trans HLIT.out
          clear e21
          rw [hv] at e4
          unfold execOp
          simp only [e4, e21b, Sem.run_bind, hrun, Result.andThen_ok, Sem.run_pure]
        · by_cases e : g2 = g
          · subst e
            rw [hblk] at h2
            simp only [Option.some.injEq, Obj.cells.injEq, and_true, Array.mk.injEq] at h2
            obtain ⟨rfl, _⟩ := h2
            exact ⟨(mL (mP a)), hl.symm, setCells_whole hblk hl⟩
          · exact ⟨cs2, rfl, (setCells_other g e _ _ _).trans h2⟩
      exact Reg.allOps_nil
    intro vs w0 hI hR
    have r0 : vs 0 = .int .i64 (kk : Nat) := hR 0 (by decide)
    have r1 : vs 1 = .pointer (some ⟨w.heap.size, 1, none⟩) := hR 1 (by decide)
    have r2 : vs 2 = .int .i64 a.from_ := hR 2 (by decide)
    have r3 : vs 3 = .int .i64 (clip a.from_ 65535) := hR 3 (by decide)
    have r4 : vs 4 = .pointer (some ⟨w.heap.size, 2, none⟩) := hR 4 (by decide)
    have r5 : vs 5 = .int .i64 a.to_ := hR 5 (by decide)
    have r6 : vs 6 = .int .i64 (clip a.to_ 65535) := hR 6 (by decide)
    have r7 : vs 7 = .pointer (some ⟨w.heap.size, 3, none⟩) := hR 7 (by decide)
    have r8 : vs 8 = .int .i64 a.id := hR 8 (by decide)
    have r9 : vs 9 = .int .i64 (clip a.id 9007199254740992) := hR 9 (by decide)
    have r10 : vs 10 = .agg #[.int .i64 (kk : Nat), .int .i64 (clip a.from_ 65535), .int .i64 (clip a.to_ 65535), .int .i64 (clip a.id 9007199254740992), .int .i64 0, .int .i64 0, .int .i64 0, .int .i64 0, .int .i64 0, .string { data := #[] }, .string { data := #[] }] := hR 10 (by decide)
    obtain ⟨g, hv11, hg, hblk, hltg⟩ : ∃ g : Nat, vs 11 = .pointer (some ⟨g, 0, none⟩) ∧ wz.heap.size ≤ g ∧ w0.heap[g]? = some (.cells (mL (mP a)).toArray 24 (0, 0)) ∧ g < w0.heap.size := hR 12 (by decide)
    simp only [Reg.fillFrom, Act.put, List.setIfInBounds_toArray, List.set_cons_zero, List.set_cons_succ, r0, r1, r2, r3, r4, r5, r6, r7, r8, r9, r10]
    clear hR r0 r1 r2 r3 r4 r5 r6 r7 r8 r9 r10
    rw [hv11]
    go_wp2_with fail
    go_meet
    exact ⟨g, rfl, ⟨hg⟩, ⟨⟨hblk, hltg⟩⟩, ⟨hI⟩⟩
  case rest =>
    obtain ⟨g, rfl, HG, HM, HB⟩ := hcut
    have hB := HB.out
    have hct2 := (hB.cell (p := ⟨0, kk, none⟩) hgl).trans hct
    have hkx : (kk : Int) < 17 := by omega
    have HLT := Aside0.mk hlt
    clear hB hct hgl K1 K2 K3 hc1 hc2 hc3 HLIT hwz hlt
    generalize fstr kk = S at hct2 hfs hfa
    generalize hfe : fieldsOf kk = fs at hfs hfa HI h6 HNX HZ0 ⊢
    have HFE := Lib.hid hfe
    have HS := Aside0.mk hfs
    have HA := Aside0.mk hfa
    have h6' : S.size ≤ 6 := by omega
    have HBW := HB
    rw [← HZ0.out] at HM
    clear hfs hfa h6 HB hfe
    go_wp2
    clear hct2
    go_loopw [6] (fun iv wr => ∃ j : Nat, j ≤ S.size ∧ iv = .int .i64 (j : Int) ∧ Aside0 (MBox wr g (PSt a fs j)) ∧ Aside0 (Below wz.heap.size wz wr)) (fun iv _ => 7 - (intOf iv).toNat)
    case atStart => exact ⟨0, Nat.zero_le _, rfl, HM, HBW⟩
    case round =>
      clear HM HBW
      obtain ⟨j, hj, rfl, HM, HBW⟩ := hrel
      obtain ⟨wo, rfl⟩ : ∃ wo : World, wo = wr := ⟨_, rfl⟩
      by_cases hlt : j < S.size
      · obtain ⟨n, hn⟩ : ∃ n, fs[j]? = some n := ⟨_, List.getElem?_eq_getElem (by rw [← HS.out]; exact hlt)⟩
        have ha := HA.out j n hn hlt
        have hn7 := HI.out j n hn
        have HJ := Lib.hid (HNX.out j n hn)
        have HMO := HMA.out.below HBW.out HLT.out
        generalize PSt a fs j = mj at HM HJ
        clear hn
        have e : n = 0 ∨ n = 1 ∨ n = 2 ∨ n = 3 ∨ n = 4 ∨ n = 5 ∨ n = 6 := by omega
        rcases e with e | e | e | e | e | e | e <;> subst e
        · have ha' : (S[j]'hlt).toNat = 69 := ha
          have hs : wo.cell? ⟨w.heap.size, 4, none⟩ = some (.int .i64 a.epoch) := HMO.c 4
          have hc : wo.cell? ⟨g, 4, none⟩ = some (.int .i64 mj.epoch) := HM.out.c 4
          have hfr : wo.frozen? ⟨g, 4, none⟩ = false := blk_frozen HM.out.row 4
          have KC := fun (w : World) => Lib.hid (clipped_any a.epoch 9007199254740992 w (by decide) (by decide))
          have hst : PSt a fs (j + 1) = setNum mj 0 (clip a.epoch 9007199254740992) := by rw [HJ.out]; rfl
          have HST := Lib.hid hst
          clear ha HMO hst HJ
          go_wp2_with fail
          refine (KC _).out.mono ?_
          rintro e w2 ⟨rfl, ⟨⟨n2, rfl⟩⟩⟩
          go_wp2
          have hB2 : Below wz.heap.size wz (wo.setCell ⟨g, 4, none⟩ (.int .i64 (clip a.epoch 9007199254740992))) := HBW.out.setCell HG.out _
          have hM2 := mbox_num HM.out 0 (by decide) (clip a.epoch 9007199254740992)
          go_roundw
          case rel => exact ⟨j + 1, by omega, by go_num, ⟨by rw [HST.out]; exact ⟨hM2.row, hM2.lt⟩⟩, ⟨hB2.os, hB2.tape, hB2.output, hB2.size, hB2.block⟩⟩
          case measure => simp [intOf]; omega
        · have ha' : (S[j]'hlt).toNat = 83 := ha
          have hs : wo.cell? ⟨w.heap.size, 5, none⟩ = some (.int .i64 a.seq) := HMO.c 5
          have hc : wo.cell? ⟨g, 5, none⟩ = some (.int .i64 mj.seq) := HM.out.c 5
          have hfr : wo.frozen? ⟨g, 5, none⟩ = false := blk_frozen HM.out.row 5
          have KC := fun (w : World) => Lib.hid (clipped_any a.seq 9007199254740992 w (by decide) (by decide))
          have hst : PSt a fs (j + 1) = setNum mj 1 (clip a.seq 9007199254740992) := by rw [HJ.out]; rfl
          have HST := Lib.hid hst
          clear ha HMO hst HJ
          go_wp2_with fail
          refine (KC _).out.mono ?_
          rintro e w2 ⟨rfl, ⟨⟨n2, rfl⟩⟩⟩
          go_wp2
          have hB2 : Below wz.heap.size wz (wo.setCell ⟨g, 5, none⟩ (.int .i64 (clip a.seq 9007199254740992))) := HBW.out.setCell HG.out _
          have hM2 := mbox_num HM.out 1 (by decide) (clip a.seq 9007199254740992)
          go_roundw
          case rel => exact ⟨j + 1, by omega, by go_num, ⟨by rw [HST.out]; exact ⟨hM2.row, hM2.lt⟩⟩, ⟨hB2.os, hB2.tape, hB2.output, hB2.size, hB2.block⟩⟩
          case measure => simp [intOf]; omega
        · have ha' : (S[j]'hlt).toNat = 86 := ha
          have hs : wo.cell? ⟨w.heap.size, 6, none⟩ = some (.int .i64 a.version) := HMO.c 6
          have hc : wo.cell? ⟨g, 6, none⟩ = some (.int .i64 mj.version) := HM.out.c 6
          have hfr : wo.frozen? ⟨g, 6, none⟩ = false := blk_frozen HM.out.row 6
          have KC := fun (w : World) => Lib.hid (clipped_any a.version 9007199254740992 w (by decide) (by decide))
          have hst : PSt a fs (j + 1) = setNum mj 2 (clip a.version 9007199254740992) := by rw [HJ.out]; rfl
          have HST := Lib.hid hst
          clear ha HMO hst HJ
          go_wp2_with fail
          refine (KC _).out.mono ?_
          rintro e w2 ⟨rfl, ⟨⟨n2, rfl⟩⟩⟩
          go_wp2
          have hB2 : Below wz.heap.size wz (wo.setCell ⟨g, 6, none⟩ (.int .i64 (clip a.version 9007199254740992))) := HBW.out.setCell HG.out _
          have hM2 := mbox_num HM.out 2 (by decide) (clip a.version 9007199254740992)
          go_roundw
          case rel => exact ⟨j + 1, by omega, by go_num, ⟨by rw [HST.out]; exact ⟨hM2.row, hM2.lt⟩⟩, ⟨hB2.os, hB2.tape, hB2.output, hB2.size, hB2.block⟩⟩
          case measure => simp [intOf]; omega
        · have ha' : (S[j]'hlt).toNat = 80 := ha
          have hs : wo.cell? ⟨w.heap.size, 7, none⟩ = some (.int .i64 a.prev) := HMO.c 7
          have hc : wo.cell? ⟨g, 7, none⟩ = some (.int .i64 mj.prev) := HM.out.c 7
          have hfr : wo.frozen? ⟨g, 7, none⟩ = false := blk_frozen HM.out.row 7
          have KC := fun (w : World) => Lib.hid (clipped_any a.prev 9007199254740992 w (by decide) (by decide))
          have hst : PSt a fs (j + 1) = setNum mj 3 (clip a.prev 9007199254740992) := by rw [HJ.out]; rfl
          have HST := Lib.hid hst
          clear ha HMO hst HJ
          go_wp2_with fail
          refine (KC _).out.mono ?_
          rintro e w2 ⟨rfl, ⟨⟨n2, rfl⟩⟩⟩
          go_wp2
          have hB2 : Below wz.heap.size wz (wo.setCell ⟨g, 7, none⟩ (.int .i64 (clip a.prev 9007199254740992))) := HBW.out.setCell HG.out _
          have hM2 := mbox_num HM.out 3 (by decide) (clip a.prev 9007199254740992)
          go_roundw
          case rel => exact ⟨j + 1, by omega, by go_num, ⟨by rw [HST.out]; exact ⟨hM2.row, hM2.lt⟩⟩, ⟨hB2.os, hB2.tape, hB2.output, hB2.size, hB2.block⟩⟩
          case measure => simp [intOf]; omega
        · have ha' : (S[j]'hlt).toNat = 67 := ha
          have hs : wo.cell? ⟨w.heap.size, 8, none⟩ = some (.int .i64 a.code) := HMO.c 8
          have hc : wo.cell? ⟨g, 8, none⟩ = some (.int .i64 mj.code) := HM.out.c 8
          have hfr : wo.frozen? ⟨g, 8, none⟩ = false := blk_frozen HM.out.row 8
          have KC := fun (w : World) => Lib.hid (clipped_any a.code 65535 w (by decide) (by decide))
          have hst : PSt a fs (j + 1) = setNum mj 4 (clip a.code 65535) := by rw [HJ.out]; rfl
          have HST := Lib.hid hst
          clear ha HMO hst HJ
          go_wp2_with fail
          refine (KC _).out.mono ?_
          rintro e w2 ⟨rfl, ⟨⟨n2, rfl⟩⟩⟩
          go_wp2
          have hB2 : Below wz.heap.size wz (wo.setCell ⟨g, 8, none⟩ (.int .i64 (clip a.code 65535))) := HBW.out.setCell HG.out _
          have hM2 := mbox_num HM.out 4 (by decide) (clip a.code 65535)
          go_roundw
          case rel => exact ⟨j + 1, by omega, by go_num, ⟨by rw [HST.out]; exact ⟨hM2.row, hM2.lt⟩⟩, ⟨hB2.os, hB2.tape, hB2.output, hB2.size, hB2.block⟩⟩
          case measure => simp [intOf]; omega
        · have ha' : (S[j]'hlt).toNat = 75 := ha
          have hs : wo.cell? ⟨w.heap.size, 9, none⟩ = some (.string a.key) := HMO.c 9
          have hc : wo.cell? ⟨g, 9, none⟩ = some (.string mj.key) := HM.out.c 9
          have hfr : wo.frozen? ⟨g, 9, none⟩ = false := blk_frozen HM.out.row 9
          have KC := fun (w : World) => Lib.hid (show Calls Tryd.prog 52 #[.string a.key, .int .i64 255] w _ from cut_any a.key 255 w)
          have hst : PSt a fs (j + 1) = setText mj 5 (cutS a.key 255) := by rw [HJ.out]; rfl
          have HST := Lib.hid hst
          clear ha HMO hst HJ
          go_wp2_with fail
          refine (KC _).out.mono ?_
          rintro e w2 ⟨rfl, ⟨⟨n2, rfl⟩⟩⟩
          go_wp2
          have hB2 : Below wz.heap.size wz (wo.setCell ⟨g, 9, none⟩ (.string (cutS a.key 255))) := HBW.out.setCell HG.out _
          have hM2 := mbox_text HM.out 5 (by decide) (cutS a.key 255)
          go_roundw
          case rel => exact ⟨j + 1, by omega, by go_num, ⟨by rw [HST.out]; exact ⟨hM2.row, hM2.lt⟩⟩, ⟨hB2.os, hB2.tape, hB2.output, hB2.size, hB2.block⟩⟩
          case measure => simp [intOf]; omega
        · have ha' : (S[j]'hlt).toNat = 87 := ha
          have hs : wo.cell? ⟨w.heap.size, 10, none⟩ = some (.string a.value) := HMO.c 10
          have hc : wo.cell? ⟨g, 10, none⟩ = some (.string mj.value) := HM.out.c 10
          have hfr : wo.frozen? ⟨g, 10, none⟩ = false := blk_frozen HM.out.row 10
          have KC := fun (w : World) => Lib.hid (show Calls Tryd.prog 52 #[.string a.value, .int .i64 4096] w _ from cut_any a.value 4096 w)
          have hst : PSt a fs (j + 1) = setText mj 6 (cutS a.value 4096) := by rw [HJ.out]; rfl
          have HST := Lib.hid hst
          clear ha HMO hst HJ
          go_wp2_with fail
          refine (KC _).out.mono ?_
          rintro e w2 ⟨rfl, ⟨⟨n2, rfl⟩⟩⟩
          go_wp2
          have hB2 : Below wz.heap.size wz (wo.setCell ⟨g, 10, none⟩ (.string (cutS a.value 4096))) := HBW.out.setCell HG.out _
          have hM2 := mbox_text HM.out 6 (by decide) (cutS a.value 4096)
          go_roundw
          case rel => exact ⟨j + 1, by omega, by go_num, ⟨by rw [HST.out]; exact ⟨hM2.row, hM2.lt⟩⟩, ⟨hB2.os, hB2.tape, hB2.output, hB2.size, hB2.block⟩⟩
          case measure => simp [intOf]; omega
      · obtain rfl : j = S.size := by omega
        rw [HS.out] at HM
        have hrg2 := blk_range HM.out.row
        have HRS := HMR.out.below HBW.out HMR.out.lt
        have hth := blk_there HRS.row
        have HBF := Aside0.mk (HB0.out.trans (HBW.out.mono HB0.out.size))
        have HRW := Aside0.mk HRS
        generalize hmf : PSt a fs fs.length = mf at HM hrg2
        have HMF := Lib.hid hmf
        clear HRS hmf
        go_wp2_with (first | ((with_reducible refine gate_load (ty := 24) (x := .tmp 4) rfl ?_); refine wpList_load_mid rfl 24 (.tmp 4) rfl g 0 rfl (mL mf) _ hrg2 Tryd.underlying24 rfl infoM ?_) | ((with_reducible refine gate_store (ty := 24) (x := .tmp 2) (y := .tmp 76) rfl ?_); refine wpList_store_mid rfl 24 (.tmp 2) (.tmp 76) rfl (w.heap.size + 1) 0 (mL mf).toArray rfl rfl hth infoM (mL_one mf) ?_))
        refine bodyPost_ret (v := .agg (mL mf).toArray) ?_ rfl ⟨by rw [HFE.out, HMF.out], below_setCells HBF.out (by omega) _ _⟩
        exact results_c_mid rfl _ _ (w.heap.size + 1) 0 (mL mf) _ rfl (blk_range (setCells_whole HRW.out.row rfl)) Tryd.underlying24 rfl infoM
end Go.Proofs.YtnifgokjagahfaaDoor.Proper
