/- The document's Encode. -/
import Derived.Test.YtnifgokjagahfaaDoorRefBody
import Derived.Test.YtnifgokjagahfaaDoorMids
import Derived.Test.YtnifgokjagahfaaDoorReg
set_option linter.unusedVariables false
set_option linter.unusedSimpArgs false
namespace Go.Proofs.YtnifgokjagahfaaDoor.RefF
open Go.RowKit Go.Proofs.YtnifgokjagahfaaDoorW.PrintWords Go.Proofs.YtnifgokjagahfaaDoorW.PrintLast Go.Proofs.YtnifgokjagahfaaDoorW.PrintMore
open Go.Proofs.YtnifgokjagahfaaDoor.Base Go.Proofs.YtnifgokjagahfaaDoor.App Go.Proofs.YtnifgokjagahfaaDoor.Layouts Go.Proofs.YtnifgokjagahfaaDoor.Msg Go.Proofs.YtnifgokjagahfaaDoor.Put Go.Proofs.YtnifgokjagahfaaDoor.EncPure Go.Proofs.YtnifgokjagahfaaDoor.DecPure Go.Proofs.YtnifgokjagahfaaDoor.RefSum Go.Proofs.YtnifgokjagahfaaDoor.Mids
theorem digits2 (N : Int) (w : World) (hN : 0 ≤ N) (hN1 : N ≤ 9007199254740992) (hw : 2 ≤ 8) : Calls Tryd.prog 42 #[.int .i64 N, .int .i64 2] w fun e w' => e = .returned (.string (strOfNums (be N 2))) ∧ Below w.heap.size w w' := digits_any N 2 w hN hN1 hw
theorem digits8 (N : Int) (w : World) (hN : 0 ≤ N) (hN1 : N ≤ 9007199254740992) (hw : 8 ≤ 8) : Calls Tryd.prog 42 #[.int .i64 N, .int .i64 8] w fun e w' => e = .returned (.string (strOfNums (be N 8))) ∧ Below w.heap.size w w' := digits_any N 8 w hN hN1 hw
theorem digits4 (N : Int) (w : World) (hN : 0 ≤ N) (hN1 : N ≤ 9007199254740992) (hw : 4 ≤ 8) : Calls Tryd.prog 42 #[.int .i64 N, .int .i64 4] w fun e w' => e = .returned (.string (strOfNums (be N 4))) ∧ Below w.heap.size w w' := digits_any N 4 w hN hN1 hw
theorem infoM : (Tryd.prog.info? 24).map (·.size) = some 11 := by kernel_rfl
theorem conv_of_blk {w : World} {b : Nat} {x : Int} (h : w.heap[b]? = some (.cells #[.int .u8 71, .int .u8 82, .int .u8 1, .int .u8 x] 5 (0, 0))) :
    (convert 82 9 (.slice (some ⟨b, 0, none⟩) 4 4)).run Tryd.prog w = .ok (.string (strOfNums [71, 82, 1, x])) w := by
  refine run_convert_bytes_arg (P := Tryd.prog) w 82 5 Tryd.underlying82 Tryd.underlying5 b 0 4 4 [71, 82, 1, x] rfl (fun i hi => ?_) 9 Tryd.underlying9
  have e : i = 0 ∨ i = 1 ∨ i = 2 ∨ i = 3 := by omega
  rw [Nat.zero_add, blk_cell h]
  rcases e with e | e | e | e <;> subst e <;> rfl
set_option maxRecDepth 100000 in
set_option maxHeartbeats 16000000 in
theorem renc_good (m : M) (w : World) (hk : 1 ≤ m.kind ∧ m.kind < 17) (hv : vB m = true) (hR : RTab w) : Calls Tryd.prog 14 #[.agg (mL m).toArray] w fun e w' => e = .returned (.tuple #[.string (strOfNums (whole m)), .int .i64 0]) ∧ Below w.heap.size w w' := by
  have HB0 := Aside0.mk ((Below.refl w.heap.size w).alloc (Nat.le_refl _) (.cells (mL m).toArray 24))
  have HM0 : Aside0 (MBox (w.alloc (.cells (mL m).toArray 24)) w.heap.size m) := ⟨⟨Go.heap_alloc_new w _, by simp⟩⟩
  have hR0 := hR.below HB0.out
  generalize hwa : w.alloc (.cells (mL m).toArray 24) = wa at HB0 HM0 hR0
  have hc0 : wa.cell? ⟨w.heap.size, 0, none⟩ = some (.int .i64 m.kind) := HM0.out.c 0
  have hrg0 := blk_range HM0.out.row
  have hk1 := hk.1
  have hk2 : ¬ m.kind > 16 := by omega
  have hk3 : ¬ m.kind < 1 := by omega
  have hkey : m.key.size ≤ 9223372036854775807 ∧ m.value.size ≤ 9223372036854775807 := by
    have h5 := (vB_facts m hv).2.2.2 5 (by decide)
    have h6 := (vB_facts m hv).2.2.2 6 (by decide)
    have e5 : numOf m 5 = m.key.size := rfl
    have e6 : numOf m 6 = m.value.size := rfl
    have m5 : mostOf 5 = 255 := rfl
    have m6 : mostOf 6 = 4096 := rfl
    omega
  have KV := Lib.hid (rvalid_any m wa hk hR0 hkey)
  have HK := Aside0.mk hk
  have HV := Aside0.mk hv
  have HR0 := Aside0.mk hR0
  clear hk hv hR hR0 hkey
  go_enter Tryd.func14, Tryd.ntmps14
  go_wp2_with ((with_reducible refine gate_load (ty := 24) (x := .tmp 1) rfl ?_); refine wpList_load_mid rfl 24 (.tmp 1) rfl w.heap.size 0 rfl (mL m) _ hrg0 Tryd.underlying24 rfl infoM ?_)
  refine KV.out.mono ?_
  rintro e w1 ⟨rfl, hb⟩
  rw [HV.out]
  have HM1 := Aside0.mk (HM0.out.below hb HM0.out.lt)
  have HB1 := Aside0.mk (HB0.out.trans (hb.mono HB0.out.size))
  have KB := Lib.hid (rbody_any m w1 HK.out HV.out (HR0.out.below hb))
  have hrg1 := blk_range HM1.out.row
  clear hb hrg0 hc0 KV HM0 hwa
  go_wp2_with ((with_reducible refine gate_load (ty := 24) (x := .tmp 1) rfl ?_); refine wpList_load_mid rfl 24 (.tmp 1) rfl w.heap.size 0 rfl (mL m) _ hrg1 Tryd.underlying24 rfl infoM ?_)
  refine KB.out.mono ?_
  rintro e w2 ⟨rfl, hb⟩
  have HM2 := Aside0.mk (HM1.out.below hb HM1.out.lt)
  have HB2 := Aside0.mk (HB1.out.trans (hb.mono HB1.out.size))
  clear hb hrg1 KB HM1 HB1 HB0
  have HF := Aside0.mk (vB_facts m HV.out)
  have hbl := body_length_le m HV.out HK.out
  have hsz : (strOfNums (bodyB m (fieldsOf m.kind.toNat))).size = (bodyB m (fieldsOf m.kind.toNat)).length := strOfNums_size _
  have K1 := fun (w : World) => Lib.hid (digits2 m.from_ w HF.out.1.1 (by have := HF.out.1.2; omega) (by decide))
  have K2 := fun (w : World) => Lib.hid (digits2 m.to_ w HF.out.2.1.1 (by have := HF.out.2.1.2; omega) (by decide))
  have K3 := fun (w : World) => Lib.hid (digits8 m.id w HF.out.2.2.1.1 HF.out.2.2.1.2 (by decide))
  have K4 := fun (w : World) => Lib.hid (digits4 (bodyB m (fieldsOf m.kind.toNat)).length w (by omega) (by omega) (by decide))
  have z0 : (strOfNums [71, 82, 1, m.kind]).size = 4 := strOfNums_size _
  have z1 : (strOfNums (be m.from_ 2)).size = 2 := by rw [strOfNums_size, be_length]
  have z2 : (strOfNums (be m.to_ 2)).size = 2 := by rw [strOfNums_size, be_length]
  have z3 : (strOfNums (be m.id 8)).size = 8 := by rw [strOfNums_size, be_length]
  have z4 : (strOfNums (be (bodyB m (fieldsOf m.kind.toNat)).length 4)).size = 4 := by rw [strOfNums_size, be_length]
  have HA : Aside0 (strOfNums (frameB m) = strOfNums [71, 82, 1, m.kind] ++ strOfNums (be m.from_ 2) ++ strOfNums (be m.to_ 2) ++ strOfNums (be m.id 8) ++ strOfNums (be (bodyB m (fieldsOf m.kind.toNat)).length 4) ++ strOfNums (bodyB m (fieldsOf m.kind.toNat))) := ⟨by
    unfold frameB headB
    simp only [Enc.strOfNums_append]⟩
  rw [← hsz] at K4 z4 HA hbl
  have HCV := fun {w : World} {b : Nat} h => conv_of_blk (w := w) (b := b) (x := m.kind) h
  generalize strOfNums (be (strOfNums (bodyB m (fieldsOf m.kind.toNat))).size 4) = D4 at K4 z4 HA
  generalize strOfNums (bodyB m (fieldsOf m.kind.toNat)) = BO at hbl HA K4 ⊢
  generalize strOfNums (be m.from_ 2) = D1 at K1 z1 HA
  generalize strOfNums (be m.to_ 2) = D2 at K2 z2 HA
  generalize strOfNums (be m.id 8) = D3 at K3 z3 HA
  generalize strOfNums [71, 82, 1, m.kind] = D0 at HCV z0 HA
  have hlt := HM2.out.lt
  have hc0 : w2.cell? ⟨w.heap.size, 0, none⟩ = some (.int .i64 m.kind) := HM2.out.c 0
  have hc1 : w2.cell? ⟨w.heap.size, 1, none⟩ = some (.int .i64 m.from_) := HM2.out.c 1
  have hc2 : w2.cell? ⟨w.heap.size, 2, none⟩ = some (.int .i64 m.to_) := HM2.out.c 2
  have hc3 : w2.cell? ⟨w.heap.size, 3, none⟩ = some (.int .i64 m.id) := HM2.out.c 3
  have hwk : IntKind.u8.wrap m.kind = m.kind := by rw [IntKind.wrap_u8]; have := HK.out; omega
  clear hsz HM2
  go_upto_region 7 with fail
  go_cut [6] (fun v wx => v = .string (strOfNums (frameB m)) ∧ Aside0 (Below w.heap.size w wx))
  case first =>
    refine Reg.wp_region_rel _ (by kernel_rfl) _ _ _ rfl (by kernel_rfl) (fun w' => Below w2.heap.size w2 w') (fun j v w' => match j with
      | 0 => v = .pointer (some ⟨w.heap.size, 0, none⟩)
      | 1 => v = .int .i64 m.kind
      | 2 => v = .int .u8 m.kind
      | 3 => ∃ b, v = .slice (some ⟨b, 0, none⟩) 4 4 ∧ w'.heap[b]? = some (.cells #[.int .u8 71, .int .u8 82, .int .u8 1, .int .u8 m.kind] 5 (0, 0))
      | 4 => v = .string D0
      | 5 => v = .pointer (some ⟨w.heap.size, 1, none⟩)
      | 6 => v = .int .i64 m.from_
      | 7 => v = .string D1
      | 8 => v = .string (D0 ++ D1)
      | 9 => v = .pointer (some ⟨w.heap.size, 2, none⟩)
      | 10 => v = .int .i64 m.to_
      | 11 => v = .string D2
      | 12 => v = .string (D0 ++ D1 ++ D2)
      | 13 => v = .pointer (some ⟨w.heap.size, 3, none⟩)
      | 14 => v = .int .i64 m.id
      | 15 => v = .string D3
      | 16 => v = .string (D0 ++ D1 ++ D2 ++ D3)
      | 17 => v = .string BO
      | 18 => v = .int .i64 (BO.size : Nat)
      | 19 => v = .string D4
      | 20 => v = .string (D0 ++ D1 ++ D2 ++ D3 ++ D4)
      | 21 => v = .string BO
      | 22 => v = .string (D0 ++ D1 ++ D2 ++ D3 ++ D4 ++ BO)
      | 23 => v = .string (D0 ++ D1 ++ D2 ++ D3 ++ D4 ++ BO)
      | _ => True) (below_drew (Below.refl _ _)) ?_ ?_ ?_
    · intro j v w0 w' hI hR hb
      rcases j with _ | j
      · exact hR
      rcases j with _ | j
      · exact hR
      rcases j with _ | j
      · exact hR
      rcases j with _ | j
      · obtain ⟨b, rfl, hblk⟩ := hR
        exact ⟨b, rfl, (hb.block b (blk_lt hblk)).trans hblk⟩
      rcases j with _ | j
      · exact hR
      rcases j with _ | j
      · exact hR
      rcases j with _ | j
      · exact hR
      rcases j with _ | j
      · exact hR
      rcases j with _ | j
      · exact hR
      rcases j with _ | j
      · exact hR
      rcases j with _ | j
      · exact hR
      rcases j with _ | j
      · exact hR
      rcases j with _ | j
      · exact hR
      rcases j with _ | j
      · exact hR
      rcases j with _ | j
      · exact hR
      rcases j with _ | j
      · exact hR
      rcases j with _ | j
      · exact hR
      rcases j with _ | j
      · exact hR
      rcases j with _ | j
      · exact hR
      rcases j with _ | j
      · exact hR
      rcases j with _ | j
      · exact hR
      rcases j with _ | j
      · exact hR
      rcases j with _ | j
      · exact hR
      rcases j with _ | j
      · exact hR
      exact trivial
    · skip
      refine Reg.allOps_cons ?_ ?_
      · intro vs w0 ρ hρ hcst hglb hfun hI hp
        have e1 : ρ (.tmp 1) = .pointer (some ⟨w.heap.size, 0, none⟩) := hρ (.tmp 1)
        clear hρ hp
        refine Reg.rel_value (.pointer (some ⟨w.heap.size, 0, none⟩)) ?_ ⟨hI, rfl⟩
        go_simp
      refine Reg.allOps_cons ?_ ?_
      · intro vs w0 ρ hρ hcst hglb hfun hI hp
        have e21 : ρ (.tmp 21) = .pointer (some ⟨w.heap.size, 0, none⟩) := (hρ (.tmp 21)).trans (show vs 0 = .pointer (some ⟨w.heap.size, 0, none⟩) from hp 0 rfl)
        clear hρ hp
        have hl := (hI.cell (p := ⟨w.heap.size, 0, none⟩) hlt).trans hc0
        refine Reg.rel_value (.int .i64 m.kind) ?_ ⟨hI, rfl⟩
        go_simp
      refine Reg.allOps_cons ?_ ?_
      · intro vs w0 ρ hρ hcst hglb hfun hI hp
        have e22 : ρ (.tmp 22) = .int .i64 m.kind := (hρ (.tmp 22)).trans (show vs 1 = .int .i64 m.kind from hp 1 rfl)
        clear hρ hp
        refine Reg.rel_value (.int .u8 m.kind) ?_ ⟨hI, rfl⟩
        go_simp
      refine Reg.allOps_cons ?_ ?_
      · intro vs w0 ρ hρ hcst hglb hfun hI hp
        have e23 : ρ (.tmp 23) = .int .u8 m.kind := (hρ (.tmp 23)).trans (show vs 2 = .int .u8 m.kind from hp 2 rfl)
        clear hρ hp
        refine Reg.rel_made (.slice (some ⟨w0.heap.size, 0, none⟩) 4 4) (w' := w0.alloc (.cells #[.int .u8 71, .int .u8 82, .int .u8 1, .int .u8 m.kind] 5)) ?_ ((Below.refl _ _).alloc (Nat.le_refl _) _) ⟨hI.alloc hI.size _, ⟨w0.heap.size, rfl, heap_alloc_new w0 _⟩⟩
        go_simp
      refine Reg.allOps_cons ?_ ?_
      · intro vs w0 ρ hρ hcst hglb hfun hI hp
        have r3 : ∃ b, vs 3 = .slice (some ⟨b, 0, none⟩) 4 4 ∧ w0.heap[b]? = some (.cells #[.int .u8 71, .int .u8 82, .int .u8 1, .int .u8 m.kind] 5 (0, 0)) := hp 3 rfl
        have e24 : ρ (.tmp 24) = vs 3 := hρ (.tmp 24)
        obtain ⟨b, hv, hblk⟩ := r3
        rw [hv] at e24
        clear hρ hp
        have hcv := HCV hblk
        refine Reg.rel_value (.string D0) ?_ ⟨hI, rfl⟩
        go_simp
      refine Reg.allOps_cons ?_ ?_
      · intro vs w0 ρ hρ hcst hglb hfun hI hp
        have e1 : ρ (.tmp 1) = .pointer (some ⟨w.heap.size, 0, none⟩) := hρ (.tmp 1)
        clear hρ hp
        refine Reg.rel_value (.pointer (some ⟨w.heap.size, 1, none⟩)) ?_ ⟨hI, rfl⟩
        go_simp
      refine Reg.allOps_cons ?_ ?_
      · intro vs w0 ρ hρ hcst hglb hfun hI hp
        have e26 : ρ (.tmp 26) = .pointer (some ⟨w.heap.size, 1, none⟩) := (hρ (.tmp 26)).trans (show vs 5 = .pointer (some ⟨w.heap.size, 1, none⟩) from hp 5 rfl)
        clear hρ hp
        have hl := (hI.cell (p := ⟨w.heap.size, 1, none⟩) hlt).trans hc1
        refine Reg.rel_value (.int .i64 m.from_) ?_ ⟨hI, rfl⟩
        go_simp
      refine Reg.allOps_cons ?_ ?_
      · intro vs w0 ρ hρ hcst hglb hfun hI hp
        have e27 : ρ (.tmp 27) = .int .i64 m.from_ := (hρ (.tmp 27)).trans (show vs 6 = .int .i64 m.from_ from hp 6 rfl)
        clear hρ hp
        refine Reg.rel_call Tryd.func42 (by kernel_rfl) rfl #[.int .i64 m.from_, .int .i64 2] rfl (hfun _) (by simp [e27, hcst]) ?_
        refine (K1 w0).out.mono ?_
        rintro e w3 ⟨rfl, hb⟩
        exact ⟨_, rfl, hb, hI.trans (hb.mono hI.size), rfl⟩
      refine Reg.allOps_cons ?_ ?_
      · intro vs w0 ρ hρ hcst hglb hfun hI hp
        have e25 : ρ (.tmp 25) = .string D0 := (hρ (.tmp 25)).trans (show vs 4 = .string D0 from hp 4 rfl)
        have e28 : ρ (.tmp 28) = .string D1 := (hρ (.tmp 28)).trans (show vs 7 = .string D1 from hp 7 rfl)
        clear hρ hp
        refine Reg.rel_value (.string (D0 ++ D1)) ?_ ⟨hI, rfl⟩
        go_simp
      refine Reg.allOps_cons ?_ ?_
      · intro vs w0 ρ hρ hcst hglb hfun hI hp
        have e1 : ρ (.tmp 1) = .pointer (some ⟨w.heap.size, 0, none⟩) := hρ (.tmp 1)
        clear hρ hp
        refine Reg.rel_value (.pointer (some ⟨w.heap.size, 2, none⟩)) ?_ ⟨hI, rfl⟩
        go_simp
      refine Reg.allOps_cons ?_ ?_
      · intro vs w0 ρ hρ hcst hglb hfun hI hp
        have e30 : ρ (.tmp 30) = .pointer (some ⟨w.heap.size, 2, none⟩) := (hρ (.tmp 30)).trans (show vs 9 = .pointer (some ⟨w.heap.size, 2, none⟩) from hp 9 rfl)
        clear hρ hp
        have hl := (hI.cell (p := ⟨w.heap.size, 2, none⟩) hlt).trans hc2
        refine Reg.rel_value (.int .i64 m.to_) ?_ ⟨hI, rfl⟩
        go_simp
      refine Reg.allOps_cons ?_ ?_
      · intro vs w0 ρ hρ hcst hglb hfun hI hp
        have e31 : ρ (.tmp 31) = .int .i64 m.to_ := (hρ (.tmp 31)).trans (show vs 10 = .int .i64 m.to_ from hp 10 rfl)
        clear hρ hp
        refine Reg.rel_call Tryd.func42 (by kernel_rfl) rfl #[.int .i64 m.to_, .int .i64 2] rfl (hfun _) (by simp [e31, hcst]) ?_
        refine (K2 w0).out.mono ?_
        rintro e w3 ⟨rfl, hb⟩
        exact ⟨_, rfl, hb, hI.trans (hb.mono hI.size), rfl⟩
      refine Reg.allOps_cons ?_ ?_
      · intro vs w0 ρ hρ hcst hglb hfun hI hp
        have e29 : ρ (.tmp 29) = .string (D0 ++ D1) := (hρ (.tmp 29)).trans (show vs 8 = .string (D0 ++ D1) from hp 8 rfl)
        have e32 : ρ (.tmp 32) = .string D2 := (hρ (.tmp 32)).trans (show vs 11 = .string D2 from hp 11 rfl)
        clear hρ hp
        refine Reg.rel_value (.string (D0 ++ D1 ++ D2)) ?_ ⟨hI, rfl⟩
        go_simp
      refine Reg.allOps_cons ?_ ?_
      · intro vs w0 ρ hρ hcst hglb hfun hI hp
        have e1 : ρ (.tmp 1) = .pointer (some ⟨w.heap.size, 0, none⟩) := hρ (.tmp 1)
        clear hρ hp
        refine Reg.rel_value (.pointer (some ⟨w.heap.size, 3, none⟩)) ?_ ⟨hI, rfl⟩
        go_simp
      refine Reg.allOps_cons ?_ ?_
      · intro vs w0 ρ hρ hcst hglb hfun hI hp
        have e34 : ρ (.tmp 34) = .pointer (some ⟨w.heap.size, 3, none⟩) := (hρ (.tmp 34)).trans (show vs 13 = .pointer (some ⟨w.heap.size, 3, none⟩) from hp 13 rfl)
        clear hρ hp
        have hl := (hI.cell (p := ⟨w.heap.size, 3, none⟩) hlt).trans hc3
        refine Reg.rel_value (.int .i64 m.id) ?_ ⟨hI, rfl⟩
        go_simp
      refine Reg.allOps_cons ?_ ?_
      · intro vs w0 ρ hρ hcst hglb hfun hI hp
        have e35 : ρ (.tmp 35) = .int .i64 m.id := (hρ (.tmp 35)).trans (show vs 14 = .int .i64 m.id from hp 14 rfl)
        clear hρ hp
        refine Reg.rel_call Tryd.func42 (by kernel_rfl) rfl #[.int .i64 m.id, .int .i64 8] rfl (hfun _) (by simp [e35, hcst]) ?_
        refine (K3 w0).out.mono ?_
        rintro e w3 ⟨rfl, hb⟩
        exact ⟨_, rfl, hb, hI.trans (hb.mono hI.size), rfl⟩
      refine Reg.allOps_cons ?_ ?_
      · intro vs w0 ρ hρ hcst hglb hfun hI hp
        have e33 : ρ (.tmp 33) = .string (D0 ++ D1 ++ D2) := (hρ (.tmp 33)).trans (show vs 12 = .string (D0 ++ D1 ++ D2) from hp 12 rfl)
        have e36 : ρ (.tmp 36) = .string D3 := (hρ (.tmp 36)).trans (show vs 15 = .string D3 from hp 15 rfl)
        clear hρ hp
        refine Reg.rel_value (.string (D0 ++ D1 ++ D2 ++ D3)) ?_ ⟨hI, rfl⟩
        go_simp
      refine Reg.allOps_cons ?_ ?_
      · intro vs w0 ρ hρ hcst hglb hfun hI hp
        have e5 : ρ (.tmp 5) = .string BO := hρ (.tmp 5)
        clear hρ hp
        refine Reg.rel_value (.string BO) ?_ ⟨hI, rfl⟩
        go_simp
      refine Reg.allOps_cons ?_ ?_
      · intro vs w0 ρ hρ hcst hglb hfun hI hp
        have e38 : ρ (.tmp 38) = .string BO := (hρ (.tmp 38)).trans (show vs 17 = .string BO from hp 17 rfl)
        clear hρ hp
        refine Reg.rel_value (.int .i64 (BO.size : Nat)) ?_ ⟨hI, rfl⟩
        go_simp
      refine Reg.allOps_cons ?_ ?_
      · intro vs w0 ρ hρ hcst hglb hfun hI hp
        have e39 : ρ (.tmp 39) = .int .i64 (BO.size : Nat) := (hρ (.tmp 39)).trans (show vs 18 = .int .i64 (BO.size : Nat) from hp 18 rfl)
        clear hρ hp
        refine Reg.rel_call Tryd.func42 (by kernel_rfl) rfl #[.int .i64 (BO.size : Nat), .int .i64 4] rfl (hfun _) (by simp [e39, hcst]) ?_
        refine (K4 w0).out.mono ?_
        rintro e w3 ⟨rfl, hb⟩
        exact ⟨_, rfl, hb, hI.trans (hb.mono hI.size), rfl⟩
      refine Reg.allOps_cons ?_ ?_
      · intro vs w0 ρ hρ hcst hglb hfun hI hp
        have e37 : ρ (.tmp 37) = .string (D0 ++ D1 ++ D2 ++ D3) := (hρ (.tmp 37)).trans (show vs 16 = .string (D0 ++ D1 ++ D2 ++ D3) from hp 16 rfl)
        have e40 : ρ (.tmp 40) = .string D4 := (hρ (.tmp 40)).trans (show vs 19 = .string D4 from hp 19 rfl)
        clear hρ hp
        refine Reg.rel_value (.string (D0 ++ D1 ++ D2 ++ D3 ++ D4)) ?_ ⟨hI, rfl⟩
        go_simp
      refine Reg.allOps_cons ?_ ?_
      · intro vs w0 ρ hρ hcst hglb hfun hI hp
        have e5 : ρ (.tmp 5) = .string BO := hρ (.tmp 5)
        clear hρ hp
        refine Reg.rel_value (.string BO) ?_ ⟨hI, rfl⟩
        go_simp
      refine Reg.allOps_cons ?_ ?_
      · intro vs w0 ρ hρ hcst hglb hfun hI hp
        have e41 : ρ (.tmp 41) = .string (D0 ++ D1 ++ D2 ++ D3 ++ D4) := (hρ (.tmp 41)).trans (show vs 20 = .string (D0 ++ D1 ++ D2 ++ D3 ++ D4) from hp 20 rfl)
        have e42 : ρ (.tmp 42) = .string BO := (hρ (.tmp 42)).trans (show vs 21 = .string BO from hp 21 rfl)
        clear hρ hp
        refine Reg.rel_value (.string (D0 ++ D1 ++ D2 ++ D3 ++ D4 ++ BO)) ?_ ⟨hI, rfl⟩
        go_simp
        omega
      refine Reg.allOps_cons ?_ ?_
      · intro vs w0 ρ hρ hcst hglb hfun hI hp
        have e43 : ρ (.tmp 43) = .string (D0 ++ D1 ++ D2 ++ D3 ++ D4 ++ BO) := (hρ (.tmp 43)).trans (show vs 22 = .string (D0 ++ D1 ++ D2 ++ D3 ++ D4 ++ BO) from hp 22 rfl)
        clear hρ hp
        refine Reg.rel_value (.string (D0 ++ D1 ++ D2 ++ D3 ++ D4 ++ BO)) ?_ ⟨hI, rfl⟩
        go_simp
      exact Reg.allOps_nil
    intro vs w0 hI hR
    have r0 : vs 0 = .pointer (some ⟨w.heap.size, 0, none⟩) := hR 0 (by decide)
    have r1 : vs 1 = .int .i64 m.kind := hR 1 (by decide)
    have r2 : vs 2 = .int .u8 m.kind := hR 2 (by decide)
    have r4 : vs 4 = .string D0 := hR 4 (by decide)
    have r5 : vs 5 = .pointer (some ⟨w.heap.size, 1, none⟩) := hR 5 (by decide)
    have r6 : vs 6 = .int .i64 m.from_ := hR 6 (by decide)
    have r7 : vs 7 = .string D1 := hR 7 (by decide)
    have r8 : vs 8 = .string (D0 ++ D1) := hR 8 (by decide)
    have r9 : vs 9 = .pointer (some ⟨w.heap.size, 2, none⟩) := hR 9 (by decide)
    have r10 : vs 10 = .int .i64 m.to_ := hR 10 (by decide)
    have r11 : vs 11 = .string D2 := hR 11 (by decide)
    have r12 : vs 12 = .string (D0 ++ D1 ++ D2) := hR 12 (by decide)
    have r13 : vs 13 = .pointer (some ⟨w.heap.size, 3, none⟩) := hR 13 (by decide)
    have r14 : vs 14 = .int .i64 m.id := hR 14 (by decide)
    have r15 : vs 15 = .string D3 := hR 15 (by decide)
    have r16 : vs 16 = .string (D0 ++ D1 ++ D2 ++ D3) := hR 16 (by decide)
    have r17 : vs 17 = .string BO := hR 17 (by decide)
    have r18 : vs 18 = .int .i64 (BO.size : Nat) := hR 18 (by decide)
    have r19 : vs 19 = .string D4 := hR 19 (by decide)
    have r20 : vs 20 = .string (D0 ++ D1 ++ D2 ++ D3 ++ D4) := hR 20 (by decide)
    have r21 : vs 21 = .string BO := hR 21 (by decide)
    have r22 : vs 22 = .string (D0 ++ D1 ++ D2 ++ D3 ++ D4 ++ BO) := hR 22 (by decide)
    have r23 : vs 23 = .string (D0 ++ D1 ++ D2 ++ D3 ++ D4 ++ BO) := hR 23 (by decide)
    simp only [Reg.fillFrom, Act.put, List.setIfInBounds_toArray, List.set_cons_zero, List.set_cons_succ, r0, r1, r2, r4, r5, r6, r7, r8, r9, r10, r11, r12, r13, r14, r15, r16, r17, r18, r19, r20, r21, r22, r23]
    clear hR r0 r1 r2 r4 r5 r6 r7 r8 r9 r10 r11 r12 r13 r14 r15 r16 r17 r18 r19 r20 r21 r22 r23
    go_wp2_with fail
    go_meet
    exact ⟨by rw [HA.out], ⟨HB2.out.trans (hI.mono HB2.out.size)⟩⟩
  case rest =>
    obtain ⟨rfl, HBC⟩ := hcut
    have hfs : (frameB m).length ≤ 4403 := by rw [frame_length]; have := body_length_le m HV.out HK.out; omega
    have KS := Lib.hid (rsum_any (strOfNums (frameB m)) wc (by rw [strOfNums_size]; omega))
    have hW : strOfNums (whole m) = strOfNums (frameB m) ++ strOfNums (sumL (bytesOf (strOfNums (frameB m)))) := by
      unfold whole
      rw [Enc.strOfNums_append, bytesOf_strOfNums _ (byt_frame m HK.out)]
    have y1 : (strOfNums (frameB m)).size ≤ 5000 := by rw [strOfNums_size]; omega
    have y2 : (strOfNums (sumL (bytesOf (strOfNums (frameB m))))).size ≤ 4 := by rw [strOfNums_size]; exact Nat.le_refl _
    have HW := Lib.hid hW
    clear hW hfs K1 K2 K3 K4 z0 z1 z2 z3 z4 HCV hc0 hc1 hc2 hc3 hwk hbl HA
    generalize strOfNums (sumL (bytesOf (strOfNums (frameB m)))) = D at KS y2 HW
    go_wp2_with fail
    refine KS.out.mono ?_
    rintro e w3 ⟨rfl, hb⟩
    have HB3 := Aside0.mk (HBC.out.trans (hb.mono HBC.out.size))
    clear hb KS
    go_wp2
    go_ret2
    exact ⟨by rw [HW.out]; rfl, HB3.out⟩
end Go.Proofs.YtnifgokjagahfaaDoor.RefF
