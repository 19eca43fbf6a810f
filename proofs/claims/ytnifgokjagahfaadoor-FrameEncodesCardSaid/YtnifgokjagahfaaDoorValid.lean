/- valid of the frame package. -/
import Derived.Test.YtnifgokjagahfaaDoorMsg
set_option linter.unusedVariables false
set_option linter.unusedSimpArgs false
namespace Go.Proofs.YtnifgokjagahfaaDoor.Msg
open Go.RowKit Go.Proofs.YtnifgokjagahfaaDoorW.PrintWords Go.Proofs.YtnifgokjagahfaaDoorW.PrintLast Go.Proofs.YtnifgokjagahfaaDoorW.PrintMore
open Go.Proofs.YtnifgokjagahfaaDoor.Base Go.Proofs.YtnifgokjagahfaaDoor.Layouts Go.Proofs.YtnifgokjagahfaaDoor.PFrameEncodes
def needOf (m : M) (f : Nat) : Int := if (fieldsOf m.kind.toNat).contains f then mostOf f else 0
def vTo (m : M) : Nat → Bool
  | 0 => true
  | n + 1 => vTo m n && wi (numOf m n) (needOf m n)
def vB (m : M) : Bool := wi m.from_ 65535 && (wi m.to_ 65535 && (wi m.id 9007199254740992 && vTo m 7))
theorem fields_lt (k : Nat) (hk : k < 17) (j n : Nat) (hj : (fieldsOf k)[j]? = some n) : n < 7 := by
  have h : ∀ k, k < 17 → ∀ n ∈ fieldsOf k, n < 7 := by decide
  exact h k hk n (List.mem_of_getElem? hj)
theorem fields_len : ∀ k, k < 17 → (fieldsOf k).length ≤ 6 := by decide
theorem vTo_down (m : M) {a : Nat} (h : vTo m a = false) : ∀ d, vTo m (a + d) = false
  | 0 => h
  | d + 1 => by
    show (vTo m (a + d) && wi (numOf m (a + d)) (needOf m (a + d))) = false
    rw [vTo_down m h d]; rfl
theorem has_next (l : List Nat) (j n i : Nat) (h : l[j]? = some n) : (if i = n then Value.bool true else .bool ((l.take j).contains i)) = .bool ((l.take (j + 1)).contains i) := by
  rw [List.take_add_one, h]
  by_cases e : i = n
  · subst e; simp
  · rw [if_neg e]
    have : (i == n) = false := beq_eq_false_iff_ne.2 e
    simp [List.contains_append, this, e]
set_option maxRecDepth 100000 in
set_option maxHeartbeats 4000000 in
theorem valid_any (g : Nat) (m : M) (w : World) (h : MBox w g m) (hk : 1 ≤ m.kind ∧ m.kind < 17) : Calls Tryd.prog 35 #[.pointer (some ⟨g, 0, none⟩)] w fun e w' => e = .returned (.bool (vB m)) ∧ Below w.heap.size w w' := by
  have hc0 : w.cell? ⟨g, 0, none⟩ = some (.int .i64 m.kind) := h.c 0
  have hc1 : w.cell? ⟨g, 1, none⟩ = some (.int .i64 m.from_) := h.c 1
  have hc2 : w.cell? ⟨g, 2, none⟩ = some (.int .i64 m.to_) := h.c 2
  have hc3 : w.cell? ⟨g, 3, none⟩ = some (.int .i64 m.id) := h.c 3
  have HM := Aside0.mk h
  have HV := Lib.hid (show vB m = (wi m.from_ 65535 && (wi m.to_ 65535 && (wi m.id 9007199254740992 && vTo m 7))) from rfl)
  have w1 := fun w => within_any m.from_ 65535 w
  have w2 := fun w => within_any m.to_ 65535 w
  have w3 := fun w => within_any m.id 9007199254740992 w
  generalize wi m.from_ 65535 = x1 at w1 HV
  generalize wi m.to_ 65535 = x2 at w2 HV
  generalize wi m.id 9007199254740992 = x3 at w3 HV
  have W1 := Aside0.mk w1
  have W2 := Aside0.mk w2
  have W3 := Aside0.mk w3
  clear h w1 w2 w3
  go_enter Tryd.func35, Tryd.ntmps35
  go_wp2_with fail
  refine (W1.out _).mono ?_
  rintro e w' ⟨rfl, ⟨⟨m1, rfl⟩⟩⟩
  cases x1
  · go_wp2
    go_ret
    exact ⟨by rw [HV.out]; rfl, pw_below_drewN (Below.refl _ _) m1⟩
  go_wp2_with fail
  refine (W2.out _).mono ?_
  rintro e w' ⟨rfl, ⟨⟨m2, rfl⟩⟩⟩
  cases x2
  · go_wp2
    go_ret
    exact ⟨by rw [HV.out]; rfl, pw_below_drewN (Below.refl _ _) _⟩
  go_wp2_with fail
  refine (W3.out _).mono ?_
  rintro e w' ⟨rfl, ⟨⟨m3, rfl⟩⟩⟩
  cases x3
  · go_wp2
    go_ret
    exact ⟨by rw [HV.out]; rfl, pw_below_drewN (Below.refl _ _) _⟩
  simp only [Bool.true_and] at HV
  go_wp2
  obtain ⟨kk, hkk⟩ : ∃ kk : Nat, m.kind = (kk : Int) := ⟨m.kind.toNat, by omega⟩
  have hkl : kk < 17 := by omega
  have hk0 : kk ≠ 0 := by omega
  have hB0 := (pw_below_drewN (Below.refl w.heap.size w) (m1 + m2 + m3)).alloc (Nat.le_refl _) (.cells #[.bool false, .bool false, .bool false, .bool false, .bool false, .bool false, .bool false] 122)
  have hr0 : ((w.drewN (m1 + m2 + m3)).alloc (.cells #[.bool false, .bool false, .bool false, .bool false, .bool false, .bool false, .bool false] 122)).rowIs w.heap.size 122 7 (fun _ => .bool false) := ⟨_, Go.heap_alloc_new (w.drewN (m1 + m2 + m3)) _, rfl, fun i hi => by
    have e : i = 0 ∨ i = 1 ∨ i = 2 ∨ i = 3 ∨ i = 4 ∨ i = 5 ∨ i = 6 := by omega
    rcases e with e | e | e | e | e | e | e <;> subst e <;> rfl⟩
  have HR0 := Aside0.mk hr0
  have HB0 := Aside0.mk hB0
  have HMA := Aside0.mk (HM.out.below hB0 HM.out.lt)
  clear hr0 hB0 hc0 hc1 hc2 hc3 W1 W2 W3
  generalize ((w.drewN (m1 + m2 + m3)).alloc (.cells #[.bool false, .bool false, .bool false, .bool false, .bool false, .bool false, .bool false] 122)) = wa at HR0 HB0 HMA ⊢
  have hc0 : wa.cell? ⟨g, 0, none⟩ = some (.int .i64 (kk : Int)) := by rw [← hkk]; exact HMA.out.c 0
  have hgl := HMA.out.lt
  have hidx : (kk : Int) < 17 := by omega
  have hidx0 : (0 : Int) ≤ (kk : Int) := by omega
  have HSL := Aside0.mk (show ∀ b, slOf b kk = .slice (some ⟨b + (kk - 1), 0, none⟩) (fieldsOf kk).length (fieldsOf kk).length from fun b => if_neg hk0)
  go_region_with ((go_at_call 37; refine (layouts_lay _).mono ?_; rintro e w3 ⟨rfl, hL, hb, hsz⟩; have hS3 := (hb.cell (p := ⟨g, 0, none⟩) hgl).trans hc0; have ho3 : w3.cell? ⟨wa.heap.size + 16, kk, none⟩ = some (.slice (some ⟨wa.heap.size + (kk - 1), 0, none⟩) (fieldsOf kk).length (fieldsOf kk).length) := (hL.out kk hkl).trans (congrArg some (HSL.out _)); have HL3 := Aside0.mk hL; have HB3 := Aside0.mk hb; have HZ3 := Aside0.mk hsz; clear hL hb hsz))
  all_goals
    have hbw : Below wa.heap.size wa w3 := below_drew_left HB3.out
    have HM3 := Aside0.mk (HMA.out.below hbw hgl)
    have HR3 := Aside0.mk (HR0.out.of_block (hbw.block _ HR0.out.lt))
    have HB4 := Aside0.mk (HB0.out.trans (hbw.mono HB0.out.size))
    have HNN : Aside0 (∀ j n, (fieldsOf kk)[j]? = some n → w3.cell? ⟨wa.heap.size + (kk - 1), j, none⟩ = some (.int .u8 (n : Nat))) := ⟨fun j n hj => HL3.out.inn kk j n hkl hj⟩
    have hpa := HR0.out.lt
    have HP : Aside0 (w.heap.size ≠ wa.heap.size + (kk - 1) ∧ g ≠ w.heap.size) := ⟨by omega, by have := HM.out.lt; omega⟩
    have hfl := fields_len kk hkl
    have HFL := Aside0.mk (fields_lt kk hkl)
    generalize wa.heap.size + (kk - 1) = q at HNN HP ⊢
    generalize hfs : fieldsOf kk = fs at HNN hfl HFL ⊢
    have HFS := Lib.hid hfs
    clear hbw HL3 HB3 HZ3 hS3 ho3 hc0 hgl HMA HR0 HB0 HSL hidx hidx0 hfs hpa
    go_wp2
    simp only [List.getElem_toArray, List.getElem_cons_succ, List.getElem_cons_zero, Act.put, List.setIfInBounds_toArray, List.set_cons_succ, List.set_cons_zero]
    go_loopw [5, 40] (fun _ iv wr => ∃ j : Nat, j ≤ fs.length ∧ iv = .int .i64 (j : Int) ∧ Aside0 (wr.rowIs w.heap.size 122 7 (fun i => .bool ((fs.take j).contains i))) ∧ Aside0 (MBox wr g m) ∧ Aside0 (∀ j n, fs[j]? = some n → wr.cell? ⟨q, j, none⟩ = some (.int .u8 (n : Nat))) ∧ Aside0 (Below w.heap.size w wr)) (fun _ iv _ => 7 - (intOf iv).toNat)
    case atStart => exact ⟨0, Nat.zero_le _, rfl, ⟨HR3.out.congr (fun i hi => by simp)⟩, HM3, HNN, HB4⟩
    case round =>
      clear HR3 HM3 HNN HB4
      obtain ⟨j, hj, rfl, HR, HMW, HNN, HB⟩ := hrel
      obtain ⟨wo, rfl⟩ : ∃ wo : World, wo = wr := ⟨_, rfl⟩
      by_cases hlt : j < fs.length
      · obtain ⟨n, hn⟩ : ∃ n, fs[j]? = some n := ⟨_, List.getElem?_eq_getElem hlt⟩
        have hci := HNN.out j n hn
        have hn7 := HFL.out j n hn
        have hcr := HR.out.cell hn7
        have hfr := HR.out.frozen n
        have HN := Aside0.mk (fun i => has_next fs j n i hn)
        clear hn
        go_wp2
        go_roundw
        case rel =>
          refine ⟨j + 1, by omega, by go_num, ⟨(HR.out.set n _).congr (fun i hi => HN.out i)⟩, ⟨⟨(heap_setCell_other _ _ _ _ HP.out.2).trans HMW.out.row, by have := HMW.out.lt; simpa using this⟩⟩, ⟨fun j n hj => ?_⟩, ⟨HB.out.setCell (Nat.le_refl _) _⟩⟩
          rw [cell_set_other _ _ _ _ (by exact HP.out.1)]
          exact HNN.out j n hj
        case measure => simp [intOf]; omega
      · obtain rfl : j = fs.length := by omega
        rw [List.take_length] at HR
        have HNEED : Aside0 (∀ f, needOf m f = if fs.contains f then mostOf f else 0) := ⟨fun f => by unfold needOf; rw [hkk, Int.toNat_natCast, HFS.out]⟩
        clear HNN hfl HFL
        go_wp2
        go_loopw [6, 7, 8, 9] (fun fv _ _ _ wr => ∃ f : Nat, f ≤ 7 ∧ fv = .int .u8 (f : Int) ∧ Aside0 (vTo m f = true) ∧ Aside0 (wr.rowIs w.heap.size 122 7 (fun i => .bool (fs.contains i))) ∧ Aside0 (MBox wr g m) ∧ Aside0 (Below w.heap.size w wr)) (fun fv _ _ _ _ => 7 - (intOf fv).toNat)
        case atStart => exact ⟨0, Nat.zero_le _, rfl, ⟨rfl⟩, HR, HMW, HB⟩
        case round =>
          clear HR HMW HB
          obtain ⟨f, hf, rfl, HVT, HR, HMW, HB⟩ := hrel
          obtain ⟨wo, rfl⟩ : ∃ wo : World, wo = wr := ⟨_, rfl⟩
          by_cases hlt : f < 7
          · have hcr := HR.out.cell hlt
            generalize hcon : fs.contains f = cb at hcr
            cases cb
            · have hnd : needOf m f = 0 := by rw [HNEED.out f, hcon]; rfl
              have kw := fun w => within_any (numOf m f) (0) w
              obtain ⟨x, hx⟩ : ∃ x, x = wi (numOf m f) (0) := ⟨_, rfl⟩
              rw [← hx] at kw
              have HX : Aside0 (vTo m (f + 1) = x) := ⟨by show (vTo m f && wi (numOf m f) (needOf m f)) = x; rw [HVT.out, hnd, ← hx]; rfl⟩
              have KW := Aside0.mk kw
              have kwh := whole_any g m f wo hlt HMW.out
              generalize numOf m f = nn at kwh KW
              generalize widthOf f = ww at kwh
              generalize mostOf f = mm at kwh
              have KWH := Aside0.mk kwh
              clear kw kwh hnd hx hcon
              go_wp2_with fail
              refine KWH.out.mono ?_
              rintro e w' ⟨rfl, rfl⟩
              go_wp2_with fail
              refine (KW.out _).mono ?_
              rintro e w' ⟨rfl, ⟨⟨m4, rfl⟩⟩⟩
              cases x
              · go_wp2
                go_ret
                refine ⟨?_, pw_below_drewN HB.out m4⟩
                rw [HV.out, show (7 : Nat) = (f + 1) + (6 - f) by omega, vTo_down m HX.out]; rfl
              · go_wp2
                go_roundw
                case rel => exact ⟨f + 1, by omega, by go_num, HX, ⟨HR.out.of_block rfl⟩, ⟨HMW.out.row, HMW.out.lt⟩, ⟨pw_below_drewN HB.out m4⟩⟩
                case measure => simp [intOf]; omega
            · have hnd : needOf m f = mostOf f := by rw [HNEED.out f, hcon]; rfl
              have kw := fun w => within_any (numOf m f) (mostOf f) w
              obtain ⟨x, hx⟩ : ∃ x, x = wi (numOf m f) (mostOf f) := ⟨_, rfl⟩
              rw [← hx] at kw
              have HX : Aside0 (vTo m (f + 1) = x) := ⟨by show (vTo m f && wi (numOf m f) (needOf m f)) = x; rw [HVT.out, hnd, ← hx]; rfl⟩
              have KW := Aside0.mk kw
              have kwh := whole_any g m f wo hlt HMW.out
              generalize numOf m f = nn at kwh KW
              generalize widthOf f = ww at kwh
              generalize mostOf f = mm at kwh KW
              have KWH := Aside0.mk kwh
              clear kw kwh hnd hx hcon
              go_wp2_with fail
              refine KWH.out.mono ?_
              rintro e w' ⟨rfl, rfl⟩
              go_wp2_with fail
              refine (KW.out _).mono ?_
              rintro e w' ⟨rfl, ⟨⟨m4, rfl⟩⟩⟩
              cases x
              · go_wp2
                go_ret
                refine ⟨?_, pw_below_drewN HB.out m4⟩
                rw [HV.out, show (7 : Nat) = (f + 1) + (6 - f) by omega, vTo_down m HX.out]; rfl
              · go_wp2
                go_roundw
                case rel => exact ⟨f + 1, by omega, by go_num, HX, ⟨HR.out.of_block rfl⟩, ⟨HMW.out.row, HMW.out.lt⟩, ⟨pw_below_drewN HB.out m4⟩⟩
                case measure => simp [intOf]; omega
          · obtain rfl : f = 7 := by omega
            go_wp2
            go_ret
            exact ⟨by rw [HV.out, HVT.out]; rfl, HB.out⟩
end Go.Proofs.YtnifgokjagahfaaDoor.Msg
