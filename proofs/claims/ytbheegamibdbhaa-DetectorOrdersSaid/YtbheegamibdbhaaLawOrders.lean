/- DetectorOrders. -/
import Derived.Test.YtbheegamibdbhaaOrdSorted
import Derived.Deep.DeepCutAuto
set_option linter.unusedVariables false
set_option linter.unusedSimpArgs false
namespace Go.Proofs.Ytbheegamibdbhaa.LawOrders
open Go.RowKit Go.Proofs.YtbheegamibdbhaaW.PrintWords Go.Proofs.YtbheegamibdbhaaW.PrintLast Go.Proofs.YtbheegamibdbhaaW.PrintMore
open Go.Lib Go.Proofs.Ytbheegamibdbhaa.Base Go.Proofs.Ytbheegamibdbhaa.App Go.Proofs.Ytbheegamibdbhaa.AppG Go.Proofs.Ytbheegamibdbhaa.MapK Go.Proofs.Ytbheegamibdbhaa.Det Go.Proofs.Ytbheegamibdbhaa.Bans Go.Proofs.Ytbheegamibdbhaa.Made Go.Proofs.Ytbheegamibdbhaa.Drive Go.Proofs.Ytbheegamibdbhaa.SymMerge Go.Proofs.Ytbheegamibdbhaa.StabUse Go.Proofs.Ytbheegamibdbhaa.OrdLess Go.Proofs.Ytbheegamibdbhaa.Order Go.Proofs.Ytbheegamibdbhaa.OrdKit Go.Proofs.Ytbheegamibdbhaa.OrdLaw Go.Proofs.Ytbheegamibdbhaa.OrdSorted
open Go.Proofs.Ytbheegamibdbhaa.Apart (S3 StepsAt)
def ltNd (nd x : Int) : Bool := decide (0 ≤ x ∧ x < nd)
theorem any_lim {w : World} {B b1 b2 n : Nat} {nd st bn lim : Int} (h : Any w B b1 b2 n nd st bn lim) : 0 ≤ nd ∧ nd ≤ 16 := by
  obtain ⟨now, r, u, hd, _⟩ := h; have := hd.fit; omega
theorem ordR_yes {nd : Int} {u : Int → Option Int} {now bn : Int} {l : List Int} (h : ∀ x ∈ l, 0 ≤ x ∧ x < nd) : ordR nd u now bn l = (0, oL u now bn l) := if_pos h
theorem ordR_no {nd : Int} {u : Int → Option Int} {now bn : Int} {l : List Int} {x : Int} (hx : x ∈ l) (h : ¬ (0 ≤ x ∧ x < nd)) : ordR nd u now bn l = (68, []) := if_neg fun hh => h (hh x hx)
set_option maxRecDepth 100000 in
set_option maxHeartbeats 8000000 in
theorem law_orders (nd st bn : Int) (A : Option Addr) (cp : Nat) (l : List S3) (A2 : Option Addr) (cp2 : Nat) (ms : List Int) (w : World) (hr : StepsAt w A l) (hc : l.length ≤ cp) (hl : l.length ≤ 9223372036854775807) (hN : NumsAt w A2 ms) (hm : ms.length ≤ 9223372036854775807) :
    Calls Try.prog 7 #[.agg (upV nd st bn), .slice A l.length cp, .slice A2 ms.length cp2] w fun e w' => e = .returned (.bool true) ∧ Below w.heap.size w w' := by
  obtain ⟨wz, rfl⟩ : ∃ w0 : World, w0 = w := ⟨_, rfl⟩
  have HR := Aside0.mk hr
  have HN := Aside0.mk hN
  have hn := Go.heap_alloc_new wz (.cells (upV nd st bn) 23)
  have HB0 := Aside0.mk ((Below.refl wz.heap.size wz).alloc (Nat.le_refl _) (.cells (upV nd st bn) 23))
  have hlt : wz.heap.size < (wz.alloc (.cells (upV nd st bn) 23)).heap.size := by simp
  clear hr hN
  go_enter Try.func7, Try.ntmps7
  obtain ⟨w0, hw0⟩ : ∃ w0, w0 = wz.alloc (.cells (upV nd st bn) 23) := ⟨_, rfl⟩
  have h0 : w0.cell? ⟨wz.heap.size, 0, none⟩ = some (.int .i64 nd) := by rw [hw0]; exact cell_of_row _ _ _ _ _ _ hn
  have h1 : w0.cell? ⟨wz.heap.size, 1, none⟩ = some (.int .i64 st) := by rw [hw0]; exact cell_of_row _ _ _ _ _ _ hn
  have h2 : w0.cell? ⟨wz.heap.size, 2, none⟩ = some (.int .i64 bn) := by rw [hw0]; exact cell_of_row _ _ _ _ _ _ hn
  rw [hw0] at h0 h1 h2
  go_wp2_with fail
  rw [← hw0] at hn HB0 hlt h0 h1 h2 ⊢
  have HS := Aside0.mk (SBox.mk hn hlt)
  clear hn hlt hw0
  have hi : (Try.prog.info? 23).map (·.size) = some 3 := by kernel_rfl
  have hi3 : (Try.prog.info? 40).map (·.size) = some 3 := by kernel_rfl
  by_cases hf : Fits nd st bn
  · have HF := Aside0.mk hf
    refine (new_any nd st bn w0 hf).mono ?_
    rintro e w1 ⟨B, b1, b2, rfl, hD, hb, l1, l2, l3⟩
    have HW : Aside0 (¬ Own B b1 b2 wz.heap.size ∧ ∀ x, Own B b1 b2 x → wz.heap.size ≤ x) := ⟨by have := HS.out.lt; unfold Own; omega, fun x hx => by have := HS.out.lt; unfold Own at hx; omega⟩
    have HA : Aside0 (Any w1 B b1 b2 0 nd st bn 0) := ⟨⟨_, _, _, hD, Int.le_refl _⟩⟩
    have HB1 := Aside0.mk (HB0.out.trans (hb.mono HB0.out.size))
    have HS1 := Aside0.mk (HS.out.after hb)
    clear hD hb l1 l2 l3 hf h0 h1 h2 HS HB0
    have hrg := HS1.out.range
    go_wp2_with ((with_reducible refine gate_load (ty := 23) (x := .tmp 3) rfl ?_); refine wpList_load_mid rfl 23 (.tmp 3) rfl wz.heap.size 0 rfl (upL nd st bn) _ hrg Try.underlying23 rfl hi ?_)
    refine (fits_yes nd st bn w1 HF.out).mono ?_
    rintro e w2 ⟨rfl, hb⟩
    have HA2 := Aside0.mk (HA.out.after hb)
    have HB2 := Aside0.mk (HB1.out.trans (hb.mono HB1.out.size))
    have HS2 := Aside0.mk (HS1.out.after hb)
    clear hb hrg HB1 HS1 HA
    go_wp2_with (go_at_call 11; refine (num_any _ _).mono ?_; rintro e w' ⟨rfl, rfl⟩)
    go_loopw [9] (fun iv wr => ∃ i : Nat, i ≤ l.length ∧ i ≤ 2000 ∧ iv = .int .i64 (i : Int) ∧ Aside0 (Any wr B b1 b2 i nd st bn (1100 * (i : Int))) ∧ Aside0 (Below wz.heap.size wz wr) ∧ Aside0 (SBox wr wz.heap.size nd st bn)) (fun iv _ => 2001 - (intOf iv).toNat)
    case atStart => exact ⟨0, Nat.zero_le _, Nat.zero_le _, rfl, ⟨HA2.out.more (Nat.le_refl _) (by omega)⟩, HB2, HS2⟩
    case round =>
      clear HA2 HB2 HS2
      obtain ⟨i, hil, hi2, rfl, HA, HB, HS⟩ := hrel
      obtain ⟨wo, rfl⟩ : ∃ wo : World, wo = wr := ⟨_, rfl⟩
      by_cases hgo : i < l.length ∧ i < 2000
      · obtain ⟨h1, h2⟩ := hgo
        obtain ⟨x, hx⟩ : ∃ x, l[i]? = some x := ⟨_, List.getElem?_eq_getElem h1⟩
        obtain ⟨b, off, rfl, hbl, hrg⟩ := HR.out.below HB.out i x hx
        clear hx hbl
        go_wp2_with ((with_reducible refine gate_load (ty := 40) (x := .tmp 58) rfl ?_); refine wpList_load_mid rfl 40 (.tmp 58) rfl b (off + i * 3) rfl x.L _ hrg Try.underlying40 rfl hi3 ?_)
        refine (drive_any x.kind x.node x.v HA.out (by omega) (by omega) (by omega)).mono ?_
        rintro e w4 ⟨rfl, hA, hK⟩
        have HA4 := Aside0.mk (hA.more (Nat.le_refl _) (show 1100 * (i : Int) + 1100 ≤ 1100 * ((i + 1 : Nat) : Int) by omega))
        have HS4 := Aside0.mk (HS.out.kept hK HW.out.1)
        have HB4 := Aside0.mk (HB.out.trans (hK.below (B := wz.heap.size) HW.out.2 HB.out.size))
        clear hA hK HA HS HB hrg
        go_wp2_with fail
        go_roundw
        case rel => exact ⟨i + 1, by omega, by omega, by go_num, HA4, HB4, HS4⟩
        case measure => simp [intOf]; omega
      · obtain ⟨now, r, u, hD, hnow⟩ := HA.out
        have HD := Aside0.mk hD
        have HNW := Aside0.mk hD.now0
        have hnd := hD.fit
        have HSZ := Aside0.mk HB.out.size
        obtain ⟨hnd1, hnd2, _⟩ := hnd
        have HGO := Aside0.mk hgo
        clear hD hnow hgo HA
        go_upto_region 7 with fail
        go_cut [52] (fun v wx => v = .bool false ∧ wx = wo)
        case first =>
          by_cases g1 : i < l.length
          · have g2 : decide ((i : Int) < 2000) = false := decide_eq_false (fun h => HGO.out ⟨g1, by omega⟩)
            go_wp2
            go_meet
            case rel => exact ⟨rfl, rfl⟩
          · go_wp2
            go_meet
            case rel => exact ⟨rfl, rfl⟩
        case rest =>
        obtain ⟨rfl, hwc⟩ := hcut
        obtain ⟨we, hwe⟩ : ∃ we, we = wo := ⟨_, rfl⟩
        rw [← hwe] at hwc HD HB HS HSZ
        subst hwc
        clear hwe
        have HN2 := Aside0.mk (HN.out.below HB.out)
        go_wp2_with fail
        go_loopw [10, 11] (fun v10 v11 wr => ∃ k : Nat, k ≤ ms.length ∧ k ≤ 200 ∧ v11 = .int .i64 (k : Nat) ∧ Aside0 (Below wc.heap.size wc wr) ∧ Aside0 (wr.ownsRow wc.heap.size 3 1 v10 ((ms.take k).filter (ltNd nd)).length (nums .i64 ((ms.take k).filter (ltNd nd))))) (fun _ v11 _ => 201 - (intOf v11).toNat)
        case atStart => exact ⟨0, Nat.zero_le _, Nat.zero_le _, rfl, ⟨Below.refl _ _⟩, ⟨World.ownsRow_nil _ _ _ _⟩⟩
        case round =>
          obtain ⟨k, hk, hk2, rfl, HBI, HO⟩ := hrel
          obtain ⟨wi, rfl⟩ : ∃ wi : World, wi = wr := ⟨_, rfl⟩
          have hfl : ((ms.take k).filter (ltNd nd)).length ≤ k := Nat.le_trans (List.length_filter_le _ _) (List.length_take_le _ _)
          by_cases hgo : k < ms.length ∧ k < 200
          · obtain ⟨h1, h2⟩ := hgo
            obtain ⟨x, hx⟩ : ∃ x, ms[k]? = some x := ⟨_, List.getElem?_eq_getElem h1⟩
            obtain ⟨b, o, rfl, hcx⟩ := (HN2.out.below HBI.out).get hx
            have hc0 := (HS.out.after HBI.out).c0
            have hFN : (ms.take (k + 1)).filter (ltNd nd) = (ms.take k).filter (ltNd nd) ++ if ltNd nd x = true then [x] else [] := by
              rw [List.take_add_one, hx, List.filter_append]
              congr 1
              simp only [Option.toList, List.filter_cons, List.filter_nil]
            obtain ⟨F1, hF1⟩ : ∃ F1, (ms.take (k + 1)).filter (ltNd nd) = F1 := ⟨_, rfl⟩
            rw [hF1] at hFN
            have HF1 := Aside0.mk hF1
            generalize (ms.take k).filter (ltNd nd) = F at hFN HO hfl
            have HFN := Aside0.mk hFN
            clear hx hF1 hFN
            by_cases hx0 : 0 ≤ x
            · by_cases hx1 : x < nd
              · have HF2 : Aside0 (nums .i64 F1 = nums .i64 F ++ [.int .i64 x] ∧ F1.length = F.length + 1) := ⟨by rw [HFN.out, if_pos (show ltNd nd x = true from decide_eq_true ⟨hx0, hx1⟩)]; simp [nums]⟩
                go_wp2_with fail
                go_quiet (fail)
                have hbq : Below wi.heap.size wi (wi.drewN nq) := pw_below_drewN (Below.refl _ _) _
                have HB2 := Aside0.mk (HBI.out.trans (hbq.mono HBI.out.size))
                have HO2 := Aside0.mk (own_later2 HO.out hbq)
                have hcx2 : (wi.drewN nq).cell? ⟨b, o + k, none⟩ = some (.int .i64 x) := hcx
                generalize wi.drewN nq = w2 at HB2 HO2 hcx2 ⊢
                clear hbq HO hcx hc0
                obtain ⟨oA, oc, rfl, hoc⟩ := own_form HO2.out
                have hsz := HB2.out.size
                go_wp2_with ((with_reducible refine gate_call (args := #[.tmp 85, .tmp 90]) rfl ?_); refine Hid.out ?_)
                refine Lib.hid ?_
                refine list_append_any (P := Try.prog) rfl wc.heap.size (.tmp 85) (.tmp 90) 38 3 _ 1 8 rfl Try.underlying38 infoI rfl (by decide) (by decide) (.slice oA F.length oc) F.length (nums .i64 F) (some ⟨w2.heap.size, 0, none⟩) 1 1 [.int .i64 x] ?hs ?hx rfl (by simp [Value.oneCell']) (.inr ⟨_, rfl, fun j u hj => by have := news w2 [.int .i64 x] 3 j u hj; rwa [show (⟨w2.heap.size, 0, none⟩ : Addr).add j = ⟨w2.heap.size, j, none⟩ by unfold Addr.add; split <;> simp_all]⟩) (HO2.out.alloc _) (by simp; omega) (by omega) (F.length + 1) rfl ?_
                case hs => rfl
                case hx => rfl
                intro A5 c5 w5 hle5 hown5 hg5
                have HO5 : Aside0 (w5.ownsRow wc.heap.size 3 1 (.slice A5 (F.length + 1) c5) F1.length (nums .i64 F1)) := ⟨by rw [HF2.out.1, HF2.out.2]; exact hown5⟩
                have HB5 : Aside0 (Below wc.heap.size wc w5) := ⟨(HB2.out.alloc HB2.out.size _).grown hg5 (by simp; omega) (own_base HO2.out)⟩
                clear hown5 hg5
                go_wp2_with fail
                go_roundw
                case rel => exact ⟨k + 1, by omega, by omega, by go_num, HB5, by rw [HF1.out]; exact HO5⟩
                case measure => simp [intOf]; omega
              · have HF2 : Aside0 (F1 = F) := ⟨by rw [HFN.out, if_neg (show ¬ ltNd nd x = true from fun h => hx1 (of_decide_eq_true h).2), List.append_nil]⟩
                go_wp2_with fail
                go_quiet (fail)
                have HB2 := Aside0.mk (HBI.out.trans ((pw_below_drewN (Below.refl _ _) nq).mono HBI.out.size))
                have HO2 : Aside0 ((wi.drewN nq).ownsRow wc.heap.size 3 1 u10 F1.length (nums .i64 F1)) := ⟨by rw [HF2.out]; exact own_later2 HO.out (pw_below_drewN (Below.refl _ _) nq)⟩
                go_wp2_with fail
                go_roundw
                case rel => exact ⟨k + 1, by omega, by omega, by go_num, HB2, by rw [HF1.out]; exact HO2⟩
                case measure => simp [intOf]; omega
            · have HF2 : Aside0 (F1 = F) := ⟨by rw [HFN.out, if_neg (show ¬ ltNd nd x = true from fun h => hx0 (of_decide_eq_true h).1), List.append_nil]⟩
              have hx2 : decide (0 ≤ x) = false := decide_eq_false hx0
              go_wp2_with fail
              go_quiet (fail)
              have HB2 := Aside0.mk (HBI.out.trans ((pw_below_drewN (Below.refl _ _) nq).mono HBI.out.size))
              have HO2 : Aside0 ((wi.drewN nq).ownsRow wc.heap.size 3 1 u10 F1.length (nums .i64 F1)) := ⟨by rw [HF2.out]; exact own_later2 HO.out (pw_below_drewN (Below.refl _ _) nq)⟩
              go_wp2_with fail
              go_roundw
              case rel => exact ⟨k + 1, by omega, by omega, by go_num, HB2, by rw [HF1.out]; exact HO2⟩
              case measure => simp [intOf]; omega
          · have HGO2 := Aside0.mk hgo
            clear hgo
            go_upto_region 12 with fail
            go_cut [68] (fun v wx => v = .bool false ∧ wx = wi)
            case first =>
              by_cases g1 : k < ms.length
              · have g2 : decide ((k : Int) < 200) = false := decide_eq_false (fun h => HGO2.out ⟨g1, by omega⟩)
                go_wp2
                go_meet
                case rel => exact ⟨rfl, rfl⟩
              · go_wp2
                go_meet
                case rel => exact ⟨rfl, rfl⟩
            case rest =>
            obtain ⟨rfl, hwc⟩ := hcut
            have hF : ∀ x ∈ (ms.take k).filter (ltNd nd), 0 ≤ x ∧ x < nd := fun x hx => of_decide_eq_true (List.mem_filter.1 hx).2
            generalize (ms.take k).filter (ltNd nd) = F at HO hfl hF
            have HFK := Aside0.mk hF
            have hft : F.take 200 = F := List.take_of_length_le (by omega)
            have HFT := Aside0.mk hft
            have HBX := Aside0.mk (HB.out.trans (HBI.out.mono HB.out.size))
            rw [← hwc] at HBX HBI HO
            clear hF hft hwc
            obtain ⟨oA, oc, rfl, hoc⟩ := own_form HO.out
            have hnf := nums_of HO.out
            have HNF := Aside0.mk hnf
            clear hnf
            go_wp2_with fail
            refine (copied_any oA F oc _ HNF.out (by omega)).mono ?_
            rintro e w6 ⟨hb6, v6, rfl, ho6⟩
            rw [HFT.out] at ho6
            obtain ⟨A6, c6, rfl, hc6⟩ := own_form ho6
            have HB6 := Aside0.mk (HBI.out.trans (hb6.mono HBI.out.size))
            have HNF6 := Aside0.mk (HNF.out.below hb6)
            have HO6 := Aside0.mk (own_later2 HO.out hb6)
            have HN6 := Aside0.mk (nums_of ho6)
            clear hb6 ho6 HO HNF
            go_wp2_with fail
            refine (order_any (HD.out.after HB6.out) A6 F c6 HN6.out hc6 (by omega)).mono ?_
            rintro e w7 ⟨hb7, v7, rfl, ho7⟩
            rw [ordR_yes HFK.out] at ho7 ⊢
            obtain ⟨A7, c7, rfl, hc7⟩ := own_form ho7
            have HB7 := Aside0.mk (HB6.out.trans (hb7.mono HB6.out.size))
            have HNF7 := Aside0.mk (HNF6.out.below hb7)
            have HO7 := Aside0.mk (own_later2 HO6.out hb7)
            have HL7 := Aside0.mk (nums_of ho7)
            clear hb7 ho7 HO6 HN6 HNF6 hc6
            go_wp2_with fail
            refine (copied_any oA F oc _ HNF7.out (by omega)).mono ?_
            rintro e w8 ⟨hb8, v8, rfl, ho8⟩
            rw [HFT.out] at ho8
            obtain ⟨A8, c8, rfl, hc8⟩ := own_form ho8
            have HB8 := Aside0.mk (HB7.out.trans (hb8.mono HB7.out.size))
            have HNF8 := Aside0.mk (HNF7.out.below hb8)
            have HO8 := Aside0.mk (own_later2 HO7.out hb8)
            have HL8 := Aside0.mk (HL7.out.below hb8)
            have HN8 := Aside0.mk (nums_of ho8)
            clear hb8 ho8 HO7 HNF7 HL7
            go_wp2_with fail
            refine (order_any (HD.out.after HB8.out) A8 F c8 HN8.out hc8 (by omega)).mono ?_
            rintro e w9 ⟨hb9, v9, rfl, ho9⟩
            rw [ordR_yes HFK.out] at ho9 ⊢
            obtain ⟨A9, c9, rfl, hc9⟩ := own_form ho9
            have HB9 := Aside0.mk (HB8.out.trans (hb9.mono HB8.out.size))
            have HNF9 := Aside0.mk (HNF8.out.below hb9)
            have HO9 := Aside0.mk (own_later2 HO8.out hb9)
            have HL9 := Aside0.mk (HL8.out.below hb9)
            have HM9 := Aside0.mk (nums_of ho9)
            clear hb9 ho9 HO8 HNF8 HL8 HN8 hc8
            have hol := oL_len HD.out F
            have HOL := Aside0.mk hol
            obtain ⟨Q, hQ⟩ : ∃ Q, Q = oL u now bn F := ⟨_, rfl⟩
            rw [← hQ] at HL9 HM9 hc7 hc9 hol ⊢
            have HQ := Aside0.mk hQ
            have hql : Q.length ≤ 1000000000 := by omega
            clear hQ hol
            go_wp2_with (go_at_call 11; refine (num_any _ _).mono ?_; rintro e w' ⟨rfl, rfl⟩)
            refine (same_yes A7 A9 c7 c9 Q w9 HL9.out HM9.out (by omega)).mono ?_
            rintro e w10 ⟨rfl, q, rfl⟩
            have hbq : Below w9.heap.size w9 (w9.drewN q) := pw_below_drewN (Below.refl _ _) _
            have HB10 := Aside0.mk (HB9.out.trans (hbq.mono HB9.out.size))
            have HNF10 := Aside0.mk (HNF9.out.below hbq)
            have HO10 := Aside0.mk (own_later2 HO9.out hbq)
            have HL10 := Aside0.mk (HL9.out.below hbq)
            generalize w9.drewN q = w10 at HB10 HNF10 HO10 HL10 ⊢
            clear hbq HNF9 HO9 HL9 HM9
            go_wp2_with fail
            refine (sorted_any (HD.out.after HB10.out) oA A7 oc c7 F Q HQ.out HNF10.out HL10.out HFK.out (by omega) hc7).mono ?_
            rintro e w11 ⟨rfl, hb11⟩
            have HB11 := Aside0.mk (HB10.out.trans (hb11.mono HB10.out.size))
            have HO11 := Aside0.mk (own_later2 HO10.out hb11)
            have hc0 := (HS.out.after HB11.out).c0
            have hsz := HB11.out.size
            clear hb11 HO10 HNF10 HL10
            go_wp2_with ((with_reducible refine gate_call (args := #[.tmp 127, .tmp 130]) rfl ?_); refine Hid.out ?_)
            refine Lib.hid ?_
            refine list_append_any (P := Try.prog) rfl _ (.tmp 127) (.tmp 130) 38 3 _ 1 8 rfl Try.underlying38 infoI rfl (by decide) (by decide) (.slice oA F.length oc) F.length (nums .i64 F) (some ⟨w11.heap.size, 0, none⟩) 1 1 [.int .i64 nd] ?hs ?hx rfl (by simp [Value.oneCell']) (.inr ⟨_, rfl, fun j u hj => by have := news w11 [.int .i64 nd] 3 j u hj; rwa [show (⟨w11.heap.size, 0, none⟩ : Addr).add j = ⟨w11.heap.size, j, none⟩ by unfold Addr.add; split <;> simp_all]⟩) (HO11.out.alloc _) (by simp; omega) (by omega) (F.length + 1) rfl ?_
            case hs => rfl
            case hx => rfl
            intro A5 c5 w12 hle5 hown5 hg5
            obtain ⟨G, hG⟩ : ∃ G, G = F ++ [nd] := ⟨_, rfl⟩
            have hGl : F.length + 1 = G.length := by rw [hG]; simp
            have HO12 : Aside0 (NumsAt w12 A5 G) := ⟨nums_of (n := F.length + 1) (c := c5) (by rw [hG]; have := hown5; simpa [nums] using this)⟩
            have HB12 := Aside0.mk ((HB11.out.alloc HB11.out.size _).grown hg5 (by simp; omega) (own_base HO11.out))
            have HGN : Aside0 (nd ∈ G) := ⟨by rw [hG]; simp⟩
            have hgl : G.length ≤ 1000000 := by omega
            rw [hGl] at hle5 ⊢
            clear hown5 hg5 hG hGl hc0
            go_wp2_with fail
            refine (order_any (HD.out.after HB12.out) A5 G c5 HO12.out hle5 (by omega)).mono ?_
            rintro e w13 ⟨hb13, v13, rfl, ho13⟩
            rw [ordR_no (x := nd) HGN.out (by omega)] at ho13 ⊢
            obtain ⟨A13, c13, rfl, hc13⟩ := own_form ho13
            have HB13 := Aside0.mk (HB12.out.trans (hb13.mono HB12.out.size))
            clear hb13 ho13 hle5
            simp only [List.length_nil]
            go_wp2_with (go_at_call 11; refine (num_any _ _).mono ?_; rintro e w' ⟨rfl, rfl⟩)
            go_ret
            exact ⟨rfl, HB.out.trans (HB13.out.mono HB.out.size)⟩
  · have HF := Aside0.mk hf
    refine (new_bad nd st bn w0 hf).mono ?_
    rintro e w1 ⟨rfl, rfl⟩
    have hrg := HS.out.range
    clear h0 h1 h2 hf
    go_wp2_with ((with_reducible refine gate_load (ty := 23) (x := .tmp 3) rfl ?_); refine wpList_load_mid rfl 23 (.tmp 3) rfl wz.heap.size 0 rfl (upL nd st bn) _ hrg Try.underlying23 rfl hi ?_)
    refine (fits_no nd st bn w0 HF.out).mono ?_
    rintro e w2 ⟨rfl, hb⟩
    have HB2 := Aside0.mk (HB0.out.trans (hb.mono HB0.out.size))
    clear hb hrg
    go_wp2_with (go_at_call 11; refine (num_any _ _).mono ?_; rintro e w' ⟨rfl, rfl⟩)
    go_ret
    exact ⟨rfl, HB2.out⟩
end Go.Proofs.Ytbheegamibdbhaa.LawOrders
