/- The law's sorted: of Order's own answer, true. -/
import Derived.Test.YtbheegamibdbhaaOrdLaw
set_option linter.unusedVariables false
set_option linter.unusedSimpArgs false
namespace Go.Proofs.Ytbheegamibdbhaa.OrdSorted
open Go.RowKit Go.Proofs.YtbheegamibdbhaaW.PrintWords Go.Proofs.YtbheegamibdbhaaW.PrintLast Go.Proofs.YtbheegamibdbhaaW.PrintMore
open Go.Lib Go.Proofs.Ytbheegamibdbhaa.Base Go.Proofs.Ytbheegamibdbhaa.App Go.Proofs.Ytbheegamibdbhaa.AppG Go.Proofs.Ytbheegamibdbhaa.MapK Go.Proofs.Ytbheegamibdbhaa.Det Go.Proofs.Ytbheegamibdbhaa.Bans Go.Proofs.Ytbheegamibdbhaa.Made Go.Proofs.Ytbheegamibdbhaa.Drive Go.Proofs.Ytbheegamibdbhaa.SymMerge Go.Proofs.Ytbheegamibdbhaa.StabUse Go.Proofs.Ytbheegamibdbhaa.OrdLess Go.Proofs.Ytbheegamibdbhaa.Order Go.Proofs.Ytbheegamibdbhaa.OrdKit Go.Proofs.Ytbheegamibdbhaa.OrdLaw
theorem own_later2 {w w' : World} {base : Nat} {e : TypeId} {size : Nat} {v : Value} {n : Nat} {xs : List Value} (h : w.ownsRow base e size v n xs) (hb : Below w.heap.size w w') : w'.ownsRow base e size v n xs :=
  h.kept (row := none) ⟨hb.os, hb.tape, hb.output, hb.size, fun k hk _ => hb.block k hk⟩ (by cases v.ownBlock <;> simp)
theorem oL_same {w : World} {B : Nat} {nd st bn now : Int} {b1 b2 n : Nat} {r u : Int → Option Int} (h : Det w B nd st bn now b1 b2 n r u) (l : List Int) : SymMerge.Same (rk u now) l (oL u now bn l) :=
  ordL_same now h.now0 l _ fun x _ => by
    unfold rk
    by_cases e : now < (u x).getD 0
    · rw [if_pos e]
      right
      have h0 := h.now0
      cases hu : u x with
      | none => rw [hu] at e; simp at e; omega
      | some y =>
        have := h.ub x y hu
        have := h.fit
        rw [hu] at e
        simp only [Option.getD_some] at e ⊢
        omega
    · rw [if_neg e]; exact .inl rfl
theorem oL_len {w : World} {B : Nat} {nd st bn now : Int} {b1 b2 n : Nat} {r u : Int → Option Int} (h : Det w B nd st bn now b1 b2 n r u) (l : List Int) : (oL u now bn l).length = l.length :=
  ((List.perm_iff_count.2 fun x => same_perm (oL_same h l) x).length_eq).symm
theorem oL_take (u : Int → Option Int) (now bn : Int) (l : List Int) : (oL u now bn l).take (l.filter fun x => decide (rk u now x = 0)).length = l.filter fun x => decide (rk u now x = 0) := by
  unfold oL ordL
  rw [List.take_append_of_le_length (Nat.le_refl _), List.take_length]
theorem NumsAt.take {w : World} {A : Option Addr} {l : List Int} (h : NumsAt w A l) (m : Nat) : NumsAt w A (l.take m) := by
  rcases h with rfl | ⟨b, o, rfl, h⟩
  · exact .inl (by simp)
  · refine .inr ⟨b, o, rfl, fun i x hi => h i x ?_⟩
    rw [List.getElem?_take] at hi
    split at hi
    · exact hi
    · cases hi
set_option maxRecDepth 100000 in
set_option maxHeartbeats 8000000 in
theorem sorted_any {w : World} {B : Nat} {nd st bn now : Int} {b1 b2 n : Nat} {r u : Int → Option Int} (h : Det w B nd st bn now b1 b2 n r u) (A C : Option Addr) (c1 c2 : Nat) (l m : List Int) (hm : m = oL u now bn l) (hA : NumsAt w A l) (hC : NumsAt w C m) (hk : ∀ x ∈ l, 0 ≤ x ∧ x < nd) (hl : l.length ≤ 1000000000) (hc2 : m.length ≤ c2) :
    Calls Try.prog 24 #[.pointer (some ⟨B, 0, none⟩), .slice A l.length c1, .slice C m.length c2] w fun e w' => e = .returned (.bool true) ∧ Below w.heap.size w w' := by
  have HD := Aside0.mk h
  have HA := Aside0.mk hA
  have HC := Aside0.mk hC
  have HK := Aside0.mk hk
  have HCT : Aside0 (∀ x, m.count x = l.count x) := ⟨fun x => by rw [hm]; exact (same_perm (oL_same h l) x).symm⟩
  have HTK : Aside0 (m.take (l.filter fun x => decide (rk u now x = 0)).length = l.filter fun x => decide (rk u now x = 0)) := ⟨by rw [hm]; exact oL_take u now bn l⟩
  have hml : m.length = l.length := by rw [hm]; exact oL_len h l
  rw [hml] at hc2 ⊢
  have HML := Aside0.mk hml
  obtain ⟨L, hL⟩ : ∃ L, L = l.length := ⟨_, rfl⟩
  rw [← hL] at hl hc2 ⊢
  have HLE := Aside0.mk hL
  clear h hA hC hk hm hml hL
  go_enter Try.func24, Try.ntmps24
  go_wp2_with fail
  go_loopw [7, 8] (fun v7 v8 wr => ∃ k : Nat, k ≤ L ∧ v8 = .int .i64 (k : Nat) ∧ Aside0 (Below w.heap.size w wr) ∧ Aside0 (wr.ownsRow w.heap.size 3 1 v7 ((l.take k).filter fun x => decide (rk u now x = 0)).length (nums .i64 ((l.take k).filter fun x => decide (rk u now x = 0))))) (fun _ v8 _ => L - (intOf v8).toNat)
  case atStart => exact ⟨0, Nat.zero_le _, rfl, ⟨Below.refl _ _⟩, ⟨World.ownsRow_nil _ _ _ _⟩⟩
  case round =>
    obtain ⟨k, hk, rfl, HB, HO⟩ := hrel
    obtain ⟨wo, rfl⟩ : ∃ wo : World, wo = wr := ⟨_, rfl⟩
    by_cases h1 : k < L
    · obtain ⟨x, hx⟩ : ∃ x, l[k]? = some x := ⟨_, List.getElem?_eq_getElem (by rw [← HLE.out]; exact h1)⟩
      obtain ⟨b, o, rfl, hcx⟩ := (HA.out.below HB.out).get hx
      have hkn := HK.out x (List.mem_of_getElem? hx)
      have HCA : Aside0 (∀ q, Calls Try.prog 39 #[.slice (some ⟨b, o, none⟩) L c1, .int .i64 x] (wo.drewN q) fun e w' => e = .returned (.int .i64 ((l.count x : Nat) : Int)) ∧ w' = wo.drewN q) := ⟨fun q => by rw [HLE.out]; exact count_any (some ⟨b, o, none⟩) l c1 x (wo.drewN q) (HA.out.below (pw_below_drewN HB.out q)) (by rw [← HLE.out]; exact hl)⟩
      have HCB : Aside0 (∀ q, Calls Try.prog 39 #[.slice C L c2, .int .i64 x] (wo.drewN q) fun e w' => e = .returned (.int .i64 ((l.count x : Nat) : Int)) ∧ w' = wo.drewN q) := ⟨fun q => by rw [HLE.out, ← HML.out, ← HCT.out x]; exact count_any C m c2 x (wo.drewN q) (HC.out.below (pw_below_drewN HB.out q)) (by rw [HML.out, ← HLE.out]; exact hl)⟩
      generalize ((l.count x : Nat) : Int) = cn at HCA HCB
      have hFN : ((l.take (k + 1)).filter fun x => decide (rk u now x = 0)) = ((l.take k).filter fun x => decide (rk u now x = 0)) ++ if decide (rk u now x = 0) = true then [x] else [] := by
        rw [List.take_add_one, hx, List.filter_append]
        congr 1
        simp only [Option.toList, List.filter_cons, List.filter_nil]
      obtain ⟨F1, hF1⟩ : ∃ F1, ((l.take (k + 1)).filter fun x => decide (rk u now x = 0)) = F1 := ⟨_, rfl⟩
      rw [hF1] at hFN
      have hfl : ((l.take k).filter fun x => decide (rk u now x = 0)).length ≤ k := Nat.le_trans (List.length_filter_le _ _) (List.length_take_le _ _)
      have HF1 := Aside0.mk hF1
      have HCX : Aside0 (w.cell? ⟨b, o + k, none⟩ = some (.int .i64 x)) := ⟨by obtain ⟨b', o', e, hc⟩ := HA.out.get hx; injection e with e; injection e with e1 e2; subst e1 e2; exact hc⟩
      generalize (l.take k).filter (fun x => decide (rk u now x = 0)) = F at hFN HO hfl
      have HFN := Aside0.mk hFN
      have hnn : (cn != cn) = false := by simp
      clear hx hF1 hFN
      go_wp2_with fail
      go_quiet (first | with_reducible exact Calls.quiet_of_same (HCA.out _) | with_reducible exact Calls.quiet_of_same (HCB.out _))
      have hbq : Below wo.heap.size wo (wo.drewN nq) := pw_below_drewN (Below.refl _ _) _
      have HB2 := Aside0.mk (HB.out.trans (hbq.mono HB.out.size))
      have HO2 := Aside0.mk (own_later2 HO.out hbq)
      generalize wo.drewN nq = w2 at HB2 HO2 ⊢
      clear hbq HO
      have hsp := speaks_any (HD.out.after HB2.out) x hkn
      generalize decide (rk u now x = 0) = bb at hsp HFN
      have HSP := Aside0.mk hsp
      clear hsp hcx
      have hcx2 : w2.cell? ⟨b, o + k, none⟩ = some (.int .i64 x) := cell_below HB2.out (Nat.le_refl _) HCX.out
      go_wp2_with fail
      refine HSP.out.mono ?_
      rintro e w3 ⟨rfl, hb3⟩
      have HB3 := Aside0.mk (HB2.out.trans (hb3.mono HB2.out.size))
      have HO3 := Aside0.mk (own_later2 HO2.out hb3)
      clear hb3 HO2
      have hcx3 : w3.cell? ⟨b, o + k, none⟩ = some (.int .i64 x) := cell_below HB3.out (Nat.le_refl _) HCX.out
      cases bb with
      | true =>
        have HF2 : Aside0 (nums .i64 F1 = nums .i64 F ++ [.int .i64 x] ∧ F1.length = F.length + 1) := ⟨by rw [HFN.out]; simp [nums]⟩
        obtain ⟨oA, oc, rfl, hoc⟩ := own_form HO3.out
        have hsz := HB3.out.size
        go_wp2_with ((with_reducible refine gate_call (args := #[.tmp 39, .tmp 44]) rfl ?_); refine Hid.out ?_)
        refine Lib.hid ?_
        refine list_append_any (P := Try.prog) rfl w.heap.size (.tmp 39) (.tmp 44) 38 3 _ 1 8 rfl Try.underlying38 infoI rfl (by decide) (by decide) (.slice oA F.length oc) F.length (nums .i64 F) (some ⟨w3.heap.size, 0, none⟩) 1 1 [.int .i64 x] ?hs ?hx rfl (by simp [Value.oneCell']) (.inr ⟨_, rfl, fun j u hj => by have := news w3 [.int .i64 x] 3 j u hj; rwa [show (⟨w3.heap.size, 0, none⟩ : Addr).add j = ⟨w3.heap.size, j, none⟩ by unfold Addr.add; split <;> simp_all]⟩) (HO3.out.alloc _) (by simp; omega) (by omega) (F.length + 1) rfl ?_
        case hs => rfl
        case hx => rfl
        intro A5 c5 w5 hle5 hown5 hg5
        have HO5 : Aside0 (w5.ownsRow w.heap.size 3 1 (.slice A5 (F.length + 1) c5) F1.length (nums .i64 F1)) := ⟨by rw [HF2.out.1, HF2.out.2]; exact hown5⟩
        have HB5 : Aside0 (Below w.heap.size w w5) := ⟨(HB3.out.alloc HB3.out.size _).grown hg5 (by simp; omega) (own_base HO3.out)⟩
        clear hown5 hg5
        go_wp2_with fail
        go_roundw
        case rel => exact ⟨k + 1, by omega, by go_num, HB5, by rw [HF1.out]; exact HO5⟩
        case measure => simp [intOf]; omega
      | false =>
        have HO5 : Aside0 (w3.ownsRow w.heap.size 3 1 u7 F1.length (nums .i64 F1)) := ⟨by rw [HFN.out]; simp; exact HO3.out⟩
        go_wp2_with fail
        go_roundw
        case rel => exact ⟨k + 1, by omega, by go_num, HB3, by rw [HF1.out]; exact HO5⟩
        case measure => simp [intOf]; omega
    · have he : l.take k = l := List.take_of_length_le (by rw [← HLE.out]; omega)
      rw [he] at HO
      have hfl : (l.filter fun x => decide (rk u now x = 0)).length ≤ L := by rw [HLE.out]; exact List.length_filter_le _ _
      generalize (l.filter fun x => decide (rk u now x = 0)) = F at HO HTK hfl
      obtain ⟨oA, oc, rfl, hoc⟩ := own_form HO.out
      have hNF := nums_of HO.out
      have hNC : NumsAt wo C F := by have := NumsAt.take (HC.out.below HB.out) F.length; rwa [HTK.out] at this
      have hcz : F.length ≤ c2 := by omega
      have hsm := fun cc => same_yes oA C oc cc F wo hNF hNC (by omega)
      have HSM := Aside0.mk hsm
      clear he hNF hNC hsm
      go_wp2_with fail
      refine (HSM.out _).mono ?_
      rintro e w3 ⟨rfl, q, rfl⟩
      go_wp2_with fail
      go_ret
      exact ⟨rfl, pw_below_drewN HB.out q⟩
end Go.Proofs.Ytbheegamibdbhaa.OrdSorted
