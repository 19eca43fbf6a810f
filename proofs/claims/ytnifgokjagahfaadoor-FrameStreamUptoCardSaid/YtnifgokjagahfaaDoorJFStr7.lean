/- Joined texts of this claim: LawCuts -/
import Derived.Test.YtnifgokjagahfaaDoorJFStr6
/- FrameCuts, walked. -/
set_option linter.unusedVariables false
set_option linter.unusedSimpArgs false
namespace Go.Proofs.YtnifgokjagahfaaDoor.LawCuts
open Go.RowKit Go.Proofs.YtnifgokjagahfaaDoorW.PrintWords Go.Proofs.YtnifgokjagahfaaDoorW.PrintLast Go.Proofs.YtnifgokjagahfaaDoorW.PrintMore
open Go.Proofs.YtnifgokjagahfaaDoor.Base Go.Proofs.YtnifgokjagahfaaDoor.App Go.Proofs.YtnifgokjagahfaaDoor.Layouts Go.Proofs.YtnifgokjagahfaaDoor.Msg Go.Proofs.YtnifgokjagahfaaDoor.Put Go.Proofs.YtnifgokjagahfaaDoor.EncPure Go.Proofs.YtnifgokjagahfaaDoor.DecPure Go.Proofs.YtnifgokjagahfaaDoor.Mids Go.Proofs.YtnifgokjagahfaaDoor.Enc Go.Proofs.YtnifgokjagahfaaDoor.EqM Go.Proofs.YtnifgokjagahfaaDoor.SplitPure Go.Proofs.YtnifgokjagahfaaDoor.Pcs Go.Proofs.YtnifgokjagahfaaDoor.Reader Go.Proofs.YtnifgokjagahfaaDoor.ReadPure Go.Proofs.YtnifgokjagahfaaDoor.ReadStream Go.Proofs.YtnifgokjagahfaaDoor.Feed Go.Proofs.YtnifgokjagahfaaDoor.Close Go.Proofs.YtnifgokjagahfaaDoor.CutsF
open Go.Proofs.YtnifgokjagahfaaDoor.Crc (Nibs)
open Go.Proofs.YtnifgokjagahfaaDoor.Dec (mL_one infoM)
attribute [local go_sem high] eqA
theorem total_len (l : List ByteArray) : l.length ≤ Open.total l := by
  unfold Open.total
  induction l with
  | nil => exact Nat.le_refl _
  | cons s l ih => simp only [List.map_cons, List.sum_cons, List.length_cons]; omega
theorem rows_at {w : World} {base : Nat} {e : TypeId} {size n : Nat} {g cap : Nat} {xs : List Value} (h : w.ownsRow base e size (.slice (some ⟨g, 0, none⟩) n cap) n xs) (o : Nat) (cs : List Value) (hc : ∀ j u, cs[j]? = some u → xs[o + j]? = some u) : w.rangeAt g o cs := by
  intro j u hu
  have := h.cells (g := g) rfl (o + j) u (hc j u hu)
  have e : (⟨g, 0, none⟩ : Addr).add (o + j) = ⟨g, o + j, none⟩ := by unfold Addr.add; split <;> simp_all
  rwa [e] at this
theorem msL_at : ∀ (l : List Pc) (j : Nat) (x : Pc), l[j]? = some x → ∀ (i : Nat) (u : Value), (mL x.2.2)[i]? = some u → (msL (msgs l))[j * 11 + i]? = some u := by
  intro l
  induction l with
  | nil => intro j x h; simp at h
  | cons q l ih =>
    intro j x h i u hu
    have hi : i < 11 := by
      have := (List.getElem?_eq_some_iff.1 hu).1
      rwa [mL_len] at this
    have e : msL (msgs (q :: l)) = mL q.2.2 ++ msL (msgs l) := by simp [msL, msgs]
    rw [e]
    cases j with
    | zero =>
      simp only [List.getElem?_cons_zero, Option.some.injEq] at h
      subst h
      rw [List.getElem?_append_left (by rw [mL_len]; omega), Nat.zero_mul, Nat.zero_add]
      exact hu
    | succ j =>
      rw [List.getElem?_cons_succ] at h
      rw [List.getElem?_append_right (by rw [mL_len]; omega), mL_len]
      have := ih j x h i u hu
      rw [← this]
      congr 1
      omega
theorem szs_take (l : List Pc) (j : Nat) (x : Pc) (h : l[j]? = some x) : szs (l.take (j + 1)) = szs (l.take j) + x.2.1 := by
  rw [List.take_add_one, h, szs_append]
  simp [szs]
theorem szs_take_le (l : List Pc) (j : Nat) : szs (l.take j) ≤ szs l := by
  conv => rhs; rw [← List.take_append_drop j l]
  rw [szs_append]
  omega
set_option maxRecDepth 100000 in
set_option maxHeartbeats 8000000 in
theorem law_cuts (A : Option Addr) (c : Nat) (l : List ByteArray) (w : World) (hr : Kd.C Kd.string w A l.length l) (hc : l.length ≤ c) (ht : Open.total l ≤ 2000000) (hN : Nibs w) :
    Calls Tryd.prog 11 #[.slice A l.length c] w fun e w' => e = .returned (.bool true) ∧ Below w.heap.size w w' := by
  have HN := Aside0.mk hN
  have HRD := Aside0.mk hr
  have hll : l.length ≤ 2000000 := Nat.le_trans (total_len l) ht
  have E1 := Lib.hid (show Calls Tryd.prog 13 #[.agg #[.int .i64 7, .int .i64 64, .int .i64 0, .int .i64 3, .int .i64 4, .int .i64 2, .int .i64 0, .int .i64 0, .int .i64 0, .string { data := #[] }, .string { data := #[] }]] w _ from enc_good' bkM bk_valid bk_kind w hN)
  rw [show strOfNums (whole bkM) = bk from rfl] at E1
  have hbk := bk_size
  have HBK := Aside0.mk hbk
  have hsm := fun k => jn_size bk (l.take k)
  have HSM : Aside0 (∀ k, (jn bk (l.take k)).size ≤ 2100000) := ⟨fun k => by have := hsm k; have := total_take l k; omega⟩
  clear hN hr ht hsm
  obtain ⟨P, hP⟩ : ∃ P, P = bk := ⟨_, rfl⟩
  have HP := Aside0.mk hP
  rw [← hP] at E1 hbk
  clear hP
  go_enter Tryd.func11, Tryd.ntmps11
  go_wp2_with fail
  refine E1.out.mono ?_
  rintro e w1 ⟨rfl, hb⟩
  have HB1 := Aside0.mk hb
  clear hb E1
  go_wp2_with fail
  refine (new_any w1).mono ?_
  rintro e w2 ⟨rfl, rfl⟩
  have HR2 := Aside0.mk (new_box w1)
  have HB2 := Aside0.mk (HB1.out.alloc HB1.out.size (.cells #[.string ByteArray.empty, .int .i64 0] 116))
  have HL := Aside0.mk HB1.out.size
  generalize w1.alloc (.cells #[.string ByteArray.empty, .int .i64 0] 116) = w2 at HR2 HB2 ⊢
  generalize w1.heap.size = b at HR2 HL ⊢
  clear HB1
  have hbn : 2 < b := Nat.lt_of_lt_of_le HN.out.lt HL.out
  have HBN := Aside0.mk hbn
  clear hbn
  go_wp2_with fail
  refine (num_any _ _).mono ?_
  rintro e w' ⟨rfl, rfl⟩
  have hp24 : ¬ (P.size : Int) < 24 := by omega
  have KF := feedW ByteArray.empty P [] 0 Fed.init w2 b (show RBox w2 b (ByteArray.empty.extract 0 ByteArray.empty.size) _ from HR2.out) (by have : ByteArray.empty.size = 0 := rfl; omega) (HN.out.below HB2.out) (by have := HBN.out; omega)
  have he : ByteArray.empty ++ P = P := ext_list (by rw [data_append]; exact List.nil_append _)
  rw [he] at KF
  clear he HR2
  go_wp2_with fail
  refine KF.mono ?_
  rintro e w3 ⟨v3, L3, p3, rfl, ho, hF, hR, hbt⟩
  have HB3 := Aside0.mk (HB2.out.trans (hbt.below HL.out HB2.out.size))
  have HO3 := Aside0.mk (own_lower ho HB2.out.size)
  have hR0 := hR
  rw [List.nil_append] at hF
  have HF3 := Aside0.mk hF
  clear KF HB2 ho hF hR hbt
  go_wp2_with fail
  refine (num_any _ _).mono ?_
  rintro e w' ⟨rfl, rfl⟩
  go_wp2_with fail
  rw [List.nil_append] at hR0
  have HR3 := Aside0.mk hR0
  clear hR0
  have hst : (sh 0 L3).length = L3.length ∧ msgs (sh 0 L3) = msgs L3 := ⟨by simp [sh], msgs_sh 0 L3⟩
  have HS3 : Aside0 (w3.ownsRow w.heap.size 24 11 v3 (sh 0 L3).length (msL (msgs (sh 0 L3)))) := ⟨by rw [hst.1, hst.2]; exact HO3.out⟩
  clear HO3 hst
  generalize sh 0 L3 = pre3 at HS3 HR3 HF3
  go_loopw [6, 7, 9, 10, 11] (fun sv gv iv _ _ wr => ∃ (k : Nat) (pre : List Pc) (p : Nat) (S : ByteArray), k ≤ l.length ∧ iv = .int .i64 (k : Int) ∧ sv = .string S ∧ Aside0 (S = jn bk (l.take k)) ∧ Aside0 (Fed S pre p) ∧ Aside0 (wr.ownsRow w.heap.size 24 11 gv pre.length (msL (msgs pre))) ∧ Aside0 (RBox wr b (S.extract p S.size) ((p - szs pre : Nat) : Int)) ∧ Aside0 (Below w.heap.size w wr)) (fun _ _ iv _ _ _ => l.length - (intOf iv).toNat)
  case atStart => exact ⟨0, pre3, p3, P, Nat.zero_le _, rfl, rfl, ⟨by rw [HP.out]; rfl⟩, HF3, HS3, HR3, HB3⟩
  case round =>
    clear HS3 HR3 HF3 HB3
    obtain ⟨k, pre, p, S, hk, rfl, rfl, HS, HF, HO, HR, HB⟩ := hrel
    obtain ⟨wo, rfl⟩ : ∃ wo : World, wo = wr := ⟨_, rfl⟩
    by_cases hlt : k < l.length
    · obtain ⟨ad, e1, hx⟩ := Kd.at_string HRD.out (k : Int) (by omega) (by omega)
      cases e1
      rw [Int.toNat_natCast] at hx
      have HX := Aside0.mk hx
      have hjn := jn_next bk l k hlt
      have hsz := HSM.out (k + 1)
      rw [hjn, ← HS.out] at hsz
      rw [← HS.out] at hjn
      have HJ := Aside0.mk hjn
      clear hx hjn
      generalize rdOf ByteArray.empty l (k : Int) = t at HX HJ hsz
      rw [ByteArray.size_append] at hsz
      have KF := Lib.hid (feedW S t pre p HF.out wo b HR.out (by omega) (HN.out.below HB.out) (by have := HBN.out; omega))
      have hx := pw_cell_below HB.out HX.out
      go_wp2_with fail
      refine KF.out.mono ?_
      rintro e w5 ⟨v5, L5, p5, rfl, ho, hF, hR, hbt⟩
      have HO5 := Aside0.mk (own_but2 HO.out hbt HR.out)
      have HU5 := Aside0.mk ho
      have HF5 := Aside0.mk hF
      have HR5 := Aside0.mk hR
      have HB5 := Aside0.mk (HB.out.trans (hbt.below HL.out HB.out.size))
      clear KF hx ho hF hR hbt HO HR HF HB
      have hx := pw_cell_below HB5.out HX.out
      have hlen : 24 * (pre ++ sh p L5).length ≤ 4194304 := by
        have h1 := HF5.out.all ByteArray.empty
        rw [append_nil'] at h1
        have h2 := pcs_bytes (S ++ t) 0
        rw [h1, List.length_append, ByteArray.size_append] at h2
        omega
      have hlen2 : (pre ++ sh p L5).length = pre.length + L5.length := by simp [sh]
      rw [hlen2] at hlen
      have HLEN := Aside0.mk hlen
      have HLEN2 := Aside0.mk hlen2
      clear hlen hlen2
      go_wp2_with fail
      refine (num_any _ _).mono ?_
      rintro e w' ⟨rfl, rfl⟩
      go_wp2_with ((with_reducible refine gate_call (args := #[.tmp 67, .tmp 68]) rfl ?_); refine Hid.out ?_)
      refine Lib.hid ?_
      refine list_append_rows (P := Tryd.prog) (w0 := w) w.heap.size rfl (.tmp 67) (.tmp 68) 67 24 _ 11 104 rfl Tryd.underlying67 infoMs rfl (by decide) (by decide) u7 pre.length (msL (msgs pre)) v5 wo.heap.size L5.length (msL (msgs L5)) ?hs ?hx HU5.out (msL_ones _) HO5.out HB5.out HB5.out.size ?hl ?_
      case hs => rfl
      case hx => rfl
      case hl => have := HLEN.out; omega
      intro v6 w6 HO6 HB6 HG6
      have HO7 := Aside0.mk HO6
      have HB7 := Aside0.mk HB6
      have HR7 := Aside0.mk (RBox.grown HR5.out HO5.out HG6)
      clear HO6 HB6 HG6
      go_wp2_with fail
      go_roundw
      case rel =>
        refine ⟨k + 1, pre ++ sh p L5, p5, S ++ t, by omega, by go_num, rfl, ⟨HJ.out.symm⟩, HF5, ⟨?_⟩, HR7, HB7⟩
        rw [HLEN2.out, msgs_append, msL_append, msgs_sh]
        exact HO7.out
      case measure => simp [intOf]; omega
    · have hk' : k = l.length := by omega
      have hSz : S.size ≤ 2100000 := by rw [HS.out]; exact HSM.out k
      have hjn : S = jn bk l := by rw [HS.out, hk', List.take_length]
      have hne : pcs S 0 ≠ [] := by rw [hjn]; exact some_pieces l
      have hle := HF.out.le
      have hroom := HF.out.room
      have hcl := HF.out.close
      have hHs := tail_size S p hle
      have hps := pcs_szs (S.extract p S.size) _ 0 (Nat.le_refl _)
      have hHl := pcs_bytes (S.extract p S.size) 0
      have KC := Lib.hid (close_any wo b (S.extract p S.size) _ HR.out (by omega) (by omega) (by omega) (HN.out.below HB.out) HBN.out)
      generalize S.extract p S.size = H at KC hHs hcl hps hHl
      have hall : msgs (pcs S 0) = msgs pre ++ msgs (pcs H 0) ∧ (pcs S 0).length = pre.length + (pcs H 0).length ∧ szs (pcs S 0) = szs pre + szs (pcs H 0) := by
        rw [hcl]
        exact ⟨by rw [msgs_append, msgs_sh], by simp [sh], by rw [szs_append, szs_sh]⟩
      have hk24 := pcs_bytes S 0
      have HALL := Aside0.mk hall
      have HNUM := Aside0.mk (show ((p - szs pre : Nat) : Int) + ((H.size - szs (pcs H 0) : Nat) : Int) = ((S.size - szs (pcs S 0) : Nat) : Int) ∧ pre.length + (pcs H 0).length ≤ 100000 ∧ szs (pcs S 0) ≤ S.size by obtain ⟨_, h2, h3⟩ := hall; omega)
      have HNE := Aside0.mk hne
      have HSZ := Aside0.mk hSz
      clear hne hall hcl hps hHl hHs hroom hle hjn hk24 hSz
      go_wp2_with fail
      refine KC.out.mono ?_
      rintro e w5 ⟨v5, rfl, ho, hR, hbt⟩
      have HO5 := Aside0.mk (own_but2 HO.out hbt HR.out)
      have HU5 := Aside0.mk ho
      rw [HNUM.out.1] at hR
      have HR5 := Aside0.mk hR
      have HB5 := Aside0.mk (HB.out.trans (hbt.below HL.out HB.out.size))
      clear KC ho hR hbt HO HR HF HB
      go_wp2_with ((with_reducible refine gate_call (args := #[.tmp 70, .tmp 72]) rfl ?_); refine Hid.out ?_)
      refine Lib.hid ?_
      refine list_append_rows (P := Tryd.prog) (w0 := w) w.heap.size rfl (.tmp 70) (.tmp 72) 67 24 _ 11 104 rfl Tryd.underlying67 infoMs rfl (by decide) (by decide) u7 pre.length (msL (msgs pre)) v5 wo.heap.size (pcs H 0).length (msL (msgs (pcs H 0))) ?hs ?hx HU5.out (msL_ones _) HO5.out HB5.out HB5.out.size ?hl ?_
      case hs => rfl
      case hx => rfl
      case hl => have := HNUM.out.2; omega
      intro v6 w6 HO6 HB6 HG6
      rw [← msL_append, ← HALL.out.1, ← HALL.out.2.1] at HO6
      have HO7 := Aside0.mk HO6
      have HB7 := Aside0.mk HB6
      have HR7 := Aside0.mk (RBox.grown HR5.out HO5.out HG6)
      clear HO6 HB6 HG6 HO5 HU5 HB5 HR5
      go_wp2_with fail
      refine (Split.split_any S w6 (by have := HSZ.out; omega) (HN.out.below HB7.out)).mono ?_
      rintro e w7 ⟨v7, rfl, ho, hb⟩
      have HO8 := Aside0.mk (own_later HO7.out hb)
      have HQ8 := Aside0.mk ho
      have HR8 := Aside0.mk (HR7.out.later hb)
      have HB8 := Aside0.mk (HB7.out.trans (hb.mono HB7.out.size))
      clear ho hb HO7 HB7 HR7
      have hn : (pcs S 0).length ≤ 100000 := by rw [HALL.out.2.1]; exact HNUM.out.2.1
      have HSS := Aside0.mk HNUM.out.2.2
      clear HALL HNUM
      generalize pcs S 0 = L at HO8 HQ8 HR8 HNE hn HSS
      obtain ⟨g1, c1, rfl⟩ : ∃ g c, v6 = .slice (some ⟨g, 0, none⟩) L.length c := by
        rcases HO8.out.2 with ⟨_, h0⟩ | ⟨g, cap, cs, rfl, _⟩
        · exact absurd (List.eq_nil_of_length_eq_zero h0) HNE.out
        · exact ⟨g, cap, rfl⟩
      obtain ⟨g2, c2, rfl⟩ : ∃ g c, v7 = .slice (some ⟨g, 0, none⟩) L.length c := by
        rcases HQ8.out.2 with ⟨_, h0⟩ | ⟨g, cap, cs, rfl, _⟩
        · exact absurd (List.eq_nil_of_length_eq_zero h0) HNE.out
        · exact ⟨g, cap, rfl⟩
      have hl0 : ((L.length : Int) == 0) = false := beq_eq_false_iff_ne.2 (by have : L.length ≠ 0 := fun h => HNE.out (List.eq_nil_of_length_eq_zero h); omega)
      have hl1 : ((L.length : Int) != (L.length : Int)) = false := bne_self_eq_false _
      go_wp2_with fail
      go_loopw [13, 14] (fun rv iv wr => ∃ j : Nat, j ≤ L.length ∧ iv = .int .i64 (j : Int) ∧ rv = .int .i64 ((S.size - szs (L.take j) : Nat) : Int) ∧ Aside0 (Drawn0 w7 wr)) (fun _ iv _ => L.length - (intOf iv).toNat)
      case atStart => exact ⟨0, Nat.zero_le _, rfl, by simp [szs], ⟨Drawn0.refl _⟩⟩
      case round =>
        obtain ⟨j, hj, rfl, rfl, HD⟩ := hrel
        obtain ⟨wq, rfl⟩ : ∃ wq : World, wq = wr := ⟨_, rfl⟩
        have hbd := Pieces.drawn_below (B := w7.heap.size) HD.out
        have HO9 := Aside0.mk (own_later HO8.out hbd)
        have HQ9 := Aside0.mk (own_later HQ8.out hbd)
        have HR9 := Aside0.mk (HR8.out.later hbd)
        have HB9 := Aside0.mk (HB8.out.trans (hbd.mono HB8.out.size))
        clear hbd
        by_cases hjl : j < L.length
        · obtain ⟨x, hx⟩ : ∃ x, L[j]? = some x := ⟨_, List.getElem?_eq_getElem hjl⟩
          have hsz1 := szs_take L j x hx
          have hsz2 := szs_take_le L (j + 1)
          have HZ := Aside0.mk hsz1
          have hxb : szs (L.take j) + x.2.1 ≤ S.size := by have := HSS.out; omega
          have HXB := Aside0.mk hxb
          have hr1 : wq.rangeAt g1 (j * 11) (mL x.2.2) := rows_at HO9.out (j * 11) _ (msL_at L j x hx)
          have hr2 : wq.rangeAt g2 (j * 13) (pL x) := rows_at HQ9.out (j * 13) _ (Pcs.psL_at L j x hx)
          have hr3 : wq.rangeAt g2 (j * 13 + 2) (mL x.2.2) := fun i u hu => by
            have := hr2 (2 + i) u (by rw [Nat.add_comm]; exact hu)
            rwa [← Nat.add_assoc] at this
          have hc3 : wq.cell? ⟨g2, j * 13 + 1, none⟩ = some (.int .i64 (x.2.1 : Nat)) := hr2 1 _ rfl
          have heq := bM_same x.2.2
          clear hsz1 hsz2 hxb
          go_upto_region 25 with fail
          refine wp_region_still_tail 9 (by kernel_rfl) (by kernel_rfl) ?_
          simp only [List.take_succ_cons, List.take_zero, List.drop_succ_cons, List.drop_zero]
          still_step
          still_step
          still_step
          refine still_load_mid rfl 24 (.tmp 96) rfl g1 (j * 11) ?h96 (mL x.2.2) _ hr1 Tryd.underlying24 rfl infoM ?_
          case h96 => first | rfl | (simp [Act.eval]; done)
          still_step
          still_step
          still_step
          still_step
          refine still_load_mid rfl 24 (.tmp 101) rfl g2 (j * 13 + 2) ?h101 (mL x.2.2) _ hr3 Tryd.underlying24 rfl infoM ?_
          case h101 => first | rfl | (simp [Act.eval]; done)
          with_reducible refine wpStill_nil ?_
          have HD2 : Aside0 (Drawn0 w7 ({ wq with drawn := wq.drawn + 1 } : World)) := ⟨(show Drawn0 w7 (wq.drewN 1) from HD.out.step 1)⟩
          have hw1 : wrap64 ((j : Int) + 1) = ((j + 1 : Nat) : Int) := Zeros.wadd j 1 (by omega)
          have hw2 : wrap64 (((S.size - szs (L.take j) : Nat) : Int) - (x.2.1 : Int)) = ((S.size - szs (L.take (j + 1)) : Nat) : Int) := by have h1 := HZ.out; have h2 := HXB.out; have h3 := HSZ.out; rw [w64 _ (by omega) (by omega), h1]; omega
          generalize ({ wq with drawn := wq.drawn + 1 } : World) = wt at HD2 ⊢
          have hc3 : wt.cell? ⟨g2, j * 13 + 1, none⟩ = some (.int .i64 (x.2.1 : Nat)) := by
            have hb2 := Pieces.drawn_below (B := w7.heap.size) HD2.out
            have h3 := rows_at (own_later HQ8.out hb2) (j * 13) _ (Pcs.psL_at L j x hx)
            exact h3 1 _ rfl
          clear hr1 hr2 hr3
          go_wp2_with fail
          go_roundw
          case rel => exact ⟨j + 1, by omega, by go_num, by rw [hw2], HD2⟩
          case measure => simp [intOf]; omega
        · have hjj : j = L.length := by omega
          have hfin : S.size - szs (L.take j) = S.size - szs L := by rw [hjj, List.take_length]
          have KS := Lib.hid (skipped_any wq b _ _ HR9.out)
          rw [hfin]
          go_wp2_with fail
          refine KS.out.mono ?_
          rintro e w8 ⟨rfl, hb⟩
          have HB10 := Aside0.mk (HB9.out.trans (hb.mono HB9.out.size))
          clear hb KS
          go_wp2
          go_ret
          exact ⟨by simp, HB10.out⟩
end Go.Proofs.YtnifgokjagahfaaDoor.LawCuts
