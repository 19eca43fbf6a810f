/- Joined texts of this claim: Comes, StreamKit2, RefF, Reg -/
import Derived.Test.YtnifgokjagahfaaDoorJFStr4
import Derived.Test.YtnifgokjagahfaaDoorJFStr7
import Derived.Test.YtnifgokjagahfaaDoorJFStr1
import Derived.Deep.DeepCutAuto
import Derived.Test.YtnifgokjagahfaaDoorWWords
import Derived.Test.YtnifgokjagahfaaDoorWLast
import Derived.Orders
import Derived.Below
/- comes: a Reader over the stream in parts. -/
set_option linter.unusedVariables false
set_option linter.unusedSimpArgs false
namespace Go.Proofs.YtnifgokjagahfaaDoor.Comes
open Go.RowKit Go.Proofs.YtnifgokjagahfaaDoorW.PrintWords Go.Proofs.YtnifgokjagahfaaDoorW.PrintLast Go.Proofs.YtnifgokjagahfaaDoorW.PrintMore
open Go.Proofs.YtnifgokjagahfaaDoor.Base Go.Proofs.YtnifgokjagahfaaDoor.App Go.Proofs.YtnifgokjagahfaaDoor.Layouts Go.Proofs.YtnifgokjagahfaaDoor.Msg Go.Proofs.YtnifgokjagahfaaDoor.Put Go.Proofs.YtnifgokjagahfaaDoor.EncPure Go.Proofs.YtnifgokjagahfaaDoor.DecPure Go.Proofs.YtnifgokjagahfaaDoor.Mids Go.Proofs.YtnifgokjagahfaaDoor.Enc Go.Proofs.YtnifgokjagahfaaDoor.EqM Go.Proofs.YtnifgokjagahfaaDoor.SplitPure Go.Proofs.YtnifgokjagahfaaDoor.Pcs Go.Proofs.YtnifgokjagahfaaDoor.Reader Go.Proofs.YtnifgokjagahfaaDoor.ReadPure Go.Proofs.YtnifgokjagahfaaDoor.ReadStream Go.Proofs.YtnifgokjagahfaaDoor.Feed Go.Proofs.YtnifgokjagahfaaDoor.Close Go.Proofs.YtnifgokjagahfaaDoor.CutsF Go.Proofs.YtnifgokjagahfaaDoor.LawCuts Go.Proofs.YtnifgokjagahfaaDoor.StreamPure Go.Proofs.YtnifgokjagahfaaDoor.StreamKit
open Go.Proofs.YtnifgokjagahfaaDoor.Crc (Nibs)
open Go.Proofs.YtnifgokjagahfaaDoor.Dec (mL_one infoM)
attribute [local go_sem high] eqA
theorem still_load_on {P : Program} {ops : Array Oper} {rest : List Oper} {o : Oper} {a : Act} {w : World} {K : Act → Prop} (hw : Region.wanted o (yielded ops a.tmps) = true) (ty : TypeId) (x : Operand) (ho : o.op = .load ty x)
    (b p : Nat) (hx : a.eval x = .pointer (some ⟨b, p, none⟩)) (cs : List Value) (d : TypeDesc) (hc : w.rangeAt b p cs)
    (hu : P.underlying ty = some d) (hd : d.isRow = true) (hi : (P.info? ty).map (·.size) = some cs.length)
    (h : wpStill P ops w K rest (a.put o.dst (.agg cs.toArray))) : wpStill P ops w K (o :: rest) a := by
  refine wpStill_step (fun L hL => ?_)
  rw [if_pos hw]
  unfold Oper.still execOp
  simp only [ho, hx, Instr.loadAt, Instr.sureAddr, Sem.run_bind, Sem.run_pure, Result.andThen_ok, run_loadVar_mid w b p ty cs d hc hu hd hi, Oper.stillUpon]
  exact ⟨trivial, hL _ h⟩
/-- one more part has come, and how it was left -/
theorem feedW2 (W s : ByteArray) (pre : List Pc) (p : Nat) (hF : Fed2 W pre p) (w : World) (b : Nat) (r : RBox w b (W.extract p W.size) ((p - szs pre : Nat) : Int)) (hsz : W.size + s.size ≤ 8388608) (hN : Nibs w) (hb2 : b ≠ 2) :
    Calls Tryd.prog 29 #[.pointer (some ⟨b, 0, none⟩), .string s] w fun e w' => ∃ (v : Value) (L : List Pc) (p' : Nat), e = .returned (.tuple #[v, .int .i64 0]) ∧ w'.ownsRow w.heap.size 24 11 v L.length (msL (msgs L)) ∧
      Fed2 (W ++ s) (pre ++ sh p L) p' ∧ RBox w' b ((W ++ s).extract p' (W ++ s).size) ((p' - szs (pre ++ sh p L) : Nat) : Int) ∧ But b w w' := by
  have hle := hF.le
  have hroom := hF.room
  have hts := tail_size W p hle
  refine (feed_any w b (W.extract p W.size) _ s r (by rw [ByteArray.size_append, hts]; omega) (by omega) (by omega) hN hb2).mono ?_
  rintro e w' ⟨v, rfl, ho, hr, hb⟩
  refine ⟨v, _, _, rfl, ho, hF.step s, ?_, hb⟩
  rw [hF.toFed.held s] at hr
  have h1 := fd_room (W.extract p W.size ++ s) 0 (Nat.zero_le _)
  have e : ((p - szs pre : Nat) : Int) + ((fdE (W.extract p W.size ++ s) 0 - szs (fdL (W.extract p W.size ++ s) 0) : Nat) : Int) = ((p + fdE (W.extract p W.size ++ s) 0 - szs (pre ++ sh p (fdL (W.extract p W.size ++ s) 0)) : Nat) : Int) := by
    rw [szs_append, szs_sh]; omega
  rw [← e]
  exact hr
set_option maxRecDepth 100000 in
set_option maxHeartbeats 8000000 in
theorem comes_any (T : ByteArray) (L : List Pc) (hL : pcs T 0 = L) (hcl : Cl T 0) (hT : T.size ≤ 8388608) (hne : L ≠ []) (w : World) (b1 b2 : Nat) (v1 v2 : Value) (h1 : w.ownsRow b1 24 11 v1 L.length (msL (msgs L))) (h2 : w.ownsRow b2 3 1 v2 L.length (nums .i64 ((ends L).map fun n : Nat => (n : Int))))
    (A : Option Addr) (C : Nat) (cs : List Int) (hr : Kd.C (Kd.int .i64) w A cs.length cs) (hC : cs.length ≤ C) (hcs : cs.length ≤ 10000000) (hN : Nibs w) :
    Calls Tryd.prog 33 #[.string T, v1, v2, .slice A cs.length C, .int .i64 ((T.size - szs L : Nat) : Int)] w fun e w' => e = .returned (.bool true) ∧ Below w.heap.size w w' := by
  have HN := Aside0.mk hN
  have HRC := Aside0.mk hr
  have HL := Aside0.mk hL
  have HCL := Aside0.mk hcl
  have HO1 := Aside0.mk h1
  have HO2 := Aside0.mk h2
  obtain ⟨g1, c1, rfl⟩ : ∃ g c, v1 = .slice (some ⟨g, 0, none⟩) L.length c := by
    rcases h1.2 with ⟨_, h0⟩ | ⟨g, cap, cs, rfl, _⟩
    · exact absurd (List.eq_nil_of_length_eq_zero h0) hne
    · exact ⟨g, cap, rfl⟩
  obtain ⟨g2, c2, rfl⟩ : ∃ g c, v2 = .slice (some ⟨g, 0, none⟩) L.length c := by
    rcases h2.2 with ⟨_, h0⟩ | ⟨g, cap, cs, rfl, _⟩
    · exact absurd (List.eq_nil_of_length_eq_zero h0) hne
    · exact ⟨g, cap, rfl⟩
  have hLn : L.length ≤ 400000 := by have := pcs_bytes T 0; rw [hL] at this; omega
  have HSZL : Aside0 (szs L ≤ T.size) := ⟨by have := pcs_szs T _ 0 (Nat.le_refl _); rw [hL] at this; omega⟩
  have HNE : Aside0 (0 < L.length) := ⟨List.length_pos_iff.2 hne⟩
  clear hN hr hL hcl h1 h2 hne
  go_enter Tryd.func33, Tryd.ntmps33
  go_wp2_with fail
  refine (new_any w).mono ?_
  rintro e w2 ⟨rfl, rfl⟩
  have HR2 := Aside0.mk (new_box w)
  have HB2 := Aside0.mk ((Below.refl w.heap.size w).alloc (Nat.le_refl _) (.cells #[.string ByteArray.empty, .int .i64 0] 116))
  have HLE := Aside0.mk (Nat.le_refl w.heap.size)
  generalize w.alloc (.cells #[.string ByteArray.empty, .int .i64 0] 116) = w2 at HR2 HB2 ⊢
  obtain ⟨b, hb⟩ : ∃ b, b = w.heap.size := ⟨_, rfl⟩
  have hbn : 2 < b := by rw [hb]; exact HN.out.lt
  have HBN := Aside0.mk hbn
  have HBE := Aside0.mk hb
  rw [← hb] at HR2 ⊢
  clear hbn hb HLE
  go_wp2_with fail
  have hst : RBox w2 b ((tk T 0).extract 0 (tk T 0).size) (((0 : Nat) - szs [] : Nat) : Int) := by
    have e : tk T 0 = ByteArray.empty := ext_list (by rw [tk_list]; rfl)
    rw [e]
    exact HR2.out
  have hf0 : Fed2 (tk T 0) [] 0 := by
    have e : tk T 0 = ByteArray.empty := ext_list (by rw [tk_list]; rfl)
    rw [e]
    exact Fed2.init
  have HS0 := Aside0.mk hst
  have HF0 := Aside0.mk hf0
  clear hst hf0 HR2
  go_loopw [12, 13, 14, 15, 16, 17, 18] (fun tv cv iv _ _ _ _ wr => ∃ (i c : Nat) (pre : List Pc) (p : Nat), i ≤ 2 * cs.length + 1 ∧ c ≤ T.size ∧ tv = .int .i64 (pre.length : Nat) ∧ cv = .int .i64 (c : Nat) ∧ iv = .int .i64 (i : Nat) ∧ Aside0 (i = 2 * cs.length + 1 → c = T.size) ∧ Aside0 (Fed2 (tk T c) pre p) ∧ Aside0 (RBox wr b ((tk T c).extract p (tk T c).size) ((p - szs pre : Nat) : Int)) ∧ Aside0 (Below w.heap.size w wr)) (fun _ _ iv _ _ _ _ _ => 2 * cs.length + 2 - (intOf iv).toNat)
  case atStart => exact ⟨0, 0, [], 0, Nat.zero_le _, Nat.zero_le _, rfl, rfl, rfl, ⟨fun h => by omega⟩, HF0, HS0, HB2⟩
  case round =>
    clear HS0 HF0 HB2
    obtain ⟨i, c, pre, p, hi, hc, rfl, rfl, rfl, HI, HF, HR, HB⟩ := hrel
    obtain ⟨wo, rfl⟩ : ∃ wo : World, wo = wr := ⟨_, rfl⟩
    by_cases hlt : c < T.size
    · have kc := cutAt_any A C cs wo (Kd.C_below HRC.out HB.out) hC hcs i (T.size - c) (by omega) (by omega)
      rw [show ((T.size - c : Nat) : Int) = (T.size : Int) - (c : Int) by omega] at kc
      have KC := Lib.hid kc
      clear kc
      go_wp2_with fail
      refine KC.out.mono ?_
      rintro e w3 ⟨⟨n, hn, rfl⟩, hd⟩
      have HR3 := Aside0.mk (HR.out.later (Pieces.drawn_below hd))
      have HB3 := Aside0.mk (HB.out.trans (Pieces.drawn_below hd))
      clear hd KC HR HB
      by_cases hge : 2 * cs.length ≤ i
      · have hge1 : (2 * (cs.length : Int)) ≤ (i : Int) := by omega
        obtain ⟨n2, hn2⟩ : ∃ n2 : Nat, (T.size : Int) - (c : Int) = (n2 : Int) := ⟨T.size - c, by omega⟩
        have HE : Aside0 (i + 1 = 2 * cs.length + 1 → c + n2 = T.size) := ⟨fun _ => by omega⟩
        have hi2 : i + 1 ≤ 2 * cs.length + 1 ∨ i = 2 * cs.length + 1 := by omega
        have hi3 : i + 1 ≤ 2 * cs.length + 1 := by
          rcases hi2 with h | h
          · exact h
          · have := HI.out h; omega
        have HI3 := Aside0.mk hi3
        clear hi2 hi3
        go_upto_region 12 with fail
        have hcn : c + n2 ≤ T.size := by omega
        have hCN := Aside0.mk hcn
        have kf := feedW2 (tk T c) (T.extract c (c + n2)) pre p HF.out w3 b HR3.out (by rw [tk_size T c hc, ByteArray.size_extract]; omega) (HN.out.below HB3.out) (by have := HBN.out; omega)
        rw [tk_next] at kf
        have KF := Lib.hid kf
        clear kf
        have q1 : (0 : Int) ≤ (c : Int) := by omega
        have q2 : (c : Int) ≤ ((c + n2 : Nat) : Int) := by omega
        have q3 : ((c + n2 : Nat) : Int) ≤ (T.size : Int) := by omega
        have hwa : wrap64 ((c : Int) + (n2 : Int)) = ((c + n2 : Nat) : Int) := Zeros.wadd c n2 (by omega)
        go_wp2_with fail
        refine KF.out.mono ?_
        rintro e w5 ⟨v5, L5, p5, rfl, ho, hF, hR, hbt⟩
        obtain ⟨rest, hLr, hends, hnext⟩ := told hcn hF HCL.out
        rw [HL.out] at hLr
        have HF5 := Aside0.mk hF
        have HR5 := Aside0.mk hR
        have HO5 := Aside0.mk ho
        have HB5 := Aside0.mk (HB3.out.trans (hbt.below (by rw [HBE.out]; exact Nat.le_refl _) HB3.out.size))
        have HLR := Aside0.mk hLr
        have HEN := Aside0.mk hends
        have HNX := Aside0.mk hnext
        have hlen : L.length = pre.length + L5.length + rest.length := by rw [hLr]; simp [sh]; omega
        have HLEN := Aside0.mk hlen
        have h5L : L5.length ≤ L.length := by omega
        clear hlen
        obtain ⟨A5, c5, rfl⟩ : ∃ A5 c5, v5 = .slice A5 L5.length c5 := by
          rcases ho.2 with ⟨rfl, h0⟩ | ⟨g, cap, cs, rfl, _⟩
          · exact ⟨none, 0, by rw [h0]⟩
          · exact ⟨_, _, rfl⟩
        clear KF ho hF hR hbt hLr hends hnext hwa q1 q2 q3 HF HR3 HB3
        go_wp2_with fail
        refine (num_any _ _).mono ?_
        rintro e w' ⟨rfl, rfl⟩
        go_wp2_with fail
        go_loopw [12, 18] (fun tv kv wr => ∃ k q : Nat, k ≤ L5.length ∧ kv = .int .i64 (k : Nat) ∧ tv = .int .i64 (q : Nat) ∧ Aside0 (q = pre.length + k) ∧ Aside0 (Drawn0 w5 wr)) (fun _ kv _ => L5.length - (intOf kv).toNat)
        case atStart => exact ⟨0, pre.length, Nat.zero_le _, rfl, rfl, ⟨rfl⟩, ⟨Drawn0.refl _⟩⟩
        case round =>
          obtain ⟨k, q, hk, rfl, rfl, HQ, HD⟩ := hrel
          obtain ⟨wq, rfl⟩ : ∃ wq : World, wq = wr := ⟨_, rfl⟩
          have hbd := Pieces.drawn_below (B := w5.heap.size) HD.out
          have hbw := HB5.out.trans (hbd.mono HB5.out.size)
          by_cases hkl : k < L5.length
          · obtain ⟨x, hx⟩ : ∃ x, L5[k]? = some x := ⟨_, List.getElem?_eq_getElem hkl⟩
            have hy : L[q]? = some (p + x.1, x.2) := by
              rw [HQ.out, HLR.out, List.append_assoc, List.getElem?_append_right (Nat.le_add_right _ _), Nat.add_sub_cancel_left, List.getElem?_append_left (by simp [sh]; exact hkl)]
              simp [sh, hx]
            obtain ⟨g5, rfl⟩ : ∃ g5, A5 = some ⟨g5, 0, none⟩ := by
              rcases HO5.out.2 with ⟨_, h0⟩ | ⟨g, cap, cs, he, _⟩
              · omega
              · cases he; exact ⟨g, rfl⟩
            have hr1 : wq.rangeAt g5 (k * 11) (mL x.2.2) := rows_at (own_later HO5.out hbd) (k * 11) _ (msL_at L5 k x hx)
            have hr2 : wq.rangeAt g1 (q * 11) (mL x.2.2) := rows_at (own_later HO1.out hbw) (q * 11) _ (msL_at L q (p + x.1, x.2) hy)
            have heq := bM_same x.2.2
            have htn : q < L.length := by have := HLEN.out; have := HQ.out; omega
            have htl : (q : Int) < (L.length : Int) := by omega
            clear hbd hbw hx hy
            go_upto_region 19 with fail
            refine wp_region_still_tail 14 (by kernel_rfl) (by kernel_rfl) ?_
            simp only [List.take_succ_cons, List.take_zero, List.drop_succ_cons, List.drop_zero]
            iterate 8 still_step
            refine still_load_on ?hw74 24 (.tmp 74) rfl g5 (k * 11) ?h74 (mL x.2.2) _ hr1 Tryd.underlying24 rfl infoM ?_
            case hw74 => go_simp
            case h74 => rfl
            iterate 3 still_step
            refine still_load_on ?hw78 24 (.tmp 78) rfl g1 (q * 11) ?h78 (mL x.2.2) _ hr2 Tryd.underlying24 rfl infoM ?_
            case hw78 => go_simp
            case h78 => rfl
            still_step
            with_reducible refine wpStill_nil ?_
            have HD2 : Aside0 (Drawn0 w5 ({ wq with drawn := wq.drawn + 1 } : World)) := ⟨(show Drawn0 w5 (wq.drewN 1) from HD.out.step 1)⟩
            generalize ({ wq with drawn := wq.drawn + 1 } : World) = wt at HD2 ⊢
            clear hr1 hr2
            go_wp2_with fail
            go_roundw
            case rel => exact ⟨k + 1, q + 1, by omega, by go_num, by go_num, ⟨by have := HQ.out; omega⟩, HD2⟩
            case measure => simp [intOf]; omega
          · have hkk : k = L5.length := by omega
            have hq : q = (pre ++ sh p L5).length := by rw [HQ.out, hkk]; simp [sh]
            have HQQ := Aside0.mk hq
            have HR6 := Aside0.mk (HR5.out.later hbd)
            have HB6 := Aside0.mk hbw
            have hec : ∀ (j e : Nat), (ends L)[j]? = some e → wq.cell? ⟨g2, j, none⟩ = some (.int .i64 (e : Nat)) := by
              intro j e he
              have h1 := (own_later HO2.out hbw).cells (g := g2) rfl j (.int .i64 (e : Nat)) (by simp [nums, he])
              have e2 : (⟨g2, 0, none⟩ : Addr).add j = ⟨g2, j, none⟩ := by unfold Addr.add; split <;> simp_all
              rwa [e2] at h1
            have hprev : ∀ j, j + 1 = q → ∃ e : Nat, e ≤ c + n2 ∧ (ends L)[j]? = some e := by
              intro j hj
              have hjl : j < (pre ++ sh p L5).length := by omega
              obtain ⟨z, hz⟩ : ∃ z, (pre ++ sh p L5)[j]? = some z := ⟨_, List.getElem?_eq_getElem hjl⟩
              refine ⟨z.1 + z.2.1, HEN.out z (List.mem_of_getElem? hz), ?_⟩
              unfold ends
              rw [List.getElem?_map, HLR.out, List.getElem?_append_left hjl, hz]
              rfl
            have hcnq : (c : Int) + (n2 : Int) = ((c + n2 : Nat) : Int) := by omega
            have HCQ := Aside0.mk hcnq
            clear hbd hbw hcnq hq
            cases rest with
            | nil =>
              have hqL : q = L.length := by have := HLEN.out; have := HQQ.out; rw [List.length_append] at this; simp [sh] at this; simp at *; omega
              have hqn : ¬ (q : Int) < (L.length : Int) := by omega
              have HLQ : Aside0 (L.length ≤ q) := ⟨by omega⟩
              have hq0 : 0 < L.length := HNE.out
              obtain ⟨q', hq'⟩ : ∃ q', q' + 1 = q := ⟨q - 1, by omega⟩
              obtain ⟨e, he1, he2⟩ := hprev q' hq'
              have hc1 := hec q' e he2
              have hq2 : (q' : Int) < (L.length : Int) := by omega
              have hnl : ¬ (c : Int) + (n2 : Int) < (e : Int) := by omega
              clear hec hprev hqL hqn
              subst hq'
              have hqn : ¬ (q' : Int) + 1 < (L.length : Int) := by have := HLQ.out; omega
              have hqp : (0 : Int) < (q' : Int) + 1 := by omega
              go_wp2_with fail
              go_roundw
              case rel => exact ⟨i + 1, c + n2, pre ++ sh p L5, p5, HI3.out, hcn, by rw [← HQQ.out]; try go_num, by go_num, by go_num, HE, HF5, HR6, HB6⟩
              case measure => have := HI3.out; simp [intOf]; omega
            | cons y r =>
              have hqL : q < L.length := by have := HLEN.out; have := HQQ.out; rw [List.length_append] at this; simp [sh] at this; simp at *; omega
              have hqn : (q : Int) < (L.length : Int) := by omega
              have hny := HNX.out y r rfl
              have hey : (ends L)[q]? = some (y.1 + y.2.1) := by
                unfold ends
                rw [List.getElem?_map, HLR.out, HQQ.out, List.getElem?_append_right (Nat.le_refl _), Nat.sub_self]
                rfl
              generalize y.1 + y.2.1 = ey at hny hey
              have hc0 := hec q ey hey
              have hn1 : ¬ (ey : Int) ≤ (c : Int) + (n2 : Int) := by omega
              by_cases hq0 : q = 0
              · have hL0 : (0 : Int) < (L.length : Int) := by omega
                clear hec hprev hqL hey hqn
                subst hq0
                go_wp2_with fail
                go_roundw
                case rel => exact ⟨i + 1, c + n2, pre ++ sh p L5, p5, HI3.out, hcn, by rw [← HQQ.out]; try go_num, by go_num, by go_num, HE, HF5, HR6, HB6⟩
                case measure => have := HI3.out; simp [intOf]; omega
              · obtain ⟨q', hq'⟩ : ∃ q', q' + 1 = q := ⟨q - 1, by omega⟩
                obtain ⟨e, he1, he2⟩ := hprev q' hq'
                have hc1 := hec q' e he2
                have hq2 : (q' : Int) < (L.length : Int) := by omega
                have hnl : ¬ (c : Int) + (n2 : Int) < (e : Int) := by omega
                have HLQ := Aside0.mk hqL
                clear hec hprev hqL hey hqn hq0
                subst hq'
                have hqn : (q' : Int) + 1 < (L.length : Int) := by have := HLQ.out; omega
                have hqp : (0 : Int) < (q' : Int) + 1 := by omega
                go_wp2_with fail
                go_roundw
                case rel => exact ⟨i + 1, c + n2, pre ++ sh p L5, p5, HI3.out, hcn, by rw [← HQQ.out]; try go_num, by go_num, by go_num, HE, HF5, HR6, HB6⟩
                case measure => have := HI3.out; simp [intOf]; omega
      · have hge1 : ¬ (2 * (cs.length : Int)) ≤ (i : Int) := by omega
        have hnn : c + n ≤ T.size := by omega
        clear hn
        have HE : Aside0 (i + 1 = 2 * cs.length + 1 → c + n = T.size) := ⟨fun h => by omega⟩
        have HI3 := Aside0.mk (show i + 1 ≤ 2 * cs.length + 1 by omega)
        go_upto_region 12 with fail
        have hcn : c + n ≤ T.size := by omega
        have hCN := Aside0.mk hcn
        have kf := feedW2 (tk T c) (T.extract c (c + n)) pre p HF.out w3 b HR3.out (by rw [tk_size T c hc, ByteArray.size_extract]; omega) (HN.out.below HB3.out) (by have := HBN.out; omega)
        rw [tk_next] at kf
        have KF := Lib.hid kf
        clear kf
        have q1 : (0 : Int) ≤ (c : Int) := by omega
        have q2 : (c : Int) ≤ ((c + n : Nat) : Int) := by omega
        have q3 : ((c + n : Nat) : Int) ≤ (T.size : Int) := by omega
        have hwa : wrap64 ((c : Int) + (n : Int)) = ((c + n : Nat) : Int) := Zeros.wadd c n (by omega)
        go_wp2_with fail
        refine KF.out.mono ?_
        rintro e w5 ⟨v5, L5, p5, rfl, ho, hF, hR, hbt⟩
        obtain ⟨rest, hLr, hends, hnext⟩ := told hcn hF HCL.out
        rw [HL.out] at hLr
        have HF5 := Aside0.mk hF
        have HR5 := Aside0.mk hR
        have HO5 := Aside0.mk ho
        have HB5 := Aside0.mk (HB3.out.trans (hbt.below (by rw [HBE.out]; exact Nat.le_refl _) HB3.out.size))
        have HLR := Aside0.mk hLr
        have HEN := Aside0.mk hends
        have HNX := Aside0.mk hnext
        have hlen : L.length = pre.length + L5.length + rest.length := by rw [hLr]; simp [sh]; omega
        have HLEN := Aside0.mk hlen
        have h5L : L5.length ≤ L.length := by omega
        clear hlen
        obtain ⟨A5, c5, rfl⟩ : ∃ A5 c5, v5 = .slice A5 L5.length c5 := by
          rcases ho.2 with ⟨rfl, h0⟩ | ⟨g, cap, cs, rfl, _⟩
          · exact ⟨none, 0, by rw [h0]⟩
          · exact ⟨_, _, rfl⟩
        clear KF ho hF hR hbt hLr hends hnext hwa q1 q2 q3 HF HR3 HB3
        go_wp2_with fail
        refine (num_any _ _).mono ?_
        rintro e w' ⟨rfl, rfl⟩
        go_wp2_with fail
        go_loopw [12, 18] (fun tv kv wr => ∃ k q : Nat, k ≤ L5.length ∧ kv = .int .i64 (k : Nat) ∧ tv = .int .i64 (q : Nat) ∧ Aside0 (q = pre.length + k) ∧ Aside0 (Drawn0 w5 wr)) (fun _ kv _ => L5.length - (intOf kv).toNat)
        case atStart => exact ⟨0, pre.length, Nat.zero_le _, rfl, rfl, ⟨rfl⟩, ⟨Drawn0.refl _⟩⟩
        case round =>
          obtain ⟨k, q, hk, rfl, rfl, HQ, HD⟩ := hrel
          obtain ⟨wq, rfl⟩ : ∃ wq : World, wq = wr := ⟨_, rfl⟩
          have hbd := Pieces.drawn_below (B := w5.heap.size) HD.out
          have hbw := HB5.out.trans (hbd.mono HB5.out.size)
          by_cases hkl : k < L5.length
          · obtain ⟨x, hx⟩ : ∃ x, L5[k]? = some x := ⟨_, List.getElem?_eq_getElem hkl⟩
            have hy : L[q]? = some (p + x.1, x.2) := by
              rw [HQ.out, HLR.out, List.append_assoc, List.getElem?_append_right (Nat.le_add_right _ _), Nat.add_sub_cancel_left, List.getElem?_append_left (by simp [sh]; exact hkl)]
              simp [sh, hx]
            obtain ⟨g5, rfl⟩ : ∃ g5, A5 = some ⟨g5, 0, none⟩ := by
              rcases HO5.out.2 with ⟨_, h0⟩ | ⟨g, cap, cs, he, _⟩
              · omega
              · cases he; exact ⟨g, rfl⟩
            have hr1 : wq.rangeAt g5 (k * 11) (mL x.2.2) := rows_at (own_later HO5.out hbd) (k * 11) _ (msL_at L5 k x hx)
            have hr2 : wq.rangeAt g1 (q * 11) (mL x.2.2) := rows_at (own_later HO1.out hbw) (q * 11) _ (msL_at L q (p + x.1, x.2) hy)
            have heq := bM_same x.2.2
            have htn : q < L.length := by have := HLEN.out; have := HQ.out; omega
            have htl : (q : Int) < (L.length : Int) := by omega
            clear hbd hbw hx hy
            go_upto_region 19 with fail
            refine wp_region_still_tail 14 (by kernel_rfl) (by kernel_rfl) ?_
            simp only [List.take_succ_cons, List.take_zero, List.drop_succ_cons, List.drop_zero]
            iterate 8 still_step
            refine still_load_on ?hw74 24 (.tmp 74) rfl g5 (k * 11) ?h74 (mL x.2.2) _ hr1 Tryd.underlying24 rfl infoM ?_
            case hw74 => go_simp
            case h74 => rfl
            iterate 3 still_step
            refine still_load_on ?hw78 24 (.tmp 78) rfl g1 (q * 11) ?h78 (mL x.2.2) _ hr2 Tryd.underlying24 rfl infoM ?_
            case hw78 => go_simp
            case h78 => rfl
            still_step
            with_reducible refine wpStill_nil ?_
            have HD2 : Aside0 (Drawn0 w5 ({ wq with drawn := wq.drawn + 1 } : World)) := ⟨(show Drawn0 w5 (wq.drewN 1) from HD.out.step 1)⟩
            generalize ({ wq with drawn := wq.drawn + 1 } : World) = wt at HD2 ⊢
            clear hr1 hr2
            go_wp2_with fail
            go_roundw
            case rel => exact ⟨k + 1, q + 1, by omega, by go_num, by go_num, ⟨by have := HQ.out; omega⟩, HD2⟩
            case measure => simp [intOf]; omega
          · have hkk : k = L5.length := by omega
            have hq : q = (pre ++ sh p L5).length := by rw [HQ.out, hkk]; simp [sh]
            have HQQ := Aside0.mk hq
            have HR6 := Aside0.mk (HR5.out.later hbd)
            have HB6 := Aside0.mk hbw
            have hec : ∀ (j e : Nat), (ends L)[j]? = some e → wq.cell? ⟨g2, j, none⟩ = some (.int .i64 (e : Nat)) := by
              intro j e he
              have h1 := (own_later HO2.out hbw).cells (g := g2) rfl j (.int .i64 (e : Nat)) (by simp [nums, he])
              have e2 : (⟨g2, 0, none⟩ : Addr).add j = ⟨g2, j, none⟩ := by unfold Addr.add; split <;> simp_all
              rwa [e2] at h1
            have hprev : ∀ j, j + 1 = q → ∃ e : Nat, e ≤ c + n ∧ (ends L)[j]? = some e := by
              intro j hj
              have hjl : j < (pre ++ sh p L5).length := by omega
              obtain ⟨z, hz⟩ : ∃ z, (pre ++ sh p L5)[j]? = some z := ⟨_, List.getElem?_eq_getElem hjl⟩
              refine ⟨z.1 + z.2.1, HEN.out z (List.mem_of_getElem? hz), ?_⟩
              unfold ends
              rw [List.getElem?_map, HLR.out, List.getElem?_append_left hjl, hz]
              rfl
            have hcnq : (c : Int) + (n : Int) = ((c + n : Nat) : Int) := by omega
            have HCQ := Aside0.mk hcnq
            clear hbd hbw hcnq hq
            cases rest with
            | nil =>
              have hqL : q = L.length := by have := HLEN.out; have := HQQ.out; rw [List.length_append] at this; simp [sh] at this; simp at *; omega
              have hqn : ¬ (q : Int) < (L.length : Int) := by omega
              have HLQ : Aside0 (L.length ≤ q) := ⟨by omega⟩
              have hq0 : 0 < L.length := HNE.out
              obtain ⟨q', hq'⟩ : ∃ q', q' + 1 = q := ⟨q - 1, by omega⟩
              obtain ⟨e, he1, he2⟩ := hprev q' hq'
              have hc1 := hec q' e he2
              have hq2 : (q' : Int) < (L.length : Int) := by omega
              have hnl : ¬ (c : Int) + (n : Int) < (e : Int) := by omega
              clear hec hprev hqL hqn
              subst hq'
              have hqn : ¬ (q' : Int) + 1 < (L.length : Int) := by have := HLQ.out; omega
              have hqp : (0 : Int) < (q' : Int) + 1 := by omega
              go_wp2_with fail
              go_roundw
              case rel => exact ⟨i + 1, c + n, pre ++ sh p L5, p5, HI3.out, hcn, by rw [← HQQ.out]; try go_num, by go_num, by go_num, HE, HF5, HR6, HB6⟩
              case measure => have := HI3.out; simp [intOf]; omega
            | cons y r =>
              have hqL : q < L.length := by have := HLEN.out; have := HQQ.out; rw [List.length_append] at this; simp [sh] at this; simp at *; omega
              have hqn : (q : Int) < (L.length : Int) := by omega
              have hny := HNX.out y r rfl
              have hey : (ends L)[q]? = some (y.1 + y.2.1) := by
                unfold ends
                rw [List.getElem?_map, HLR.out, HQQ.out, List.getElem?_append_right (Nat.le_refl _), Nat.sub_self]
                rfl
              generalize y.1 + y.2.1 = ey at hny hey
              have hc0 := hec q ey hey
              have hn1 : ¬ (ey : Int) ≤ (c : Int) + (n : Int) := by omega
              by_cases hq0 : q = 0
              · have hL0 : (0 : Int) < (L.length : Int) := by omega
                clear hec hprev hqL hey hqn
                subst hq0
                go_wp2_with fail
                go_roundw
                case rel => exact ⟨i + 1, c + n, pre ++ sh p L5, p5, HI3.out, hcn, by rw [← HQQ.out]; try go_num, by go_num, by go_num, HE, HF5, HR6, HB6⟩
                case measure => have := HI3.out; simp [intOf]; omega
              · obtain ⟨q', hq'⟩ : ∃ q', q' + 1 = q := ⟨q - 1, by omega⟩
                obtain ⟨e, he1, he2⟩ := hprev q' hq'
                have hc1 := hec q' e he2
                have hq2 : (q' : Int) < (L.length : Int) := by omega
                have hnl : ¬ (c : Int) + (n : Int) < (e : Int) := by omega
                have HLQ := Aside0.mk hqL
                clear hec hprev hqL hey hqn hq0
                subst hq'
                have hqn : (q' : Int) + 1 < (L.length : Int) := by have := HLQ.out; omega
                have hqp : (0 : Int) < (q' : Int) + 1 := by omega
                go_wp2_with fail
                go_roundw
                case rel => exact ⟨i + 1, c + n, pre ++ sh p L5, p5, HI3.out, hcn, by rw [← HQQ.out]; try go_num, by go_num, by go_num, HE, HF5, HR6, HB6⟩
                case measure => have := HI3.out; simp [intOf]; omega
    · have hcT : c = T.size := by omega
      subst hcT
      obtain ⟨ha1, ha2⟩ := told_all HF.out HCL.out
      rw [HL.out] at ha1
      have hle := HF.out.le
      rw [tk_all] at hle
      have hRR := HR.out
      rw [tk_all] at hRR
      have hroom := HF.out.room
      have hts := tail_size T p hle
      have kc := close_any wo b (T.extract p T.size) _ hRR (by omega) (by omega) (by omega) (HN.out.below HB.out) HBN.out
      rw [ha2] at kc
      have hnum : ((p - szs pre : Nat) : Int) + (((T.extract p T.size).size - szs [] : Nat) : Int) = ((T.size - szs L : Nat) : Int) := by
        rw [hts, ha1]
        have : szs [] = 0 := rfl
        omega
      rw [hnum] at kc
      have KC := Lib.hid kc
      have hpl : ((pre.length : Int) == (L.length : Int)) = true := by rw [ha1]; exact beq_self_eq_true _
      have hlb : w.heap.size ≤ b := by rw [HBE.out]; exact Nat.le_refl _
      clear kc hnum hts hroom hRR hle ha1 ha2 HF HR
      go_wp2_with fail
      refine KC.out.mono ?_
      rintro e w5 ⟨v5, rfl, ho, hR, hbt⟩
      obtain ⟨A5, c5, rfl⟩ : ∃ A5 c5, v5 = .slice A5 0 c5 := by
        rcases ho.2 with ⟨rfl, h0⟩ | ⟨g, cap, cs, rfl, _⟩
        · exact ⟨none, 0, rfl⟩
        · exact ⟨_, _, rfl⟩
      have HB5 := Aside0.mk (HB.out.trans (hbt.below hlb HB.out.size))
      have KS := Lib.hid (skipped_any w5 b _ _ hR)
      clear KC ho hR hbt
      go_wp2_with fail
      refine KS.out.mono ?_
      rintro e w6 ⟨rfl, hb⟩
      have HB6 := Aside0.mk (HB5.out.trans (hb.mono HB5.out.size))
      clear hb KS
      go_wp2
      go_ret
      exact ⟨by simp, HB6.out⟩
end Go.Proofs.YtnifgokjagahfaaDoor.Comes

/- FrameStream's lists: one item made, a list of them appended; two lists kept apart. -/
set_option linter.unusedVariables false
set_option linter.unusedSimpArgs false
namespace Go.Proofs.YtnifgokjagahfaaDoor.StreamKit2
open Go.RowKit Go.Proofs.YtnifgokjagahfaaDoorW.PrintWords Go.Proofs.YtnifgokjagahfaaDoorW.PrintLast Go.Proofs.YtnifgokjagahfaaDoorW.PrintMore
open Go.Proofs.YtnifgokjagahfaaDoor.Base Go.Proofs.YtnifgokjagahfaaDoor.App Go.Proofs.YtnifgokjagahfaaDoor.Layouts Go.Proofs.YtnifgokjagahfaaDoor.Msg Go.Proofs.YtnifgokjagahfaaDoor.Mids Go.Proofs.YtnifgokjagahfaaDoor.StreamPure Go.Proofs.YtnifgokjagahfaaDoor.StreamSize Go.Proofs.YtnifgokjagahfaaDoor.OpenX
theorem infoS : (Tryd.prog.info? 76).map (fun i => (i.zero, i.size, i.bytes)) = some (some (.agg #[.int .i64 0, .int .i64 0, .int .i64 0, .int .i64 0, .int .i64 0, .int .i64 0, .int .i64 0, .int .i64 0, .int .i64 0, .string { data := #[] }, .string { data := #[] }, .string { data := #[] }]), 12, 120) := by kernel_rfl
theorem infoI : (Tryd.prog.info? 3).map (fun i => (i.zero, i.size, i.bytes)) = some (some (.int .i64 0), 1, 8) := by kernel_rfl
/-- an item as a value -/
def sV (x : It) : Array Value := (sL x).toArray
theorem built_item (m : M) : Tryd.prog.built 76 [(0, .agg (mL m).toArray)] = some (sV (m, { data := #[] })) := by kernel_rfl
theorem run_buildS (w : World) (m : M) : (Instr.build 76 #[(0, .agg (mL m).toArray)]).run Tryd.prog w = .ok (.agg (sV (m, { data := #[] }))) w := run_build w _ _ _ (built_item m)
theorem run_oneS (w : World) (x : It) : (Instr.buildSlice 73 1 #[(0, .agg (sV x))]).run Tryd.prog w = .ok (.slice (some ⟨w.heap.size, 0, none⟩) 1 1) (w.alloc (.cells (sV x) 76)) := by
  obtain ⟨i0, hi, hzz⟩ := Option.map_eq_some_iff.1 infoS
  simp only [Prod.mk.injEq] at hzz
  obtain ⟨hz0, hz1, hz2⟩ := hzz
  refine run_buildSlice w _ _ 1 _ (sV x) i0 _ Tryd.underlying73 hi hz0 ?_ ?_ ?_
  · rw [hz1]; decide
  · rw [hz1]; decide
  · rw [hz1]; kernel_rfl
section
variable {ops : Array Oper} {rest : List Oper} {o : Oper} {act : Act} {Q : Exit → Act → World → Prop} {w : World}
theorem list_buildS (hg : o.guard = none) (x : Tmp) (ho : o.op = .build 76 #[(0, .tmp x)]) (m : M) (hx : act.eval (.tmp x) = .agg (mL m).toArray)
    (h : wpList Tryd.prog ops Q rest (act.put o.dst (.agg (sV (m, { data := #[] })))) w) : wpList Tryd.prog ops Q (o :: rest) act w := by
  refine wpList_plain hg fun K hK => ?_
  unfold Oper.wp execOp
  simp only [ho, List.map_toArray, List.map_cons, List.map_nil, hx, Sem.run_bind, run_buildS, Result.andThen_ok]
  exact hK _ _ h
theorem list_oneS (hg : o.guard = none) (x : Tmp) (ho : o.op = .buildSlice 73 1 #[(0, .tmp x)]) (m : It) (hx : act.eval (.tmp x) = .agg (sV m))
    (h : wpList Tryd.prog ops Q rest (act.put o.dst (.slice (some ⟨w.heap.size, 0, none⟩) 1 1)) (w.alloc (.cells (sV m) 76))) : wpList Tryd.prog ops Q (o :: rest) act w := by
  refine wpList_plain hg fun K hK => ?_
  unfold Oper.wp execOp
  simp only [ho, List.map_toArray, List.map_cons, List.map_nil, hx, Sem.run_bind, run_oneS, Result.andThen_ok]
  exact hK _ _ h
end
section
variable {P : Program} {ops : Array Oper} {rest : List Oper} {o : Oper} {a : Act} {Q : Exit → Act → World → Prop}
/-- append(v, u...): v the call's own, u anywhere -/
theorem list_append_any {w0 W : World} (base : Nat) (hgd : o.guard = none) (s x : Operand) (t e : TypeId) (z : Value) (size bytes : Nat)
    (ho : o.op = .call { callee := .builtin .append, args := #[s, x], argTypes := #[t, t] })
    (ht : P.underlying t = some (.slice e)) (hinfo : (P.info? e).map (fun i => (i.zero, i.size, i.bytes)) = some (some z, size, bytes)) (hz : z.cells.size = size) (hs0 : 0 < size) (hb0 : 0 < bytes)
    (v : Value) (n : Nat) (xs : List Value) (A : Option Addr) (m c : Nat) (ys : List Value) (hs : a.eval s = v) (hx : a.eval x = .slice A m c) (hm : ys.length = m * size) (h1 : ∀ u ∈ ys, u.oneCell' = true)
    (hc : (A = none ∧ m = 0 ∧ c = 0) ∨ ∃ d, A = some d ∧ ∀ j u, ys[j]? = some u → W.cell? (d.add j) = some u)
    (HO : W.ownsRow base e size v n xs) (HB : Below base w0 W) (hbase : base ≤ W.heap.size) (hl : (n + m) * bytes ≤ 140737488355328)
    (h : ∀ v1 w1, w1.ownsRow base e size v1 (n + m) (xs ++ ys) → Below base w0 w1 → W.grownBy w1 v.ownBlock → wpList P ops Q rest (a.put o.dst v1) w1) :
    wpList P ops Q (o :: rest) a W := by
  obtain ⟨i0, hi, hzz⟩ := Option.map_eq_some_iff.1 hinfo
  simp only [Prod.mk.injEq] at hzz
  obtain ⟨hz0, hz1, hz2⟩ := hzz
  rcases hc with ⟨rfl, rfl, rfl⟩ | ⟨d, rfl, hcell⟩
  · have hy : ys = [] := List.eq_nil_of_length_eq_zero (by simpa using hm)
    subst hy
    have hr : (Builtin.append_ #[t, t] o.type #[v, .slice none 0 0]).run P W = .ok v W := by
      rcases HO.2 with ⟨rfl, hn⟩ | ⟨g, cap, cur, rfl, _, _, hnc, _⟩
      · simp [Builtin.append_, run_underlying ht, sizeOf, typeInfo, hi, Builtin.lenOf, Builtin.firstCells]
      · simp [Builtin.append_, run_underlying ht, sizeOf, typeInfo, hi, Builtin.lenOf, Builtin.firstCells, hnc, storeCells]
    refine wpList_plain hgd fun K hK => ?_
    unfold Oper.wp execOp
    simp only [ho, resolve, invoke, builtin, Sem.run_bind, Sem.run_pure, Result.andThen_ok, List.map_toArray, List.map_cons, List.map_nil, hs, hx, hr]
    exact hK _ _ (h v W (by simpa using HO) HB ⟨rfl, rfl, rfl, Nat.le_refl _, fun _ _ _ => rfl⟩)
  · have hlen : n + m ≤ 140737488355328 := Nat.le_trans (Nat.le_mul_of_pos_right _ hb0) hl
    obtain ⟨v1, w1, hr, hown, hg, _⟩ := run_append_own (P := P) W base t o.type e i0 z size bytes ht hi hz0 hz1 hz2 hz hs0 v n xs HO d m c ys hm hcell h1 (by simp only [maxLen]; omega) hl hbase
    refine wpList_plain hgd fun K hK => ?_
    unfold Oper.wp execOp
    simp only [ho, resolve, invoke, builtin, Sem.run_bind, Sem.run_pure, Result.andThen_ok, List.map_toArray, List.map_cons, List.map_nil, hs, hx, hr]
    exact hK _ _ (h v1 w1 hown (HB.grown hg hbase (fun k hk => (HO.lt k hk).1)) hg)
end
/-- rows of two kinds lie apart -/
theorem rows_ne {w : World} {base base' size size' n n' : Nat} {e e' : TypeId} {v v' : Value} {xs xs' : List Value} (h : w.ownsRow base e size v n xs) (h' : w.ownsRow base' e' size' v' n' xs') (hne : e ≠ e') : v.ownBlock = none ∨ v.ownBlock ≠ v'.ownBlock := by
  rcases h.2 with ⟨rfl, _⟩ | ⟨g, cap, cs, rfl, _, hg, _⟩
  · exact .inl rfl
  · refine .inr fun e1 => ?_
    rcases h'.2 with ⟨rfl, _⟩ | ⟨g', cap', cs', rfl, _, hg', _⟩
    · cases e1
    · have e2 : g = g' := by simpa [Value.ownBlock] using e1
      subst e2
      rw [hg] at hg'
      simp only [Option.some.injEq, Obj.cells.injEq] at hg'
      exact hne hg'.2.1
/-- a list of one, new -/
theorem own_one (w : World) (base : Nat) (e : TypeId) (size : Nat) (cs : List Value) (hb : base ≤ w.heap.size) (hl : cs.length = size) : (w.alloc (.cells cs.toArray e)).ownsRow base e size (.slice (some ⟨w.heap.size, 0, none⟩) 1 1) 1 cs :=
  ⟨by rw [hl, Nat.one_mul], .inr ⟨w.heap.size, 1, cs.toArray, rfl, hb, Go.heap_alloc_new w _, Nat.le_refl _, by decide, by simp [hl], by simp [← hl]⟩⟩
theorem sLs_one (l : List It) : ∀ u ∈ sLs l, u.oneCell' = true := by
  intro u hu
  obtain ⟨x, _, hx⟩ := List.mem_flatMap.1 hu
  simp only [sL, mL, List.cons_append, List.nil_append, List.mem_cons, List.not_mem_nil, or_false] at hx
  rcases hx with rfl | rfl | rfl | rfl | rfl | rfl | rfl | rfl | rfl | rfl | rfl | rfl <;> rfl
/-- the box of a message that was stored new -/
theorem boxed_new (W : World) (m : M) : MBox ((W.alloc (.cells #[.int .i64 0, .int .i64 0, .int .i64 0, .int .i64 0, .int .i64 0, .int .i64 0, .int .i64 0, .int .i64 0, .int .i64 0, .string { data := #[] }, .string { data := #[] }] 24)).setCells W.heap.size 0 (mL m)) W.heap.size m := Zeros.zeros_new W m
end Go.Proofs.YtnifgokjagahfaaDoor.StreamKit2

/- The document's fields: has, fits, valid. -/
set_option linter.unusedVariables false
set_option linter.unusedSimpArgs false
namespace Go.Proofs.YtnifgokjagahfaaDoor.RefF
open Go.RowKit Go.Proofs.YtnifgokjagahfaaDoorW.PrintWords Go.Proofs.YtnifgokjagahfaaDoorW.PrintLast Go.Proofs.YtnifgokjagahfaaDoorW.PrintMore
open Go.Proofs.YtnifgokjagahfaaDoor.Base Go.Proofs.YtnifgokjagahfaaDoor.App Go.Proofs.YtnifgokjagahfaaDoor.Layouts Go.Proofs.YtnifgokjagahfaaDoor.Msg Go.Proofs.YtnifgokjagahfaaDoor.Put Go.Proofs.YtnifgokjagahfaaDoor.EncPure
/-- the letters: E S V P C K W -/
def chOf : Nat → Nat
  | 0 => 69
  | 1 => 83
  | 2 => 86
  | 3 => 80
  | 4 => 67
  | 5 => 75
  | _ => 87
theorem chOf_inj : ∀ f, f < 7 → ∀ g, g < 7 → chOf f = chOf g → f = g := by decide
def fstr (k : Nat) : ByteArray := ⟨((fieldsOf k).map fun f => UInt8.ofNat (chOf f)).toArray⟩
theorem fstr_size (k : Nat) : (fstr k).size = (fieldsOf k).length := by simp [fstr, ByteArray.size]
theorem fstr_at (k j n : Nat) (hk : k < 17) (hn : (fieldsOf k)[j]? = some n) (h : j < (fstr k).size) : ((fstr k)[j]'h).toNat = chOf n := by
  have hn7 : n < 7 := fields_lt k hk j n hn
  have e : (fstr k)[j]'h = UInt8.ofNat (chOf n) := by
    have hj : j < (fieldsOf k).length := by rw [← fstr_size]; exact h
    have h2 : (fieldsOf k)[j] = n := by rw [List.getElem?_eq_getElem hj] at hn; exact Option.some.inj hn
    show (fstr k).data[j]'_ = _
    simp only [fstr, List.getElem_toArray, List.getElem_map, h2]
  rw [e]
  have : ∀ n, n < 7 → (UInt8.ofNat (chOf n)).toNat = chOf n := by decide
  exact this n hn7
/-- the table lies where it was laid -/
structure RTab (w : World) : Prop where mk :: (cell : ∀ i, i < 17 → w.cell? ⟨1, i, none⟩ = some (.string (fstr i))) (lt : 1 < w.heap.size)
theorem RTab.below {w w1 : World} (h : RTab w) (hb : Below w.heap.size w w1) : RTab w1 :=
  ⟨fun i hi => (hb.cell (p := ⟨1, i, none⟩) h.lt).trans (h.cell i hi), Nat.lt_of_lt_of_le h.lt hb.size⟩
def hasB (k f : Nat) : Bool := (fieldsOf k).contains f
set_option maxRecDepth 100000 in
set_option maxHeartbeats 4000000 in
theorem has_any (k f : Nat) (w : World) (hk : k < 17) (hf : f < 7) (hR : RTab w) : Calls Tryd.prog 83 #[.int .i64 (k : Nat), .int .u8 (chOf f : Nat)] w fun e w' => e = .returned (.bool (hasB k f)) ∧ w = w' := by
  have hc := hR.cell k hk
  have hsz := fstr_size k
  have hat := fun j n hn h => fstr_at k j n hk hn h
  have HI := Aside0.mk (fun j n => fields_lt k hk j n)
  have hB : hasB k f = (fieldsOf k).contains f := rfl
  have h6 := fields_len k hk
  have hkk : (k : Int) < 17 := by omega
  generalize fieldsOf k = fs at hsz hat hB h6 HI
  generalize fstr k = S at hc hsz hat
  generalize hasB k f = r at hB ⊢
  have HS := Aside0.mk hsz
  have HA := Aside0.mk hat
  have HBB := Lib.hid hB
  have h6' : S.size ≤ 6 := by omega
  clear hsz hat hB hR h6
  go_enter Tryd.func83, Tryd.ntmps83
  go_wp2
  go_loop [6] (fun iv => ∃ j : Nat, j ≤ S.size ∧ iv = .int .i64 (j : Int) ∧ Aside0 ((fs.take j).contains f = false)) (fun iv => 7 - (intOf iv).toNat)
  case atStart => exact ⟨0, Nat.zero_le _, rfl, ⟨by simp⟩⟩
  case round =>
    obtain ⟨j, hj, rfl, HN⟩ := hrel
    by_cases hlt : j < S.size
    · obtain ⟨n, hn⟩ : ∃ n, fs[j]? = some n := ⟨_, List.getElem?_eq_getElem (by rw [← HS.out]; exact hlt)⟩
      have ha := HA.out j n hn hlt
      have hn7 := HI.out j n hn
      have HX := Aside0.mk hn
      by_cases he : n = f
      · subst he
        have HT : Aside0 (r = true) := ⟨by rw [HBB.out]; simpa using List.mem_of_getElem? hn⟩
        clear hn
        go_wp2
        go_ret
        exact ⟨by rw [HT.out]; rfl, rfl⟩
      · have hne : ¬ (chOf n : Int) = (chOf f : Int) := fun h => he (chOf_inj n hn7 f hf (by omega))
        have hne2 : ((chOf n : Int) == (chOf f : Int)) = false := beq_eq_false_iff_ne.2 hne
        have HT : Aside0 ((fs.take (j + 1)).contains f = false) := ⟨by
          rw [List.take_add_one, hn, Option.toList_some, List.contains_append]
          rw [HN.out]
          simp
          exact fun h => he h.symm⟩
        clear hn
        generalize chOf n = cn at ha hne hne2
        generalize chOf f = cf at hne hne2
        go_wp2
        go_round
        case rel => exact ⟨j + 1, by omega, by go_num, HT⟩
        case measure => simp [intOf]; omega
    · obtain rfl : j = S.size := by omega
      have HT : Aside0 (r = false) := ⟨by
        rw [HBB.out, ← HN.out, List.take_of_length_le (by rw [HS.out]; exact Nat.le_refl _)]⟩
      go_wp2
      go_ret
      exact ⟨by rw [HT.out]; rfl, rfl⟩
def fitB (k f : Nat) (n most : Int) : Bool := wi n (if hasB k f = true then most else 0)
set_option maxRecDepth 100000 in
set_option maxHeartbeats 4000000 in
theorem fits_any (k f : Nat) (n most : Int) (w : World) (hk : k < 17) (hf : f < 7) (hR : RTab w) : Calls Tryd.prog 69 #[.int .i64 (k : Nat), .int .u8 (chOf f : Nat), .int .i64 n, .int .i64 most] w fun e w' => e = .returned (.bool (fitB k f n most)) ∧ w = w' := by
  have K := Lib.hid (has_any k f w hk hf hR)
  have hB : fitB k f n most = wi n (if hasB k f = true then most else 0) := rfl
  generalize hasB k f = b at K hB
  generalize fitB k f n most = r at hB ⊢
  cases b
  · rw [if_neg (by decide)] at hB
    have hB2 : r = decide (n = 0) := by
      rw [hB, Bool.eq_iff_iff]
      simp only [decide_eq_true_iff]
      constructor
      · intro h; have := wi_of h; omega
      · rintro rfl; rfl
    have HB := Lib.hid hB2
    clear hB hB2 hR
    go_enter Tryd.func69, Tryd.ntmps69
    go_wp2_with fail
    refine K.out.mono ?_
    rintro e w' ⟨rfl, rfl⟩
    go_wp2
    go_ret
    refine ⟨?_, rfl⟩
    rw [HB.out]
    simp [Bool.beq_eq_decide_eq]
  · rw [if_pos rfl] at hB
    have HB := Lib.hid hB
    clear hB hR
    by_cases h0 : 0 ≤ n
    · by_cases h1 : n ≤ most
      · have HW := Aside0.mk (wi_mk ⟨h0, h1⟩)
        go_enter Tryd.func69, Tryd.ntmps69
        go_wp2_with fail
        refine K.out.mono ?_
        rintro e w' ⟨rfl, rfl⟩
        go_wp2
        go_ret
        exact ⟨by rw [HB.out, HW.out]; rfl, rfl⟩
      · have HW : Aside0 (wi n most = false) := ⟨by cases h : wi n most; rfl; exact absurd (wi_of h).2 h1⟩
        go_enter Tryd.func69, Tryd.ntmps69
        go_wp2_with fail
        refine K.out.mono ?_
        rintro e w' ⟨rfl, rfl⟩
        go_wp2
        go_ret
        exact ⟨by rw [HB.out, HW.out]; simp <;> omega, rfl⟩
    · have HW : Aside0 (wi n most = false) := ⟨by cases h : wi n most; rfl; exact absurd (wi_of h).1 h0⟩
      go_enter Tryd.func69, Tryd.ntmps69
      go_wp2_with fail
      refine K.out.mono ?_
      rintro e w' ⟨rfl, rfl⟩
      go_wp2
      go_ret
      exact ⟨by rw [HB.out, HW.out]; rfl, rfl⟩
set_option maxRecDepth 100000 in
set_option maxHeartbeats 4000000 in
theorem textFits_any (k f : Nat) (t : ByteArray) (most : Nat) (w : World) (hk : k < 17) (hf : f < 7) (hR : RTab w) (hmx : t.size ≤ 9223372036854775807) : Calls Tryd.prog 70 #[.int .i64 (k : Nat), .int .u8 (chOf f : Nat), .string t, .int .i64 (most : Nat)] w fun e w' => e = .returned (.bool (fitB k f t.size most)) ∧ w = w' := by
  have K := Lib.hid (has_any k f w hk hf hR)
  have hB : fitB k f t.size most = wi t.size (if hasB k f = true then (most : Int) else 0) := rfl
  generalize hasB k f = b at K hB
  generalize fitB k f t.size most = r at hB ⊢
  cases b
  · rw [if_neg (by decide)] at hB
    have hB2 : r = t.toList.isEmpty := by
      rw [hB, Bool.eq_iff_iff, ByteArray.toList_eq, List.isEmpty_iff]
      have hl := data_length t
      constructor
      · intro h; have := wi_of h; exact List.eq_nil_of_length_eq_zero (by omega)
      · intro h; rw [h] at hl; have : t.size = 0 := hl.symm; rw [this]; rfl
    have HB := Lib.hid hB2
    clear hB hB2 hR
    go_enter Tryd.func70, Tryd.ntmps70
    go_wp2_with fail
    refine K.out.mono ?_
    rintro e w' ⟨rfl, rfl⟩
    go_wp2
    go_ret
    refine ⟨?_, rfl⟩
    rw [HB.out]
    simp
  · rw [if_pos rfl] at hB
    have HB := Lib.hid hB
    clear hB hR
    by_cases h1 : (t.size : Int) ≤ (most : Int)
    · have HW := Aside0.mk (wi_mk (n := t.size) ⟨by omega, h1⟩)
      go_enter Tryd.func70, Tryd.ntmps70
      go_wp2_with fail
      refine K.out.mono ?_
      rintro e w' ⟨rfl, rfl⟩
      go_wp2
      go_ret
      refine ⟨?_, rfl⟩
      rw [HB.out, HW.out]
      simp <;> omega
    · have HW : Aside0 (wi t.size most = false) := ⟨by cases h : wi (t.size : Int) most; rfl; exact absurd (wi_of h).2 h1⟩
      go_enter Tryd.func70, Tryd.ntmps70
      go_wp2_with fail
      refine K.out.mono ?_
      rintro e w' ⟨rfl, rfl⟩
      go_wp2
      go_ret
      refine ⟨?_, rfl⟩
      rw [HB.out, HW.out]
      simp <;> omega
end Go.Proofs.YtnifgokjagahfaaDoor.RefF

/- A region that draws its order, walked without its order: each operation gives a value that stands in a relation to the world. -/
set_option linter.unusedVariables false
set_option linter.unusedSimpArgs false
namespace Go.Proofs.YtnifgokjagahfaaDoor.Reg
open Go.RowKit Go.Proofs.YtnifgokjagahfaaDoorW.PrintWords Go.Proofs.YtnifgokjagahfaaDoorW.PrintLast
def srcFrom : List Oper → Nat → Tmp → Option Nat
  | [], _, _ => none
  | o :: l, k, t => if o.dst = some t then some k else srcFrom l (k + 1) t
theorem srcFrom_spec : ∀ (l : List Oper) (k : Nat) (t : Tmp) (j : Nat), srcFrom l k t = some j → ∃ i o, j = k + i ∧ l[i]? = some o ∧ o.dst = some t
  | [], _, _, _, h => by cases h
  | o :: l, k, t, j, h => by
    unfold srcFrom at h
    split at h
    · cases h; exact ⟨0, o, rfl, rfl, by assumption⟩
    · obtain ⟨i, o', hj, hi, hd⟩ := srcFrom_spec l (k + 1) t j h
      exact ⟨i + 1, o', by omega, hi, hd⟩
def predB (o : Oper) (j : Nat) : Bool := o.after.toList.any fun e => Region.binds .any e && (e.on == j)
def okOne (L : List Oper) (N : Nat) (o : Oper) (i : Nat) : Bool :=
  o.guard.isNone && (match o.op with | .select .. => false | _ => true) && (match o.dst with | some d => decide (d < N) && (srcFrom L 0 d == some i) | none => true) &&
  o.op.operands.all (fun x => match x with
    | .tmp t => decide (t < N) && (match srcFrom L 0 t with | some j => predB o j || (match L[j]? with | some oj => predB oj i | none => false) | none => true)
    | _ => true) && o.after.all fun e => !Region.binds .any e || decide (e.on < i)
def okFrom (L : List Oper) (N : Nat) : List Oper → Nat → Bool
  | [], _ => true
  | o :: r, i => okOne L N o i && okFrom L N r (i + 1)
theorem okFrom_spec (L : List Oper) (N : Nat) : ∀ (r : List Oper) (k j : Nat) (o : Oper), okFrom L N r k = true → r[j]? = some o → okOne L N o (k + j) = true
  | [], _, _, _, _, h => by simp at h
  | o :: r, k, 0, o', h, hj => by
    simp only [okFrom, Bool.and_eq_true] at h
    simp at hj
    subst hj
    exact h.1
  | o :: r, k, j + 1, o', h, hj => by
    simp only [okFrom, Bool.and_eq_true] at h
    have := okFrom_spec L N r (k + 1) j o' h.2 (by simpa using hj)
    rw [show k + (j + 1) = k + 1 + j by omega]
    exact this
/-- an operation's operands, out of what those ahead of it gave -/
def envOf (L : List Oper) (a0 : Act) (vs : Nat → Value) (o : Oper) : Operand → Value
  | .tmp t => match srcFrom L 0 t with
    | some j => if predB o j = true then vs j else a0.tmps.getD t undef
    | none => a0.tmps.getD t undef
  | x => a0.eval x
def slotV (L : List Oper) (a0 : Act) (listed : Array Bool) (vs : Nat → Value) (t : Tmp) : Value :=
  match srcFrom L 0 t with
  | some j => if listed.getD j false = true then vs j else a0.tmps.getD t undef
  | none => a0.tmps.getD t undef
def Framed (L : List Oper) (a0 : Act) (listed : Array Bool) (vs : Nat → Value) (a : Act) : Prop :=
  a.defers = a0.defers ∧ a.tmps.size = a0.tmps.size ∧ ∀ t, t < a0.tmps.size → a.tmps[t]? = some (slotV L a0 listed vs t)
def Closed (L : List Oper) (listed : Array Bool) : Prop := ∀ i o j, L[i]? = some o → listed.getD i false = true → predB o j = true → listed.getD j false = true
def upd (vs : Nat → Value) (i : Nat) (v : Value) : Nat → Value := fun j => if j = i then v else vs j
theorem getD_set (listed : Array Bool) (i j : Nat) (hi : i < listed.size) : (listed.setIfInBounds i true).getD j false = if j = i then true else listed.getD j false := by
  simp only [Array.getD_eq_getD_getElem?, Array.getElem?_setIfInBounds]
  by_cases h : j = i
  · subst h; simp [hi]
  · rw [if_neg (fun e => h e.symm), if_neg h]
theorem framed_put {L : List Oper} {a0 a : Act} {listed : Array Bool} {vs : Nat → Value} {i : Nat} {o : Oper} (v : Value) (hok : okOne L a0.tmps.size o i = true) (hi : L[i]? = some o) (hil : i < listed.size) (hun : listed.getD i false = false)
    (h : Framed L a0 listed vs a) : Framed L a0 (listed.setIfInBounds i true) (upd vs i v) (a.put o.dst v) := by
  obtain ⟨hd, hs, hv⟩ := h
  unfold okOne at hok
  simp only [Bool.and_eq_true] at hok
  obtain ⟨⟨⟨⟨_, _⟩, hdst⟩, _⟩, _⟩ := hok
  refine ⟨?_, ?_, ?_⟩
  · cases o.dst <;> exact hd
  · cases o.dst with
    | none => exact hs
    | some d => simp only [Act.put, Array.size_setIfInBounds]; exact hs
  · intro t ht
    have hsl : ∀ (hne : srcFrom L 0 t ≠ some i), slotV L a0 (listed.setIfInBounds i true) (upd vs i v) t = slotV L a0 listed vs t := by
      intro hne
      unfold slotV
      cases hsrc : srcFrom L 0 t with
      | none => rfl
      | some j =>
        have hji : j ≠ i := fun e => hne (by rw [hsrc, e])
        simp only
        rw [getD_set _ _ _ hil, if_neg hji]
        unfold upd
        rw [if_neg hji]
    cases hod : o.dst with
    | none =>
      have hne : srcFrom L 0 t ≠ some i := by
        intro he
        obtain ⟨k, o', hk, hk2, hk3⟩ := srcFrom_spec _ _ _ _ he
        rw [Nat.zero_add] at hk
        subst hk
        rw [hi] at hk2
        cases hk2
        rw [hod] at hk3
        cases hk3
      rw [hsl hne]
      exact hv t ht
    | some d =>
      rw [hod] at hdst
      simp only [Bool.and_eq_true, decide_eq_true_eq, beq_iff_eq] at hdst
      simp only [Act.put, Array.getElem?_setIfInBounds]
      by_cases hdt : d = t
      · subst hdt
        rw [if_pos rfl, if_pos (by rw [hs]; exact ht)]
        unfold slotV
        rw [hdst.2]
        simp only
        rw [getD_set _ _ _ hil, if_pos rfl, if_pos rfl]
        unfold upd
        rw [if_pos rfl]
      · rw [if_neg hdt]
        have hne : srcFrom L 0 t ≠ some i := by
          intro he
          obtain ⟨k, o', hk, hk2, hk3⟩ := srcFrom_spec _ _ _ _ he
          rw [Nat.zero_add] at hk
          subst hk
          rw [hi] at hk2
          cases hk2
          rw [hod] at hk3
          cases hk3
          exact hdt rfl
        rw [hsl hne]
        exact hv t ht
/-- what the region leaves, in the text's order -/
def fillFrom : List Oper → Nat → Act → (Nat → Value) → Act
  | [], _, a, _ => a
  | o :: l, k, a, vs => fillFrom l (k + 1) (a.put o.dst (vs k)) vs
theorem upd_self (vs : Nat → Value) (i : Nat) : upd vs i (vs i) = vs := by
  funext j; unfold upd; split
  · subst_vars; rfl
  · rfl
def firstK (n k : Nat) : Array Bool := ((List.range n).map fun j => decide (j < k)).toArray
theorem firstK_size (n k : Nat) : (firstK n k).size = n := by simp [firstK]
theorem firstK_getD (n k j : Nat) : (firstK n k).getD j false = (decide (j < n) && decide (j < k)) := by
  unfold firstK
  simp only [Array.getD_eq_getD_getElem?, List.getElem?_toArray, List.getElem?_map]
  by_cases h : j < n
  · rw [List.getElem?_range h]; simp [h]
  · rw [List.getElem?_eq_none (by simpa using h)]; simp [h]
theorem framed_congr {L : List Oper} {a0 a : Act} {l1 l2 : Array Bool} {vs : Nat → Value} (h : Framed L a0 l1 vs a) (e : ∀ j, j < L.length → l1.getD j false = l2.getD j false) : Framed L a0 l2 vs a := by
  refine ⟨h.1, h.2.1, fun t ht => ?_⟩
  rw [h.2.2 t ht]
  unfold slotV
  cases hs : srcFrom L 0 t with
  | none => rfl
  | some j =>
    obtain ⟨k, o', hk, hk2, hk3⟩ := srcFrom_spec _ _ _ _ hs
    have : j < L.length := by rw [hk, Nat.zero_add]; exact (List.getElem?_eq_some_iff.1 hk2).1
    simp only
    rw [e j this]
theorem framed_fill {L : List Oper} {a0 : Act} (hok : okFrom L a0.tmps.size L 0 = true) (vs : Nat → Value) : ∀ (r pre : List Oper) (a : Act), L = pre ++ r → Framed L a0 (firstK L.length pre.length) vs a → Framed L a0 (firstK L.length L.length) vs (fillFrom r pre.length a vs)
  | [], pre, a, hL, h => by
    have : L.length = pre.length := by rw [hL]; simp
    rw [← this] at h
    exact h
  | o :: r, pre, a, hL, h => by
    have hi : L[pre.length]? = some o := by rw [hL]; simp
    have ho := okFrom_spec L _ L 0 pre.length o hok hi
    rw [Nat.zero_add] at ho
    have hlt : pre.length < L.length := (List.getElem?_eq_some_iff.1 hi).1
    have h2 := framed_put (vs pre.length) ho hi (by rw [firstK_size]; exact hlt) (by rw [firstK_getD]; simp) h
    rw [upd_self] at h2
    have h3 := framed_congr (l2 := firstK L.length (pre ++ [o]).length) h2 (fun j hj => by
      rw [getD_set _ _ _ (by rw [firstK_size]; exact hlt), firstK_getD, firstK_getD]
      by_cases e : j = pre.length
      · subst e; simp [hlt]
      · rw [if_neg e]
        congr 1
        rw [Bool.eq_iff_iff]
        simp only [decide_eq_true_iff, List.length_append, List.length_singleton]
        omega)
    have h4 := framed_fill hok vs r (pre ++ [o]) _ (by rw [hL]; simp) h3
    have e : (pre ++ [o]).length = pre.length + 1 := by simp
    rw [e] at h4
    exact h4
theorem framed_unique {L : List Oper} {a0 a b : Act} {listed : Array Bool} {vs : Nat → Value} (ha : Framed L a0 listed vs a) (hb : Framed L a0 listed vs b) : a = b := by
  obtain ⟨a1, a2, a3⟩ := ha
  obtain ⟨b1, b2, b3⟩ := hb
  cases a with | mk at_ ad =>
  cases b with | mk bt_ bd =>
  simp only at a1 a2 a3 b1 b2 b3
  have e : at_ = bt_ := by
    apply Array.ext_getElem?
    intro t
    by_cases ht : t < a0.tmps.size
    · rw [a3 t ht, b3 t ht]
    · rw [Array.getElem?_eq_none (by omega), Array.getElem?_eq_none (by omega)]
  subst e
  rw [a1, b1]
def cnt (f : Nat → Bool) : Nat → Nat
  | 0 => 0
  | n + 1 => cnt f n + (if f n = true then 1 else 0)
theorem cnt_congr {f g : Nat → Bool} : ∀ n, (∀ j, j < n → f j = g j) → cnt f n = cnt g n
  | 0, _ => rfl
  | n + 1, h => by
    simp only [cnt]
    rw [cnt_congr n (fun j hj => h j (by omega)), h n (by omega)]
theorem cnt_upd {f g : Nat → Bool} {i : Nat} (hf : f i = true) (hg : g i = false) (h : ∀ j, j ≠ i → f j = g j) : ∀ n, i < n → cnt g n + 1 = cnt f n
  | 0, hi => by omega
  | n + 1, hi => by
    simp only [cnt]
    by_cases e : i = n
    · subst e
      rw [cnt_congr i (fun j hj => h j (by omega)), hf, hg]
      simp
    · have := cnt_upd hf hg h n (by omega)
      rw [h n (fun e2 => e e2.symm)]
      omega
theorem cnt_zero {f : Nat → Bool} : ∀ n, cnt f n = 0 → ∀ j, j < n → f j = false
  | 0, _, j, hj => by omega
  | n + 1, h, j, hj => by
    simp only [cnt] at h
    by_cases e : j = n
    · subst e
      cases hf : f j
      · rfl
      · rw [hf] at h; simp at h
    · exact cnt_zero n (by omega) j (by omega)
/-- what an operation does: it yields a value, or calls -/
def OpRel (P : Program) (S : World → World → Prop) (ρ : Operand → Value) (o : Oper) (w : World) (K : Value → World → Prop) : Prop :=
  (∃ v w', (execOp ρ o).run P w = .ok (.value v) w' ∧ S w w' ∧ K v w') ∨
  (∃ w', (execOp ρ o).run P w = .ok .skip w' ∧ S w w' ∧ K undef w') ∨
  (∃ f args, (execOp ρ o).run P w = .ok (.enter f args) w ∧ Calls P f args w fun e w' => ∃ v, e = .returned v ∧ S w w' ∧ K v w')
section
variable {P : Program} {Q : Exit → Act → World → Prop}
theorem wpAny_rel (L : List Oper) (a0 : Act) (hok : okFrom L a0.tmps.size L 0 = true) (Inv : World → Prop) (S : Nat → World → World → Prop) (R : Nat → (Nat → Value) → World → Prop)
    (hst : ∀ i j vs w w', i ≠ j → Inv w → R j vs w → S i w w' → R j vs w')
    (hcg : ∀ j o vs vs' w, L[j]? = some o → vs' j = vs j → (∀ k, predB o k = true → vs' k = vs k) → R j vs w → R j vs' w)
    (step : ∀ i o, L[i]? = some o → ∀ (vs : Nat → Value) (w : World), Inv w → (∀ j, predB o j = true → R j vs w) → OpRel P (S i) (envOf L a0 vs o) o w (fun v w' => Inv w' ∧ R i (upd vs i v) w'))
    (done : ∀ vs w, Inv w → (∀ j, j < L.length → R j vs w) → Q .normal (fillFrom L 0 a0 vs) w) :
    ∀ (fuel : Nat) (listed : Array Bool) (vs : Nat → Value) (a : Act) (w : World), listed.size = L.length → Closed L listed → Framed L a0 listed vs a → Inv w → (∀ j, listed.getD j false = true → R j vs w) →
      cnt (fun j => !listed.getD j false) L.length ≤ fuel → wpAny P .any L.toArray Q fuel listed a w := by
  have hall : ∀ (listed : Array Bool) (vs : Nat → Value) (a : Act) (w : World), listed.size = L.length → Framed L a0 listed vs a → Inv w → (∀ j, listed.getD j false = true → R j vs w) → (∀ j, j < L.length → listed.getD j false = true) → Q .normal a w := by
    intro listed vs a w hsz hF hI hR hl
    have h1 := framed_congr (l2 := firstK L.length L.length) hF (fun j hj => by rw [hl j hj, firstK_getD]; simp [hj])
    have h0 : Framed L a0 (firstK L.length ([] : List Oper).length) vs a0 := by
      refine ⟨rfl, rfl, fun t ht => ?_⟩
      have e : slotV L a0 (firstK L.length ([] : List Oper).length) vs t = a0.tmps.getD t undef := by
        unfold slotV
        cases srcFrom L 0 t with
        | none => rfl
        | some j => simp only; rw [firstK_getD]; simp
      rw [e]
      simp [Array.getD_eq_getD_getElem?, Array.getElem?_eq_getElem ht]
    have h2 := framed_fill hok vs L [] a0 rfl h0
    rw [framed_unique h1 h2]
    exact done vs w hI (fun j hj => hR j (hl j hj))
  have hready : ∀ (listed : Array Bool) (i : Nat), listed.size = L.length → i ∈ Region.ready .any L.toArray listed → ∃ o, L[i]? = some o ∧ i < L.length ∧ listed.getD i false = false ∧ ∀ j, predB o j = true → listed.getD j false = true := by
    intro listed i hsz hi
    unfold Region.ready at hi
    rw [List.mem_filter] at hi
    obtain ⟨hi1, hi2⟩ := hi
    have hlt : i < L.length := by simpa using hi1
    obtain ⟨o, ho⟩ : ∃ o, L[i]? = some o := ⟨_, List.getElem?_eq_getElem hlt⟩
    simp only [List.getElem?_toArray, ho, Option.map_some, Option.getD_some, Bool.and_eq_true, Bool.not_eq_true'] at hi2
    refine ⟨o, ho, hlt, ?_, fun j hj => ?_⟩
    · have := hi2.1
      simp only [Array.getD_eq_getD_getElem?] at this ⊢
      rw [Array.getElem?_eq_getElem (by omega)] at this ⊢
      simpa using this
    · unfold predB at hj
      obtain ⟨e, he, hj⟩ := List.any_eq_true.1 hj
      simp only [Bool.and_eq_true, beq_iff_eq] at hj
      have h3 := Array.all_eq_true'.1 hi2.2 e (by simpa using he)
      rw [hj.1] at h3
      simp only [Bool.not_true, Bool.false_or] at h3
      rw [← hj.2]
      exact h3
  have hnone : ∀ (listed : Array Bool), listed.size = L.length → Region.ready .any L.toArray listed = [] → ∀ j, j < L.length → listed.getD j false = true := by
    intro listed hsz hr
    have hs : ∀ n j, j < n → j < L.length → listed.getD j false = true := by
      intro n
      induction n with
      | zero => intro j hj; omega
      | succ n ih =>
        intro j hj hjl
        by_cases e : j < n
        · exact ih j e hjl
        · obtain rfl : j = n := by omega
          cases hb : listed.getD j false
          · exfalso
            obtain ⟨o, ho⟩ : ∃ o, L[j]? = some o := ⟨_, List.getElem?_eq_getElem hjl⟩
            have ho1 := okFrom_spec L _ L 0 j o hok ho
            rw [Nat.zero_add] at ho1
            unfold okOne at ho1
            simp only [Bool.and_eq_true] at ho1
            have haf := ho1.2
            have hm : j ∈ Region.ready .any L.toArray listed := by
              unfold Region.ready
              rw [List.mem_filter]
              refine ⟨by simpa using hjl, ?_⟩
              simp only [List.getElem?_toArray, ho, Option.map_some, Option.getD_some, Bool.and_eq_true, Bool.not_eq_true']
              refine ⟨?_, ?_⟩
              · simp only [Array.getD_eq_getD_getElem?] at hb ⊢
                rw [Array.getElem?_eq_getElem (by omega)] at hb ⊢
                simpa using hb
              · rw [Array.all_eq_true]
                intro k hk
                have h3 := Array.all_eq_true.1 haf k hk
                simp only [Bool.or_eq_true, decide_eq_true_eq] at h3 ⊢
                rcases h3 with h3 | h3
                · exact .inl h3
                · exact .inr (ih _ h3 (by omega))
            rw [hr] at hm
            cases hm
          · rfl
    intro j hj
    exact hs (j + 1) j (by omega) hj
  intro fuel
  induction fuel with
  | zero =>
    intro listed vs a w hsz hC hF hI hR hc
    have hz := cnt_zero (f := fun j => !listed.getD j false) L.length (by omega)
    have hl : ∀ j, j < L.length → listed.getD j false = true := fun j hj => by simpa using hz j hj
    refine ⟨?_, hall listed vs a w hsz hF hI hR hl⟩
    cases hr : Region.ready .any L.toArray listed with
    | nil => rfl
    | cons i r =>
      obtain ⟨o, _, hi, hun, _⟩ := hready listed i hsz (by rw [hr]; simp)
      rw [hl i hi] at hun
      cases hun
  | succ fuel ih =>
    intro listed vs a w hsz hC hF hI hR hc
    refine ⟨fun hr => hall listed vs a w hsz hF hI hR (hnone listed hsz hr), fun i hi => ?_⟩
    obtain ⟨o, ho, hil, hun, hp⟩ := hready listed i hsz hi
    have ho1 := okFrom_spec L _ L 0 i o hok ho
    rw [Nat.zero_add] at ho1
    have hok1 := ho1
    unfold okOne at ho1
    simp only [Bool.and_eq_true] at ho1
    obtain ⟨⟨⟨⟨hg, hsel⟩, hdst⟩, hops⟩, haf⟩ := ho1
    have hgn : o.guard = none := by simpa using hg
    have hns : ∀ cs b, o.op ≠ .select cs b := by
      intro cs b he
      rw [he] at hsel
      cases hsel
    have hev : ∀ x ∈ o.op.operands, a.eval x = envOf L a0 vs o x := by
      intro x hx
      have hx2 := Array.all_eq_true'.1 hops x hx
      cases x with
      | tmp t =>
        simp only [Bool.and_eq_true, decide_eq_true_eq] at hx2
        have hv := hF.2.2 t hx2.1
        have he : a.eval (.tmp t) = slotV L a0 listed vs t := by
          simp [Act.eval, Array.getD_eq_getD_getElem?, hv]
        have henv : envOf L a0 vs o (.tmp t) = (match srcFrom L 0 t with | some j => if predB o j = true then vs j else a0.tmps.getD t undef | none => a0.tmps.getD t undef) := rfl
        rw [he, henv]
        unfold slotV
        have hx3 := hx2.2
        cases hs : srcFrom L 0 t with
        | none => rfl
        | some j =>
          rw [hs] at hx3
          simp only at hx3 ⊢
          by_cases hpj : predB o j = true
          · rw [if_pos hpj, if_pos (hp j hpj)]
          · rw [if_neg hpj]
            have hpf : predB o j = false := by simpa using hpj
            rw [hpf, Bool.false_or] at hx3
            rw [if_neg]
            intro hlj
            cases hoj : L[j]? with
            | none => rw [hoj] at hx3; cases hx3
            | some oj =>
              rw [hoj] at hx3
              have := hC j oj i hoj hlj hx3
              rw [hun] at this
              cases this
      | const v => rfl
      | global g => rfl
      | func f => rfl
    have hw : Region.wanted o (yielded L.toArray a.tmps) = true := by unfold Region.wanted; rw [hgn]
    have hnext : ∀ v w', S i w w' → Inv w' → R i (upd vs i v) w' → wpAny P .any L.toArray Q fuel (listed.setIfInBounds i true) (a.put o.dst v) w' := by
      intro v w' hb hI' hRi
      refine ih (listed.setIfInBounds i true) (upd vs i v) (a.put o.dst v) w' (by simpa using hsz) ?_ (framed_put v hok1 ho (by omega) hun hF) hI' ?_ ?_
      · intro i' o' j' ho' hl' hp'
        rw [getD_set _ _ _ (by omega)] at hl' ⊢
        by_cases e : i' = i
        · subst e
          rw [ho] at ho'
          cases ho'
          split
          · rfl
          · exact hp j' hp'
        · rw [if_neg e] at hl'
          split
          · rfl
          · exact hC i' o' j' ho' hl' hp'
      · intro j hj
        rw [getD_set _ _ _ (by omega)] at hj
        by_cases e : j = i
        · subst e; exact hRi
        · rw [if_neg e] at hj
          have hjl : j < L.length := by
            rcases Nat.lt_or_ge j L.length with h | h
            · exact h
            · rw [Array.getD_eq_getD_getElem?, Array.getElem?_eq_none (by omega)] at hj; cases hj
          have hoj : L[j]? = some L[j] := List.getElem?_eq_getElem hjl
          refine hcg j _ vs _ w' hoj (by unfold upd; rw [if_neg e]) (fun k hk => ?_) (hst i j vs w w' (fun e2 => e e2.symm) hI (hR j hj) hb)
          have hkl := hC j _ k hoj hj hk
          unfold upd
          rw [if_neg]
          intro e2
          rw [e2, hun] at hkl
          cases hkl
      · have := cnt_upd (f := fun j => !listed.getD j false) (g := fun j => !(listed.setIfInBounds i true).getD j false) (i := i) (by simp [hun]) (by show (!(listed.setIfInBounds i true).getD i false) = false; rw [getD_set _ _ _ (by omega), if_pos rfl]; rfl) (fun j hj => by show (!listed.getD j false) = !(listed.setIfInBounds i true).getD j false; rw [getD_set _ _ _ (by omega), if_neg hj]) L.length hil
        omega
    unfold wpOp
    rw [List.getElem?_toArray, ho]
    simp only
    rw [if_pos hw]
    left
    have hex : execOp a.eval o = execOp (envOf L a0 vs o) o := execOp_congr o hns hev
    unfold Oper.wp
    rw [hex]
    rcases step i o ho vs w hI (fun j hj => hR j (hp j hj)) with ⟨v, w', hrun, hb, hI', hRi⟩ | ⟨w', hrun, hb, hI', hRi⟩ | ⟨f, args, hrun, hcall⟩
    · rw [hrun]
      exact hnext v w' hb hI' hRi
    · rw [hrun]
      exact hnext undef w' hb hI' hRi
    · rw [hrun, Oper.upon_enter]
      refine hcall.mono ?_
      rintro e w' ⟨v, rfl, hb, hI', hRi⟩
      exact hnext v w' hb hI' hRi
def AllOps (F : Nat → Oper → Prop) : List Oper → Nat → Prop
  | [], _ => True
  | o :: l, k => F k o ∧ AllOps F l (k + 1)
theorem allOps_nil {F : Nat → Oper → Prop} {k : Nat} : AllOps F [] k := trivial
theorem allOps_cons {F : Nat → Oper → Prop} {o : Oper} {l : List Oper} {k : Nat} (h : F k o) (t : AllOps F l (k + 1)) : AllOps F (o :: l) k := ⟨h, t⟩
theorem allOps_spec {F : Nat → Oper → Prop} : ∀ {L : List Oper} {k : Nat}, AllOps F L k → ∀ i o, L[i]? = some o → F (k + i) o
  | [], _, _, i, o, h => by simp at h
  | o :: l, k, hA, 0, o', h => by
    simp at h
    subst h
    exact hA.1
  | o :: l, k, hA, i + 1, o', h => by
    have := allOps_spec hA.2 i o' (by simpa using h)
    rw [show k + (i + 1) = k + 1 + i by omega]
    exact this
/-- what is to be shown of one operation -/
def OneOp (P : Program) (L : List Oper) (a0 : Act) (Inv : World → Prop) (S : Nat → World → World → Prop) (R : Nat → (Nat → Value) → World → Prop) (i : Nat) (o : Oper) : Prop :=
  ∀ (vs : Nat → Value) (w : World) (ρ : Operand → Value), (∀ x, ρ x = envOf L a0 vs o x) → (∀ c, ρ (.const c) = c) → (∀ g, ρ (.global g) = .pointer (some ⟨g, 0, none⟩)) → (∀ f, ρ (.func f) = .func (.func f) #[] #[]) →
    Inv w → (∀ j, predB o j = true → R j vs w) → OpRel P (S i) ρ o w (fun v w' => Inv w' ∧ R i (upd vs i v) w')
theorem rel_value {S : World → World → Prop} {ρ : Operand → Value} {o : Oper} {w : World} {K : Value → World → Prop} (v : Value) (h : (execOp ρ o).run P w = .ok (.value v) w) (hk : K v w) (hs : S w w := by exact Below.refl _ _) : OpRel P S ρ o w K := .inl ⟨v, w, h, hs, hk⟩
theorem rel_made {S : World → World → Prop} {ρ : Operand → Value} {o : Oper} {w w' : World} {K : Value → World → Prop} (v : Value) (h : (execOp ρ o).run P w = .ok (.value v) w') (hb : S w w') (hk : K v w') : OpRel P S ρ o w K := .inl ⟨v, w', h, hb, hk⟩
theorem rel_skip {S : World → World → Prop} {ρ : Operand → Value} {o : Oper} {w w' : World} {K : Value → World → Prop} (h : (execOp ρ o).run P w = .ok .skip w') (hb : S w w') (hk : K undef w') : OpRel P S ρ o w K := .inr (.inl ⟨w', h, hb, hk⟩)
theorem rel_call {S : World → World → Prop} {ρ : Operand → Value} {oi : Oper} {w : World} {K : Value → World → Prop} {f : FuncId} {fn : Func} {ars : Array Operand} {ts : Array TypeId} (hf : P.funcs[f]? = some fn) (hname : (fn.name == "runtime.NumGoroutine") = false) (hb : fn.body.isSome = true) (args : Array Value)
    (hop : oi.op = .call { callee := .value (.func f), args := ars, argTypes := ts }) (hfun : ρ (.func f) = .func (.func f) #[] #[]) (hargs : ars.map ρ = args)
    (h : Calls P f args w fun e w' => ∃ v, e = .returned v ∧ S w w' ∧ K v w') : OpRel P S ρ oi w K := by
  refine .inr (.inr ⟨f, args, ?_, h⟩)
  have he := enters_ hf hname hb args w
  unfold execOp
  simp [hop, resolve, Deferred.ofValue, invoke, hfun, hargs, he]
/-- the law: a region that draws its order -/
theorem wp_region_rel {id : Nat} (L : List Oper) (hm : P.follows .mixedOrders = true) (N : Nat) (a0 : Act) (w0 : World) (hN : a0.tmps.size = N) (hok : okFrom L N L 0 = true) (Inv : World → Prop) (S : Nat → World → World → Prop) (R : Nat → (Nat → Value) → World → Prop) (hI : Inv w0.drew)
    (hst : ∀ i j vs w w', i ≠ j → Inv w → R j vs w → S i w w' → R j vs w')
    (hcg : ∀ j o vs vs' w, L[j]? = some o → vs' j = vs j → (∀ k, predB o k = true → vs' k = vs k) → R j vs w → R j vs' w)
    (step : AllOps (OneOp P L a0 Inv S R) L 0)
    (done : ∀ vs w, Inv w → (∀ j, j < L.length → R j vs w) → Q .normal (fillFrom L 0 a0 vs) w) :
    (Code.region id L.toArray true).wp P Q a0 w0 := by
  subst hN
  have step' : ∀ i o, L[i]? = some o → ∀ (vs : Nat → Value) (w : World), Inv w → (∀ j, predB o j = true → R j vs w) → OpRel P (S i) (envOf L a0 vs o) o w (fun v w' => Inv w' ∧ R i (upd vs i v) w') := by
    intro i o ho vs w hI hp
    have h := allOps_spec step i o ho
    rw [Nat.zero_add] at h
    exact h vs w (envOf L a0 vs o) (fun _ => rfl) (fun _ => rfl) (fun _ => rfl) (fun _ => rfl) hI hp
  refine wp_region_any hm ?_
  refine wpAny_rel L a0 hok Inv S R hst hcg step' done L.toArray.size (Array.replicate L.toArray.size false) (fun _ => undef) a0 _ (by simp) ?_ ?_ hI ?_ ?_
  · intro i o j _ h
    simp [Array.getD_eq_getD_getElem?, Array.getElem?_replicate] at h
    split at h <;> simp at h
  · refine ⟨rfl, rfl, fun t ht => ?_⟩
    have e : slotV L a0 (Array.replicate L.toArray.size false) (fun _ => undef) t = a0.tmps.getD t undef := by
      unfold slotV
      cases srcFrom L 0 t with
      | none => rfl
      | some j =>
        simp only
        rw [if_neg]
        simp [Array.getD_eq_getD_getElem?, Array.getElem?_replicate]
        split <;> simp
    rw [e]
    simp [Array.getD_eq_getD_getElem?, Array.getElem?_eq_getElem ht]
  · intro j h
    simp [Array.getD_eq_getD_getElem?, Array.getElem?_replicate] at h
    split at h <;> simp at h
  · have : ∀ (f : Nat → Bool) n, cnt f n ≤ n := by
      intro f n
      induction n with
      | zero => exact Nat.le_refl _
      | succ n ih => simp only [cnt]; split <;> omega
    exact Nat.le_trans (this _ _) (by simp)
end
end Go.Proofs.YtnifgokjagahfaaDoor.Reg
