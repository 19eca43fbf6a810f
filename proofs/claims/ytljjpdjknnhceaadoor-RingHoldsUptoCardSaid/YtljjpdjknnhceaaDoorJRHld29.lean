/- Joined texts of this claim: FilesW -/
import Derived.Test.YtljjpdjknnhceaaDoorJRHld28
set_option linter.unusedVariables false
set_option linter.unusedSimpArgs false
/- ring.Files walked. -/
set_option linter.unusedVariables false
set_option linter.unusedSimpArgs false
namespace Go.Proofs.YtljjpdjknnhceaaDoor.FilesW
open Go.RowKit Go.Proofs.YtljjpdjknnhceaaDoorW.PrintWords Go.Proofs.YtljjpdjknnhceaaDoorW.PrintLast Go.Proofs.YtljjpdjknnhceaaDoorW.PrintMore
open Go.Proofs.YtljjpdjknnhceaaDoor.Base Go.Proofs.YtljjpdjknnhceaaDoor.App Go.Proofs.YtljjpdjknnhceaaDoor.AppR Go.Proofs.YtljjpdjknnhceaaDoor.RingPure Go.Proofs.YtljjpdjknnhceaaDoor.ChkPure Go.Proofs.YtljjpdjknnhceaaDoor.Clus Go.Proofs.YtljjpdjknnhceaaDoor.Mids Go.Proofs.YtljjpdjknnhceaaDoor.Chkd Go.Proofs.YtljjpdjknnhceaaDoor.Ref6 Go.Proofs.YtljjpdjknnhceaaDoor.Name Go.Proofs.YtljjpdjknnhceaaDoor.Walk Go.Proofs.YtljjpdjknnhceaaDoor.Hold Go.Proofs.YtljjpdjknnhceaaDoor.InsPure Go.Proofs.YtljjpdjknnhceaaDoor.NumR Go.Proofs.YtljjpdjknnhceaaDoor.NamePure Go.Proofs.YtljjpdjknnhceaaDoor.FileN Go.Proofs.YtljjpdjknnhceaaDoor.HoldKit Go.Proofs.YtljjpdjknnhceaaDoor.InsW Go.Proofs.YtljjpdjknnhceaaDoor.FilesP Go.Proofs.YtljjpdjknnhceaaDoor.SortW
open Go.Proofs.YtljjpdjknnhceaaDoor.Round (own_later2)
def dn (s : Nat × Nat) (k j : Nat) : List Str := [fileN ⟨s.1, s.2, k, false⟩, fileN ⟨s.1, s.2, k, true⟩].take j
theorem dn_next (s : Nat × Nat) (k : Nat) {j : Nat} (hj : j < 2) : dn s k (j + 1) = dn s k j ++ [fileN ⟨s.1, s.2, k, decide (j = 1)⟩] := by
  rcases j with _ | _ | j
  · rfl
  · rfl
  · omega
theorem infoS2 : (Tryd.prog.info? 143).map (·.size) = some 2 := by kernel_rfl
set_option maxRecDepth 100000 in
set_option maxHeartbeats 8000000 in
theorem files_any (c : Cl) (A : Option Addr) (cap : Nat) (ns : List Nd) (node : Int) (w : World) (hN : NodesAt w A ns) (hcap : ns.length ≤ cap) (hs : c.store.size ≤ 2147483647) (hl : ns.length ≤ 1099511627776) (hc : cnt ns ≤ 1099511627776) :
    Calls Tryd.prog 40 #[.agg (cL c (.slice A ns.length cap)).toArray, .int .i64 node] w (WordPost (files c ns node) w) := by
  have hb0 := (Below.refl w.heap.size w).alloc (Nat.le_refl _) (.cells (cL c (.slice A ns.length cap)).toArray 24)
  have HN := Aside0.mk (hN.below hb0)
  have HB := Aside0.mk hb0
  have HC : Aside0 (CBox (w.alloc (.cells (cL c (.slice A ns.length cap)).toArray 24)) w.heap.size c (.slice A ns.length cap)) := ⟨⟨Go.heap_alloc_new w _⟩⟩
  clear hN hb0
  go_enter Tryd.func40, Tryd.ntmps40
  go_upto_region 1 with fail
  generalize w.alloc (.cells (cL c (.slice A ns.length cap)).toArray 24) = w1 at HN HB HC ⊢
  obtain ⟨gc, hgc⟩ : ∃ gc, gc = w.heap.size := ⟨_, rfl⟩
  rw [← hgc] at HC ⊢
  clear hgc
  have hrg := blk_range HC.out.row
  go_wp2_with ((with_reducible refine gate_load (ty := 24) (x := .tmp 2) rfl ?_); refine wpList_load_mid rfl 24 (.tmp 2) rfl gc 0 rfl (cL c (.slice A ns.length cap)) _ hrg Tryd.underlying24 rfl infoC23 ?_)
  clear hrg
  refine (holds_any c A cap ns node w1 HN.out hcap hs hl hc).mono ?_
  rintro e w2 ⟨hb, v, rfl, ho⟩
  have HB2 := Aside0.mk (HB.out.trans (hb.mono HB.out.size))
  have HC2 := Aside0.mk (HC.out.below hb HC.out.lt)
  obtain ⟨vA, vc, rfl, hvc⟩ := own_form ho
  by_cases h0 : (hold c ns node).1 = 0
  · have HSA := Aside0.mk (slots_of ho)
    have HSM := Aside0.mk (hold_sm c ns node)
    have hlen := hold_len c ns node
    have hz := hold_zero h0
    have hb6 := setAt_bounds (chk_ok (nm := nmB c.store) hz).set
    obtain ⟨ch, hch⟩ : ∃ ch : Nat, c.chunks = (ch : Int) := ⟨c.chunks.toNat, by omega⟩
    have hch16 : ch ≤ 16 := by omega
    have hcc : w2.cell? ⟨gc, 3, none⟩ = some (.int .i64 (ch : Nat)) := by rw [← hch]; exact HC2.out.c 3
    have HE : Aside0 (files c ns node = (0, insAll (nms ch (hold c ns node).2))) := ⟨by unfold files; rw [if_neg (by rw [h0]; decide), hch]; rfl⟩
    rw [h0]
    obtain ⟨S, hS⟩ : ∃ S, S = (hold c ns node).2 := ⟨_, rfl⟩
    rw [← hS] at HSA HSM HE hlen ⊢
    have HCC := Aside0.mk hcc
    clear h0 hz hb6 hch hS ho hb hvc hcc HB HC
    go_wp2_with fail
    go_loopw [8, 27] (fun v8 v27 wr => ∃ i : Nat, i ≤ S.length ∧ v27 = .int .i64 (i : Nat) ∧ Aside0 (Below w2.heap.size w2 wr) ∧ Aside0 (wr.ownsRow w2.heap.size 9 1 v8 (nms ch (S.take i)).length (encL (nms ch (S.take i))))) (fun _ v27 _ => S.length - (intOf v27).toNat)
    case atStart => exact ⟨0, Nat.zero_le _, rfl, ⟨Below.refl _ _⟩, ⟨World.ownsRow_nil _ _ _ _⟩⟩
    case round =>
      obtain ⟨i, hi, rfl, HR, HO⟩ := hrel
      obtain ⟨wo, rfl⟩ : ∃ wo : World, wo = wr := ⟨_, rfl⟩
      by_cases hil : i < S.length
      · obtain ⟨s, hsx⟩ : ∃ s, S[i]? = some s := ⟨_, List.getElem?_eq_getElem hil⟩
        obtain ⟨b, rfl, hq1, hq2⟩ := HSA.out.get hsx
        have hrg : wo.rangeAt b (i * 2) [.int .i64 ((s.1 : Nat) : Int), .int .i64 ((s.2 : Nat) : Int)] := by
          intro j v hj
          rcases j with _ | _ | j
          · simp at hj; subst hj; exact cell_below HR.out (Nat.le_refl _) hq1
          · simp at hj; subst hj; exact cell_below HR.out (Nat.le_refl _) hq2
          · simp at hj
        have HSS := Aside0.mk (HSM.out s (List.mem_of_getElem? hsx))
        have HNX := Aside0.mk (nms_next (ch := ch) hsx)
        have hnl := nms_len ch (S.take i)
        have htl : (S.take i).length = i := by rw [List.length_take]; omega
        rw [htl] at hnl
        have hnl2 : (nms ch (S.take i)).length ≤ 40000 := by rw [hnl]; exact Nat.le_trans (Nat.mul_le_mul (show i ≤ 1024 by omega) (show 2 * ch ≤ 32 by omega)) (by decide)
        obtain ⟨N1, hN1⟩ : ∃ N1, nms ch (S.take (i + 1)) = N1 := ⟨_, rfl⟩
        rw [hN1] at HNX
        have HN1 := Aside0.mk hN1
        generalize nms ch (S.take i) = NM at HO HNX hnl2
        clear hsx hq1 hq2 hnl htl hN1
        go_upto_region 8 with ((with_reducible refine gate_load (ty := 143) (x := .tmp 29) rfl ?_); refine wpList_load_mid rfl 143 (.tmp 29) rfl b (i * 2) rfl [.int .i64 ((s.1 : Nat) : Int), .int .i64 ((s.2 : Nat) : Int)] _ hrg Tryd.underlying143 rfl infoS2 ?_)
        have HBX : Aside0 ((wo.alloc (.cells #[.int .i64 ((s.1 : Nat) : Int), .int .i64 ((s.2 : Nat) : Int)] 143)).heap[wo.heap.size]? = some (.cells #[.int .i64 ((s.1 : Nat) : Int), .int .i64 ((s.2 : Nat) : Int)] 143 (0, 0))) := ⟨Go.heap_alloc_new wo _⟩
        have HRA := Aside0.mk (HR.out.alloc HR.out.size (.cells #[.int .i64 ((s.1 : Nat) : Int), .int .i64 ((s.2 : Nat) : Int)] 143))
        have HOA := Aside0.mk (HO.out.alloc (.cells #[.int .i64 ((s.1 : Nat) : Int), .int .i64 ((s.2 : Nat) : Int)] 143))
        obtain ⟨gb, hgb⟩ : ∃ gb, gb = wo.heap.size := ⟨_, rfl⟩
        rw [← hgb] at HBX ⊢
        generalize wo.alloc (.cells #[.int .i64 ((s.1 : Nat) : Int), .int .i64 ((s.2 : Nat) : Int)] 143) = wa at HBX HRA HOA ⊢
        clear hrg hgb HO
        have hcc : wa.cell? ⟨gc, 3, none⟩ = some (.int .i64 (ch : Nat)) := cell_below HRA.out (Nat.le_refl _) HCC.out
        go_wp2_with fail
        clear hcc
        go_loopw [8, 33] (fun v8 v33 wr => ∃ k : Nat, k ≤ ch ∧ v33 = .int .i64 (k : Nat) ∧ Aside0 (Below w2.heap.size w2 wr) ∧ Aside0 (KeepTy 9 wa wr) ∧ Aside0 (wr.ownsRow w2.heap.size 9 1 v8 (NM ++ cks s k).length (encL (NM ++ cks s k)))) (fun _ v33 _ => ch - (intOf v33).toNat)
        case atStart => exact ⟨0, Nat.zero_le _, rfl, HRA, ⟨KeepTy.refl _ _⟩, by rw [cks, List.append_nil]; exact HOA⟩
        case round =>
          clear HR HOA HRA
          obtain ⟨k, hk, rfl, HR, HK, HO⟩ := hrel
          obtain ⟨wi, rfl⟩ : ∃ wi : World, wi = wr := ⟨_, rfl⟩
          by_cases hkl : k < ch
          · have hk15 : k ≤ 15 := by omega
            have HD2 : Aside0 (NM ++ cks s (k + 1) = NM ++ cks s k ++ dn s k 2) := ⟨by rw [cks, dn]; simp⟩
            have hml : (NM ++ cks s k).length ≤ 50000 := by rw [List.length_append, cks_len]; omega
            obtain ⟨M3, hM3⟩ : ∃ M3, NM ++ cks s (k + 1) = M3 := ⟨_, rfl⟩
            rw [hM3] at HD2
            have HM3 := Aside0.mk hM3
            generalize NM ++ cks s k = M at HO HD2 hml
            clear hM3
            go_upto_region 12 with fail
            have HBO : Aside0 ((wi.alloc (.cells #[.bool false, .bool true] 4)).heap[wi.heap.size]? = some (.cells #[.bool false, .bool true] 4 (0, 0))) := ⟨Go.heap_alloc_new wi _⟩
            have HRB := Aside0.mk (HR.out.alloc HR.out.size (.cells #[.bool false, .bool true] 4))
            have HKB := Aside0.mk (HK.out.alloc (.cells #[.bool false, .bool true] 4))
            have HOB := Aside0.mk (HO.out.alloc (.cells #[.bool false, .bool true] 4))
            obtain ⟨gd, hgd⟩ : ∃ gd, gd = wi.heap.size := ⟨_, rfl⟩
            rw [← hgd] at HBO ⊢
            generalize wi.alloc (.cells #[.bool false, .bool true] 4) = wb at HBO HRB HKB HOB ⊢
            clear hgd HO HR HK
            go_loopw [8, 38] (fun v8 v38 wr => ∃ j : Nat, j ≤ 2 ∧ v38 = .int .i64 (j : Nat) ∧ Aside0 (Below w2.heap.size w2 wr) ∧ Aside0 (KeepTy 9 wb wr) ∧ Aside0 (wr.ownsRow w2.heap.size 9 1 v8 (M ++ dn s k j).length (encL (M ++ dn s k j)))) (fun _ v38 _ => 2 - (intOf v38).toNat)
            case atStart => exact ⟨0, by omega, rfl, HRB, ⟨KeepTy.refl _ _⟩, by rw [show dn s k 0 = [] from rfl, List.append_nil]; exact HOB⟩
            case round =>
              clear HOB HRB
              obtain ⟨j, hj, rfl, HR, HK, HO⟩ := hrel
              obtain ⟨wj, rfl⟩ : ∃ wj : World, wj = wr := ⟨_, rfl⟩
              by_cases hjl : j < 2
              · have hbx := HK.out.2 _ _ _ _ (by decide) (HKB.out.2 _ _ _ _ (by decide) HBX.out)
                have hbo := HK.out.2 _ _ _ _ (by decide) HBO.out
                obtain ⟨d, hd⟩ : ∃ d, d = decide (j = 1) := ⟨_, rfl⟩
                have hx1 : wj.cell? ⟨gb, 0, none⟩ = some (.int .i64 ((s.1 : Nat) : Int)) := by rw [blk_cell hbx]; rfl
                have hx2 : wj.cell? ⟨gb, 1, none⟩ = some (.int .i64 ((s.2 : Nat) : Int)) := by rw [blk_cell hbx]; rfl
                have hxd : wj.cell? ⟨gd, j, none⟩ = some (.bool d) := by
                  rw [blk_cell hbo, hd]
                  rcases j with _ | _ | j
                  · rfl
                  · rfl
                  · omega
                have HNF := Aside0.mk (sm_name HSS.out k hk15 d)
                have HDN := Aside0.mk (dn_next s k hjl)
                rw [← hd] at HDN
                obtain ⟨x, hx⟩ : ∃ x, x = fileN ⟨s.1, s.2, k, d⟩ := ⟨_, rfl⟩
                rw [← hx] at HNF HDN
                have hdl : (dn s k j).length ≤ 2 := by unfold dn; rw [List.length_take]; simp; omega
                have hml2 : (M ++ dn s k j).length ≤ 60000 := by rw [List.length_append]; omega
                have HMN : Aside0 (M ++ dn s k (j + 1) = (M ++ dn s k j) ++ [x]) := ⟨by rw [HDN.out, List.append_assoc]⟩
                obtain ⟨M4, hM4⟩ : ∃ M4, M ++ dn s k (j + 1) = M4 := ⟨_, rfl⟩
                rw [hM4] at HMN
                have HM4 := Aside0.mk hM4
                generalize M ++ dn s k j = MJ at HO HMN hml2
                clear hbx hbo hd hx hdl hM4 HDN
                go_wp2_with fail
                refine (file_any ⟨(s.1 : Int), (s.2 : Int), (k : Int), d⟩ _).mono ?_
                rintro e w6 ⟨rfl, hb6⟩
                rw [HNF.out.1, HNF.out.2]
                have HR6 := Aside0.mk (HR.out.trans (hb6.mono HR.out.size))
                have HK6 := Aside0.mk (HK.out.trans (KeepTy.of_below hb6))
                have HO6 := Aside0.mk (own_later2 HO.out hb6)
                obtain ⟨oA, oc, rfl, hoc⟩ := own_form HO6.out
                have hsz := HR6.out.size
                clear hb6 HO HR HK hx1 hx2 hxd
                go_wp2_with ((with_reducible refine gate_call (args := #[.tmp 56, .tmp 58]) rfl ?_); refine Hid.out ?_)
                refine Lib.hid ?_
                refine list_append_any (P := Tryd.prog) rfl w2.heap.size (.tmp 56) (.tmp 58) 84 9 _ 1 16 rfl Tryd.underlying84 infoStr rfl (by decide) (by decide) (.slice oA MJ.length oc) MJ.length (encL MJ) (some ⟨w6.heap.size, 0, none⟩) 1 1 [.string (strO x)] ?hs ?hx rfl (by simp [Value.oneCell']) (.inr ⟨_, rfl, news_str w6 (strO x)⟩) (HO6.out.alloc _) (by simp; omega) (by omega) (MJ.length + 1) rfl ?_
                case hs => rfl
                case hx => rfl
                intro A5 c5 w5 hle5 hown5 hg5
                have HO5 : Aside0 (w5.ownsRow w2.heap.size 9 1 (.slice A5 (MJ.length + 1) c5) M4.length (encL M4)) := ⟨by rw [HMN.out, enc_app, List.length_append]; exact hown5⟩
                have HR5 : Aside0 (Below w2.heap.size w2 w5) := ⟨(HR6.out.alloc HR6.out.size _).grown hg5 (by simp; omega) (own_base HO6.out)⟩
                have HK5 := Aside0.mk ((HK6.out.alloc (.cells #[.string (strO x)] 9)).grown (HO6.out.alloc _) hg5)
                clear hown5 hg5
                go_wp2_with fail
                go_roundw
                case rel => exact ⟨j + 1, by omega, by go_num, HR5, HK5, by rw [HM4.out]; exact HO5⟩
                case measure => simp [intOf]; omega
              · obtain rfl : j = 2 := by omega
                rw [← HD2.out] at HO
                have HK5 := Aside0.mk (HKB.out.trans HK.out)
                go_wp2_with fail
                go_roundw
                case rel => exact ⟨k + 1, by omega, by go_num, HR, HK5, by rw [HM3.out]; exact HO⟩
                case measure => simp [intOf]; omega
          · obtain rfl : k = ch := by omega
            rw [← HNX.out] at HO
            go_wp2_with fail
            go_roundw
            case rel => exact ⟨i + 1, by omega, by go_num, HR, by rw [HN1.out]; exact HO⟩
            case measure => simp [intOf]; omega
      · obtain rfl : i = S.length := by omega
        have HO6 : Aside0 (wo.ownsRow w2.heap.size 9 1 u8 (nms ch S).length (encL (nms ch S))) := ⟨by
          have := HO.out
          rw [List.take_length] at this
          exact this⟩
        have hnl : (nms ch S).length ≤ 60000 := by rw [nms_len]; exact Nat.le_trans (Nat.mul_le_mul hlen (show 2 * ch ≤ 32 by omega)) (by decide)
        generalize nms ch S = R at HO6 HE hnl
        obtain ⟨oA, oc, rfl, hoc⟩ := own_form HO6.out
        go_wp2_with fail
        refine (sortw_any HO6.out hnl).mono ?_
        rintro e w5 ⟨rfl, hg5, ho5⟩
        have HR5 := Aside0.mk (HR.out.grown hg5 HR.out.size (own_base HO6.out))
        have HO5 := Aside0.mk (own_weaken ho5 HB2.out.size)
        clear hg5 ho5
        go_wp2_with fail
        go_ret2
        exact wpost_ok HE.out (HB2.out.trans (HR5.out.mono HB2.out.size)) (by rw [insAll_length]; rw [insAll_length] at HO5; exact HO5.out)
  · have HE : Aside0 (files c ns node = ((hold c ns node).1, [])) := ⟨by unfold files; rw [if_pos h0]⟩
    generalize (hold c ns node).1 = code at h0 HE ⊢
    have hne : (code != 0) = true := by simpa using h0
    clear ho
    go_wp2_with fail
    go_ret2
    exact wpost_err HE.out HB2.out
end Go.Proofs.YtljjpdjknnhceaaDoor.FilesW
