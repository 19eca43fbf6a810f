/- Joined texts of this claim: NamedR, Dealt, Reg, RefCheck, RoundPure -/
import Derived.Test.YtljjpdjknnhceaaDoorJRHld4
import Derived.Test.YtljjpdjknnhceaaDoorJRHld6
import Derived.Test.YtljjpdjknnhceaaDoorJRHld5
import Derived.Test.YtljjpdjknnhceaaDoorWWords
import Derived.Test.YtljjpdjknnhceaaDoorWLast
import Derived.Orders
import Derived.Below
import Derived.Test.YtljjpdjknnhceaaDoorJRHld0
set_option linter.unusedVariables false
set_option linter.unusedSimpArgs false
/- The document's test of a store's name. -/
set_option linter.unusedVariables false
set_option linter.unusedSimpArgs false
namespace Go.Proofs.YtljjpdjknnhceaaDoor.NamedR
open Go.RowKit Go.Proofs.YtljjpdjknnhceaaDoorW.PrintWords Go.Proofs.YtljjpdjknnhceaaDoorW.PrintLast Go.Proofs.YtljjpdjknnhceaaDoorW.PrintMore
open Go.Proofs.YtljjpdjknnhceaaDoor.Base Go.Proofs.YtljjpdjknnhceaaDoor.Name Go.Proofs.YtljjpdjknnhceaaDoor.PRingWalks
def nr (x : Nat) : Bool := decide ((97 ≤ x ∧ x ≤ 122) ∨ (48 ≤ x ∧ x ≤ 57) ∨ x = 45)
def nrAt (s : ByteArray) (i : Nat) : Bool := nr (s.data.toList.getD i 0).toNat
theorem bt_at (s : ByteArray) (i : Nat) (h : i < s.size) : bt s (i : Int) = ((s.data.toList.getD i 0).toNat : Int) := by
  rw [bt_nat s i h, List.getD_eq_getElem?_getD, getElem_list s i h]; rfl
def allR (s : ByteArray) (i : Nat) : Bool := (List.range s.size).all fun j => decide (j < i) || nrAt s j
theorem allR_iff (s : ByteArray) (i : Nat) : allR s i = true ↔ ∀ j, i ≤ j → j < s.size → nrAt s j = true := by
  unfold allR
  rw [List.all_eq_true]
  simp only [List.mem_range, Bool.or_eq_true, decide_eq_true_eq]
  exact ⟨fun h j h1 h2 => (h j h2).elim (fun e => by omega) id, fun h j h2 => if e : j < i then .inl e else .inr (h j (by omega) h2)⟩
theorem allR_no {s : ByteArray} {i : Nat} (h : ¬ ∀ j, i ≤ j → j < s.size → nrAt s j = true) : allR s i = false := by
  rw [Bool.eq_false_iff]; exact fun e => h ((allR_iff s i).1 e)
theorem named_l0 (s : ByteArray) (hs : s.size ≤ 9223372036854775806) : ∀ (d i k : Nat), s.size - i = d → i ≤ s.size → d < k → granaryref6_named.l0 k s (i : Int) = some (allR s i)
  | 0, i, k, hd, hi, hk => by
    obtain ⟨k, rfl⟩ : ∃ m, k = m + 1 := ⟨k - 1, by omega⟩
    simp only [granaryref6_named.l0]
    rw [if_neg (by omega), (allR_iff s i).2 (fun j h1 h2 => by omega)]
  | d + 1, i, k, hd, hi, hk => by
    obtain ⟨k, rfl⟩ : ∃ m, k = m + 1 := ⟨k - 1, by omega⟩
    have ih := named_l0 s hs d (i + 1) k (by omega) (by omega) (by omega)
    have e : wrap64 ((i : Int) + 1) = ((i + 1 : Nat) : Int) := by unfold wrap64; omega
    obtain ⟨x, hx⟩ : ∃ x : Nat, x = (s.data.toList.getD i 0).toNat := ⟨_, rfl⟩
    simp only [granaryref6_named.l0]
    rw [if_pos (by omega), if_pos (by omega), bt_at s i (by omega), e, ih, ← hx]
    by_cases hn : nrAt s i = true
    · have : allR s i = allR s (i + 1) := by
        rw [Bool.eq_iff_iff, allR_iff, allR_iff]
        refine ⟨fun h j h1 h2 => h j (by omega) h2, fun h j h1 h2 => ?_⟩
        by_cases e : j = i
        · rw [e]; exact hn
        · exact h j (by omega) h2
      rw [this]
      unfold nrAt at hn
      rw [← hx] at hn
      unfold nr at hn
      have hn := of_decide_eq_true hn
      repeat (first | rfl | (exfalso; omega) | split)
    · have : allR s i = false := allR_no (fun h => hn (h i (Nat.le_refl _) (by omega)))
      rw [this]
      have hn' : nrAt s i = false := by simpa using hn
      unfold nrAt at hn'
      rw [← hx] at hn'
      unfold nr at hn'
      have hn' := of_decide_eq_false hn'
      repeat (first | rfl | (exfalso; omega) | split)
theorem named_f (s : ByteArray) (hs : s.size ≤ 9223372036854775806) : ∃ k, granaryref6_named.f k s = some (nmB s) := by
  refine ⟨s.size + 2, ?_⟩
  have hl := named_l0 s hs s.size 0 (s.size + 1) (by omega) (by omega) (by omega)
  have hj : ∀ b, granaryref6_named.j0 (s.size + 2) s b = if b = true then some false else granaryref6_named.l0 (s.size + 1) s 0 := fun b => rfl
  unfold granaryref6_named.f
  simp only [hj]
  have hz : s.toList = [] ↔ s.size = 0 := by
    constructor
    · intro h
      have := congrArg List.length h
      rw [ByteArray.toList_eq, data_length] at this
      simpa using this
    · intro h
      rw [ByteArray.toList_eq]
      exact List.eq_nil_of_length_eq_zero (by rw [data_length]; exact h)
  by_cases h0 : s.size = 0
  · rw [if_pos (hz.2 h0), nmB_size (by omega)]; rfl
  rw [if_neg (fun h => h0 (hz.1 h))]
  by_cases h40 : (s.size : Int) > 40
  · rw [if_pos h40, nmB_size (by omega)]; rfl
  have e0 : bt s (0 : Int) = ((s.data.toList.getD 0 0).toNat : Int) := bt_at s 0 (by omega)
  have hl0 : granaryref6_named.l0 (s.size + 1) s 0 = some (allR s 0) := hl
  rw [if_neg h40, if_pos (by omega), e0, hl0]
  obtain ⟨x, hx⟩ : ∃ x : Nat, x = (s.data.toList.getD 0 0).toNat := ⟨_, rfl⟩
  rw [← hx]
  have h0' : nbAt s 0 = nb x 0 := by unfold nbAt; rw [hx]
  by_cases hlet : 97 ≤ x ∧ x ≤ 122
  · rw [if_neg (by omega), if_neg (by simp; omega)]
    congr 1
    by_cases ha : ∀ j, 0 ≤ j → j < s.size → nrAt s j = true
    · rw [(allR_iff s 0).2 ha, nmB_true ⟨by omega, by omega⟩ (fun i hi => ?_)]
      by_cases e : i = 0
      · rw [e, h0']; unfold nb; exact decide_eq_true (.inl hlet)
      · have := ha i (Nat.zero_le _) hi
        unfold nrAt nr at this
        have := of_decide_eq_true this
        unfold nbAt nb
        exact decide_eq_true (by omega)
    · rw [allR_no ha]
      have : ∃ j, j < s.size ∧ nrAt s j = false := by
        refine Classical.byContradiction fun hn => ha fun j _ hj => ?_
        cases hb : nrAt s j with
        | true => rfl
        | false => exact absurd ⟨j, hj, hb⟩ hn
      obtain ⟨j, hj, hb⟩ := this
      refine (nmB_false hj ?_).symm
      unfold nrAt nr at hb
      have := of_decide_eq_false hb
      unfold nbAt nb
      exact decide_eq_false (by omega)
  · have hf : nmB s = false := nmB_false (show 0 < s.size by omega) (by rw [h0']; unfold nb; exact decide_eq_false (by omega))
    rw [hf]
    by_cases hx1 : (x : Int) < 97
    · rw [if_pos hx1]; rfl
    · rw [if_neg hx1, if_pos (by simp; omega)]
theorem named_any (s : ByteArray) (w : World) (hs : s.size ≤ 2147483647) : Calls Tryd.prog 46 #[.string s] w fun e w' => e = .returned (.bool (nmB s)) ∧ Drawn0 w w' := by
  obtain ⟨k, hk⟩ := named_f s (by omega)
  exact granaryref6_named.calls k s _ w hk
end Go.Proofs.YtljjpdjknnhceaaDoor.NamedR

/- The document's dealt and Check. -/
set_option linter.unusedVariables false
set_option linter.unusedSimpArgs false
namespace Go.Proofs.YtljjpdjknnhceaaDoor.Dealt
open Go.RowKit Go.Proofs.YtljjpdjknnhceaaDoorW.PrintWords Go.Proofs.YtljjpdjknnhceaaDoorW.PrintLast Go.Proofs.YtljjpdjknnhceaaDoorW.PrintMore
open Go.Proofs.YtljjpdjknnhceaaDoor.Base Go.Proofs.YtljjpdjknnhceaaDoor.RingPure Go.Proofs.YtljjpdjknnhceaaDoor.ChkPure Go.Proofs.YtljjpdjknnhceaaDoor.Clus Go.Proofs.YtljjpdjknnhceaaDoor.Mids Go.Proofs.YtljjpdjknnhceaaDoor.Chkd Go.Proofs.YtljjpdjknnhceaaDoor.Ref6 Go.Proofs.YtljjpdjknnhceaaDoor.Name
open Go.Proofs.YtljjpdjknnhceaaDoor.Count (parts_any times_any homeR_any)
theorem ris_iff : ∀ (l : List Int), ris l = true ↔ ∀ j, j + 1 < l.length → l.getD j 0 < l.getD (j + 1) 0
  | [] => by simp [ris]
  | [a] => by simp [ris]
  | a :: b :: l => by
    simp only [ris, Bool.and_eq_true, decide_eq_true_eq, ris_iff (b :: l)]
    constructor
    · rintro ⟨h1, h2⟩ j hj
      cases j with
      | zero => simpa using h1
      | succ j => simpa using h2 j (by simpa using hj)
    · intro h
      refine ⟨by simpa using h 0 (by simp), fun j hj => ?_⟩
      have := h (j + 1) (by simpa using hj)
      simpa using this
def DealtPost (ns : List Nd) (w : World) (e : Ending) (w' : World) : Prop := ∃ d : Bool, e = .returned (.bool d) ∧ (d = true ↔ dealt ns) ∧ Below w.heap.size w w'
theorem post_no {ns : List Nd} {w w' : World} (h : ¬ dealt ns) (hb : Below w.heap.size w w') : DealtPost ns w (.returned (.bool false)) w' := ⟨false, rfl, ⟨fun e => absurd e (by decide), fun e => absurd e h⟩, hb⟩
theorem post_yes {ns : List Nd} {w w' : World} (h : dealt ns) (hb : Below w.heap.size w w') : DealtPost ns w (.returned (.bool true)) w' := ⟨true, rfl, ⟨fun _ => h, fun _ => rfl⟩, hb⟩
set_option maxRecDepth 100000 in
set_option maxHeartbeats 8000000 in
theorem dealt_any (c : Cl) (A : Option Addr) (cap : Nat) (ns : List Nd) (w : World) (hN : NodesAt w A ns) (hcap : ns.length ≤ cap) (hl : ns.length ≤ 1099511627776) (hc : cnt ns ≤ 1099511627776) :
    Calls Tryd.prog 48 #[.agg (cL c (.slice A ns.length cap)).toArray] w (DealtPost ns w) := by
  have hb0 := (Below.refl w.heap.size w).alloc (Nat.le_refl _) (.cells (cL c (.slice A ns.length cap)).toArray 24)
  have HN := Aside0.mk (hN.below hb0)
  have HB := Aside0.mk hb0
  have HC : Aside0 (CBox (w.alloc (.cells (cL c (.slice A ns.length cap)).toArray 24)) w.heap.size c (.slice A ns.length cap)) := ⟨⟨Go.heap_alloc_new w _⟩⟩
  clear hN hb0
  go_enter Tryd.func48, Tryd.ntmps48
  go_upto_region 1 with fail
  generalize w.alloc (.cells (cL c (.slice A ns.length cap)).toArray 24) = w1 at HN HB HC ⊢
  generalize hgc : w.heap.size = gc at HC ⊢
  have hrg := blk_range HC.out.row
  go_wp2_with ((with_reducible refine gate_load (ty := 24) (x := .tmp 1) rfl ?_); refine wpList_load_mid rfl 24 (.tmp 1) rfl gc 0 rfl (cL c (.slice A ns.length cap)) _ hrg Tryd.underlying24 rfl infoC23 ?_)
  clear hrg
  refine (parts_any c A cap ns w1 HN.out hcap hl hc).mono ?_
  rintro e w2 ⟨rfl, hb⟩
  have HR2 := Aside0.mk hb
  clear hb hgc
  by_cases hcn : 1 ≤ cnt ns ∧ cnt ns ≤ 64
  · have HCN := Aside0.mk hcn
    obtain ⟨hc1, hc2⟩ := hcn
    obtain ⟨N, hNn⟩ : ∃ N, N = cnt ns := ⟨_, rfl⟩
    rw [← hNn] at hc1 hc2 ⊢
    have HNN := Aside0.mk hNn
    clear hNn
    go_wp2_with fail
    go_loopw [4] (fun v4 wr => ∃ i : Nat, i ≤ N ∧ v4 = .int .i64 (i : Nat) ∧ Aside0 (Below w1.heap.size w1 wr) ∧ Aside0 (∀ j : Nat, j < i → times ns (j : Int) = 1)) (fun v4 _ => N - (intOf v4).toNat)
    case atStart => exact ⟨0, Nat.zero_le _, rfl, HR2, ⟨fun j hj => absurd hj (Nat.not_lt_zero j)⟩⟩
    case round =>
      clear HR2
      obtain ⟨i, hi, rfl, HR, HT⟩ := hrel
      obtain ⟨wo, rfl⟩ : ∃ wo : World, wo = wr := ⟨_, rfl⟩
      have HC1 := Aside0.mk (HC.out.below HR.out HC.out.lt)
      by_cases hlt : i < N
      · have hrg := blk_range HC1.out.row
        go_wp2_with ((with_reducible refine gate_load (ty := 24) (x := .tmp 1) rfl ?_); refine wpList_load_mid rfl 24 (.tmp 1) rfl gc 0 rfl (cL c (.slice A ns.length cap)) _ hrg Tryd.underlying24 rfl infoC23 ?_)
        clear hrg
        refine (times_any c A cap ns (i : Nat) wo (HN.out.below HR.out) hcap hl hc).mono ?_
        rintro e w3 ⟨rfl, hb⟩
        have HR3 := Aside0.mk (HR.out.trans (hb.mono HR.out.size))
        clear hb HR HC1
        by_cases ht : times ns (i : Int) = 1
        · rw [ht]
          have HT1 := Aside0.mk ht
          clear ht
          go_wp2_with fail
          go_roundw
          case rel =>
            refine ⟨i + 1, by omega, by go_num, HR3, ⟨fun j hj => ?_⟩⟩
            by_cases e : j = i
            · rw [e]; exact HT1.out
            · exact HT.out j (by omega)
          case measure => simp [intOf]; omega
        · have HNO : Aside0 (¬ dealt ns) := ⟨fun h => ht (h.2.2.1 i (by rw [← HNN.out]; exact hlt))⟩
          have hne : ((times ns (i : Int) : Nat) : Int) ≠ 1 := by omega
          have hne2 : (((times ns (i : Int) : Nat) : Int) != 1) = true := by simp; omega
          have hne3 : (((times ns (i : Int) : Nat) : Int) == 1) = false := by simp; omega
          generalize times ns (i : Int) = T at hne hne2 hne3 ⊢
          clear ht
          go_wp2_with fail
          go_ret
          exact post_no HNO.out (HB.out.trans (HR3.out.mono HB.out.size))
      · obtain rfl : i = N := by omega
        clear hlt hi
        go_wp2_with fail
        go_loopw [5, 6, 7] (fun v5 _ _ wr => ∃ k : Nat, k ≤ ns.length ∧ v5 = .int .i64 (k : Nat) ∧ Aside0 (Below w1.heap.size w1 wr) ∧ Aside0 (∀ j n, j < k → ns[j]? = some n → ris n.2 = true)) (fun v5 _ _ _ => ns.length - (intOf v5).toNat)
        case atStart => exact ⟨0, Nat.zero_le _, rfl, HR, ⟨fun j n hj => absurd hj (Nat.not_lt_zero j)⟩⟩
        case round =>
          clear HR HC1
          obtain ⟨k, hk, rfl, HR, HZ⟩ := hrel
          obtain ⟨wo, rfl⟩ : ∃ wo : World, wo = wr := ⟨_, rfl⟩
          have h22 : wo.cell? ⟨gc, 22, none⟩ = some (.slice A ns.length cap) := (HC.out.below HR.out HC.out.lt).c 22
          by_cases hlt : k < ns.length
          · obtain ⟨n, hn⟩ : ∃ n, ns[k]? = some n := ⟨_, List.getElem?_eq_getElem hlt⟩
            obtain ⟨b, o, rfl, hz, B, cp, hp, hcp, hnm⟩ := (HN.out.below HR.out).get hn
            have hnl := Count.cnt_le_of ns k n hn
            have HNM := Aside0.mk hnm
            have HNI := Aside0.mk hn
            clear hn hnm
            go_wp2_with fail
            clear h22 hz hp
            go_loopw [7] (fun v7 wr => ∃ j : Nat, 1 ≤ j ∧ v7 = .int .i64 (j : Nat) ∧ Aside0 (∃ q, wr = wo.drewN q) ∧ Aside0 (∀ i, i + 1 < j → i + 1 < n.2.length → n.2.getD i 0 < n.2.getD (i + 1) 0) ∧ Aside0 (j ≤ n.2.length + 1)) (fun v7 _ => n.2.length - (intOf v7).toNat)
            case atStart => exact ⟨1, Nat.le_refl _, rfl, ⟨⟨0, rfl⟩⟩, ⟨fun i hi => absurd hi (by omega)⟩, ⟨by omega⟩⟩
            case round =>
              obtain ⟨j, hj, rfl, HD, HS, HJ⟩ := hrel
              obtain ⟨⟨nd, rfl⟩⟩ := HD
              by_cases hjl : j < n.2.length
              · obtain ⟨x, hx⟩ : ∃ x, n.2[j]? = some x := ⟨_, List.getElem?_eq_getElem hjl⟩
                obtain ⟨y, hy⟩ : ∃ y, n.2[j - 1]? = some y := ⟨_, List.getElem?_eq_getElem (by omega)⟩
                obtain ⟨b2, o2, rfl, hxc⟩ := HNM.out.get hx
                obtain ⟨b3, o3, he3, hyc⟩ := HNM.out.get hy
                have e2 : b3 = b2 ∧ o3 = o2 := by
                  injection he3 with he3
                  injection he3 with h1 h2
                  exact ⟨h1.symm, h2.symm⟩
                obtain ⟨rfl, rfl⟩ := e2
                clear he3
                have HX : Aside0 (n.2.getD j 0 = x ∧ n.2.getD (j - 1) 0 = y) := ⟨by rw [List.getD_eq_getElem?_getD, hx, List.getD_eq_getElem?_getD, hy]; exact ⟨rfl, rfl⟩⟩
                obtain ⟨q, rfl⟩ : ∃ q, j = q + 1 := ⟨j - 1, by omega⟩
                rw [Nat.add_sub_cancel] at hyc HX
                have hq1 : IntKind.i64.wrap (((q + 1 : Nat) : Int) - 1) = (q : Int) := by rw [IntWalk.i64_in _ (by omega)]; omega
                have hq2 : (0 : Int) ≤ (q : Int) := by omega
                have hq3 : ((q : Int)).toNat = q := by omega
                have hq4 : (0 : Int) ≤ ((q + 1 : Nat) : Int) := by omega
                clear hx hy
                by_cases hxy : x ≤ y
                · have HNO : Aside0 (¬ dealt ns) := ⟨fun h => by
                    have h1 := (ris_iff n.2).1 (h.2.2.2 n (List.mem_of_getElem? HNI.out)) q hjl
                    rw [HX.out.1, HX.out.2] at h1
                    omega⟩
                  go_wp2_with fail
                  go_quiet (fail)
                  clear hq1 hq2 hq3 hq4
                  go_wp2_with fail
                  go_ret
                  exact post_no HNO.out (HB.out.trans ((HR.out.trans ((pw_below_drewN (pw_below_drewN (Below.refl _ _) _) _).mono HR.out.size)).mono HB.out.size))
                · have HS2 : Aside0 (∀ i, i + 1 < q + 2 → i + 1 < n.2.length → n.2.getD i 0 < n.2.getD (i + 1) 0) := ⟨fun i h1 h2 => by
                    by_cases e : i = q
                    · rw [e, HX.out.1, HX.out.2]; omega
                    · exact HS.out i (by omega) h2⟩
                  go_wp2_with fail
                  go_quiet (fail)
                  clear hq1 hq2 hq3 hq4
                  go_wp2_with fail
                  go_roundw
                  case rel => exact ⟨q + 2, by omega, by go_num, ⟨⟨_, rfl⟩⟩, HS2, ⟨by omega⟩⟩
                  case measure => simp [intOf]; omega
              · have HRI : Aside0 (ris n.2 = true) := ⟨(ris_iff n.2).2 (fun i h1 => HS.out i (by omega) h1)⟩
                have HR5 : Aside0 (Below w1.heap.size w1 (wo.drewN nd)) := ⟨pw_below_drewN HR.out _⟩
                go_wp2_with fail
                go_roundw
                case rel =>
                  refine ⟨k + 1, by omega, by go_num, HR5, ⟨fun i m hi hm => ?_⟩⟩
                  by_cases e : i = k
                  · rw [e, HNI.out] at hm
                    injection hm with hm
                    rw [← hm]; exact HRI.out
                  · exact HZ.out i m (by omega) hm
                case measure => simp [intOf]; omega
          · obtain rfl : k = ns.length := by omega
            have HY : Aside0 (dealt ns) := ⟨⟨HCN.out.1, HCN.out.2, fun j hj => HT.out j (by rw [HNN.out]; exact hj), fun m hm => by
              obtain ⟨j, hj, e⟩ := List.getElem_of_mem hm
              exact HZ.out j m hj (by rw [List.getElem?_eq_getElem hj, e])⟩⟩
            go_wp2_with fail
            go_ret
            exact post_yes HY.out (HB.out.trans (HR.out.mono HB.out.size))
  · have HNO : Aside0 (¬ dealt ns) := ⟨fun h => hcn ⟨h.1, h.2.1⟩⟩
    by_cases h1 : cnt ns < 1
    · clear hcn
      go_wp2_with fail
      go_ret
      exact post_no HNO.out (HB.out.trans (HR2.out.mono HB.out.size))
    · have h2 : 64 < cnt ns := by omega
      clear hcn
      go_wp2_with fail
      go_ret
      exact post_no HNO.out (HB.out.trans (HR2.out.mono HB.out.size))
end Go.Proofs.YtljjpdjknnhceaaDoor.Dealt

/- A region that draws its order, walked without its order: each operation gives a value that stands in a relation to the world. -/
set_option linter.unusedVariables false
set_option linter.unusedSimpArgs false
namespace Go.Proofs.YtljjpdjknnhceaaDoor.Reg
open Go.RowKit Go.Proofs.YtljjpdjknnhceaaDoorW.PrintWords Go.Proofs.YtljjpdjknnhceaaDoorW.PrintLast
def srcFrom : List Oper → Nat → Tmp → Option Nat
  | [], _, _ => none
  | o :: l, k, t => if o.dst = some t then some k else srcFrom l (k + 1) t
theorem srcFrom_spec : ∀ (l : List Oper) (k : Nat) (t : Tmp) (j : Nat), srcFrom l k t = some j → ∃ i o, j = k + i ∧ l[i]? = some o ∧ o.dst = some t
  | [], _, _, _, h => by cases h
  | o :: l, k, t, j, h => by
    unfold srcFrom at h
    split at h
    · cases h; exact ⟨0, o, rfl, rfl, by assumption⟩
    · obtain ⟨i, o', hj, hi, hd⟩ := srcFrom_spec l (k + 1) t j h
      exact ⟨i + 1, o', by omega, hi, hd⟩
def predB (o : Oper) (j : Nat) : Bool := o.after.toList.any fun e => Region.binds .any e && (e.on == j)
def okOne (L : List Oper) (N : Nat) (o : Oper) (i : Nat) : Bool :=
  o.guard.isNone && (match o.op with | .select .. => false | _ => true) && (match o.dst with | some d => decide (d < N) && (srcFrom L 0 d == some i) | none => true) &&
  o.op.operands.all (fun x => match x with
    | .tmp t => decide (t < N) && (match srcFrom L 0 t with | some j => predB o j || (match L[j]? with | some oj => predB oj i | none => false) | none => true)
    | _ => true) && o.after.all fun e => !Region.binds .any e || decide (e.on < i)
def okFrom (L : List Oper) (N : Nat) : List Oper → Nat → Bool
  | [], _ => true
  | o :: r, i => okOne L N o i && okFrom L N r (i + 1)
theorem okFrom_spec (L : List Oper) (N : Nat) : ∀ (r : List Oper) (k j : Nat) (o : Oper), okFrom L N r k = true → r[j]? = some o → okOne L N o (k + j) = true
  | [], _, _, _, _, h => by simp at h
  | o :: r, k, 0, o', h, hj => by
    simp only [okFrom, Bool.and_eq_true] at h
    simp at hj
    subst hj
    exact h.1
  | o :: r, k, j + 1, o', h, hj => by
    simp only [okFrom, Bool.and_eq_true] at h
    have := okFrom_spec L N r (k + 1) j o' h.2 (by simpa using hj)
    rw [show k + (j + 1) = k + 1 + j by omega]
    exact this
/-- an operation's operands, out of what those ahead of it gave -/
def envOf (L : List Oper) (a0 : Act) (vs : Nat → Value) (o : Oper) : Operand → Value
  | .tmp t => match srcFrom L 0 t with
    | some j => if predB o j = true then vs j else a0.tmps.getD t undef
    | none => a0.tmps.getD t undef
  | x => a0.eval x
def slotV (L : List Oper) (a0 : Act) (listed : Array Bool) (vs : Nat → Value) (t : Tmp) : Value :=
  match srcFrom L 0 t with
  | some j => if listed.getD j false = true then vs j else a0.tmps.getD t undef
  | none => a0.tmps.getD t undef
def Framed (L : List Oper) (a0 : Act) (listed : Array Bool) (vs : Nat → Value) (a : Act) : Prop :=
  a.defers = a0.defers ∧ a.tmps.size = a0.tmps.size ∧ ∀ t, t < a0.tmps.size → a.tmps[t]? = some (slotV L a0 listed vs t)
def Closed (L : List Oper) (listed : Array Bool) : Prop := ∀ i o j, L[i]? = some o → listed.getD i false = true → predB o j = true → listed.getD j false = true
def upd (vs : Nat → Value) (i : Nat) (v : Value) : Nat → Value := fun j => if j = i then v else vs j
theorem getD_set (listed : Array Bool) (i j : Nat) (hi : i < listed.size) : (listed.setIfInBounds i true).getD j false = if j = i then true else listed.getD j false := by
  simp only [Array.getD_eq_getD_getElem?, Array.getElem?_setIfInBounds]
  by_cases h : j = i
  · subst h; simp [hi]
  · rw [if_neg (fun e => h e.symm), if_neg h]
theorem framed_put {L : List Oper} {a0 a : Act} {listed : Array Bool} {vs : Nat → Value} {i : Nat} {o : Oper} (v : Value) (hok : okOne L a0.tmps.size o i = true) (hi : L[i]? = some o) (hil : i < listed.size) (hun : listed.getD i false = false)
    (h : Framed L a0 listed vs a) : Framed L a0 (listed.setIfInBounds i true) (upd vs i v) (a.put o.dst v) := by
  obtain ⟨hd, hs, hv⟩ := h
  unfold okOne at hok
  simp only [Bool.and_eq_true] at hok
  obtain ⟨⟨⟨⟨_, _⟩, hdst⟩, _⟩, _⟩ := hok
  refine ⟨?_, ?_, ?_⟩
  · cases o.dst <;> exact hd
  · cases o.dst with
    | none => exact hs
    | some d => simp only [Act.put, Array.size_setIfInBounds]; exact hs
  · intro t ht
    have hsl : ∀ (hne : srcFrom L 0 t ≠ some i), slotV L a0 (listed.setIfInBounds i true) (upd vs i v) t = slotV L a0 listed vs t := by
      intro hne
      unfold slotV
      cases hsrc : srcFrom L 0 t with
      | none => rfl
      | some j =>
        have hji : j ≠ i := fun e => hne (by rw [hsrc, e])
        simp only
        rw [getD_set _ _ _ hil, if_neg hji]
        unfold upd
        rw [if_neg hji]
    cases hod : o.dst with
    | none =>
      have hne : srcFrom L 0 t ≠ some i := by
        intro he
        obtain ⟨k, o', hk, hk2, hk3⟩ := srcFrom_spec _ _ _ _ he
        rw [Nat.zero_add] at hk
        subst hk
        rw [hi] at hk2
        cases hk2
        rw [hod] at hk3
        cases hk3
      rw [hsl hne]
      exact hv t ht
    | some d =>
      rw [hod] at hdst
      simp only [Bool.and_eq_true, decide_eq_true_eq, beq_iff_eq] at hdst
      simp only [Act.put, Array.getElem?_setIfInBounds]
      by_cases hdt : d = t
      · subst hdt
        rw [if_pos rfl, if_pos (by rw [hs]; exact ht)]
        unfold slotV
        rw [hdst.2]
        simp only
        rw [getD_set _ _ _ hil, if_pos rfl, if_pos rfl]
        unfold upd
        rw [if_pos rfl]
      · rw [if_neg hdt]
        have hne : srcFrom L 0 t ≠ some i := by
          intro he
          obtain ⟨k, o', hk, hk2, hk3⟩ := srcFrom_spec _ _ _ _ he
          rw [Nat.zero_add] at hk
          subst hk
          rw [hi] at hk2
          cases hk2
          rw [hod] at hk3
          cases hk3
          exact hdt rfl
        rw [hsl hne]
        exact hv t ht
/-- what the region leaves, in the text's order -/
def fillFrom : List Oper → Nat → Act → (Nat → Value) → Act
  | [], _, a, _ => a
  | o :: l, k, a, vs => fillFrom l (k + 1) (a.put o.dst (vs k)) vs
theorem upd_self (vs : Nat → Value) (i : Nat) : upd vs i (vs i) = vs := by
  funext j; unfold upd; split
  · subst_vars; rfl
  · rfl
def firstK (n k : Nat) : Array Bool := ((List.range n).map fun j => decide (j < k)).toArray
theorem firstK_size (n k : Nat) : (firstK n k).size = n := by simp [firstK]
theorem firstK_getD (n k j : Nat) : (firstK n k).getD j false = (decide (j < n) && decide (j < k)) := by
  unfold firstK
  simp only [Array.getD_eq_getD_getElem?, List.getElem?_toArray, List.getElem?_map]
  by_cases h : j < n
  · rw [List.getElem?_range h]; simp [h]
  · rw [List.getElem?_eq_none (by simpa using h)]; simp [h]
theorem framed_congr {L : List Oper} {a0 a : Act} {l1 l2 : Array Bool} {vs : Nat → Value} (h : Framed L a0 l1 vs a) (e : ∀ j, j < L.length → l1.getD j false = l2.getD j false) : Framed L a0 l2 vs a := by
  refine ⟨h.1, h.2.1, fun t ht => ?_⟩
  rw [h.2.2 t ht]
  unfold slotV
  cases hs : srcFrom L 0 t with
  | none => rfl
  | some j =>
    obtain ⟨k, o', hk, hk2, hk3⟩ := srcFrom_spec _ _ _ _ hs
    have : j < L.length := by rw [hk, Nat.zero_add]; exact (List.getElem?_eq_some_iff.1 hk2).1
    simp only
    rw [e j this]
theorem framed_fill {L : List Oper} {a0 : Act} (hok : okFrom L a0.tmps.size L 0 = true) (vs : Nat → Value) : ∀ (r pre : List Oper) (a : Act), L = pre ++ r → Framed L a0 (firstK L.length pre.length) vs a → Framed L a0 (firstK L.length L.length) vs (fillFrom r pre.length a vs)
  | [], pre, a, hL, h => by
    have : L.length = pre.length := by rw [hL]; simp
    rw [← this] at h
    exact h
  | o :: r, pre, a, hL, h => by
    have hi : L[pre.length]? = some o := by rw [hL]; simp
    have ho := okFrom_spec L _ L 0 pre.length o hok hi
    rw [Nat.zero_add] at ho
    have hlt : pre.length < L.length := (List.getElem?_eq_some_iff.1 hi).1
    have h2 := framed_put (vs pre.length) ho hi (by rw [firstK_size]; exact hlt) (by rw [firstK_getD]; simp) h
    rw [upd_self] at h2
    have h3 := framed_congr (l2 := firstK L.length (pre ++ [o]).length) h2 (fun j hj => by
      rw [getD_set _ _ _ (by rw [firstK_size]; exact hlt), firstK_getD, firstK_getD]
      by_cases e : j = pre.length
      · subst e; simp [hlt]
      · rw [if_neg e]
        congr 1
        rw [Bool.eq_iff_iff]
        simp only [decide_eq_true_iff, List.length_append, List.length_singleton]
        omega)
    have h4 := framed_fill hok vs r (pre ++ [o]) _ (by rw [hL]; simp) h3
    have e : (pre ++ [o]).length = pre.length + 1 := by simp
    rw [e] at h4
    exact h4
theorem framed_unique {L : List Oper} {a0 a b : Act} {listed : Array Bool} {vs : Nat → Value} (ha : Framed L a0 listed vs a) (hb : Framed L a0 listed vs b) : a = b := by
  obtain ⟨a1, a2, a3⟩ := ha
  obtain ⟨b1, b2, b3⟩ := hb
  cases a with | mk at_ ad =>
  cases b with | mk bt_ bd =>
  simp only at a1 a2 a3 b1 b2 b3
  have e : at_ = bt_ := by
    apply Array.ext_getElem?
    intro t
    by_cases ht : t < a0.tmps.size
    · rw [a3 t ht, b3 t ht]
    · rw [Array.getElem?_eq_none (by omega), Array.getElem?_eq_none (by omega)]
  subst e
  rw [a1, b1]
def cnt (f : Nat → Bool) : Nat → Nat
  | 0 => 0
  | n + 1 => cnt f n + (if f n = true then 1 else 0)
theorem cnt_congr {f g : Nat → Bool} : ∀ n, (∀ j, j < n → f j = g j) → cnt f n = cnt g n
  | 0, _ => rfl
  | n + 1, h => by
    simp only [cnt]
    rw [cnt_congr n (fun j hj => h j (by omega)), h n (by omega)]
theorem cnt_upd {f g : Nat → Bool} {i : Nat} (hf : f i = true) (hg : g i = false) (h : ∀ j, j ≠ i → f j = g j) : ∀ n, i < n → cnt g n + 1 = cnt f n
  | 0, hi => by omega
  | n + 1, hi => by
    simp only [cnt]
    by_cases e : i = n
    · subst e
      rw [cnt_congr i (fun j hj => h j (by omega)), hf, hg]
      simp
    · have := cnt_upd hf hg h n (by omega)
      rw [h n (fun e2 => e e2.symm)]
      omega
theorem cnt_zero {f : Nat → Bool} : ∀ n, cnt f n = 0 → ∀ j, j < n → f j = false
  | 0, _, j, hj => by omega
  | n + 1, h, j, hj => by
    simp only [cnt] at h
    by_cases e : j = n
    · subst e
      cases hf : f j
      · rfl
      · rw [hf] at h; simp at h
    · exact cnt_zero n (by omega) j (by omega)
/-- what an operation does: it yields a value, or calls -/
def OpRel (P : Program) (S : World → World → Prop) (ρ : Operand → Value) (o : Oper) (w : World) (K : Value → World → Prop) : Prop :=
  (∃ v w', (execOp ρ o).run P w = .ok (.value v) w' ∧ S w w' ∧ K v w') ∨
  (∃ w', (execOp ρ o).run P w = .ok .skip w' ∧ S w w' ∧ K undef w') ∨
  (∃ f args, (execOp ρ o).run P w = .ok (.enter f args) w ∧ Calls P f args w fun e w' => ∃ v, e = .returned v ∧ S w w' ∧ K v w')
section
variable {P : Program} {Q : Exit → Act → World → Prop}
theorem wpAny_rel (L : List Oper) (a0 : Act) (hok : okFrom L a0.tmps.size L 0 = true) (Inv : World → Prop) (S : Nat → World → World → Prop) (R : Nat → (Nat → Value) → World → Prop)
    (hst : ∀ i j vs w w', i ≠ j → Inv w → R j vs w → S i w w' → R j vs w')
    (hcg : ∀ j o vs vs' w, L[j]? = some o → vs' j = vs j → (∀ k, predB o k = true → vs' k = vs k) → R j vs w → R j vs' w)
    (step : ∀ i o, L[i]? = some o → ∀ (vs : Nat → Value) (w : World), Inv w → (∀ j, predB o j = true → R j vs w) → OpRel P (S i) (envOf L a0 vs o) o w (fun v w' => Inv w' ∧ R i (upd vs i v) w'))
    (done : ∀ vs w, Inv w → (∀ j, j < L.length → R j vs w) → Q .normal (fillFrom L 0 a0 vs) w) :
    ∀ (fuel : Nat) (listed : Array Bool) (vs : Nat → Value) (a : Act) (w : World), listed.size = L.length → Closed L listed → Framed L a0 listed vs a → Inv w → (∀ j, listed.getD j false = true → R j vs w) →
      cnt (fun j => !listed.getD j false) L.length ≤ fuel → wpAny P .any L.toArray Q fuel listed a w := by
  have hall : ∀ (listed : Array Bool) (vs : Nat → Value) (a : Act) (w : World), listed.size = L.length → Framed L a0 listed vs a → Inv w → (∀ j, listed.getD j false = true → R j vs w) → (∀ j, j < L.length → listed.getD j false = true) → Q .normal a w := by
    intro listed vs a w hsz hF hI hR hl
    have h1 := framed_congr (l2 := firstK L.length L.length) hF (fun j hj => by rw [hl j hj, firstK_getD]; simp [hj])
    have h0 : Framed L a0 (firstK L.length ([] : List Oper).length) vs a0 := by
      refine ⟨rfl, rfl, fun t ht => ?_⟩
      have e : slotV L a0 (firstK L.length ([] : List Oper).length) vs t = a0.tmps.getD t undef := by
        unfold slotV
        cases srcFrom L 0 t with
        | none => rfl
        | some j => simp only; rw [firstK_getD]; simp
      rw [e]
      simp [Array.getD_eq_getD_getElem?, Array.getElem?_eq_getElem ht]
    have h2 := framed_fill hok vs L [] a0 rfl h0
    rw [framed_unique h1 h2]
    exact done vs w hI (fun j hj => hR j (hl j hj))
  have hready : ∀ (listed : Array Bool) (i : Nat), listed.size = L.length → i ∈ Region.ready .any L.toArray listed → ∃ o, L[i]? = some o ∧ i < L.length ∧ listed.getD i false = false ∧ ∀ j, predB o j = true → listed.getD j false = true := by
    intro listed i hsz hi
    unfold Region.ready at hi
    rw [List.mem_filter] at hi
    obtain ⟨hi1, hi2⟩ := hi
    have hlt : i < L.length := by simpa using hi1
    obtain ⟨o, ho⟩ : ∃ o, L[i]? = some o := ⟨_, List.getElem?_eq_getElem hlt⟩
    simp only [List.getElem?_toArray, ho, Option.map_some, Option.getD_some, Bool.and_eq_true, Bool.not_eq_true'] at hi2
    refine ⟨o, ho, hlt, ?_, fun j hj => ?_⟩
    · have := hi2.1
      simp only [Array.getD_eq_getD_getElem?] at this ⊢
      rw [Array.getElem?_eq_getElem (by omega)] at this ⊢
      simpa using this
    · unfold predB at hj
      obtain ⟨e, he, hj⟩ := List.any_eq_true.1 hj
      simp only [Bool.and_eq_true, beq_iff_eq] at hj
      have h3 := Array.all_eq_true'.1 hi2.2 e (by simpa using he)
      rw [hj.1] at h3
      simp only [Bool.not_true, Bool.false_or] at h3
      rw [← hj.2]
      exact h3
  have hnone : ∀ (listed : Array Bool), listed.size = L.length → Region.ready .any L.toArray listed = [] → ∀ j, j < L.length → listed.getD j false = true := by
    intro listed hsz hr
    have hs : ∀ n j, j < n → j < L.length → listed.getD j false = true := by
      intro n
      induction n with
      | zero => intro j hj; omega
      | succ n ih =>
        intro j hj hjl
        by_cases e : j < n
        · exact ih j e hjl
        · obtain rfl : j = n := by omega
          cases hb : listed.getD j false
          · exfalso
            obtain ⟨o, ho⟩ : ∃ o, L[j]? = some o := ⟨_, List.getElem?_eq_getElem hjl⟩
            have ho1 := okFrom_spec L _ L 0 j o hok ho
            rw [Nat.zero_add] at ho1
            unfold okOne at ho1
            simp only [Bool.and_eq_true] at ho1
            have haf := ho1.2
            have hm : j ∈ Region.ready .any L.toArray listed := by
              unfold Region.ready
              rw [List.mem_filter]
              refine ⟨by simpa using hjl, ?_⟩
              simp only [List.getElem?_toArray, ho, Option.map_some, Option.getD_some, Bool.and_eq_true, Bool.not_eq_true']
              refine ⟨?_, ?_⟩
              · simp only [Array.getD_eq_getD_getElem?] at hb ⊢
                rw [Array.getElem?_eq_getElem (by omega)] at hb ⊢
                simpa using hb
              · rw [Array.all_eq_true]
                intro k hk
                have h3 := Array.all_eq_true.1 haf k hk
                simp only [Bool.or_eq_true, decide_eq_true_eq] at h3 ⊢
                rcases h3 with h3 | h3
                · exact .inl h3
                · exact .inr (ih _ h3 (by omega))
            rw [hr] at hm
            cases hm
          · rfl
    intro j hj
    exact hs (j + 1) j (by omega) hj
  intro fuel
  induction fuel with
  | zero =>
    intro listed vs a w hsz hC hF hI hR hc
    have hz := cnt_zero (f := fun j => !listed.getD j false) L.length (by omega)
    have hl : ∀ j, j < L.length → listed.getD j false = true := fun j hj => by simpa using hz j hj
    refine ⟨?_, hall listed vs a w hsz hF hI hR hl⟩
    cases hr : Region.ready .any L.toArray listed with
    | nil => rfl
    | cons i r =>
      obtain ⟨o, _, hi, hun, _⟩ := hready listed i hsz (by rw [hr]; simp)
      rw [hl i hi] at hun
      cases hun
  | succ fuel ih =>
    intro listed vs a w hsz hC hF hI hR hc
    refine ⟨fun hr => hall listed vs a w hsz hF hI hR (hnone listed hsz hr), fun i hi => ?_⟩
    obtain ⟨o, ho, hil, hun, hp⟩ := hready listed i hsz hi
    have ho1 := okFrom_spec L _ L 0 i o hok ho
    rw [Nat.zero_add] at ho1
    have hok1 := ho1
    unfold okOne at ho1
    simp only [Bool.and_eq_true] at ho1
    obtain ⟨⟨⟨⟨hg, hsel⟩, hdst⟩, hops⟩, haf⟩ := ho1
    have hgn : o.guard = none := by simpa using hg
    have hns : ∀ cs b, o.op ≠ .select cs b := by
      intro cs b he
      rw [he] at hsel
      cases hsel
    have hev : ∀ x ∈ o.op.operands, a.eval x = envOf L a0 vs o x := by
      intro x hx
      have hx2 := Array.all_eq_true'.1 hops x hx
      cases x with
      | tmp t =>
        simp only [Bool.and_eq_true, decide_eq_true_eq] at hx2
        have hv := hF.2.2 t hx2.1
        have he : a.eval (.tmp t) = slotV L a0 listed vs t := by
          simp [Act.eval, Array.getD_eq_getD_getElem?, hv]
        have henv : envOf L a0 vs o (.tmp t) = (match srcFrom L 0 t with | some j => if predB o j = true then vs j else a0.tmps.getD t undef | none => a0.tmps.getD t undef) := rfl
        rw [he, henv]
        unfold slotV
        have hx3 := hx2.2
        cases hs : srcFrom L 0 t with
        | none => rfl
        | some j =>
          rw [hs] at hx3
          simp only at hx3 ⊢
          by_cases hpj : predB o j = true
          · rw [if_pos hpj, if_pos (hp j hpj)]
          · rw [if_neg hpj]
            have hpf : predB o j = false := by simpa using hpj
            rw [hpf, Bool.false_or] at hx3
            rw [if_neg]
            intro hlj
            cases hoj : L[j]? with
            | none => rw [hoj] at hx3; cases hx3
            | some oj =>
              rw [hoj] at hx3
              have := hC j oj i hoj hlj hx3
              rw [hun] at this
              cases this
      | const v => rfl
      | global g => rfl
      | func f => rfl
    have hw : Region.wanted o (yielded L.toArray a.tmps) = true := by unfold Region.wanted; rw [hgn]
    have hnext : ∀ v w', S i w w' → Inv w' → R i (upd vs i v) w' → wpAny P .any L.toArray Q fuel (listed.setIfInBounds i true) (a.put o.dst v) w' := by
      intro v w' hb hI' hRi
      refine ih (listed.setIfInBounds i true) (upd vs i v) (a.put o.dst v) w' (by simpa using hsz) ?_ (framed_put v hok1 ho (by omega) hun hF) hI' ?_ ?_
      · intro i' o' j' ho' hl' hp'
        rw [getD_set _ _ _ (by omega)] at hl' ⊢
        by_cases e : i' = i
        · subst e
          rw [ho] at ho'
          cases ho'
          split
          · rfl
          · exact hp j' hp'
        · rw [if_neg e] at hl'
          split
          · rfl
          · exact hC i' o' j' ho' hl' hp'
      · intro j hj
        rw [getD_set _ _ _ (by omega)] at hj
        by_cases e : j = i
        · subst e; exact hRi
        · rw [if_neg e] at hj
          have hjl : j < L.length := by
            rcases Nat.lt_or_ge j L.length with h | h
            · exact h
            · rw [Array.getD_eq_getD_getElem?, Array.getElem?_eq_none (by omega)] at hj; cases hj
          have hoj : L[j]? = some L[j] := List.getElem?_eq_getElem hjl
          refine hcg j _ vs _ w' hoj (by unfold upd; rw [if_neg e]) (fun k hk => ?_) (hst i j vs w w' (fun e2 => e e2.symm) hI (hR j hj) hb)
          have hkl := hC j _ k hoj hj hk
          unfold upd
          rw [if_neg]
          intro e2
          rw [e2, hun] at hkl
          cases hkl
      · have := cnt_upd (f := fun j => !listed.getD j false) (g := fun j => !(listed.setIfInBounds i true).getD j false) (i := i) (by simp [hun]) (by show (!(listed.setIfInBounds i true).getD i false) = false; rw [getD_set _ _ _ (by omega), if_pos rfl]; rfl) (fun j hj => by show (!listed.getD j false) = !(listed.setIfInBounds i true).getD j false; rw [getD_set _ _ _ (by omega), if_neg hj]) L.length hil
        omega
    unfold wpOp
    rw [List.getElem?_toArray, ho]
    simp only
    rw [if_pos hw]
    left
    have hex : execOp a.eval o = execOp (envOf L a0 vs o) o := execOp_congr o hns hev
    unfold Oper.wp
    rw [hex]
    rcases step i o ho vs w hI (fun j hj => hR j (hp j hj)) with ⟨v, w', hrun, hb, hI', hRi⟩ | ⟨w', hrun, hb, hI', hRi⟩ | ⟨f, args, hrun, hcall⟩
    · rw [hrun]
      exact hnext v w' hb hI' hRi
    · rw [hrun]
      exact hnext undef w' hb hI' hRi
    · rw [hrun, Oper.upon_enter]
      refine hcall.mono ?_
      rintro e w' ⟨v, rfl, hb, hI', hRi⟩
      exact hnext v w' hb hI' hRi
def AllOps (F : Nat → Oper → Prop) : List Oper → Nat → Prop
  | [], _ => True
  | o :: l, k => F k o ∧ AllOps F l (k + 1)
theorem allOps_nil {F : Nat → Oper → Prop} {k : Nat} : AllOps F [] k := trivial
theorem allOps_cons {F : Nat → Oper → Prop} {o : Oper} {l : List Oper} {k : Nat} (h : F k o) (t : AllOps F l (k + 1)) : AllOps F (o :: l) k := ⟨h, t⟩
theorem allOps_spec {F : Nat → Oper → Prop} : ∀ {L : List Oper} {k : Nat}, AllOps F L k → ∀ i o, L[i]? = some o → F (k + i) o
  | [], _, _, i, o, h => by simp at h
  | o :: l, k, hA, 0, o', h => by
    simp at h
    subst h
    exact hA.1
  | o :: l, k, hA, i + 1, o', h => by
    have := allOps_spec hA.2 i o' (by simpa using h)
    rw [show k + (i + 1) = k + 1 + i by omega]
    exact this
/-- what is to be shown of one operation -/
def OneOp (P : Program) (L : List Oper) (a0 : Act) (Inv : World → Prop) (S : Nat → World → World → Prop) (R : Nat → (Nat → Value) → World → Prop) (i : Nat) (o : Oper) : Prop :=
  ∀ (vs : Nat → Value) (w : World) (ρ : Operand → Value), (∀ x, ρ x = envOf L a0 vs o x) → (∀ c, ρ (.const c) = c) → (∀ g, ρ (.global g) = .pointer (some ⟨g, 0, none⟩)) → (∀ f, ρ (.func f) = .func (.func f) #[] #[]) →
    Inv w → (∀ j, predB o j = true → R j vs w) → OpRel P (S i) ρ o w (fun v w' => Inv w' ∧ R i (upd vs i v) w')
theorem rel_value {S : World → World → Prop} {ρ : Operand → Value} {o : Oper} {w : World} {K : Value → World → Prop} (v : Value) (h : (execOp ρ o).run P w = .ok (.value v) w) (hk : K v w) (hs : S w w := by exact Below.refl _ _) : OpRel P S ρ o w K := .inl ⟨v, w, h, hs, hk⟩
theorem rel_made {S : World → World → Prop} {ρ : Operand → Value} {o : Oper} {w w' : World} {K : Value → World → Prop} (v : Value) (h : (execOp ρ o).run P w = .ok (.value v) w') (hb : S w w') (hk : K v w') : OpRel P S ρ o w K := .inl ⟨v, w', h, hb, hk⟩
theorem rel_skip {S : World → World → Prop} {ρ : Operand → Value} {o : Oper} {w w' : World} {K : Value → World → Prop} (h : (execOp ρ o).run P w = .ok .skip w') (hb : S w w') (hk : K undef w') : OpRel P S ρ o w K := .inr (.inl ⟨w', h, hb, hk⟩)
theorem rel_call {S : World → World → Prop} {ρ : Operand → Value} {oi : Oper} {w : World} {K : Value → World → Prop} {f : FuncId} {fn : Func} {ars : Array Operand} {ts : Array TypeId} (hf : P.funcs[f]? = some fn) (hname : (fn.name == "runtime.NumGoroutine") = false) (hb : fn.body.isSome = true) (args : Array Value)
    (hop : oi.op = .call { callee := .value (.func f), args := ars, argTypes := ts }) (hfun : ρ (.func f) = .func (.func f) #[] #[]) (hargs : ars.map ρ = args)
    (h : Calls P f args w fun e w' => ∃ v, e = .returned v ∧ S w w' ∧ K v w') : OpRel P S ρ oi w K := by
  refine .inr (.inr ⟨f, args, ?_, h⟩)
  have he := enters_ hf hname hb args w
  unfold execOp
  simp [hop, resolve, Deferred.ofValue, invoke, hfun, hargs, he]
/-- the law: a region that draws its order -/
theorem wp_region_rel {id : Nat} (L : List Oper) (hm : P.follows .mixedOrders = true) (N : Nat) (a0 : Act) (w0 : World) (hN : a0.tmps.size = N) (hok : okFrom L N L 0 = true) (Inv : World → Prop) (S : Nat → World → World → Prop) (R : Nat → (Nat → Value) → World → Prop) (hI : Inv w0.drew)
    (hst : ∀ i j vs w w', i ≠ j → Inv w → R j vs w → S i w w' → R j vs w')
    (hcg : ∀ j o vs vs' w, L[j]? = some o → vs' j = vs j → (∀ k, predB o k = true → vs' k = vs k) → R j vs w → R j vs' w)
    (step : AllOps (OneOp P L a0 Inv S R) L 0)
    (done : ∀ vs w, Inv w → (∀ j, j < L.length → R j vs w) → Q .normal (fillFrom L 0 a0 vs) w) :
    (Code.region id L.toArray true).wp P Q a0 w0 := by
  subst hN
  have step' : ∀ i o, L[i]? = some o → ∀ (vs : Nat → Value) (w : World), Inv w → (∀ j, predB o j = true → R j vs w) → OpRel P (S i) (envOf L a0 vs o) o w (fun v w' => Inv w' ∧ R i (upd vs i v) w') := by
    intro i o ho vs w hI hp
    have h := allOps_spec step i o ho
    rw [Nat.zero_add] at h
    exact h vs w (envOf L a0 vs o) (fun _ => rfl) (fun _ => rfl) (fun _ => rfl) (fun _ => rfl) hI hp
  refine wp_region_any hm ?_
  refine wpAny_rel L a0 hok Inv S R hst hcg step' done L.toArray.size (Array.replicate L.toArray.size false) (fun _ => undef) a0 _ (by simp) ?_ ?_ hI ?_ ?_
  · intro i o j _ h
    simp [Array.getD_eq_getD_getElem?, Array.getElem?_replicate] at h
    split at h <;> simp at h
  · refine ⟨rfl, rfl, fun t ht => ?_⟩
    have e : slotV L a0 (Array.replicate L.toArray.size false) (fun _ => undef) t = a0.tmps.getD t undef := by
      unfold slotV
      cases srcFrom L 0 t with
      | none => rfl
      | some j =>
        simp only
        rw [if_neg]
        simp [Array.getD_eq_getD_getElem?, Array.getElem?_replicate]
        split <;> simp
    rw [e]
    simp [Array.getD_eq_getD_getElem?, Array.getElem?_eq_getElem ht]
  · intro j h
    simp [Array.getD_eq_getD_getElem?, Array.getElem?_replicate] at h
    split at h <;> simp at h
  · have : ∀ (f : Nat → Bool) n, cnt f n ≤ n := by
      intro f n
      induction n with
      | zero => exact Nat.le_refl _
      | succ n ih => simp only [cnt]; split <;> omega
    exact Nat.le_trans (this _ _) (by simp)
end
end Go.Proofs.YtljjpdjknnhceaaDoor.Reg

/- The document's Check. -/
set_option linter.unusedVariables false
set_option linter.unusedSimpArgs false
namespace Go.Proofs.YtljjpdjknnhceaaDoor.RefCheck
open Go.RowKit Go.Proofs.YtljjpdjknnhceaaDoorW.PrintWords Go.Proofs.YtljjpdjknnhceaaDoorW.PrintLast Go.Proofs.YtljjpdjknnhceaaDoorW.PrintMore
open Go.Proofs.YtljjpdjknnhceaaDoor.Base Go.Proofs.YtljjpdjknnhceaaDoor.RingPure Go.Proofs.YtljjpdjknnhceaaDoor.ChkPure Go.Proofs.YtljjpdjknnhceaaDoor.Clus Go.Proofs.YtljjpdjknnhceaaDoor.Mids Go.Proofs.YtljjpdjknnhceaaDoor.Chkd Go.Proofs.YtljjpdjknnhceaaDoor.Ref6 Go.Proofs.YtljjpdjknnhceaaDoor.Name Go.Proofs.YtljjpdjknnhceaaDoor.Dealt Go.Proofs.YtljjpdjknnhceaaDoor.NamedR Go.Proofs.YtljjpdjknnhceaaDoor.Sort
theorem exec_load_mid {P : Program} {ρ : Operand → Value} {o : Oper} {w : World} (ty : TypeId) (x : Operand) (ho : o.op = .load ty x)
    (b p : Nat) (hx : ρ x = .pointer (some ⟨b, p, none⟩)) (cs : List Value) (d : TypeDesc) (hc : w.rangeAt b p cs)
    (hu : P.underlying ty = some d) (hd : d.isRow = true) (hi : (P.info? ty).map (·.size) = some cs.length) : (execOp ρ o).run P w = .ok (.value (.agg cs.toArray)) w := by
  unfold execOp
  simp only [ho, hx, Instr.loadAt, Instr.sureAddr, Sem.run_bind, Sem.run_pure, Result.andThen_ok, run_loadVar_mid w b p ty cs d hc hu hd hi]
theorem zoned_no {ns : List Nd} {k : Nat} {n : Nd} (h : ns[k]? = some n) (hz : ¬ (0 ≤ n.1 ∧ n.1 ≤ 7)) : zoned ns = false :=
  zoned_take ns k n h (by
    unfold wiB
    by_cases a : 0 ≤ n.1
    · rw [decide_eq_true a, decide_eq_false (fun b => hz ⟨a, b⟩)]; rfl
    · rw [decide_eq_false a]; rfl)
theorem wrapEq (x : Int) : IntKind.i64.wrap x = wrap64 x := by rw [IntKind.wrap_i64]; unfold wrap64; omega
set_option maxRecDepth 100000 in
set_option maxHeartbeats 8000000 in
theorem refcheck_any (c : Cl) (A : Option Addr) (cap : Nat) (ns : List Nd) (w : World) (hN : NodesAt w A ns) (hcap : ns.length ≤ cap) (hs : c.store.size ≤ 2147483647) (hl : ns.length ≤ 1099511627776) (hc : cnt ns ≤ 1099511627776) (hG : GTab w) :
    Calls Tryd.prog 15 #[.agg (cL c (.slice A ns.length cap)).toArray] w fun e w' => e = .returned (.int .i64 (chkC c ns).1) ∧ Below w.heap.size w w' := by
  have hb0 := (Below.refl w.heap.size w).alloc (Nat.le_refl _) (.cells (cL c (.slice A ns.length cap)).toArray 24)
  have HN := Aside0.mk (hN.below hb0)
  have HG := Aside0.mk (hG.below hb0)
  have HB := Aside0.mk hb0
  have HC : Aside0 (CBox (w.alloc (.cells (cL c (.slice A ns.length cap)).toArray 24)) w.heap.size c (.slice A ns.length cap)) := ⟨⟨Go.heap_alloc_new w _⟩⟩
  clear hN hb0 hG
  have HEQ := Aside0.mk (fun d hd => chkR_eq (nmB c.store) c ns d hd)
  go_enter Tryd.func15, Tryd.ntmps15
  go_upto_region 1 with fail
  generalize w.alloc (.cells (cL c (.slice A ns.length cap)).toArray 24) = w1 at HN HB HC HG ⊢
  generalize hgc : w.heap.size = gc at HC ⊢
  have h0 : w1.cell? ⟨gc, 0, none⟩ = some (.string c.store) := HC.out.c 0
  go_wp2_with fail
  refine (named_any c.store w1 hs).mono ?_
  rintro e w2 ⟨rfl, hd⟩
  have HR2 := Aside0.mk hd.below
  have HC2 := Aside0.mk (HC.out.below hd.below HC.out.lt)
  clear hd h0 hgc
  by_cases hnm : nmB c.store = true
  · rw [hnm]
    have HNM := Aside0.mk hnm
    clear hnm
    have hrg := blk_range HC2.out.row
    go_wp2_with ((with_reducible refine gate_load (ty := 24) (x := .tmp 1) rfl ?_); refine wpList_load_mid rfl 24 (.tmp 1) rfl gc 0 rfl (cL c (.slice A ns.length cap)) _ hrg Tryd.underlying24 rfl infoC23 ?_)
    clear hrg
    refine (set_any c (.slice A ns.length cap) w2 (HG.out.below HR2.out)).mono ?_
    rintro e w3 ⟨rfl, hb⟩
    have HR3 := Aside0.mk (HR2.out.trans (hb.mono HR2.out.size))
    clear hb HR2 HC2
    by_cases hset : setB c = true
    · rw [hset]
      have HSET := Aside0.mk hset
      clear hset
      have h22 : w3.cell? ⟨gc, 22, none⟩ = some (.slice A ns.length cap) := (HC.out.below HR3.out HC.out.lt).c 22
      by_cases hlen : 1 ≤ ns.length ∧ ns.length ≤ 16
      · have HLEN := Aside0.mk hlen
        obtain ⟨hl1, hl2⟩ := hlen
        go_wp2_with fail
        clear h22
        go_loop [3, 4] (fun v3 v4 => ∃ i : Nat, i ≤ ns.length ∧ v3 = .int .i64 (full (ns.take i) : Nat) ∧ v4 = .int .i64 (i : Nat) ∧ Aside0 (∀ j n, j < i → ns[j]? = some n → wiB n.1 0 7 = true)) (fun _ v4 => ns.length - (intOf v4).toNat)
        case atStart => exact ⟨0, Nat.zero_le _, rfl, rfl, ⟨fun j n hj => absurd hj (Nat.not_lt_zero j)⟩⟩
        case round =>
          obtain ⟨i, hi, rfl, rfl, HZ⟩ := hrel
          have h22 : w3.cell? ⟨gc, 22, none⟩ = some (.slice A ns.length cap) := (HC.out.below HR3.out HC.out.lt).c 22
          by_cases hlt : i < ns.length
          · obtain ⟨n, hn⟩ : ∃ n, ns[i]? = some n := ⟨_, List.getElem?_eq_getElem hlt⟩
            obtain ⟨b, o, rfl, hz, B, cp, hp, hcp, hnm⟩ := (HN.out.below HR3.out).get hn
            have HFS := Aside0.mk (full_snoc ns i n hn)
            have hfl : full (ns.take i) ≤ i := by have := full_le (ns.take i); rw [List.length_take] at this; omega
            have HNI := Aside0.mk hn
            clear hn hnm
            by_cases hzz : 0 ≤ n.1 ∧ n.1 ≤ 7
            · obtain ⟨z0, z1⟩ := hzz
              have HZ1 : Aside0 (∀ j m, j < i + 1 → ns[j]? = some m → wiB m.1 0 7 = true) := ⟨fun j m hj hm => by
                by_cases e : j = i
                · rw [e, HNI.out] at hm
                  injection hm with hm
                  rw [← hm]; unfold wiB; rw [decide_eq_true z0, decide_eq_true z1]; rfl
                · exact HZ.out j m (by omega) hm⟩
              by_cases hpl : 0 < n.2.length
              · have HF1 : Aside0 (full (ns.take (i + 1)) = full (ns.take i) + 1) := ⟨by rw [HFS.out, if_pos hpl]⟩
                go_wp2_with fail
                go_round
                case rel => exact ⟨i + 1, by omega, by rw [HF1.out]; go_num, by go_num, HZ1⟩
                case measure => simp [intOf]; omega
              · have HF1 : Aside0 (full (ns.take (i + 1)) = full (ns.take i)) := ⟨by rw [HFS.out, if_neg hpl]; rfl⟩
                go_wp2_with fail
                go_round
                case rel => exact ⟨i + 1, by omega, by rw [HF1.out], by go_num, HZ1⟩
                case measure => simp [intOf]; omega
            · have HNO : Aside0 ((chkC c ns).1 = 65) := ⟨by unfold chkC chk; rw [if_neg (by rw [HNM.out]; decide), if_neg (by rw [HSET.out]; decide), if_neg (by have := HLEN.out; omega), if_pos (zoned_no HNI.out hzz)]⟩
              by_cases z0 : n.1 < 0
              · clear hzz
                go_wp2_with fail
                go_ret
                exact ⟨by rw [HNO.out]; rfl, HB.out.trans (HR3.out.mono HB.out.size)⟩
              · have z1 : 8 ≤ n.1 := by omega
                clear hzz
                go_wp2_with fail
                go_ret
                exact ⟨by rw [HNO.out]; rfl, HB.out.trans (HR3.out.mono HB.out.size)⟩
          · obtain rfl : i = ns.length := by omega
            rw [List.take_length]
            have HZO : Aside0 (zoned ns = true) := ⟨by
              unfold zoned
              rw [List.all_eq_true]
              intro m hm
              obtain ⟨j, hj, e⟩ := List.getElem_of_mem hm
              exact HZ.out j m hj (by rw [List.getElem?_eq_getElem hj, e])⟩
            have hfl : full ns ≤ 16 := by have := full_le ns; have := HLEN.out; omega
            have HC3 := Aside0.mk (HC.out.below HR3.out HC.out.lt)
            have hrg := blk_range HC3.out.row
            clear hlt hi HZ
            go_wp2_with ((with_reducible refine gate_load (ty := 24) (x := .tmp 1) rfl ?_); refine wpList_load_mid rfl 24 (.tmp 1) rfl gc 0 rfl (cL c (.slice A ns.length cap)) _ hrg Tryd.underlying24 rfl infoC23 ?_)
            clear hrg h22
            refine (dealt_any c A cap ns w3 (HN.out.below HR3.out) hcap hl hc).mono ?_
            rintro e w4 ⟨d, rfl, hdd, hb⟩
            have HR4 := Aside0.mk (HR3.out.trans (hb.mono HR3.out.size))
            have HC4 := Aside0.mk (HC.out.below HR4.out HC.out.lt)
            have HN4 := Aside0.mk (HN.out.below HR4.out)
            have HCR : Aside0 ((chkC c ns).1 = if d = false then 66 else if (full ns : Int) < c.replicas then 67 else if 512 < (cnt ns : Int) * c.replicas * c.chunks then 3 else 0) := ⟨by
              rw [← show chkR (nmB c.store) c ns d = (chkC c ns).1 from HEQ.out d hdd]
              unfold chkR
              rw [if_neg (by rw [HNM.out]; decide), if_neg (by rw [HSET.out]; decide), if_neg (by have := HLEN.out; omega), if_neg (by rw [HZO.out]; decide)]⟩
            have HDD := Aside0.mk hdd
            clear hb hdd HR3 HC3
            cases d with
            | false =>
              go_wp2_with fail
              go_ret
              exact ⟨by rw [HCR.out]; rfl, HB.out.trans (HR4.out.mono HB.out.size)⟩
            | true =>
              have h1 : w4.cell? ⟨gc, 1, none⟩ = some (.int .i64 c.replicas) := HC4.out.c 1
              by_cases hr : (full ns : Int) < c.replicas
              · go_wp2_with fail
                go_ret
                exact ⟨by rw [HCR.out, if_neg (by decide), if_pos hr]; rfl, HB.out.trans (HR4.out.mono HB.out.size)⟩
              · have hb6 := setAt_bounds HSET.out
                have hP := prods (c := c) (n := cnt ns) (HDD.out.1 rfl).2.1 ⟨hb6.1, hb6.2.1⟩ ⟨hb6.2.2.1, hb6.2.2.2.1⟩
                obtain ⟨P1, hP1⟩ : ∃ P1, P1 = (cnt ns : Int) * c.replicas := ⟨_, rfl⟩
                obtain ⟨P2, hP2⟩ : ∃ P2, P2 = P1 * c.chunks := ⟨_, rfl⟩
                have hw1 : IntKind.i64.wrap ((cnt ns : Int) * c.replicas) = P1 := by rw [wrapEq, hP1]; exact hP.1
                have hw2 : IntKind.i64.wrap (P1 * c.chunks) = P2 := by rw [wrapEq, hP2, hP1]; exact hP.2
                have HP := Aside0.mk (show P2 = (cnt ns : Int) * c.replicas * c.chunks by rw [hP2, hP1])
                have HW1 := Aside0.mk hw1
                have HW2 := Aside0.mk hw2
                clear hP hP1 hP2 hb6 hw1 hw2
                go_upto_region 19 with fail
                have hw1 := HW1.out
                have hw2 := HW2.out
                refine Reg.wp_region_rel _ (by kernel_rfl) _ _ _ rfl (by kernel_rfl) (fun w' => Below w4.heap.size w4 w') (fun _ w w' => Below w.heap.size w w') (fun jq vs w' => match jq with
                  | 0 => vs 0 = .agg (cL c (.slice A ns.length cap)).toArray
                  | 1 => vs 1 = .int .i64 (cnt ns : Nat)
                  | 2 => vs 2 = .pointer (some ⟨gc, 1, none⟩)
                  | 3 => vs 3 = .int .i64 c.replicas
                  | 4 => vs 4 = .int .i64 P1
                  | 5 => vs 5 = .pointer (some ⟨gc, 3, none⟩)
                  | 6 => vs 6 = .int .i64 c.chunks
                  | 7 => vs 7 = .int .i64 P2
                  | 8 => vs 8 = .bool (decide (512 < P2))
                  | _ => True) (below_drew (Below.refl _ _)) ?_ ?_ ?_ ?_
                · intro i j vs w0 w' hij hI hR hb
                  rcases j with _ | j
                  · exact hR
                  rcases j with _ | j
                  · exact hR
                  rcases j with _ | j
                  · exact hR
                  rcases j with _ | j
                  · exact hR
                  rcases j with _ | j
                  · exact hR
                  rcases j with _ | j
                  · exact hR
                  rcases j with _ | j
                  · exact hR
                  rcases j with _ | j
                  · exact hR
                  rcases j with _ | j
                  · exact hR
                  exact trivial
                · intro j o vs vs1 w0 ho he hp hR
                  rcases j with _ | j
                  · exact he.trans hR
                  rcases j with _ | j
                  · exact he.trans hR
                  rcases j with _ | j
                  · exact he.trans hR
                  rcases j with _ | j
                  · exact he.trans hR
                  rcases j with _ | j
                  · exact he.trans hR
                  rcases j with _ | j
                  · exact he.trans hR
                  rcases j with _ | j
                  · exact he.trans hR
                  rcases j with _ | j
                  · exact he.trans hR
                  rcases j with _ | j
                  · exact he.trans hR
                  exact trivial
                · skip
                  refine Reg.allOps_cons ?_ ?_
                  · intro vs w0 ρ hρ hcst hglb hfun hI hp
                    have e1 : ρ (.tmp 1) = .pointer (some ⟨gc, 0, none⟩) := hρ (.tmp 1)
                    clear hρ hp
                    refine Reg.rel_value (.agg (cL c (.slice A ns.length cap)).toArray) (exec_load_mid 24 (.tmp 1) rfl gc 0 e1 _ _ (blk_range (HC4.out.below hI HC4.out.lt).row) Tryd.underlying24 rfl infoC23) ⟨hI, rfl⟩
                  refine Reg.allOps_cons ?_ ?_
                  · intro vs w0 ρ hρ hcst hglb hfun hI hp
                    have e62 : ρ (.tmp 62) = .agg (cL c (.slice A ns.length cap)).toArray := (hρ (.tmp 62)).trans (show vs 0 = .agg (cL c (.slice A ns.length cap)).toArray from hp 0 rfl)
                    clear hρ hp
                    refine Reg.rel_call Tryd.func49 (by kernel_rfl) rfl #[.agg (cL c (.slice A ns.length cap)).toArray] rfl (hfun _) (by simp [e62]) ?_
                    refine (Count.parts_any c A cap ns w0 (HN4.out.below hI) hcap hl hc).mono ?_
                    rintro e w3 ⟨rfl, hb⟩
                    exact ⟨_, rfl, hb, hI.trans (hb.mono hI.size), rfl⟩
                  refine Reg.allOps_cons ?_ ?_
                  · intro vs w0 ρ hρ hcst hglb hfun hI hp
                    have e1 : ρ (.tmp 1) = .pointer (some ⟨gc, 0, none⟩) := hρ (.tmp 1)
                    clear hρ hp
                    refine Reg.rel_value (.pointer (some ⟨gc, 1, none⟩)) ?_ ⟨hI, rfl⟩
                    go_simp
                  refine Reg.allOps_cons ?_ ?_
                  · intro vs w0 ρ hρ hcst hglb hfun hI hp
                    have e64 : ρ (.tmp 64) = .pointer (some ⟨gc, 1, none⟩) := (hρ (.tmp 64)).trans (show vs 2 = .pointer (some ⟨gc, 1, none⟩) from hp 2 rfl)
                    clear hρ hp
                    have hl2 : w0.cell? ⟨gc, 1, none⟩ = some (.int .i64 c.replicas) := (HC4.out.below hI HC4.out.lt).c 1
                    refine Reg.rel_value (.int .i64 c.replicas) ?_ ⟨hI, rfl⟩
                    go_simp
                  refine Reg.allOps_cons ?_ ?_
                  · intro vs w0 ρ hρ hcst hglb hfun hI hp
                    have e63 : ρ (.tmp 63) = .int .i64 (cnt ns : Nat) := (hρ (.tmp 63)).trans (show vs 1 = .int .i64 (cnt ns : Nat) from hp 1 rfl)
                    have e65 : ρ (.tmp 65) = .int .i64 c.replicas := (hρ (.tmp 65)).trans (show vs 3 = .int .i64 c.replicas from hp 3 rfl)
                    clear hρ hp
                    refine Reg.rel_value (.int .i64 P1) ?_ ⟨hI, rfl⟩
                    have hq := hw1
                    go_simp
                  refine Reg.allOps_cons ?_ ?_
                  · intro vs w0 ρ hρ hcst hglb hfun hI hp
                    have e1 : ρ (.tmp 1) = .pointer (some ⟨gc, 0, none⟩) := hρ (.tmp 1)
                    clear hρ hp
                    refine Reg.rel_value (.pointer (some ⟨gc, 3, none⟩)) ?_ ⟨hI, rfl⟩
                    go_simp
                  refine Reg.allOps_cons ?_ ?_
                  · intro vs w0 ρ hρ hcst hglb hfun hI hp
                    have e67 : ρ (.tmp 67) = .pointer (some ⟨gc, 3, none⟩) := (hρ (.tmp 67)).trans (show vs 5 = .pointer (some ⟨gc, 3, none⟩) from hp 5 rfl)
                    clear hρ hp
                    have hl2 : w0.cell? ⟨gc, 3, none⟩ = some (.int .i64 c.chunks) := (HC4.out.below hI HC4.out.lt).c 3
                    refine Reg.rel_value (.int .i64 c.chunks) ?_ ⟨hI, rfl⟩
                    go_simp
                  refine Reg.allOps_cons ?_ ?_
                  · intro vs w0 ρ hρ hcst hglb hfun hI hp
                    have e66 : ρ (.tmp 66) = .int .i64 P1 := (hρ (.tmp 66)).trans (show vs 4 = .int .i64 P1 from hp 4 rfl)
                    have e68 : ρ (.tmp 68) = .int .i64 c.chunks := (hρ (.tmp 68)).trans (show vs 6 = .int .i64 c.chunks from hp 6 rfl)
                    clear hρ hp
                    refine Reg.rel_value (.int .i64 P2) ?_ ⟨hI, rfl⟩
                    have hq := hw2
                    go_simp
                  refine Reg.allOps_cons ?_ ?_
                  · intro vs w0 ρ hρ hcst hglb hfun hI hp
                    have e69 : ρ (.tmp 69) = .int .i64 P2 := (hρ (.tmp 69)).trans (show vs 7 = .int .i64 P2 from hp 7 rfl)
                    clear hρ hp
                    refine Reg.rel_value (.bool (decide (512 < P2))) ?_ ⟨hI, rfl⟩
                    go_simp
                  exact Reg.allOps_nil
                intro vs w0 hI hR
                have r0 : vs 0 = .agg (cL c (.slice A ns.length cap)).toArray := hR 0 (by decide)
                have r1 : vs 1 = .int .i64 (cnt ns : Nat) := hR 1 (by decide)
                have r2 : vs 2 = .pointer (some ⟨gc, 1, none⟩) := hR 2 (by decide)
                have r3 : vs 3 = .int .i64 c.replicas := hR 3 (by decide)
                have r4 : vs 4 = .int .i64 P1 := hR 4 (by decide)
                have r5 : vs 5 = .pointer (some ⟨gc, 3, none⟩) := hR 5 (by decide)
                have r6 : vs 6 = .int .i64 c.chunks := hR 6 (by decide)
                have r7 : vs 7 = .int .i64 P2 := hR 7 (by decide)
                have r8 : vs 8 = .bool (decide (512 < P2)) := hR 8 (by decide)
                simp only [Reg.fillFrom, Act.put, List.setIfInBounds_toArray, List.set_cons_zero, List.set_cons_succ, r0, r1, r2, r3, r4, r5, r6, r7, r8]
                clear hR r0 r1 r2 r3 r4 r5 r6 r7 r8
                clear hw1 hw2
                by_cases hq : 512 < P2
                · go_wp2_with fail
                  go_ret
                  exact ⟨by rw [HCR.out, if_neg (by decide), if_neg (show ¬ (full ns : Int) < c.replicas by omega), if_pos (by rw [← HP.out]; omega)]; rfl, HB.out.trans ((HR4.out.trans (hI.mono HR4.out.size)).mono HB.out.size)⟩
                · go_wp2_with fail
                  go_ret
                  exact ⟨by rw [HCR.out, if_neg (by decide), if_neg (show ¬ (full ns : Int) < c.replicas by omega), if_neg (by rw [← HP.out]; omega)]; rfl, HB.out.trans ((HR4.out.trans (hI.mono HR4.out.size)).mono HB.out.size)⟩
      · have HNO : Aside0 ((chkC c ns).1 = 65) := ⟨by unfold chkC chk; rw [if_neg (by rw [HNM.out]; decide), if_neg (by rw [HSET.out]; decide), if_pos (by omega)]⟩
        by_cases hl1 : ns.length < 1
        · clear hlen
          go_wp2_with fail
          go_ret
          exact ⟨by rw [HNO.out]; rfl, HB.out.trans (HR3.out.mono HB.out.size)⟩
        · have hl2 : 16 < ns.length := by omega
          clear hlen
          go_wp2_with fail
          go_ret
          exact ⟨by rw [HNO.out]; rfl, HB.out.trans (HR3.out.mono HB.out.size)⟩
    · have hsf : setB c = false := by simpa using hset
      rw [hsf]
      have HNO : Aside0 ((chkC c ns).1 = 64) := ⟨by unfold chkC chk; rw [if_neg (by rw [HNM.out]; decide), if_pos hsf]⟩
      clear hset hsf
      go_wp2_with fail
      go_ret
      exact ⟨by rw [HNO.out]; rfl, HB.out.trans (HR3.out.mono HB.out.size)⟩
  · have hnf : nmB c.store = false := by simpa using hnm
    rw [hnf]
    have HNO : Aside0 ((chkC c ns).1 = 63) := ⟨by unfold chkC chk; rw [if_pos hnf]⟩
    clear hnm hnf
    go_wp2_with fail
    go_ret
    exact ⟨by rw [HNO.out]; rfl, HB.out.trans (HR2.out.mono HB.out.size)⟩
end Go.Proofs.YtljjpdjknnhceaaDoor.RefCheck

/- Walking round the ring: the first partition of each new node. Plain lists. -/
namespace Go.Proofs.YtljjpdjknnhceaaDoor.RoundPure
open Go.Proofs.YtljjpdjknnhceaaDoor.RingPure
section
variable (f : Nat → Int) (part P reps : Nat)
def pos (i : Nat) : Nat := (part + i) % P
/-- none of those ahead has its node -/
def fresh (i : Nat) : Bool := (List.range i).all fun j => f (pos part P j) != f (pos part P i)
def tk : Nat → List Nat
  | 0 => []
  | i + 1 => if (tk i).length < reps ∧ fresh f part P i = true then tk i ++ [pos part P i] else tk i
def rnd : List Nat := tk f part P reps P
end
variable {f : Nat → Int} {part P reps : Nat}
theorem fresh_iff (i : Nat) : fresh f part P i = true ↔ ∀ j, j < i → f (pos part P j) ≠ f (pos part P i) := by
  unfold fresh
  rw [List.all_eq_true]
  simp only [List.mem_range, bne_iff_ne, ne_eq]
theorem tk_succ (i : Nat) : tk f part P reps (i + 1) = if (tk f part P reps i).length < reps ∧ fresh f part P i = true then tk f part P reps i ++ [pos part P i] else tk f part P reps i := rfl
theorem pos_lt (hP : 0 < P) (i : Nat) : pos part P i < P := Nat.mod_lt _ hP
theorem tk_len_le (i : Nat) : (tk f part P reps i).length ≤ i := by
  induction i with
  | zero => exact Nat.le_refl _
  | succ i ih => rw [tk_succ]; split <;> (try rw [List.length_append, List.length_singleton]) <;> omega
theorem tk_len_reps (i : Nat) : (tk f part P reps i).length ≤ reps := by
  induction i with
  | zero => exact Nat.zero_le _
  | succ i ih => rw [tk_succ]; split <;> (try rw [List.length_append, List.length_singleton]) <;> omega
theorem tk_full {i : Nat} (h : reps ≤ (tk f part P reps i).length) : ∀ k, tk f part P reps (i + k) = tk f part P reps i := by
  intro k
  induction k with
  | zero => rfl
  | succ k ih => rw [← Nat.add_assoc, tk_succ, ih, if_neg (by omega)]
theorem tk_mem {i t : Nat} (h : t ∈ tk f part P reps i) : ∃ j, j < i ∧ t = pos part P j ∧ fresh f part P j = true := by
  induction i with
  | zero => cases h
  | succ i ih =>
    rw [tk_succ] at h
    split at h
    · rename_i hc
      rcases List.mem_append.1 h with h | h
      · obtain ⟨j, a, b, d⟩ := ih h; exact ⟨j, by omega, b, d⟩
      · simp only [List.mem_singleton] at h; exact ⟨i, by omega, h, hc.2⟩
    · obtain ⟨j, a, b, d⟩ := ih h; exact ⟨j, by omega, b, d⟩
theorem tk_all {i : Nat} (hl : (tk f part P reps i).length < reps) {j : Nat} (hj : j < i) (hf : fresh f part P j = true) : pos part P j ∈ tk f part P reps i := by
  induction i with
  | zero => omega
  | succ i ih =>
    have hl' : (tk f part P reps i).length < reps := by
      rw [tk_succ] at hl
      split at hl
      · simp at hl; omega
      · exact hl
    rw [tk_succ]
    by_cases e : j = i
    · subst e; rw [if_pos ⟨hl', hf⟩]; simp
    · have := ih hl' (by omega)
      split
      · exact List.mem_append_left _ this
      · exact this
/-- the least with that node is fresh -/
theorem least {i : Nat} : ∀ (j : Nat), j < i → f (pos part P j) = f (pos part P i) → ∃ k, k < i ∧ f (pos part P k) = f (pos part P i) ∧ fresh f part P k = true := by
  intro j
  induction j using Nat.strongRecOn with
  | ind j ih =>
    intro hj he
    by_cases hf : fresh f part P j = true
    · exact ⟨j, hj, he, hf⟩
    · rw [fresh_iff] at hf
      have : ∃ k, k < j ∧ f (pos part P k) = f (pos part P j) := by
        refine Classical.byContradiction fun hn => hf fun k hk e => hn ⟨k, hk, e⟩
      obtain ⟨k, a, b⟩ := this
      exact ih k a (by omega) (b.trans he)
/-- the test of the program: one that was taken has the node -/
theorem seen_iff {i : Nat} (hl : (tk f part P reps i).length < reps) : (∃ t ∈ tk f part P reps i, f t = f (pos part P i)) ↔ ¬ fresh f part P i = true := by
  constructor
  · rintro ⟨t, ht, he⟩ hf
    obtain ⟨j, a, rfl, _⟩ := tk_mem ht
    exact (fresh_iff i).1 hf j a he
  · intro hf
    rw [fresh_iff] at hf
    have : ∃ k, k < i ∧ f (pos part P k) = f (pos part P i) := Classical.byContradiction fun hn => hf fun k hk e => hn ⟨k, hk, e⟩
    obtain ⟨j, a, b⟩ := this
    obtain ⟨k, c, d, e⟩ := least j a b
    exact ⟨_, tk_all hl c e, d⟩
theorem rnd_of {i : Nat} (hi : i ≤ P) (h : i = P ∨ reps ≤ (tk f part P reps i).length) : rnd f part P reps = tk f part P reps i := by
  unfold rnd
  rcases h with rfl | h
  · rfl
  · have := tk_full (f := f) (part := part) (P := P) h (P - i)
    rwa [show i + (P - i) = P by omega] at this
theorem tk_lt (hP : 0 < P) {i t : Nat} (h : t ∈ tk f part P reps i) : t < P := by
  obtain ⟨j, _, rfl, _⟩ := tk_mem h
  exact Nat.mod_lt _ hP
theorem tk_congr {g : Nat → Int} (hP : 0 < P) (h : ∀ i, i < P → f i = g i) : ∀ i, tk f part P reps i = tk g part P reps i := by
  have hfr : ∀ i, fresh f part P i = fresh g part P i := fun i => by
    unfold fresh
    congr 1
    funext j
    rw [h _ (pos_lt hP _), h _ (pos_lt hP _)]
  intro i
  induction i with
  | zero => rfl
  | succ i ih => rw [tk_succ, tk_succ, ih, hfr]
end Go.Proofs.YtljjpdjknnhceaaDoor.RoundPure
