/- Joined texts of this claim: Chkd, Ref6, Count -/
import Derived.Test.YtljjpdjknnhceaaDoorJRHld4
import Derived.Deep.QuietTactic
import Derived.BigQuiet
import Derived.Test.YtljjpdjknnhceaaDoorJRHld0
set_option linter.unusedVariables false
set_option linter.unusedSimpArgs false
/- ring.checked walked. -/
set_option linter.unusedVariables false
set_option linter.unusedSimpArgs false
namespace Go.Proofs.YtljjpdjknnhceaaDoor.Chkd
open Go.RowKit Go.Proofs.YtljjpdjknnhceaaDoorW.PrintWords Go.Proofs.YtljjpdjknnhceaaDoorW.PrintLast Go.Proofs.YtljjpdjknnhceaaDoorW.PrintMore
open Go.Proofs.YtljjpdjknnhceaaDoor.Base Go.Proofs.YtljjpdjknnhceaaDoor.RingPure Go.Proofs.YtljjpdjknnhceaaDoor.ChkPure Go.Proofs.YtljjpdjknnhceaaDoor.Clus Go.Proofs.YtljjpdjknnhceaaDoor.Sort Go.Proofs.YtljjpdjknnhceaaDoor.Sets Go.Proofs.YtljjpdjknnhceaaDoor.Homes Go.Proofs.YtljjpdjknnhceaaDoor.Name Go.Proofs.YtljjpdjknnhceaaDoor.Mids
/-- what checked tells -/
def chkC (c : Cl) (ns : List Nd) : Int × List Int := chk (nmB c.store) c ns
def CheckedPost (c : Cl) (ns : List Nd) (w : World) (e : Ending) (w' : World) : Prop := Below w.heap.size w w' ∧
  (((chkC c ns).1 ≠ 0 ∧ e = .returned (.tuple #[.slice none 0 0, .int .i64 (chkC c ns).1])) ∨
   ∃ g, (chkC c ns).1 = 0 ∧ e = .returned (.tuple #[.slice (some ⟨g, 0, none⟩) (chkC c ns).2.length (chkC c ns).2.length, .int .i64 0]) ∧ w.heap.size ≤ g ∧ RowI w' g (chkC c ns).2)
theorem post_bad {c : Cl} {ns : List Nd} {w w' : World} {code : Int} (h : (chkC c ns).1 = code) (h0 : code ≠ 0) (hb : Below w.heap.size w w') : CheckedPost c ns w (.returned (.tuple #[.slice none 0 0, .int .i64 code])) w' := by
  subst h
  exact ⟨hb, .inl ⟨h0, rfl⟩⟩
theorem post_good {c : Cl} {ns : List Nd} {w w' : World} {h : List Int} {g : Nat} (e : chkC c ns = (0, h)) (hb : Below w.heap.size w w') (hg : w.heap.size ≤ g) (hr : RowI w' g h) : CheckedPost c ns w (.returned (.tuple #[.slice (some ⟨g, 0, none⟩) h.length h.length, .int .i64 0])) w' :=
  ⟨hb, .inr ⟨g, by rw [e], by rw [e], hg, by rw [e]; exact hr⟩⟩
theorem setB_false {c : Cl} {k : Nat} (hk : k < 21) (h : setAt c k = false) : setB c = false := by
  unfold setB
  rw [Bool.and_eq_false_iff]
  left
  rw [List.all_eq_false]
  exact ⟨k, List.mem_range.2 hk, by rw [h]; decide⟩
theorem setB_eq {c : Cl} (h : ∀ i, i < 21 → setAt c i = true) : setB c = (decide (c.block ≤ c.burst) && decide (c.base ≤ c.most)) := by
  unfold setB
  rw [List.all_eq_true.2 (fun i hi => h i (List.mem_range.1 hi)), Bool.true_and]
theorem zoned_take (ns : List Nd) (k : Nat) (n : Nd) (h : ns[k]? = some n) (hz : wiB n.1 0 7 = false) : zoned ns = false := by
  unfold zoned
  rw [List.all_eq_false]
  exact ⟨n, List.mem_of_getElem? h, by unfold wiB at hz; rw [hz]; decide⟩
theorem infoC23 : (Tryd.prog.info? 24).map (·.size) = some 23 := by kernel_rfl
theorem mul_b {a b A B : Int} (h0 : 0 ≤ a) (h1 : a ≤ A) (h2 : 0 ≤ b) (h3 : b ≤ B) (hA : 0 ≤ A) : 0 ≤ a * b ∧ a * b ≤ A * B :=
  ⟨Int.mul_nonneg h0 h2, Int.le_trans (Int.mul_le_mul_of_nonneg_right h1 h2) (Int.mul_le_mul_of_nonneg_left h3 hA)⟩
theorem prods {c : Cl} {n : Nat} (hn : n ≤ 64) (hr : 1 ≤ c.replicas ∧ c.replicas ≤ 16) (hk : 1 ≤ c.chunks ∧ c.chunks ≤ 16) : wrap64 ((n : Int) * c.replicas) = (n : Int) * c.replicas ∧ wrap64 ((n : Int) * c.replicas * c.chunks) = (n : Int) * c.replicas * c.chunks := by
  have h1 := mul_b (a := (n : Int)) (b := c.replicas) (A := 64) (B := 16) (by omega) (by omega) (by omega) (by omega) (by decide)
  have h2 := mul_b (a := (n : Int) * c.replicas) (b := c.chunks) (A := 1024) (B := 16) h1.1 (by omega) (by omega) (by omega) (by decide)
  exact ⟨w64 _ (by omega) (by omega), w64 _ (by omega) (by omega)⟩
theorem infoT4 : (Tryd.prog.info? 122).map (·.size) = some 4 := by kernel_rfl
/-- a setting as a value -/
def sV (wd : ByteArray) (lo hi : Int) (K : Nat) : List Value := [.string wd, .int .i64 lo, .int .i64 hi, .func (.func K) #[] #[]]
theorem set_one (wd : ByteArray) (lo hi : Int) (K : Nat) : ∀ u ∈ sV wd lo hi K, u.oneCell' = true := by simp [sV, Value.oneCell']
theorem set_there (W : World) : (W.alloc (.cells #[.string { data := #[] }, .int .i64 0, .int .i64 0, .nilFunc] 122)).there W.heap.size 0 4 :=
  blk_there (cs := [.string { data := #[] }, .int .i64 0, .int .i64 0, .nilFunc]) (Go.heap_alloc_new W _)
theorem set_new (W : World) (wd : ByteArray) (lo hi : Int) (K : Nat) : ((W.alloc (.cells #[.string { data := #[] }, .int .i64 0, .int .i64 0, .nilFunc] 122)).setCells W.heap.size 0 (sV wd lo hi K)).heap[W.heap.size]? = some (.cells (sV wd lo hi K).toArray 122 (0, 0)) :=
  setCells_whole (old := [.string { data := #[] }, .int .i64 0, .int .i64 0, .nilFunc]) (Go.heap_alloc_new W _) rfl
theorem set_below (W : World) (wd : ByteArray) (lo hi : Int) (K : Nat) : Below W.heap.size W ((W.alloc (.cells #[.string { data := #[] }, .int .i64 0, .int .i64 0, .nilFunc] 122)).setCells W.heap.size 0 (sV wd lo hi K)) :=
  below_setCells ((Below.refl _ _).alloc (Nat.le_refl _) _) (Nat.le_refl _) _ _
set_option maxRecDepth 100000 in
set_option maxHeartbeats 8000000 in
theorem checked_any (c : Cl) (A : Option Addr) (cap : Nat) (ns : List Nd) (w : World) (hN : NodesAt w A ns) (hcap : ns.length ≤ cap) (hs : c.store.size ≤ 2147483647) (hl : ns.length ≤ 1099511627776) (hc : cnt ns ≤ 1099511627776) :
    Calls Tryd.prog 45 #[.agg (cL c (.slice A ns.length cap)).toArray] w (CheckedPost c ns w) := by
  have hb0 := (Below.refl w.heap.size w).alloc (Nat.le_refl _) (.cells (cL c (.slice A ns.length cap)).toArray 24)
  have HN := Aside0.mk (hN.below hb0)
  have HB := Aside0.mk hb0
  have HC : Aside0 (CBox (w.alloc (.cells (cL c (.slice A ns.length cap)).toArray 24)) w.heap.size c (.slice A ns.length cap)) := ⟨⟨Go.heap_alloc_new w _⟩⟩
  have hc0 : (w.alloc (.cells (cL c (.slice A ns.length cap)).toArray 24)).cell? ⟨w.heap.size, 0, none⟩ = some (.string c.store) := HC.out.c 0
  clear hN hb0
  go_enter Tryd.func45, Tryd.ntmps45
  go_wp2_with fail
  refine (name_any c.store _ hs).mono ?_
  rintro e w2 ⟨rfl, hb⟩
  have HB2 := Aside0.mk (HB.out.trans (hb.mono HB.out.size))
  have HN2 := Aside0.mk (HN.out.below hb)
  have HC2 := Aside0.mk (HC.out.below hb HC.out.lt)
  clear hb HB HN HC hc0
  by_cases hnm : nmB c.store = true
  · rw [hnm]
    have HNM := Aside0.mk hnm
    clear hnm
    go_wp2_with fail
    refine (settings_any w2).mono ?_
    rintro e w3 ⟨rfl, hw⟩
    have hb : Below w2.heap.size w2 w3 := by rw [hw]; exact (Below.refl _ _).alloc (Nat.le_refl _) _
    have HS : Aside0 (w3.heap[w2.heap.size]? = some (.cells setL.toArray 122 (0, 0))) := ⟨by rw [hw]; exact Go.heap_alloc_new _ _⟩
    have HB3 := Aside0.mk (HB2.out.trans (hb.mono HB2.out.size))
    have HN3 := Aside0.mk (HN2.out.below hb)
    have HC3 := Aside0.mk (HC2.out.below hb HC2.out.lt)
    clear hb hw HB2 HN2 HC2
    generalize w2.heap.size = g2 at HS ⊢
    generalize w.heap.size = gc at HC3 ⊢
    go_wp2_with fail
    go_loopw [5, 17] (fun _ v17 wr => ∃ k : Nat, k ≤ 21 ∧ v17 = .int .i64 (k : Nat) ∧ Aside0 (Below w3.heap.size w3 wr) ∧ Aside0 (∀ i, i < k → setAt c i = true)) (fun _ v17 _ => 21 - (intOf v17).toNat)
    case atStart => exact ⟨0, Nat.zero_le _, rfl, ⟨Below.refl _ _⟩, ⟨fun i hi => absurd hi (Nat.not_lt_zero i)⟩⟩
    case round =>
      obtain ⟨k, hk, rfl, HR, HA⟩ := hrel
      obtain ⟨wo, rfl⟩ : ∃ wo : World, wo = wr := ⟨_, rfl⟩
      by_cases hlt : k < 21
      · have HS1 : Aside0 (wo.heap[g2]? = some (.cells setL.toArray 122 (0, 0))) := ⟨(HR.out.block _ (blk_lt HS.out)).trans HS.out⟩
        have HC1 := Aside0.mk (HC3.out.below HR.out HC3.out.lt)
        have hrow : ∀ i u, (setRow k)[i]? = some u → wo.cell? ⟨g2, k * 4 + i, none⟩ = some u := fun i u hu => by
          rw [blk_cell HS1.out, List.getElem?_toArray]; exact setL_at k hlt i u hu
        have HAT := Aside0.mk (at_any gc k hlt)
        have hd0 : wo.cell? ⟨g2, k * 4, none⟩ = some (.string (words.getD k ByteArray.empty)) := hrow 0 _ rfl
        have hd1 := hrow 1 _ rfl
        have hd2 := hrow 2 _ rfl
        have hd3 := hrow 3 _ rfl
        have hv : wo.cell? ⟨gc, k + 1, none⟩ = some (.int .i64 ((vals c).getD k 0)) := by
          rw [HC1.out.c]
          have : k = 0 ∨ k = 1 ∨ k = 2 ∨ k = 3 ∨ k = 4 ∨ k = 5 ∨ k = 6 ∨ k = 7 ∨ k = 8 ∨ k = 9 ∨ k = 10 ∨ k = 11 ∨ k = 12 ∨ k = 13 ∨ k = 14 ∨ k = 15 ∨ k = 16 ∨ k = 17 ∨ k = 18 ∨ k = 19 ∨ k = 20 := by omega
          rcases this with rfl | rfl | rfl | rfl | rfl | rfl | rfl | rfl | rfl | rfl | rfl | rfl | rfl | rfl | rfl | rfl | rfl | rfl | rfl | rfl | rfl <;> rfl
        have HSA : Aside0 (setAt c k = wiB ((vals c).getD k 0) (least k) (most.getD k 0)) := ⟨rfl⟩
        clear hrow HS1 HC1
        generalize (vals c).getD k 0 = x at hv HSA
        generalize least k = lo at hd1 HSA
        generalize most.getD k 0 = hi at hd2 HSA
        generalize words.getD k ByteArray.empty = wd at hd0
        generalize atF.getD k 0 = K at hd3 HAT
        have eK := HAT.out.1
        have cK := Aside0.mk HAT.out.2
        clear HAT
        have hth := set_there wo
        have HX := Aside0.mk (set_new wo wd lo hi K)
        have HR4 := Aside0.mk (set_below wo wd lo hi K)
        have hone := all_oneCell_toArray (set_one wd lo hi K)
        go_upto_region 6 with ((with_reducible refine gate_store (ty := 122) (x := .tmp 5) (y := .tmp 20) rfl ?_); go_loud (refine wpList_store_mid rfl 122 (.tmp 5) (.tmp 20) rfl wo.heap.size 0 (sV wd lo hi K).toArray rfl rfl hth infoT4 hone ?_))
        clear hth hone
        have HR5 := Aside0.mk (HR.out.trans (HR4.out.mono HR.out.size))
        have hx0 : (((wo.alloc (.cells #[.string { data := #[] }, .int .i64 0, .int .i64 0, .nilFunc] 122)).setCells wo.heap.size 0 (sV wd lo hi K)).cell? ⟨gc, k + 1, none⟩) = some (.int .i64 x) := cell_below HR4.out (Nat.le_refl _) hv
        generalize (wo.alloc (.cells #[.string { data := #[] }, .int .i64 0, .int .i64 0, .nilFunc] 122)).setCells wo.heap.size 0 (sV wd lo hi K) = w5 at HX HR5 hx0 ⊢
        clear HR4 hd0 hd1 hd2 hd3 hv
        generalize wo.heap.size = g5 at HX ⊢
        have hy1 : w5.cell? ⟨g5, 1, none⟩ = some (.int .i64 lo) := by rw [blk_cell HX.out]; rfl
        have hy2 : w5.cell? ⟨g5, 2, none⟩ = some (.int .i64 hi) := by rw [blk_cell HX.out]; rfl
        have hy3 : w5.cell? ⟨g5, 3, none⟩ = some (.func (.func K) #[] #[]) := by rw [blk_cell HX.out]; rfl
        have hwi := fun W => Aside0.mk (within_any x lo hi W)
        go_quiet (first | (go_at_fn K; exact Calls.quiet_of_same ((cK.out _).mono fun e w' h => ⟨h.1, h.2.symm⟩)) | (go_at_call 50; exact Calls.quiet_of ((hwi _).out.mono fun e w' h => ⟨h.1, h.2.out⟩)))
        clear eK cK hwi hy1 hy2 hy3 hx0 HX
        have HR6 : Aside0 (Below w3.heap.size w3 (w5.drewN nq)) := ⟨pw_below_drewN HR5.out _⟩
        generalize w5.drewN nq = w6 at HR6 ⊢
        clear HR5 HR
        rw [← HSA.out]
        by_cases hsa : setAt c k = true
        · rw [hsa]
          have HSK := Aside0.mk hsa
          clear hsa HSA
          go_wp2_with fail
          go_roundw
          case rel =>
            refine ⟨k + 1, by omega, by go_num, HR6, ⟨fun i hi => ?_⟩⟩
            by_cases e : i = k
            · rw [e]; exact HSK.out
            · exact HA.out i (by omega)
          case measure => simp [intOf]; omega
        · have hsf : setAt c k = false := by simpa using hsa
          rw [hsf]
          have HNO : Aside0 ((chkC c ns).1 = 64) := ⟨by unfold chkC chk; rw [if_neg (by rw [HNM.out]; decide), if_pos (setB_false hlt hsf)]⟩
          clear hsa hsf HSA
          go_wp2_with fail
          go_ret2
          exact post_bad HNO.out (by decide) (HB3.out.trans (HR6.out.mono HB3.out.size))
      · obtain rfl : k = 21 := by omega
        have HSB := Aside0.mk (setB_eq HA.out)
        have HC1 := Aside0.mk (HC3.out.below HR.out HC3.out.lt)
        have h5 : wo.cell? ⟨gc, 5, none⟩ = some (.int .i64 c.block) := HC1.out.c 5
        have h8 : wo.cell? ⟨gc, 8, none⟩ = some (.int .i64 c.burst) := HC1.out.c 8
        have h10 : wo.cell? ⟨gc, 10, none⟩ = some (.int .i64 c.base) := HC1.out.c 10
        have h11 : wo.cell? ⟨gc, 11, none⟩ = some (.int .i64 c.most) := HC1.out.c 11
        have h22 : wo.cell? ⟨gc, 22, none⟩ = some (.slice A ns.length cap) := HC1.out.c 22
        clear HA hlt hk
        by_cases hb1 : c.block ≤ c.burst
        · have g1 : ¬ c.burst < c.block := by omega
          by_cases hb2 : c.base ≤ c.most
          · have g2 : ¬ c.most < c.base := by omega
            have HSET : Aside0 (setB c = true) := ⟨by rw [HSB.out, decide_eq_true hb1, decide_eq_true hb2]; rfl⟩
            clear hb1 hb2 HSB
            go_wp2_with fail
            refine (within_any _ _ _ _).mono ?_
            rintro e w4 ⟨rfl, hd⟩
            have HR4 := Aside0.mk (HR.out.trans (hd.below.mono HR.out.size))
            clear hd HR HC1 h5 h8 h10 h11 h22 g1 g2
            by_cases hlen : 1 ≤ ns.length ∧ ns.length ≤ 16
            · have hwi : wiB (ns.length : Int) 1 16 = true := by unfold wiB; rw [decide_eq_true (by omega), decide_eq_true (by omega)]; rfl
              rw [hwi]
              have HLEN := Aside0.mk hlen
              have h22 : w4.cell? ⟨gc, 22, none⟩ = some (.slice A ns.length cap) := (HC3.out.below HR4.out HC3.out.lt).c 22
              clear hwi hlen
              go_wp2_with fail
              clear h22
              go_loopw [6, 8, 53] (fun v6 _ v53 wr => ∃ i : Nat, i ≤ ns.length ∧ v6 = .int .i64 (full (ns.take i) : Nat) ∧ v53 = .int .i64 (i : Nat) ∧ Aside0 (Below w3.heap.size w3 wr) ∧ Aside0 (∀ j n, j < i → ns[j]? = some n → wiB n.1 0 7 = true)) (fun _ _ v53 _ => ns.length - (intOf v53).toNat)
              case atStart => exact ⟨0, Nat.zero_le _, rfl, rfl, HR4, ⟨fun j n hj => absurd hj (Nat.not_lt_zero j)⟩⟩
              case round =>
                clear HR4
                obtain ⟨i, hi, rfl, rfl, HR, HZ⟩ := hrel
                obtain ⟨wo, rfl⟩ : ∃ wo : World, wo = wr := ⟨_, rfl⟩
                by_cases hlt : i < ns.length
                · obtain ⟨n, hn⟩ : ∃ n, ns[i]? = some n := ⟨_, List.getElem?_eq_getElem hlt⟩
                  obtain ⟨b, o, rfl, hz0, B, cp, hp0, hcp, hnm⟩ := HN3.out.get hn
                  have hz := cell_below HR.out (Nat.le_refl _) hz0
                  have hp := cell_below HR.out (Nat.le_refl _) hp0
                  have hb1 : Below wo.heap.size wo (wo.alloc (.cells #[.int .i64 n.1, .slice B n.2.length cp] 56)) := (Below.refl _ _).alloc (Nat.le_refl _) _
                  have HR1 := Aside0.mk (HR.out.trans (hb1.mono HR.out.size))
                  have HP0 : Aside0 ((wo.alloc (.cells #[.int .i64 n.1, .slice B n.2.length cp] 56)).cell? ⟨wo.heap.size, 1, none⟩ = some (.slice B n.2.length cp)) := ⟨by rw [cell_of_row _ _ _ _ _ _ (Go.heap_alloc_new wo _)]; rfl⟩
                  have HBL := Aside0.mk (show wo.heap.size < (wo.alloc (.cells #[.int .i64 n.1, .slice B n.2.length cp] 56)).heap.size by simp)
                  have HFS := Aside0.mk (full_snoc ns i n hn)
                  have hfl : full (ns.take i) ≤ i := by have := full_le (ns.take i); rw [List.length_take] at this; omega
                  have HNI := Aside0.mk hn
                  clear hz0 hp0 hb1 hn
                  go_wp2_with fail
                  refine (within_any _ _ _ _).mono ?_
                  rintro e w5 ⟨rfl, hd⟩
                  have hbd := hd.below
                  have HR5 := Aside0.mk (HR1.out.trans (hbd.mono HR1.out.size))
                  have hp5 : w5.cell? ⟨wo.heap.size, 1, none⟩ = some (.slice B n.2.length cp) := (World.cell?_of_block (hbd.block _ HBL.out)).trans HP0.out
                  clear hd hbd hz hp HR1 HP0 HBL HR
                  by_cases hw : wiB n.1 0 7 = true
                  · rw [hw]
                    have HW := Aside0.mk hw
                    clear hw
                    have HZ1 : Aside0 (∀ j m, j < i + 1 → ns[j]? = some m → wiB m.1 0 7 = true) := ⟨fun j m hj hm => by
                      by_cases e : j = i
                      · rw [e, HNI.out] at hm
                        injection hm with hm
                        rw [← hm]; exact HW.out
                      · exact HZ.out j m (by omega) hm⟩
                    by_cases hpl : 0 < n.2.length
                    · have HF1 : Aside0 (full (ns.take (i + 1)) = full (ns.take i) + 1) := ⟨by rw [HFS.out, if_pos hpl]⟩
                      go_wp2_with fail
                      go_roundw
                      case rel => exact ⟨i + 1, by omega, by rw [HF1.out]; go_num, by go_num, HR5, HZ1⟩
                      case measure => simp [intOf]; omega
                    · have HF1 : Aside0 (full (ns.take (i + 1)) = full (ns.take i)) := ⟨by rw [HFS.out, if_neg hpl]; rfl⟩
                      go_wp2_with fail
                      go_roundw
                      case rel => exact ⟨i + 1, by omega, by rw [HF1.out], by go_num, HR5, HZ1⟩
                      case measure => simp [intOf]; omega
                  · have hwf : wiB n.1 0 7 = false := by simpa using hw
                    rw [hwf]
                    have HNO : Aside0 ((chkC c ns).1 = 65) := ⟨by unfold chkC chk; rw [if_neg (by rw [HNM.out]; decide), if_neg (by rw [HSET.out]; decide), if_neg (by have := HLEN.out; omega), if_pos (zoned_take ns i n HNI.out hwf)]⟩
                    clear hw hwf
                    go_wp2_with fail
                    go_ret2
                    exact post_bad HNO.out (by decide) (HB3.out.trans (HR5.out.mono HB3.out.size))
                · obtain rfl : i = ns.length := by omega
                  rw [List.take_length]
                  have HZO : Aside0 (zoned ns = true) := ⟨by
                    unfold zoned
                    rw [List.all_eq_true]
                    intro m hm
                    obtain ⟨j, hj, e⟩ := List.getElem_of_mem hm
                    have := HZ.out j m hj (by rw [List.getElem?_eq_getElem hj, e])
                    exact this⟩
                  have HC1 := Aside0.mk (HC3.out.below HR.out HC3.out.lt)
                  have hrg : wo.rangeAt gc 0 (cL c (.slice A ns.length cap)) := blk_range HC1.out.row
                  have hfl : full ns ≤ 16 := by have := full_le ns; have := HLEN.out; omega
                  clear hlt hi HZ
                  go_wp2_with ((with_reducible refine gate_load (ty := 24) (x := .tmp 1) rfl ?_); refine wpList_load_mid rfl 24 (.tmp 1) rfl gc 0 rfl (cL c (.slice A ns.length cap)) _ hrg Tryd.underlying24 rfl infoC23 ?_)
                  clear hrg
                  refine (homes_any c A cap ns wo (HN3.out.below HR.out) hcap hl hc).mono ?_
                  rintro e w7 ⟨hb, hcase⟩
                  have HR7 := Aside0.mk (HR.out.trans (hb.mono HR.out.size))
                  have HC7 := Aside0.mk (HC1.out.below hb HC1.out.lt)
                  have HSZ := Aside0.mk (Nat.le_trans HB3.out.size HR.out.size)
                  clear hb HR HC1
                  rcases hcase with ⟨hno, rfl⟩ | ⟨h, g, hso, rfl, hg, hrow⟩
                  · have HNO : Aside0 ((chkC c ns).1 = 66) := ⟨by unfold chkC chk; rw [if_neg (by rw [HNM.out]; decide), if_neg (by rw [HSET.out]; decide), if_neg (by have := HLEN.out; omega), if_neg (by rw [HZO.out]; decide), hno]⟩
                    clear hno
                    go_wp2_with fail
                    go_ret2
                    exact post_bad HNO.out (by decide) (HB3.out.trans (HR7.out.mono HB3.out.size))
                  · have HCH : Aside0 (chkC c ns = if (full ns : Int) < c.replicas then (67, []) else if 512 < (cnt ns : Int) * c.replicas * c.chunks then (3, []) else (0, h)) := ⟨by unfold chkC chk; rw [if_neg (by rw [HNM.out]; decide), if_neg (by rw [HSET.out]; decide), if_neg (by have := HLEN.out; omega), if_neg (by rw [HZO.out]; decide), hso]⟩
                    obtain ⟨hde, hhl, _⟩ := homes_some hso
                    have hb6 := setAt_bounds HSET.out
                    have HG := Aside0.mk hg
                    have HROW := Aside0.mk hrow
                    have h1 : w7.cell? ⟨gc, 1, none⟩ = some (.int .i64 c.replicas) := HC7.out.c 1
                    have h3 : w7.cell? ⟨gc, 3, none⟩ = some (.int .i64 c.chunks) := HC7.out.c 3
                    have hP := prods (c := c) (n := cnt ns) hde.2.1 ⟨hb6.1, hb6.2.1⟩ ⟨hb6.2.2.1, hb6.2.2.2.1⟩
                    have HHL := Aside0.mk hhl
                    rw [← hhl] at hP
                    obtain ⟨P1, hP1⟩ : ∃ P1, P1 = (h.length : Int) * c.replicas := ⟨_, rfl⟩
                    obtain ⟨P2, hP2⟩ : ∃ P2, P2 = P1 * c.chunks := ⟨_, rfl⟩
                    have hw1 : wrap64 ((h.length : Int) * c.replicas) = P1 := by rw [hP.1, hP1]
                    have hw2 : wrap64 (P1 * c.chunks) = P2 := by rw [hP2, hP1]; exact hP.2
                    have HP := Aside0.mk (show P2 = (cnt ns : Int) * c.replicas * c.chunks by rw [hP2, hP1, hhl])
                    clear hP
                    clear hso hde hhl hg hrow hP1 hP2
                    by_cases hr : (full ns : Int) < c.replicas
                    · have HNO : Aside0 ((chkC c ns).1 = 67) := ⟨by rw [HCH.out, if_pos hr]⟩
                      go_wp2_with fail
                      go_ret2
                      exact post_bad HNO.out (by decide) (HB3.out.trans (HR7.out.mono HB3.out.size))
                    · by_cases hq : 512 < P2
                      · have HNO : Aside0 ((chkC c ns).1 = 3) := ⟨by rw [HCH.out, if_neg hr, if_pos (by rw [← HP.out]; exact hq)]⟩
                        go_wp2_with fail
                        go_ret2
                        exact post_bad HNO.out (by decide) (HB3.out.trans (HR7.out.mono HB3.out.size))
                      · have HNO : Aside0 (chkC c ns = (0, h)) := ⟨by rw [HCH.out, if_neg hr, if_neg (by rw [← HP.out]; exact hq)]⟩
                        go_wp2_with fail
                        go_ret2
                        exact post_good HNO.out (HB3.out.trans (HR7.out.mono HB3.out.size)) (Nat.le_trans HSZ.out HG.out) HROW.out
            · have hwi : wiB (ns.length : Int) 1 16 = false := by
                unfold wiB
                by_cases h1 : (1 : Int) ≤ (ns.length : Int)
                · rw [decide_eq_true h1, decide_eq_false (by omega)]; rfl
                · rw [decide_eq_false h1]; rfl
              rw [hwi]
              have HNO : Aside0 ((chkC c ns).1 = 65) := ⟨by unfold chkC chk; rw [if_neg (by rw [HNM.out]; decide), if_neg (by rw [HSET.out]; decide), if_pos (by omega)]⟩
              clear hwi hlen
              go_wp2_with fail
              go_ret2
              exact post_bad HNO.out (by decide) (HB3.out.trans (HR4.out.mono HB3.out.size))
          · have HNO : Aside0 ((chkC c ns).1 = 64) := ⟨by unfold chkC chk; rw [if_neg (by rw [HNM.out]; decide), if_pos (by rw [HSB.out, decide_eq_false hb2, Bool.and_false])]⟩
            have g2 : c.most < c.base := by omega
            clear hb2
            go_wp2_with fail
            go_ret2
            exact post_bad HNO.out (by decide) (HB3.out.trans (HR.out.mono HB3.out.size))
        · have HNO : Aside0 ((chkC c ns).1 = 64) := ⟨by unfold chkC chk; rw [if_neg (by rw [HNM.out]; decide), if_pos (by rw [HSB.out, decide_eq_false hb1, Bool.false_and])]⟩
          have g1 : c.burst < c.block := by omega
          clear hb1
          go_wp2_with fail
          go_ret2
          exact post_bad HNO.out (by decide) (HB3.out.trans (HR.out.mono HB3.out.size))
  · have hnf : nmB c.store = false := by simpa using hnm
    rw [hnf]
    have HNO : Aside0 ((chkC c ns).1 = 63) := ⟨by unfold chkC chk; rw [if_pos hnf]⟩
    clear hnm hnf
    go_wp2_with fail
    go_ret2
    exact post_bad HNO.out (by decide) HB2.out
end Go.Proofs.YtljjpdjknnhceaaDoor.Chkd

/- The document's settings: all in a row; are they within their limits. -/
set_option linter.unusedVariables false
set_option linter.unusedSimpArgs false
namespace Go.Proofs.YtljjpdjknnhceaaDoor.Ref6
open Go.RowKit Go.Proofs.YtljjpdjknnhceaaDoorW.PrintWords Go.Proofs.YtljjpdjknnhceaaDoorW.PrintLast Go.Proofs.YtljjpdjknnhceaaDoorW.PrintMore
open Go.Proofs.YtljjpdjknnhceaaDoor.Base Go.Proofs.YtljjpdjknnhceaaDoor.RingPure Go.Proofs.YtljjpdjknnhceaaDoor.ChkPure Go.Proofs.YtljjpdjknnhceaaDoor.Clus Go.Proofs.YtljjpdjknnhceaaDoor.Mids Go.Proofs.YtljjpdjknnhceaaDoor.Chkd
def valL (c : Cl) : List Value := [.int .i64 c.replicas, .int .i64 c.width, .int .i64 c.chunks, .int .i64 c.retain, .int .i64 c.block, .int .i64 c.rate, .int .i64 c.per, .int .i64 c.burst, .int .i64 c.tries, .int .i64 c.base, .int .i64 c.most, .int .i64 c.quota, .int .i64 c.room, .int .i64 c.depot, .int .i64 c.resend, .int .i64 c.limit, .int .i64 c.patience, .int .i64 c.getwait, .int .i64 c.strikes, .int .i64 c.ban, .int .i64 c.home]
theorem infoV : (Tryd.prog.info? 102).map (·.size) = some 21 := by kernel_rfl
theorem valL_one (c : Cl) : (valL c).toArray.all (·.oneCell') = true := all_oneCell_toArray (by simp [valL, Value.oneCell'])
theorem valL_at (c : Cl) (i : Nat) (h : i < 21) : (valL c)[i]? = some (.int .i64 ((vals c).getD i 0)) := by
  have : i = 0 ∨ i = 1 ∨ i = 2 ∨ i = 3 ∨ i = 4 ∨ i = 5 ∨ i = 6 ∨ i = 7 ∨ i = 8 ∨ i = 9 ∨ i = 10 ∨ i = 11 ∨ i = 12 ∨ i = 13 ∨ i = 14 ∨ i = 15 ∨ i = 16 ∨ i = 17 ∨ i = 18 ∨ i = 19 ∨ i = 20 := by omega
  rcases this with rfl | rfl | rfl | rfl | rfl | rfl | rfl | rfl | rfl | rfl | rfl | rfl | rfl | rfl | rfl | rfl | rfl | rfl | rfl | rfl | rfl <;> rfl
theorem z_there (W : World) : (W.alloc (.cells #[.int .i64 0, .int .i64 0, .int .i64 0, .int .i64 0, .int .i64 0, .int .i64 0, .int .i64 0, .int .i64 0, .int .i64 0, .int .i64 0, .int .i64 0, .int .i64 0, .int .i64 0, .int .i64 0, .int .i64 0, .int .i64 0, .int .i64 0, .int .i64 0, .int .i64 0, .int .i64 0, .int .i64 0] 102)).there W.heap.size 0 21 := blk_there (cs := [.int .i64 0, .int .i64 0, .int .i64 0, .int .i64 0, .int .i64 0, .int .i64 0, .int .i64 0, .int .i64 0, .int .i64 0, .int .i64 0, .int .i64 0, .int .i64 0, .int .i64 0, .int .i64 0, .int .i64 0, .int .i64 0, .int .i64 0, .int .i64 0, .int .i64 0, .int .i64 0, .int .i64 0]) (Go.heap_alloc_new W _)
theorem z_new (W : World) (c : Cl) : ((W.alloc (.cells #[.int .i64 0, .int .i64 0, .int .i64 0, .int .i64 0, .int .i64 0, .int .i64 0, .int .i64 0, .int .i64 0, .int .i64 0, .int .i64 0, .int .i64 0, .int .i64 0, .int .i64 0, .int .i64 0, .int .i64 0, .int .i64 0, .int .i64 0, .int .i64 0, .int .i64 0, .int .i64 0, .int .i64 0] 102)).setCells W.heap.size 0 (valL c)).heap[W.heap.size]? = some (.cells (valL c).toArray 102 (0, 0)) :=
  setCells_whole (old := [.int .i64 0, .int .i64 0, .int .i64 0, .int .i64 0, .int .i64 0, .int .i64 0, .int .i64 0, .int .i64 0, .int .i64 0, .int .i64 0, .int .i64 0, .int .i64 0, .int .i64 0, .int .i64 0, .int .i64 0, .int .i64 0, .int .i64 0, .int .i64 0, .int .i64 0, .int .i64 0, .int .i64 0]) (Go.heap_alloc_new W _) rfl
theorem z_below (W : World) (c : Cl) : Below W.heap.size W ((W.alloc (.cells #[.int .i64 0, .int .i64 0, .int .i64 0, .int .i64 0, .int .i64 0, .int .i64 0, .int .i64 0, .int .i64 0, .int .i64 0, .int .i64 0, .int .i64 0, .int .i64 0, .int .i64 0, .int .i64 0, .int .i64 0, .int .i64 0, .int .i64 0, .int .i64 0, .int .i64 0, .int .i64 0, .int .i64 0] 102)).setCells W.heap.size 0 (valL c)) :=
  below_setCells ((Below.refl _ _).alloc (Nat.le_refl _) _) (Nat.le_refl _) _ _
/-- the world in which Values fills its row -/
structure VW (c : Cl) (nv : Value) (w w1 : World) : Prop where mk ::
  (box : CBox w1 w.heap.size c nv) (there : w1.there (w.heap.size + 1) 0 21)
  (new : (w1.setCells (w.heap.size + 1) 0 (valL c)).heap[w.heap.size + 1]? = some (.cells (valL c).toArray 102 (0, 0)))
  (bel : Below w.heap.size w (w1.setCells (w.heap.size + 1) 0 (valL c)))
theorem vw_of (c : Cl) (nv : Value) (w : World) : VW c nv w ((w.alloc (.cells (cL c nv).toArray 24)).alloc (.cells #[.int .i64 0, .int .i64 0, .int .i64 0, .int .i64 0, .int .i64 0, .int .i64 0, .int .i64 0, .int .i64 0, .int .i64 0, .int .i64 0, .int .i64 0, .int .i64 0, .int .i64 0, .int .i64 0, .int .i64 0, .int .i64 0, .int .i64 0, .int .i64 0, .int .i64 0, .int .i64 0, .int .i64 0] 102)) := by
  obtain ⟨w0, hw0⟩ : ∃ w0, w0 = w.alloc (.cells (cL c nv).toArray 24) := ⟨_, rfl⟩
  rw [← hw0]
  have hb0 : Below w.heap.size w w0 := by rw [hw0]; exact (Below.refl _ _).alloc (Nat.le_refl _) _
  have hs0 : w0.heap.size = w.heap.size + 1 := by rw [hw0]; simp
  have hb1 : Below w0.heap.size w0 (w0.alloc (.cells #[.int .i64 0, .int .i64 0, .int .i64 0, .int .i64 0, .int .i64 0, .int .i64 0, .int .i64 0, .int .i64 0, .int .i64 0, .int .i64 0, .int .i64 0, .int .i64 0, .int .i64 0, .int .i64 0, .int .i64 0, .int .i64 0, .int .i64 0, .int .i64 0, .int .i64 0, .int .i64 0, .int .i64 0] 102)) := (Below.refl _ _).alloc (Nat.le_refl _) _
  have hc : CBox w0 w.heap.size c nv := ⟨by rw [hw0]; exact Go.heap_alloc_new w _⟩
  refine ⟨hc.below hb1 hc.lt, ?_, ?_, ?_⟩
  · rw [← hs0]; exact z_there w0
  · rw [← hs0]; exact z_new w0 c
  · exact hb0.trans (by rw [← hs0]; exact (z_below w0 c).mono hb0.size)
theorem valL_range (w : World) (g : Nat) (c : Cl) (h : w.heap[g]? = some (.cells (valL c).toArray 102 (0, 0))) : w.rangeAt g 0 (valL c) := blk_range h
set_option maxRecDepth 100000 in
set_option maxHeartbeats 4000000 in
theorem values_any (c : Cl) (nv : Value) (w : World) : Calls Tryd.prog 68 #[.agg (cL c nv).toArray] w fun e w' => e = .returned (.agg (valL c).toArray) ∧ Below w.heap.size w w' := by
  have HV := Aside0.mk (vw_of c nv w)
  have hone := valL_one c
  go_enter Tryd.func68, Tryd.ntmps68
  go_upto_region 1 with fail
  generalize (w.alloc (.cells (cL c nv).toArray 24)).alloc (.cells #[.int .i64 0, .int .i64 0, .int .i64 0, .int .i64 0, .int .i64 0, .int .i64 0, .int .i64 0, .int .i64 0, .int .i64 0, .int .i64 0, .int .i64 0, .int .i64 0, .int .i64 0, .int .i64 0, .int .i64 0, .int .i64 0, .int .i64 0, .int .i64 0, .int .i64 0, .int .i64 0, .int .i64 0] 102) = w1 at HV ⊢
  have g1 : w1.cell? ⟨w.heap.size, 1, none⟩ = some (.int .i64 c.replicas) := HV.out.box.c 1
  have g2 : w1.cell? ⟨w.heap.size, 2, none⟩ = some (.int .i64 c.width) := HV.out.box.c 2
  have g3 : w1.cell? ⟨w.heap.size, 3, none⟩ = some (.int .i64 c.chunks) := HV.out.box.c 3
  have g4 : w1.cell? ⟨w.heap.size, 4, none⟩ = some (.int .i64 c.retain) := HV.out.box.c 4
  have g5 : w1.cell? ⟨w.heap.size, 5, none⟩ = some (.int .i64 c.block) := HV.out.box.c 5
  have g6 : w1.cell? ⟨w.heap.size, 6, none⟩ = some (.int .i64 c.rate) := HV.out.box.c 6
  have g7 : w1.cell? ⟨w.heap.size, 7, none⟩ = some (.int .i64 c.per) := HV.out.box.c 7
  have g8 : w1.cell? ⟨w.heap.size, 8, none⟩ = some (.int .i64 c.burst) := HV.out.box.c 8
  have g9 : w1.cell? ⟨w.heap.size, 9, none⟩ = some (.int .i64 c.tries) := HV.out.box.c 9
  have g10 : w1.cell? ⟨w.heap.size, 10, none⟩ = some (.int .i64 c.base) := HV.out.box.c 10
  have g11 : w1.cell? ⟨w.heap.size, 11, none⟩ = some (.int .i64 c.most) := HV.out.box.c 11
  have g12 : w1.cell? ⟨w.heap.size, 12, none⟩ = some (.int .i64 c.quota) := HV.out.box.c 12
  have g13 : w1.cell? ⟨w.heap.size, 13, none⟩ = some (.int .i64 c.room) := HV.out.box.c 13
  have g14 : w1.cell? ⟨w.heap.size, 14, none⟩ = some (.int .i64 c.depot) := HV.out.box.c 14
  have g15 : w1.cell? ⟨w.heap.size, 15, none⟩ = some (.int .i64 c.resend) := HV.out.box.c 15
  have g16 : w1.cell? ⟨w.heap.size, 16, none⟩ = some (.int .i64 c.limit) := HV.out.box.c 16
  have g17 : w1.cell? ⟨w.heap.size, 17, none⟩ = some (.int .i64 c.patience) := HV.out.box.c 17
  have g18 : w1.cell? ⟨w.heap.size, 18, none⟩ = some (.int .i64 c.getwait) := HV.out.box.c 18
  have g19 : w1.cell? ⟨w.heap.size, 19, none⟩ = some (.int .i64 c.strikes) := HV.out.box.c 19
  have g20 : w1.cell? ⟨w.heap.size, 20, none⟩ = some (.int .i64 c.ban) := HV.out.box.c 20
  have g21 : w1.cell? ⟨w.heap.size, 21, none⟩ = some (.int .i64 c.home) := HV.out.box.c 21
  have ht := HV.out.there
  go_wp2_with ((with_reducible refine gate_store (ty := 102) (x := .tmp 2) (y := .tmp 45) rfl ?_); go_loud (refine wpList_store_mid rfl 102 (.tmp 2) (.tmp 45) rfl (w.heap.size + 1) 0 (valL c).toArray rfl rfl ht infoV hone ?_))
  have HN := Aside0.mk HV.out.new
  refine bodyPost_ret (results_c_mid rfl _ _ _ _ _ _ rfl (valL_range _ _ _ HN.out) Tryd.underlying102 rfl infoV) rfl ⟨rfl, HV.out.bel⟩
/-- the document's table of the greatest settings -/
def GTab (w : World) : Prop := ∀ i, i < 21 → w.cell? ⟨1, i, none⟩ = some (.int .i64 (most.getD i 0))
theorem GTab.below {w w1 : World} (h : GTab w) (hb : Below w.heap.size w w1) : GTab w1 := fun i hi => cell_below hb (Nat.le_refl _) (h i hi)
set_option maxRecDepth 100000 in
set_option maxHeartbeats 8000000 in
theorem set_any (c : Cl) (nv : Value) (w : World) (hG : GTab w) : Calls Tryd.prog 47 #[.agg (cL c nv).toArray] w fun e w' => e = .returned (.bool (setB c)) ∧ Below w.heap.size w w' := by
  have hb0 := (Below.refl w.heap.size w).alloc (Nat.le_refl _) (.cells (cL c nv).toArray 24)
  have HG := Aside0.mk (hG.below hb0)
  have HB := Aside0.mk hb0
  have HC : Aside0 (CBox (w.alloc (.cells (cL c nv).toArray 24)) w.heap.size c nv) := ⟨⟨Go.heap_alloc_new w _⟩⟩
  clear hG hb0
  go_enter Tryd.func47, Tryd.ntmps47
  go_upto_region 1 with fail
  generalize w.alloc (.cells (cL c nv).toArray 24) = w1 at HG HB HC ⊢
  have hrg := blk_range HC.out.row
  go_wp2_with ((with_reducible refine gate_load (ty := 24) (x := .tmp 1) rfl ?_); refine wpList_load_mid rfl 24 (.tmp 1) rfl w.heap.size 0 rfl (cL c nv) _ hrg Tryd.underlying24 rfl infoC23 ?_)
  clear hrg
  refine (values_any c nv w1).mono ?_
  rintro e w2 ⟨rfl, hb⟩
  have HG2 := Aside0.mk (HG.out.below hb)
  have HB2 := Aside0.mk (HB.out.trans (hb.mono HB.out.size))
  have HC2 := Aside0.mk (HC.out.below hb HC.out.lt)
  have ht := z_there w2
  have hone := valL_one c
  clear hb HG HB HC
  have hzb := z_below w2 c
  have HG3 := Aside0.mk (HG2.out.below hzb)
  have HB3 := Aside0.mk (HB2.out.trans (hzb.mono HB2.out.size))
  have HC3 := Aside0.mk (HC2.out.below hzb HC2.out.lt)
  have HV3 := Aside0.mk (z_new w2 c)
  clear hzb HG2 HB2 HC2
  go_upto_region 2 with ((with_reducible refine gate_store (ty := 102) (x := .tmp 3) (y := .tmp 6) rfl ?_); go_loud (refine wpList_store_mid rfl 102 (.tmp 3) (.tmp 6) rfl w2.heap.size 0 (valL c).toArray rfl rfl ht infoV hone ?_))
  clear ht hone
  generalize hw3 : (w2.alloc (.cells #[.int .i64 0, .int .i64 0, .int .i64 0, .int .i64 0, .int .i64 0, .int .i64 0, .int .i64 0, .int .i64 0, .int .i64 0, .int .i64 0, .int .i64 0, .int .i64 0, .int .i64 0, .int .i64 0, .int .i64 0, .int .i64 0, .int .i64 0, .int .i64 0, .int .i64 0, .int .i64 0, .int .i64 0] 102)).setCells w2.heap.size 0 (valL c) = w3 at HG3 HB3 HC3 HV3 ⊢
  generalize w2.heap.size = g3 at HV3 hw3 ⊢
  clear hw3
  have h5 : w3.cell? ⟨w.heap.size, 5, none⟩ = some (.int .i64 c.block) := HC3.out.c 5
  have h8 : w3.cell? ⟨w.heap.size, 8, none⟩ = some (.int .i64 c.burst) := HC3.out.c 8
  have h10 : w3.cell? ⟨w.heap.size, 10, none⟩ = some (.int .i64 c.base) := HC3.out.c 10
  have h11 : w3.cell? ⟨w.heap.size, 11, none⟩ = some (.int .i64 c.most) := HC3.out.c 11
  have H5 := Aside0.mk h5
  have H8 := Aside0.mk h8
  have H10 := Aside0.mk h10
  have H11 := Aside0.mk h11
  clear h5 h8 h10 h11
  go_wp2_with fail
  go_loopw [4] (fun v4 wr => ∃ i : Nat, i ≤ 21 ∧ v4 = .int .i64 (i : Nat) ∧ Aside0 (∃ n, wr = w3.drewN n) ∧ Aside0 (∀ j, j < i → setAt c j = true)) (fun v4 _ => 21 - (intOf v4).toNat)
  case atStart => exact ⟨0, Nat.zero_le _, rfl, ⟨⟨0, rfl⟩⟩, ⟨fun j hj => absurd hj (Nat.not_lt_zero j)⟩⟩
  case round =>
    obtain ⟨i, hi, rfl, HD, HA⟩ := hrel
    obtain ⟨⟨nd, rfl⟩⟩ := HD
    by_cases hlt : i < 21
    · have hv : w3.cell? ⟨g3, i, none⟩ = some (.int .i64 ((vals c).getD i 0)) := by rw [blk_cell HV3.out, List.getElem?_toArray]; exact valL_at c i hlt
      have hg := HG3.out i hlt
      have HSA : Aside0 (setAt c i = (decide (least i ≤ (vals c).getD i 0) && decide ((vals c).getD i 0 ≤ most.getD i 0))) := ⟨rfl⟩
      generalize (vals c).getD i 0 = x at hv HSA
      generalize most.getD i 0 = m at hg HSA
      have hle : least i = if i < 20 then 1 else 0 := rfl
      rw [hle] at HSA
      clear hle
      have stop : setAt c i = false → setB c = false := setB_false hlt
      have STOP := Aside0.mk stop
      clear stop
      by_cases h1 : x < 0
      · have HF : Aside0 (setB c = false) := ⟨STOP.out (by rw [HSA.out]; split <;> rw [decide_eq_false (by omega)] <;> rfl)⟩
        go_wp2_with fail
        go_quiet (fail)
        go_wp2_with fail
        go_ret
        exact ⟨by rw [HF.out]; rfl, HB3.out.trans ((pw_below_drewN (pw_below_drewN (Below.refl _ _) _) _).mono HB3.out.size)⟩
      · have d1 : decide (x < 0) = false := by simpa using h1
        by_cases h2 : m < x
        · have HF : Aside0 (setB c = false) := ⟨STOP.out (by rw [HSA.out, decide_eq_false (show ¬ x ≤ m by omega), Bool.and_false])⟩
          go_wp2_with fail
          go_quiet (fail)
          go_wp2_with fail
          go_ret
          exact ⟨by rw [HF.out]; rfl, HB3.out.trans ((pw_below_drewN (pw_below_drewN (Below.refl _ _) _) _).mono HB3.out.size)⟩
        · have d2 : decide (m < x) = false := by simpa using h2
          by_cases h3 : x = 0
          · have d3 : (x == 0) = true := by rw [h3]; rfl
            by_cases h4 : i < 20
            · have HF : Aside0 (setB c = false) := ⟨STOP.out (by rw [HSA.out, if_pos h4, decide_eq_false (by omega), Bool.false_and])⟩
              clear h3
              go_wp2_with fail
              go_quiet (fail)
              go_wp2_with fail
              go_ret
              exact ⟨by rw [HF.out]; rfl, HB3.out.trans ((pw_below_drewN (pw_below_drewN (Below.refl _ _) _) _).mono HB3.out.size)⟩
            · have d4 : decide ((i : Int) < 20) = false := by simp; omega
              have HT : Aside0 (setAt c i = true) := ⟨by rw [HSA.out, if_neg h4, decide_eq_true (by omega), decide_eq_true (by omega)]; rfl⟩
              clear h3
              go_wp2_with fail
              go_quiet (fail)
              go_wp2_with fail
              go_roundw
              case rel =>
                refine ⟨i + 1, by omega, by go_num, ⟨⟨_, rfl⟩⟩, ⟨fun j hj => ?_⟩⟩
                by_cases e : j = i
                · rw [e]; exact HT.out
                · exact HA.out j (by omega)
              case measure => simp [intOf]; omega
          · have d3 : (x == 0) = false := by simpa using h3
            have HT : Aside0 (setAt c i = true) := ⟨by rw [HSA.out, decide_eq_true (show x ≤ m by omega)]; split <;> rw [decide_eq_true (by omega)] <;> rfl⟩
            clear h3
            go_wp2_with fail
            go_quiet (fail)
            go_wp2_with fail
            go_roundw
            case rel =>
              refine ⟨i + 1, by omega, by go_num, ⟨⟨_, rfl⟩⟩, ⟨fun j hj => ?_⟩⟩
              by_cases e : j = i
              · rw [e]; exact HT.out
              · exact HA.out j (by omega)
            case measure => simp [intOf]; omega
    · obtain rfl : i = 21 := by omega
      have HSB := Aside0.mk (setB_eq HA.out)
      have h5 := H5.out
      have h8 := H8.out
      have h10 := H10.out
      have h11 := H11.out
      have hbd := HB3.out.trans ((pw_below_drewN (Below.refl w3.heap.size w3) nd).mono HB3.out.size)
      have HBD := Aside0.mk hbd
      clear HA hlt hi hbd
      by_cases hb1 : c.block ≤ c.burst
      · by_cases hb2 : c.base ≤ c.most
        · have HF : Aside0 (setB c = true) := ⟨by rw [HSB.out, decide_eq_true hb1, decide_eq_true hb2]; rfl⟩
          go_wp2_with fail
          go_ret
          exact ⟨by rw [HF.out]; rfl, HBD.out⟩
        · have HF : Aside0 (setB c = false) := ⟨by rw [HSB.out, decide_eq_false hb2, Bool.and_false]⟩
          go_wp2_with fail
          go_ret
          exact ⟨by rw [HF.out]; rfl, HBD.out⟩
      · have HF : Aside0 (setB c = false) := ⟨by rw [HSB.out, decide_eq_false hb1, Bool.false_and]⟩
        go_wp2_with fail
        go_ret
        exact ⟨by rw [HF.out]; rfl, HBD.out⟩
end Go.Proofs.YtljjpdjknnhceaaDoor.Ref6

/- The document counts: partitions, places; seeks a home. -/
set_option linter.unusedVariables false
set_option linter.unusedSimpArgs false
namespace Go.Proofs.YtljjpdjknnhceaaDoor.Count
open Go.RowKit Go.Proofs.YtljjpdjknnhceaaDoorW.PrintWords Go.Proofs.YtljjpdjknnhceaaDoorW.PrintLast Go.Proofs.YtljjpdjknnhceaaDoorW.PrintMore
open Go.Proofs.YtljjpdjknnhceaaDoor.Base Go.Proofs.YtljjpdjknnhceaaDoor.RingPure Go.Proofs.YtljjpdjknnhceaaDoor.ChkPure Go.Proofs.YtljjpdjknnhceaaDoor.Clus
theorem times_snoc (ns : List Nd) (k : Nat) (n : Nd) (p : Int) (h : ns[k]? = some n) : times (ns.take (k + 1)) p = times (ns.take k) p + n.2.count p := by
  unfold times
  rw [List.take_add_one, h, List.map_append, List.sum_append]
  simp
theorem count_snoc (l : List Int) (j : Nat) (x p : Int) (h : l[j]? = some x) : (l.take (j + 1)).count p = (l.take j).count p + if x = p then 1 else 0 := by
  rw [List.take_add_one, h, List.count_append]
  by_cases e : x = p
  · subst e; simp
  · rw [if_neg e]; simp [List.count_singleton, e]
theorem count_le' (l : List Int) (j : Nat) (p : Int) : (l.take j).count p ≤ l.length := Nat.le_trans List.count_le_length (by rw [List.length_take]; omega)
theorem times_le (ns : List Nd) (p : Int) : times ns p ≤ cnt ns := by
  rw [times_flat, ← flat_length]; exact List.count_le_length
theorem cnt_le_of (ns : List Nd) (k : Nat) (n : Nd) (h : ns[k]? = some n) : n.2.length ≤ cnt ns := by
  have h1 := cnt_snoc ns k n h
  have h2 := cnt_take ns (k + 1)
  omega
theorem drop_at {α : Type} (l : List α) (k : Nat) (x : α) (h : l[k]? = some x) : l.drop k = x :: l.drop (k + 1) := by
  obtain ⟨hl, e⟩ := List.getElem?_eq_some_iff.1 h
  rw [List.drop_eq_getElem_cons hl, e]
set_option maxRecDepth 100000 in
set_option maxHeartbeats 4000000 in
theorem parts_any (c : Cl) (A : Option Addr) (cap : Nat) (ns : List Nd) (w : World) (hN : NodesAt w A ns) (hcap : ns.length ≤ cap) (hl : ns.length ≤ 1099511627776) (hc : cnt ns ≤ 1099511627776) :
    Calls Tryd.prog 49 #[.agg (cL c (.slice A ns.length cap)).toArray] w fun e w' => e = .returned (.int .i64 (cnt ns : Nat)) ∧ Below w.heap.size w w' := by
  have hb0 := (Below.refl w.heap.size w).alloc (Nat.le_refl _) (.cells (cL c (.slice A ns.length cap)).toArray 24)
  have HN := Aside0.mk (hN.below hb0)
  have HB := Aside0.mk hb0
  have HC : Aside0 (CBox (w.alloc (.cells (cL c (.slice A ns.length cap)).toArray 24)) w.heap.size c (.slice A ns.length cap)) := ⟨⟨Go.heap_alloc_new w _⟩⟩
  have HCT := Aside0.mk (fun k => cnt_take ns k)
  clear hN hb0
  go_enter Tryd.func49, Tryd.ntmps49
  go_wp2_with fail
  generalize w.alloc (.cells (cL c (.slice A ns.length cap)).toArray 24) = w1 at HN HB HC ⊢
  have h22 : w1.cell? ⟨w.heap.size, 22, none⟩ = some (.slice A ns.length cap) := HC.out.c 22
  go_loop [3, 4] (fun v3 v4 => ∃ k : Nat, k ≤ ns.length ∧ v3 = .int .i64 (cnt (ns.take k) : Nat) ∧ v4 = .int .i64 (k : Nat)) (fun _ v4 => ns.length - (intOf v4).toNat)
  case atStart => exact ⟨0, Nat.zero_le _, rfl, rfl⟩
  case round =>
    obtain ⟨k, hk, rfl, rfl⟩ := hrel
    have hct := HCT.out k
    by_cases hlt : k < ns.length
    · obtain ⟨n, hn⟩ : ∃ n, ns[k]? = some n := ⟨_, List.getElem?_eq_getElem hlt⟩
      obtain ⟨b, o, rfl, hz, B, cp, hp, hcp, hnm⟩ := HN.out.get hn
      have hsn := cnt_snoc ns k n hn
      have hct1 := HCT.out (k + 1)
      have HSN := Aside0.mk hsn
      have hq : cnt (ns.take k) + n.2.length ≤ 1099511627776 := by omega
      clear hn hsn hct1 hnm
      go_wp2_with fail
      go_round
      case rel => exact ⟨k + 1, by omega, by rw [HSN.out]; go_num, by go_num⟩
      case measure => simp [intOf]; omega
    · obtain rfl : k = ns.length := by omega
      rw [List.take_length]
      go_wp2_with fail
      go_ret
      exact ⟨rfl, HB.out⟩
set_option maxRecDepth 100000 in
set_option maxHeartbeats 4000000 in
theorem times_any (c : Cl) (A : Option Addr) (cap : Nat) (ns : List Nd) (p : Int) (w : World) (hN : NodesAt w A ns) (hcap : ns.length ≤ cap) (hl : ns.length ≤ 1099511627776) (hc : cnt ns ≤ 1099511627776) :
    Calls Tryd.prog 80 #[.agg (cL c (.slice A ns.length cap)).toArray, .int .i64 p] w fun e w' => e = .returned (.int .i64 (times ns p : Nat)) ∧ Below w.heap.size w w' := by
  have hb0 := (Below.refl w.heap.size w).alloc (Nat.le_refl _) (.cells (cL c (.slice A ns.length cap)).toArray 24)
  have HN := Aside0.mk (hN.below hb0)
  have HB := Aside0.mk hb0
  have HC : Aside0 (CBox (w.alloc (.cells (cL c (.slice A ns.length cap)).toArray 24)) w.heap.size c (.slice A ns.length cap)) := ⟨⟨Go.heap_alloc_new w _⟩⟩
  have HCT := Aside0.mk (fun k => cnt_take ns k)
  clear hN hb0
  go_enter Tryd.func80, Tryd.ntmps80
  go_wp2_with fail
  generalize w.alloc (.cells (cL c (.slice A ns.length cap)).toArray 24) = w1 at HN HB HC ⊢
  have h22 : w1.cell? ⟨w.heap.size, 22, none⟩ = some (.slice A ns.length cap) := HC.out.c 22
  go_loop [5, 6, 7] (fun v5 v6 _ => ∃ k : Nat, k ≤ ns.length ∧ v5 = .int .i64 (times (ns.take k) p : Nat) ∧ v6 = .int .i64 (k : Nat)) (fun _ v6 _ => ns.length - (intOf v6).toNat)
  case atStart => exact ⟨0, Nat.zero_le _, rfl, rfl⟩
  case round =>
    obtain ⟨k, hk, rfl, rfl⟩ := hrel
    have htl := times_le (ns.take k) p
    have hct := HCT.out k
    by_cases hlt : k < ns.length
    · obtain ⟨n, hn⟩ : ∃ n, ns[k]? = some n := ⟨_, List.getElem?_eq_getElem hlt⟩
      obtain ⟨b, o, rfl, hz, B, cp, hp, hcp, hnm⟩ := HN.out.get hn
      have HSN := Aside0.mk (times_snoc ns k n p hn)
      have hnl := cnt_le_of ns k n hn
      have HNM := Aside0.mk hnm
      obtain ⟨T, hT⟩ : ∃ T, T = times (ns.take k) p := ⟨_, rfl⟩
      rw [← hT] at htl HSN ⊢
      clear hn hnm hT
      go_wp2_with fail
      go_loop [5, 7] (fun v5 v7 => ∃ j : Nat, j ≤ n.2.length ∧ v5 = .int .i64 (T + (n.2.take j).count p : Nat) ∧ v7 = .int .i64 (j : Nat)) (fun _ v7 => n.2.length - (intOf v7).toNat)
      case atStart => exact ⟨0, Nat.zero_le _, by simp, rfl⟩
      case round =>
        obtain ⟨j, hj, rfl, rfl⟩ := hrel
        have hcl := count_le' n.2 j p
        by_cases hjl : j < n.2.length
        · obtain ⟨x, hx⟩ : ∃ x, n.2[j]? = some x := ⟨_, List.getElem?_eq_getElem hjl⟩
          obtain ⟨b2, o2, rfl, hpc⟩ := HNM.out.get hx
          have HCS := Aside0.mk (count_snoc n.2 j x p hx)
          obtain ⟨U, hU⟩ : ∃ U, U = (n.2.take j).count p := ⟨_, rfl⟩
          rw [← hU] at hcl HCS ⊢
          clear hx hU
          by_cases he : x = p
          · have hq : (x == p) = true := by rw [he]; simp
            have HCU : Aside0 ((n.2.take (j + 1)).count p = U + 1) := ⟨by rw [HCS.out, if_pos he]⟩
            clear he
            go_wp2_with fail
            go_round
            case rel => exact ⟨j + 1, by omega, by rw [HCU.out]; go_num, by go_num⟩
            case measure => simp [intOf]; omega
          · have hq : (x == p) = false := by simpa using he
            have HCU : Aside0 ((n.2.take (j + 1)).count p = U) := ⟨by rw [HCS.out, if_neg he]; rfl⟩
            clear he
            go_wp2_with fail
            go_round
            case rel => exact ⟨j + 1, by omega, by rw [HCU.out], by go_num⟩
            case measure => simp [intOf]; omega
        · obtain rfl : j = n.2.length := by omega
          rw [List.take_length]
          go_wp2_with fail
          go_round
          case rel => exact ⟨k + 1, by omega, by rw [HSN.out], by go_num⟩
          case measure => simp [intOf]; omega
    · obtain rfl : k = ns.length := by omega
      rw [List.take_length]
      go_wp2_with fail
      go_ret
      exact ⟨rfl, HB.out⟩
set_option maxRecDepth 100000 in
set_option maxHeartbeats 4000000 in
theorem homeR_any (c : Cl) (A : Option Addr) (cap : Nat) (ns : List Nd) (p : Int) (w : World) (hN : NodesAt w A ns) (hcap : ns.length ≤ cap) (hl : ns.length ≤ 1099511627776) (hc : cnt ns ≤ 1099511627776) :
    Calls Tryd.prog 53 #[.agg (cL c (.slice A ns.length cap)).toArray, .int .i64 p] w fun e w' => e = .returned (.int .i64 (homeFrom 0 ns p)) ∧ Below w.heap.size w w' := by
  have hb0 := (Below.refl w.heap.size w).alloc (Nat.le_refl _) (.cells (cL c (.slice A ns.length cap)).toArray 24)
  have HN := Aside0.mk (hN.below hb0)
  have HB := Aside0.mk hb0
  have HC : Aside0 (CBox (w.alloc (.cells (cL c (.slice A ns.length cap)).toArray 24)) w.heap.size c (.slice A ns.length cap)) := ⟨⟨Go.heap_alloc_new w _⟩⟩
  have HCT := Aside0.mk (fun k => cnt_take ns k)
  clear hN hb0
  obtain ⟨R, hR⟩ : ∃ R, R = homeFrom 0 ns p := ⟨_, rfl⟩
  have HI : Aside0 (homeFrom 0 (ns.drop 0) p = R) := ⟨by rw [hR, List.drop_zero]⟩
  rw [← hR]
  clear hR
  go_enter Tryd.func53, Tryd.ntmps53
  go_wp2_with fail
  generalize w.alloc (.cells (cL c (.slice A ns.length cap)).toArray 24) = w1 at HN HB HC ⊢
  have h22 : w1.cell? ⟨w.heap.size, 22, none⟩ = some (.slice A ns.length cap) := HC.out.c 22
  go_loop [5, 6] (fun v5 _ => ∃ k : Nat, k ≤ ns.length ∧ v5 = .int .i64 (k : Nat) ∧ Aside0 (homeFrom k (ns.drop k) p = R)) (fun v5 _ => ns.length - (intOf v5).toNat)
  case atStart => exact ⟨0, Nat.zero_le _, rfl, HI⟩
  case round =>
    clear HI
    obtain ⟨k, hk, rfl, HI⟩ := hrel
    by_cases hlt : k < ns.length
    · obtain ⟨n, hn⟩ : ∃ n, ns[k]? = some n := ⟨_, List.getElem?_eq_getElem hlt⟩
      obtain ⟨b, o, rfl, hz, B, cp, hp, hcp, hnm⟩ := HN.out.get hn
      have hnl := cnt_le_of ns k n hn
      have HNM := Aside0.mk hnm
      have HD : Aside0 ((if p ∈ n.2 then (k : Int) else homeFrom (k + 1) (ns.drop (k + 1)) p) = R) := ⟨by rw [← HI.out, drop_at ns k n hn]; rfl⟩
      clear hn hnm HI
      go_wp2_with fail
      go_loop [6] (fun v6 => ∃ j : Nat, j ≤ n.2.length ∧ v6 = .int .i64 (j : Nat) ∧ Aside0 (p ∉ n.2.take j)) (fun v6 => n.2.length - (intOf v6).toNat)
      case atStart => exact ⟨0, Nat.zero_le _, rfl, ⟨by simp⟩⟩
      case round =>
        obtain ⟨j, hj, rfl, HM⟩ := hrel
        by_cases hjl : j < n.2.length
        · obtain ⟨x, hx⟩ : ∃ x, n.2[j]? = some x := ⟨_, List.getElem?_eq_getElem hjl⟩
          obtain ⟨b2, o2, rfl, hpc⟩ := HNM.out.get hx
          have HX := Aside0.mk hx
          clear hx
          by_cases he : x = p
          · have hq : (x == p) = true := by rw [he]; simp
            have HE : Aside0 ((k : Int) = R) := ⟨by rw [← HD.out, if_pos (by rw [← he]; exact List.mem_of_getElem? HX.out)]⟩
            clear he
            go_wp2_with fail
            go_ret
            exact ⟨by rw [← HE.out]; rfl, HB.out⟩
          · have hq : (x == p) = false := by simpa using he
            have HM2 : Aside0 (p ∉ n.2.take (j + 1)) := ⟨by rw [List.take_add_one, HX.out]; simp only [Option.toList_some, List.mem_append, List.mem_singleton]; exact fun h => h.elim HM.out (fun e => he e.symm)⟩
            clear he
            go_wp2_with fail
            go_round
            case rel => exact ⟨j + 1, by omega, by go_num, HM2⟩
            case measure => simp [intOf]; omega
        · obtain rfl : j = n.2.length := by omega
          have HI2 : Aside0 (homeFrom (k + 1) (ns.drop (k + 1)) p = R) := ⟨by rw [← HD.out, if_neg (by have := HM.out; rwa [List.take_length] at this)]⟩
          go_wp2_with fail
          go_round
          case rel => exact ⟨k + 1, by omega, by go_num, HI2⟩
          case measure => simp [intOf]; omega
    · obtain rfl : k = ns.length := by omega
      have HE : Aside0 (R = -1) := ⟨by rw [← HI.out, List.drop_length]; rfl⟩
      go_wp2_with fail
      go_ret
      exact ⟨by rw [HE.out]; rfl, HB.out⟩
end Go.Proofs.YtljjpdjknnhceaaDoor.Count
