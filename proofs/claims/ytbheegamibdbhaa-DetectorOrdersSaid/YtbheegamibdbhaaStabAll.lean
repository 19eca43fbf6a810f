/- symMerge_func of the sort library, walked over any program, whole. -/
import Derived.Test.YtbheegamibdbhaaStabSym
import Derived.Deep.DeepCutAuto
import Derived.Deep.CutBlock
set_option linter.unusedVariables false
set_option linter.unusedSimpArgs false
namespace Go.Proofs.Ytbheegamibdbhaa.StabAll
open Go.Shelf Go.RowKit Go.Lib Go.Sort Go.Proofs Go.Proofs.Ytbheegamibdbhaa.SymPure Go.Proofs.Ytbheegamibdbhaa.SymMerge Go.Proofs.Ytbheegamibdbhaa.StabPure Go.Proofs.Ytbheegamibdbhaa.StabWalk Go.Proofs.Ytbheegamibdbhaa.StabSym
variable {P : Program} {ρ : Ren} {α : Type} [Inhabited α]
/-- the place of the cut -/
def cutS (lt : α → α → Bool) (d : Array α) (a m b : Nat) : Nat := if (a + b) / 2 < m then bs (fun c => !lt d[(a + b) / 2 + m - 1 - c]! d[c]!) ((a + b) / 2 - ((a + b) / 2 + m - b)) ((a + b) / 2 + m - b) ((a + b) / 2) else bs (fun c => !lt d[(a + b) / 2 + m - 1 - c]! d[c]!) (m - a) a m
def turnS (d : Array α) (s m e : Nat) : Array α := if s < m ∧ m < e then rot d s m e else d
def leftS (lt : α → α → Bool) (f : Nat) (d : Array α) (a s mid : Nat) : Array α := if a < s ∧ s < mid then symM lt f d a s mid else d
def rightS (lt : α → α → Bool) (f : Nat) (d : Array α) (mid e b : Nat) : Array α := if mid < e ∧ e < b then symM lt f d mid e b else d
theorem symM_gen (lt : α → α → Bool) (f : Nat) (d : Array α) (a m b : Nat) (h1 : m - a ≠ 1) (h2 : b - m ≠ 1) :
    symM lt (f + 1) d a m b = rightS lt f (leftS lt f (turnS d (cutS lt d a m b) m ((a + b) / 2 + m - cutS lt d a m b)) a (cutS lt d a m b) ((a + b) / 2)) ((a + b) / 2) ((a + b) / 2 + m - cutS lt d a m b) b := by
  rw [symM, if_neg h1, if_neg h2]
  rfl
theorem turnS_size (d : Array α) (s m e : Nat) : (turnS d s m e).size = d.size := by unfold turnS; split; exact rotL_size _ _ _ _ _; rfl
theorem leftS_size (lt : α → α → Bool) (f : Nat) (d : Array α) (a s mid : Nat) : (leftS lt f d a s mid).size = d.size := by unfold leftS; split; exact symM_size _ _ _ _ _ _; rfl
theorem cutS_bounds (lt : α → α → Bool) (d : Array α) (a m b : Nat) (h0 : a < m) (h1 : m < b) : a ≤ cutS lt d a m b ∧ cutS lt d a m b ≤ m ∧ cutS lt d a m b ≤ (a + b) / 2 ∧ (a + b) / 2 + m - cutS lt d a m b ≤ b := by
  unfold cutS
  split
  · have := bs_le (fun c => !lt d[(a + b) / 2 + m - 1 - c]! d[c]!) ((a + b) / 2 - ((a + b) / 2 + m - b)) ((a + b) / 2 + m - b) ((a + b) / 2) (by omega)
    omega
  · have := bs_le (fun c => !lt d[(a + b) / 2 + m - 1 - c]! d[c]!) (m - a) a m (by omega)
    omega
set_option maxHeartbeats 8000000 in
set_option maxRecDepth 100000 in
theorem sym_any (L : LaysGt.n30 P ρ) (enc : α → Value) (lt : α → α → Bool) (g : Nat) (lb : Array Value) (sf : Nat) (sb : Array Value) (blk off : Nat)
    (eg : ∀ args w, (callFunc g args).run P w = .ok (.enter g args) w) (size : Nat) (hswap : SwapSwaps P sf sb enc blk off size) (hsz : size < 2305843009213693952) : ∀ (f : Nat) (d : Array α) (W : World) (a m b : Nat), d.size = size → LessReads P g lb enc lt blk off size W →
    Holds enc W blk off d → blk < W.heap.size → a < m → m < b → b ≤ size → b - a ≤ f →
    Calls P (ρ.f 30) #[.agg #[.func (.func g) #[] lb, .func (.func sf) #[] sb], .int .i64 a, .int .i64 m, .int .i64 b] W (Dn enc W blk off (symM lt f d a m b)) := by
  intro f
  induction f with
  | zero => intro d W a m b _ _ _ _ h0 h1 _ hf; omega
  | succ f ih =>
    intro d W a m b hds hless hH hblk h0 h1 hb hf
    by_cases e1 : m = a + 1
    · have := left_any L enc lt g lb sf sb blk off d W a m b e1 eg (by rw [hds]; exact hless) (by rw [hds]; exact hswap) hH hblk h1 (by omega) (by omega)
      rwa [symM, if_pos (by omega)]
    by_cases e2 : b = m + 1
    · have := right_any L enc lt g lb sf sb blk off d W a m b e2 eg (by rw [hds]; exact hless) (by rw [hds]; exact hswap) hH hblk (by omega) (by omega) (by omega)
      rwa [symM, if_neg (by omega), if_pos (by omega)]
    rw [symM_gen lt f d a m b (by omega) (by omega)]
    obtain ⟨s0, s1, s2, s3⟩ := cutS_bounds lt d a m b h0 h1
    obtain ⟨s, hs⟩ : ∃ s, s = cutS lt d a m b := ⟨_, rfl⟩
    rw [← hs] at s0 s1 s2 s3 ⊢
    obtain ⟨mid, hmid⟩ : ∃ mid, mid = (a + b) / 2 := ⟨_, rfl⟩
    obtain ⟨st, r0, hst⟩ : ∃ st r0 : Nat, (mid < m ∧ st = mid + m - b ∧ r0 = mid) ∨ (¬ mid < m ∧ st = a ∧ r0 = m) := by
      by_cases e : mid < m
      · exact ⟨_, _, .inl ⟨e, rfl, rfl⟩⟩
      · exact ⟨_, _, .inr ⟨e, rfl, rfl⟩⟩
    have hcut : s = bs (fun c => !lt d[mid + m - 1 - c]! d[c]!) (r0 - st) st r0 := by
      rw [hs, cutS, ← hmid]
      rcases hst with ⟨e, rfl, rfl⟩ | ⟨e, rfl, rfl⟩
      · rw [if_pos e]
      · rw [if_neg e]
    have hm1 : a < mid ∧ mid < b ∧ 2 * mid ≤ a + b ∧ a + b ≤ 2 * mid + 1 := by omega
    obtain ⟨hm2, hm3, hm4, hm5⟩ := hm1
    have hst1 : a ≤ st ∧ st ≤ r0 ∧ r0 ≤ m ∧ r0 ≤ mid ∧ mid + m ≤ st + b := by omega
    obtain ⟨q1, q2, q3, q4, q5⟩ := hst1
    have HST := Lib.hid hst
    have hmi : ((a : Int) + (b : Int)) / 2 = (mid : Int) := by omega
    rw [← hmid] at s2 s3 ⊢
    clear hs hmid hst
    have mixed := L.mixed; have t0 := L.t0; have a0 := L.a0; have z0 := L.z0; have v0 := L.v0; have t3 := L.t3; have a3 := L.a3; have z3 := L.z3; have v3 := L.v3; have t4 := L.t4; have a4 := L.a4; have z4 := L.z4; have v4 := L.v4; have t26 := L.t26; have a26 := L.a26; have z26 := L.z26; have v26 := L.v26; have t38 := L.t38; have a38 := L.a38; have z38 := L.z38; have v38 := L.v38; have t42 := L.t42; have a42 := L.a42; have z42 := L.z42; have v42 := L.v42; have t47 := L.t47; have a47 := L.a47; have z47 := L.z47; have v47 := L.v47
    have u42 := run_underlying L.t42
    have e30 : ∀ args w, (callFunc (ρ.f 30) args).run P w = .ok (.enter (ρ.f 30) args) w := enters_of L.f30 (by kernel_rfl) rfl
    have e42 : ∀ args w, (callFunc (ρ.f 42) args).run P w = .ok (.enter (ρ.f 42) args) w := enters_of L.f42 (by kernel_rfl) rfl
    have HL := Lib.hid (show LaysGt.n42 P ρ from { L with })
    have HH := Lib.hid (holds_grow enc W #[.cells #[.func (.func g) #[] lb, .func (.func sf) #[] sb] (ρ.t 42)] blk off d hblk hH)
    rw [← alloc_eq_grow] at HH
    have HS1 := Lib.hid (SW.start HH.out)
    have HSWAP := Lib.hid hswap
    have HLESS := Lib.hid hless
    have HDS := Lib.hid hds
    have HIH := Lib.hid ih
    have HCUT := Lib.hid hcut
    have hme : ((m : Int) - (a : Int) == 1) = false := by rw [beq_eq_false_iff_ne]; omega
    have hbe : ((b : Int) - (m : Int) == 1) = false := by rw [beq_eq_false_iff_ne]; omega
    clear hswap hH hless hds ih hcut
    go_enter L.f30, BodyGt.n30_ntmps ρ
    go_upto_if 106 with (fail)
    go_cut [18, 19] (fun v18 v19 wx => v18 = .int .i64 (st : Nat) ∧ v19 = .int .i64 (r0 : Nat) ∧ wx = W.alloc (.cells #[.func (.func g) #[] lb, .func (.func sf) #[] sb] (ρ.t 42)))
    case first => as_aux_lemma =>
      rcases HST.out with ⟨k1, k2, k3⟩ | ⟨k1, k2, k3⟩
      · subst k3
        have k2 := Lib.hid k2
        go_wp2
        go_meet
        case rel => exact ⟨by congr 1; have := k2.out; omega, rfl, rfl⟩
      · subst k2 k3
        go_wp2
        go_meet
        case rel => exact ⟨rfl, rfl, rfl⟩
    case rest =>
    obtain ⟨rfl, rfl, rfl⟩ := hcut
    go_wp2
    go_loopw [18, 19] (fun v18 v19 wr => ∃ (i j : Nat), v18 = .int .i64 i ∧ v19 = .int .i64 j ∧ st ≤ i ∧ i ≤ j ∧ j ≤ r0 ∧ Hid (∃ f, j - i ≤ f ∧ bs (fun c => !lt d[mid + m - 1 - c]! d[c]!) f i j = s) ∧ Hid (SW enc (W.alloc (.cells #[.func (.func g) #[] lb, .func (.func sf) #[] sb] (ρ.t 42))) blk off d wr)) (fun v18 v19 _ => (intOf v19).toNat - (intOf v18).toNat)
    case atStart => exact ⟨st, r0, rfl, rfl, by omega, by omega, by omega, Lib.hid ⟨_, Nat.le_refl _, HCUT.out.symm⟩, HS1⟩
    case round =>
      obtain ⟨i, j, rfl, rfl, hi, hij, hj, HB, HS⟩ := hrel
      obtain ⟨c0, c1⟩ := sw_box hblk HS.out
      by_cases hlt : i < j
      · obtain ⟨h, hh⟩ : ∃ h, h = (i + j) / 2 := ⟨_, rfl⟩
        have hh1 : i ≤ h ∧ h < j := by omega
        obtain ⟨hh2, hh3⟩ := hh1
        have hl := SW.less (sw_of_alloc hblk HS.out) HLESS.out HDS.out (mid + m - 1 - h) h (by omega) (by omega)
        rw [show ((mid + m - 1 - h : Nat) : Int) = (mid : Int) + (m : Int) - 1 - (h : Int) by omega] at hl
        have HG := Lib.hid (bs_go HB.out hlt)
        rw [← hh] at HG
        have hmd : ((i : Int) + (j : Int)) / 2 = (h : Int) := by omega
        clear HB hh
        cases hlv : lt d[mid + m - 1 - h]! d[h]! with
        | false => as_aux_lemma =>
          have HG2 := Lib.hid (HG.out.1 (by rw [hlv]; rfl))
          rw [hlv] at hl
          clear HG hlv
          go_wp2_with (go_at_fn g; refine hl.mono ?_; rintro e w' ⟨rfl, q, rfl⟩)
          go_roundw
          case rel => exact ⟨h + 1, j, by go_num, rfl, by omega, by omega, hj, HG2, Lib.hid (HS.out.drewN q)⟩
          case measure => simp [intOf]; omega
        | true => as_aux_lemma =>
          have HG2 := Lib.hid (HG.out.2 (by rw [hlv]; rfl))
          rw [hlv] at hl
          clear HG hlv
          go_wp2_with (go_at_fn g; refine hl.mono ?_; rintro e w' ⟨rfl, q, rfl⟩)
          go_roundw
          case rel => exact ⟨i, h, rfl, rfl, by omega, hh2, by omega, HG2, Lib.hid (HS.out.drewN q)⟩
          case measure => simp [intOf]; omega
      · have e : i = j := by omega
        subst e
        have e := bs_end HB.out
        subst e
        clear HB HCUT HST
        obtain ⟨en, hen⟩ : ∃ en, en = mid + m - i := ⟨_, rfl⟩
        have hen1 : m ≤ en := by omega
        have hen2 : mid ≤ en := by omega
        have hene : ((mid : Int) + (m : Int)) - (i : Int) = (en : Int) := by omega
        rw [← hen]
        have hen3 : en ≤ b := by omega
        have HWF := Lib.hid (show i ≤ en ∧ mid + m = en + i from by omega)
        clear hen
        go_upto_region 40 with (fail)
        go_cut [145] (fun v wx => v = .bool (decide (i < m ∧ m < en)) ∧ wx = wr)
        case first => as_aux_lemma =>
          by_cases k1 : i < m
          · by_cases k2 : m < en
            · go_wp2
              go_meet
              case rel => exact ⟨by rw [decide_eq_true ⟨k1, k2⟩], rfl⟩
            · have k3 : decide ((m : Int) < (en : Int)) = false := decide_eq_false (by omega)
              go_wp2
              go_meet
              case rel => exact ⟨by rw [decide_eq_false (fun e => k2 e.2)], rfl⟩
          · have k3 : decide ((i : Int) < (m : Int)) = false := decide_eq_false (by omega)
            go_wp2
            go_meet
            case rel => exact ⟨by rw [decide_eq_false (fun e => k1 e.1)], rfl⟩
        case rest =>
        obtain ⟨rfl, rfl⟩ := hcut
        obtain ⟨tb, htb⟩ : ∃ tb, tb = decide (i < m ∧ m < en) := ⟨_, rfl⟩
        rw [← htb]
        have HTB := Lib.hid htb
        clear htb
        obtain ⟨wt, hwt⟩ : ∃ wt, wt = wc := ⟨_, rfl⟩
        subst hwt
        go_upto_if 145 with (fail)
        go_cut [22] (fun v wx => v = .int .i64 (en : Nat) ∧ Hid (SW enc (W.alloc (.cells #[.func (.func g) #[] lb, .func (.func sf) #[] sb] (ρ.t 42))) blk off (turnS d i m en) wx))
        case first => as_aux_lemma =>
          cases tb with
          | true =>
            have hk := Lib.hid (of_decide_eq_true HTB.out.symm)
            have hc := rotate_any HL.out enc (.func g) #[] lb sf sb blk off d _ i m en (by rw [HDS.out]; exact HSWAP.out) (HS.out.holds (by simp; omega) HH.out rfl) (HS.out.lt (by simp; omega)) hk.out.1 hk.out.2 (by rw [HDS.out]; omega) (by rw [HDS.out]; omega)
            go_wp2_with (go_at_fn (ρ.f 42); refine hc.mono ?_; rintro e w1 ⟨rfl, HD⟩)
            have HD := sw_trans (by simp; omega) HS.out HD (rotL_size _ _ _ _ _)
            have HD2 : Hid (SW enc (W.alloc (.cells #[.func (.func g) #[] lb, .func (.func sf) #[] sb] (ρ.t 42))) blk off (turnS d i m en) w1) := Lib.hid (by unfold turnS; rw [if_pos hk.out]; exact HD)
            clear HD
            go_wp2
            go_meet
            case rel => exact ⟨rfl, HD2⟩
          | false =>
            have hk := Lib.hid (of_decide_eq_false HTB.out.symm)
            have HD2 : Hid (SW enc (W.alloc (.cells #[.func (.func g) #[] lb, .func (.func sf) #[] sb] (ρ.t 42))) blk off (turnS d i m en) wt) := Lib.hid (by unfold turnS; rw [if_neg hk.out]; exact HS.out)
            go_wp2
            go_meet
            case rel => exact ⟨rfl, HD2⟩
        case rest =>
        obtain ⟨rfl, HS2⟩ := hcut
        obtain ⟨d1, hd1⟩ : ∃ d1, d1 = turnS d i m en := ⟨_, rfl⟩
        have hd1s : d1.size = size := by rw [hd1, turnS_size]; exact HDS.out
        rw [← hd1] at HS2
        have HD1 := Lib.hid hd1
        clear HTB HS c0 c1 hd1
        obtain ⟨wt, hwt⟩ : ∃ wt, wt = wc := ⟨_, rfl⟩
        subst hwt
        obtain ⟨c0, c1⟩ := sw_box hblk HS2.out
        go_upto_region 42 with (fail)
        go_cut [158] (fun v wx => v = .bool (decide (a < i ∧ i < mid)) ∧ wx = wt)
        case first => as_aux_lemma =>
          by_cases k1 : a < i
          · by_cases k2 : i < mid
            · go_wp2
              go_meet
              case rel => exact ⟨by rw [decide_eq_true ⟨k1, k2⟩], rfl⟩
            · have k3 : decide ((i : Int) < (mid : Int)) = false := decide_eq_false (by omega)
              go_wp2
              go_meet
              case rel => exact ⟨by rw [decide_eq_false (fun e => k2 e.2)], rfl⟩
          · have k3 : decide ((a : Int) < (i : Int)) = false := decide_eq_false (by omega)
            go_wp2
            go_meet
            case rel => exact ⟨by rw [decide_eq_false (fun e => k1 e.1)], rfl⟩
        case rest =>
        obtain ⟨rfl, hwt⟩ := hcut
        subst hwt
        obtain ⟨wt, hwt⟩ : ∃ wt, wt = wc := ⟨_, rfl⟩
        subst hwt
        obtain ⟨tb, htb⟩ : ∃ tb, tb = decide (a < i ∧ i < mid) := ⟨_, rfl⟩
        rw [← htb]
        have HTB := Lib.hid htb
        clear htb
        go_upto_if 158 with (fail)
        go_cut [22] (fun v wx => v = .int .i64 (en : Nat) ∧ Hid (SW enc (W.alloc (.cells #[.func (.func g) #[] lb, .func (.func sf) #[] sb] (ρ.t 42))) blk off (leftS lt f d1 a i mid) wx))
        case first => as_aux_lemma =>
          cases tb with
          | true =>
            have hk := Lib.hid (of_decide_eq_true HTB.out.symm)
            have hc := HIH.out d1 wt a i mid hd1s ((sw_of_alloc hblk HS2.out).lessReads HLESS.out hblk hd1s) (HS2.out.holds (by simp; omega) HH.out (by rw [hd1s, HDS.out])) (HS2.out.lt (by simp; omega)) hk.out.1 hk.out.2 (by omega) (by omega)
            go_wp2_with (go_at_fn (ρ.f 30); refine hc.mono ?_; rintro e w1 ⟨rfl, HD⟩)
            have HD := sw_trans (by simp; omega) HS2.out HD (symM_size _ _ _ _ _ _)
            have HD2 : Hid (SW enc (W.alloc (.cells #[.func (.func g) #[] lb, .func (.func sf) #[] sb] (ρ.t 42))) blk off (leftS lt f d1 a i mid) w1) := Lib.hid (by unfold leftS; rw [if_pos hk.out]; exact HD)
            clear HD
            go_wp2
            go_meet
            case rel => exact ⟨rfl, HD2⟩
          | false =>
            have hk := Lib.hid (of_decide_eq_false HTB.out.symm)
            have HD2 : Hid (SW enc (W.alloc (.cells #[.func (.func g) #[] lb, .func (.func sf) #[] sb] (ρ.t 42))) blk off (leftS lt f d1 a i mid) wt) := Lib.hid (by unfold leftS; rw [if_neg hk.out]; exact HS2.out)
            go_wp2
            go_meet
            case rel => exact ⟨rfl, HD2⟩
        case rest =>
        obtain ⟨rfl, HS3⟩ := hcut
        obtain ⟨d2, hd2⟩ : ∃ d2, d2 = leftS lt f d1 a i mid := ⟨_, rfl⟩
        have hd2s : d2.size = size := by rw [hd2, leftS_size]; exact hd1s
        rw [← hd2] at HS3
        have HD2 := Lib.hid hd2
        clear HTB HS2 c0 c1 hd2
        obtain ⟨wt, hwt⟩ : ∃ wt, wt = wc := ⟨_, rfl⟩
        subst hwt
        obtain ⟨c0, c1⟩ := sw_box hblk HS3.out
        go_upto_region 44 with (fail)
        go_cut [171] (fun v wx => v = .bool (decide (mid < en ∧ en < b)) ∧ wx = wt)
        case first => as_aux_lemma =>
          by_cases k1 : mid < en
          · by_cases k2 : en < b
            · go_wp2
              go_meet
              case rel => exact ⟨by rw [decide_eq_true ⟨k1, k2⟩], rfl⟩
            · have k3 : decide ((en : Int) < (b : Int)) = false := decide_eq_false (by omega)
              go_wp2
              go_meet
              case rel => exact ⟨by rw [decide_eq_false (fun e => k2 e.2)], rfl⟩
          · have k3 : decide ((mid : Int) < (en : Int)) = false := decide_eq_false (by omega)
            go_wp2
            go_meet
            case rel => exact ⟨by rw [decide_eq_false (fun e => k1 e.1)], rfl⟩
        case rest =>
        obtain ⟨rfl, hwt⟩ := hcut
        subst hwt
        obtain ⟨wt, hwt⟩ : ∃ wt, wt = wc := ⟨_, rfl⟩
        subst hwt
        obtain ⟨tb, htb⟩ : ∃ tb, tb = decide (mid < en ∧ en < b) := ⟨_, rfl⟩
        rw [← htb]
        have HTB := Lib.hid htb
        clear htb
        cases tb with
        | true => as_aux_lemma =>
          have hk := Lib.hid (of_decide_eq_true HTB.out.symm)
          have hc := HIH.out d2 wt mid en b hd2s ((sw_of_alloc hblk HS3.out).lessReads HLESS.out hblk hd2s) (HS3.out.holds (by simp; omega) HH.out (by rw [hd2s, HDS.out])) (HS3.out.lt (by simp; omega)) hk.out.1 hk.out.2 (by omega) (by omega)
          go_wp2_with (go_at_fn (ρ.f 30); refine hc.mono ?_; rintro e w1 ⟨rfl, HD⟩)
          have HD := Lib.hid (sw_of_alloc hblk (sw_trans (by simp; omega) HS3.out HD (symM_size _ _ _ _ _ _)))
          go_wp2
          go_end0
          exact ⟨rfl, by rw [show mid + m - i = en by have := HWF.out; omega, ← HD1.out, ← HD2.out]; unfold rightS; rw [if_pos hk.out]; exact HD.out⟩
        | false => as_aux_lemma =>
          have hk := Lib.hid (of_decide_eq_false HTB.out.symm)
          have HD := Lib.hid (sw_of_alloc hblk HS3.out)
          go_wp2
          go_end0
          exact ⟨rfl, by rw [show mid + m - i = en by have := HWF.out; omega, ← HD1.out, ← HD2.out]; unfold rightS; rw [if_neg hk.out]; exact HD.out⟩
end Go.Proofs.Ytbheegamibdbhaa.StabAll
