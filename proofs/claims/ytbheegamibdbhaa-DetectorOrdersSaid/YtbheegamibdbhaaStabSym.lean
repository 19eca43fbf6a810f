/- symMerge_func of the sort library, walked over any program: one element left, one element right. -/
import Derived.Test.YtbheegamibdbhaaStabWalk
set_option linter.unusedVariables false
set_option linter.unusedSimpArgs false
namespace Go.Proofs.Ytbheegamibdbhaa.StabSym
open Go.Shelf Go.RowKit Go.Lib Go.Sort Go.Proofs Go.Proofs.Ytbheegamibdbhaa.SymPure Go.Proofs.Ytbheegamibdbhaa.SymMerge Go.Proofs.Ytbheegamibdbhaa.StabPure Go.Proofs.Ytbheegamibdbhaa.StabWalk
variable {P : Program} {ρ : Ren} {α : Type} [Inhabited α]
theorem bs_go {p : Nat → Bool} {i j r : Nat} (h : ∃ f, j - i ≤ f ∧ bs p f i j = r) (hij : i < j) : (p ((i + j) / 2) = true → ∃ f, j - ((i + j) / 2 + 1) ≤ f ∧ bs p f ((i + j) / 2 + 1) j = r) ∧ (p ((i + j) / 2) = false → ∃ f, (i + j) / 2 - i ≤ f ∧ bs p f i ((i + j) / 2) = r) := by
  obtain ⟨f, hf, hr⟩ := h
  obtain ⟨g, rfl⟩ : ∃ g, f = g + 1 := ⟨f - 1, by omega⟩
  rw [bs, if_pos hij] at hr
  constructor
  · intro e; rw [if_pos e] at hr; exact ⟨g, by omega, hr⟩
  · intro e; rw [if_neg (by rw [e]; decide)] at hr; exact ⟨g, by omega, hr⟩
theorem bs_end {p : Nat → Bool} {i r : Nat} (h : ∃ f, i - i ≤ f ∧ bs p f i i = r) : i = r := by
  obtain ⟨f, _, hr⟩ := h
  cases f with
  | zero => exact hr
  | succ f => rw [bs, if_neg (Nat.lt_irrefl _)] at hr; exact hr
set_option maxHeartbeats 4000000 in
set_option maxRecDepth 100000 in
theorem left_any (L : LaysGt.n30 P ρ) (enc : α → Value) (lt : α → α → Bool) (g : Nat) (lb : Array Value) (sf : Nat) (sb : Array Value) (blk off : Nat) (d : Array α) (W : World) (a m b : Nat) (hm : m = a + 1)
    (eg : ∀ args w, (callFunc g args).run P w = .ok (.enter g args) w) (hless : LessReads P g lb enc lt blk off d.size W)
    (hswap : SwapSwaps P sf sb enc blk off d.size) (hH : Holds enc W blk off d) (hblk : blk < W.heap.size) (h1 : m < b) (hb : b ≤ d.size) (hsz : d.size < 2305843009213693952) :
    Calls P (ρ.f 30) #[.agg #[.func (.func g) #[] lb, .func (.func sf) #[] sb], .int .i64 a, .int .i64 m, .int .i64 b] W (Dn enc W blk off (movR d a (bs (fun h => lt d[h]! d[a]!) (b - m) m b - 1 - a))) := by
  have mixed := L.mixed; have t0 := L.t0; have a0 := L.a0; have z0 := L.z0; have v0 := L.v0; have t3 := L.t3; have a3 := L.a3; have z3 := L.z3; have v3 := L.v3; have t4 := L.t4; have a4 := L.a4; have z4 := L.z4; have v4 := L.v4; have t26 := L.t26; have a26 := L.a26; have z26 := L.z26; have v26 := L.v26; have t38 := L.t38; have a38 := L.a38; have z38 := L.z38; have v38 := L.v38; have t42 := L.t42; have a42 := L.a42; have z42 := L.z42; have v42 := L.v42; have t47 := L.t47; have a47 := L.a47; have z47 := L.z47; have v47 := L.v47
  have u42 := run_underlying L.t42
  have HH := Lib.hid (holds_grow enc W #[.cells #[.func (.func g) #[] lb, .func (.func sf) #[] sb] (ρ.t 42)] blk off d hblk hH)
  rw [← alloc_eq_grow] at HH
  have HS1 := Lib.hid (SW.start HH.out)
  have HSWAP := Lib.hid hswap
  have HLESS := Lib.hid hless
  obtain ⟨hr0, hr1⟩ := bs_le (fun h => lt d[h]! d[a]!) (b - m) m b (by omega)
  obtain ⟨r, hr⟩ : ∃ r, r = bs (fun h => lt d[h]! d[a]!) (b - m) m b := ⟨_, rfl⟩
  rw [← hr] at hr0 hr1 ⊢
  have HR := Lib.hid hr
  have hme : ((m : Int) - (a : Int) == 1) = true := by rw [beq_iff_eq]; omega
  have HM := Lib.hid hm
  have hm1 : a < m := by omega
  clear hswap hH hless hr hm
  go_enter L.f30, BodyGt.n30_ntmps ρ
  go_wp2
  go_loopw [8, 9] (fun v8 v9 wr => ∃ (i j : Nat), v8 = .int .i64 i ∧ v9 = .int .i64 j ∧ m ≤ i ∧ i ≤ j ∧ j ≤ b ∧ Hid (∃ f, j - i ≤ f ∧ bs (fun h => lt d[h]! d[a]!) f i j = r) ∧ Hid (SW enc (W.alloc (.cells #[.func (.func g) #[] lb, .func (.func sf) #[] sb] (ρ.t 42))) blk off d wr)) (fun v8 v9 _ => (intOf v9).toNat - (intOf v8).toNat)
  case atStart => exact ⟨m, b, rfl, rfl, by omega, by omega, by omega, Lib.hid ⟨_, Nat.le_refl _, HR.out.symm⟩, HS1⟩
  case round =>
    obtain ⟨i, j, rfl, rfl, hi, hij, hj, HB, HS⟩ := hrel
    obtain ⟨c0, c1⟩ := sw_box hblk HS.out
    by_cases hlt : i < j
    · obtain ⟨h, hh⟩ : ∃ h, h = (i + j) / 2 := ⟨_, rfl⟩
      have hh1 : i ≤ h ∧ h < j := by omega
      obtain ⟨hh2, hh3⟩ := hh1
      have hl := SW.less (sw_of_alloc hblk HS.out) HLESS.out rfl h a (by omega) (by omega)
      have HG := Lib.hid (bs_go HB.out hlt)
      rw [← hh] at HG
      have hmid : ((i : Int) + (j : Int)) / 2 = (h : Int) := by omega
      clear HB hh
      cases hlv : lt d[h]! d[a]! with
      | true =>
        have HG2 := Lib.hid (HG.out.1 hlv)
        rw [hlv] at hl
        clear HG hlv
        go_wp2_with (go_at_fn g; refine hl.mono ?_; rintro e w' ⟨rfl, q, rfl⟩)
        go_roundw
        case rel => exact ⟨h + 1, j, by go_num, rfl, by omega, by omega, hj, HG2, Lib.hid (HS.out.drewN q)⟩
        case measure => simp [intOf]; omega
      | false =>
        have HG2 := Lib.hid (HG.out.2 hlv)
        rw [hlv] at hl
        clear HG hlv
        go_wp2_with (go_at_fn g; refine hl.mono ?_; rintro e w' ⟨rfl, q, rfl⟩)
        go_roundw
        case rel => exact ⟨i, h, rfl, rfl, by omega, hh2, by omega, HG2, Lib.hid (HS.out.drewN q)⟩
        case measure => simp [intOf]; omega
    · have e : i = j := by omega
      subst e
      have e := bs_end HB.out
      subst e
      clear HB HR
      go_wp2_with fail
      go_loopw [11] (fun v11 wr => ∃ k : Nat, v11 = .int .i64 k ∧ a ≤ k ∧ k ≤ i - 1 ∧ Hid (SW enc (W.alloc (.cells #[.func (.func g) #[] lb, .func (.func sf) #[] sb] (ρ.t 42))) blk off (movR d a (k - a)) wr)) (fun v11 _ => i - (intOf v11).toNat)
      case atStart => exact ⟨a, rfl, Nat.le_refl _, by omega, by rw [Nat.sub_self]; exact HS⟩
      case round =>
        clear HS c0 c1
        obtain ⟨k, rfl, hk0, hk1, HS⟩ := hrel
        obtain ⟨c0, c1⟩ := sw_box hblk HS.out
        by_cases hlt : k < i - 1
        · have hs := HSWAP.out wr (movR d a (k - a)) (HS.out.holds (by simp; omega) HH.out (movR_size _ _ _)) (movR_size _ _ _) k (k + 1) (by omega) (by omega)
          have HN := HS.out.swap (by simp; omega) k (k + 1) (by rw [movR_size]; omega) (by rw [movR_size]; omega)
          generalize ((wr.setCell ⟨blk, off + k, none⟩ (enc (movR d a (k - a))[k + 1]!)).setCell ⟨blk, off + (k + 1), none⟩ (enc (movR d a (k - a))[k]!)) = w2 at hs HN
          rw [Int.natCast_add, Int.natCast_one] at hs
          have e2 : swp (movR d a (k - a)) k (k + 1) = movR d a (k + 1 - a) := by
            rw [show k + 1 - a = (k - a) + 1 by omega, movR, show a + (k - a) = k by omega]
          rw [e2] at HN
          have HN := Lib.hid HN
          have hlt2 : (k : Int) < (i : Int) - 1 := by omega
          clear e2
          go_wp2
          go_roundw
          case rel => exact ⟨k + 1, by go_num, by omega, by omega, HN⟩
          case measure => simp [intOf]; omega
        · have e : k = i - 1 := by omega
          have hge : (i : Int) - 1 ≤ (k : Int) := by omega
          rw [e] at HS
          go_wp2
          try rw [Exit.noGoto_ret]
          go_end0
          exact ⟨rfl, sw_of_alloc hblk HS.out⟩
set_option maxHeartbeats 4000000 in
set_option maxRecDepth 100000 in
theorem right_any (L : LaysGt.n30 P ρ) (enc : α → Value) (lt : α → α → Bool) (g : Nat) (lb : Array Value) (sf : Nat) (sb : Array Value) (blk off : Nat) (d : Array α) (W : World) (a m b : Nat) (hb1 : b = m + 1)
    (eg : ∀ args w, (callFunc g args).run P w = .ok (.enter g args) w) (hless : LessReads P g lb enc lt blk off d.size W)
    (hswap : SwapSwaps P sf sb enc blk off d.size) (hH : Holds enc W blk off d) (hblk : blk < W.heap.size) (h1 : a + 1 < m) (hb : b ≤ d.size) (hsz : d.size < 2305843009213693952) :
    Calls P (ρ.f 30) #[.agg #[.func (.func g) #[] lb, .func (.func sf) #[] sb], .int .i64 a, .int .i64 m, .int .i64 b] W (Dn enc W blk off (movL d m (m - bs (fun h => !lt d[m]! d[h]!) (m - a) a m))) := by
  have mixed := L.mixed; have t0 := L.t0; have a0 := L.a0; have z0 := L.z0; have v0 := L.v0; have t3 := L.t3; have a3 := L.a3; have z3 := L.z3; have v3 := L.v3; have t4 := L.t4; have a4 := L.a4; have z4 := L.z4; have v4 := L.v4; have t26 := L.t26; have a26 := L.a26; have z26 := L.z26; have v26 := L.v26; have t38 := L.t38; have a38 := L.a38; have z38 := L.z38; have v38 := L.v38; have t42 := L.t42; have a42 := L.a42; have z42 := L.z42; have v42 := L.v42; have t47 := L.t47; have a47 := L.a47; have z47 := L.z47; have v47 := L.v47
  have u42 := run_underlying L.t42
  have HH := Lib.hid (holds_grow enc W #[.cells #[.func (.func g) #[] lb, .func (.func sf) #[] sb] (ρ.t 42)] blk off d hblk hH)
  rw [← alloc_eq_grow] at HH
  have HS1 := Lib.hid (SW.start HH.out)
  have HSWAP := Lib.hid hswap
  have HLESS := Lib.hid hless
  obtain ⟨hr0, hr1⟩ := bs_le (fun h => !lt d[m]! d[h]!) (m - a) a m (by omega)
  obtain ⟨r, hr⟩ : ∃ r, r = bs (fun h => !lt d[m]! d[h]!) (m - a) a m := ⟨_, rfl⟩
  rw [← hr] at hr0 hr1 ⊢
  have HR := Lib.hid hr
  have hme : ((m : Int) - (a : Int) == 1) = false := by rw [beq_eq_false_iff_ne]; omega
  have hbe : ((b : Int) - (m : Int) == 1) = true := by rw [beq_iff_eq]; omega
  have HM := Lib.hid hb1
  have hmb : m < b := by omega
  clear hswap hH hless hr hb1
  go_enter L.f30, BodyGt.n30_ntmps ρ
  go_wp2
  go_loopw [12, 13] (fun v8 v9 wr => ∃ (i j : Nat), v8 = .int .i64 i ∧ v9 = .int .i64 j ∧ a ≤ i ∧ i ≤ j ∧ j ≤ m ∧ Hid (∃ f, j - i ≤ f ∧ bs (fun h => !lt d[m]! d[h]!) f i j = r) ∧ Hid (SW enc (W.alloc (.cells #[.func (.func g) #[] lb, .func (.func sf) #[] sb] (ρ.t 42))) blk off d wr)) (fun v8 v9 _ => (intOf v9).toNat - (intOf v8).toNat)
  case atStart => exact ⟨a, m, rfl, rfl, by omega, by omega, by omega, Lib.hid ⟨_, Nat.le_refl _, HR.out.symm⟩, HS1⟩
  case round =>
    obtain ⟨i, j, rfl, rfl, hi, hij, hj, HB, HS⟩ := hrel
    obtain ⟨c0, c1⟩ := sw_box hblk HS.out
    by_cases hlt : i < j
    · obtain ⟨h, hh⟩ : ∃ h, h = (i + j) / 2 := ⟨_, rfl⟩
      have hh1 : i ≤ h ∧ h < j := by omega
      obtain ⟨hh2, hh3⟩ := hh1
      have hl := SW.less (sw_of_alloc hblk HS.out) HLESS.out rfl m h (by omega) (by omega)
      have HG := Lib.hid (bs_go HB.out hlt)
      rw [← hh] at HG
      have hmid : ((i : Int) + (j : Int)) / 2 = (h : Int) := by omega
      clear HB hh
      cases hlv : lt d[m]! d[h]! with
      | false =>
        have HG2 := Lib.hid (HG.out.1 (by rw [hlv]; rfl))
        rw [hlv] at hl
        clear HG hlv
        go_wp2_with (go_at_fn g; refine hl.mono ?_; rintro e w' ⟨rfl, q, rfl⟩)
        go_roundw
        case rel => exact ⟨h + 1, j, by go_num, rfl, by omega, by omega, hj, HG2, Lib.hid (HS.out.drewN q)⟩
        case measure => simp [intOf]; omega
      | true =>
        have HG2 := Lib.hid (HG.out.2 (by rw [hlv]; rfl))
        rw [hlv] at hl
        clear HG hlv
        go_wp2_with (go_at_fn g; refine hl.mono ?_; rintro e w' ⟨rfl, q, rfl⟩)
        go_roundw
        case rel => exact ⟨i, h, rfl, rfl, by omega, hh2, by omega, HG2, Lib.hid (HS.out.drewN q)⟩
        case measure => simp [intOf]; omega
    · have e : i = j := by omega
      subst e
      have e := bs_end HB.out
      subst e
      clear HB HR
      go_wp2_with fail
      go_loopw [15] (fun v11 wr => ∃ k : Nat, v11 = .int .i64 k ∧ i ≤ k ∧ k ≤ m ∧ Hid (SW enc (W.alloc (.cells #[.func (.func g) #[] lb, .func (.func sf) #[] sb] (ρ.t 42))) blk off (movL d m (m - k)) wr)) (fun v11 _ => (intOf v11).toNat)
      case atStart => exact ⟨m, rfl, by omega, Nat.le_refl _, by rw [Nat.sub_self]; exact HS⟩
      case round =>
        clear HS c0 c1
        obtain ⟨k, rfl, hk0, hk1, HS⟩ := hrel
        obtain ⟨c0, c1⟩ := sw_box hblk HS.out
        by_cases hlt : i < k
        · have hs := HSWAP.out wr (movL d m (m - k)) (HS.out.holds (by simp; omega) HH.out (movL_size _ _ _)) (movL_size _ _ _) k (k - 1) (by omega) (by omega)
          have HN := HS.out.swap (by simp; omega) k (k - 1) (by rw [movL_size]; omega) (by rw [movL_size]; omega)
          generalize ((wr.setCell ⟨blk, off + k, none⟩ (enc (movL d m (m - k))[k - 1]!)).setCell ⟨blk, off + (k - 1), none⟩ (enc (movL d m (m - k))[k]!)) = w2 at hs HN
          rw [show ((k - 1 : Nat) : Int) = (k : Int) - 1 by omega] at hs
          have e2 : swp (movL d m (m - k)) k (k - 1) = movL d m (m - (k - 1)) := by
            rw [show m - (k - 1) = (m - k) + 1 by omega, movL, show m - (m - k) = k by omega]
          rw [e2] at HN
          have HN := Lib.hid HN
          clear e2
          go_wp2
          go_roundw
          case rel => exact ⟨k - 1, by congr 1; omega, by omega, by omega, HN⟩
          case measure => simp [intOf]; omega
        · have e : k = i := by omega
          have hge : ¬ i < k := hlt
          rw [e] at HS hge ⊢
          go_wp2
          try rw [Exit.noGoto_ret]
          go_end0
          exact ⟨rfl, sw_of_alloc hblk HS.out⟩
end Go.Proofs.Ytbheegamibdbhaa.StabSym
