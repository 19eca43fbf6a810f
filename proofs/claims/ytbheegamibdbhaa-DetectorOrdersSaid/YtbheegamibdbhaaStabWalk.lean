/- swapRange_func and rotate_func of the sort library, walked over any program. -/
import Derived.Shelf.GgSortMore.Stable
import Derived.Lib.Hide
import Derived.Outline
import Derived.Test.YtbheegamibdbhaaStabPure
set_option linter.unusedVariables false
set_option linter.unusedSimpArgs false
namespace Go.Proofs.Ytbheegamibdbhaa.StabWalk
open Go.Shelf Go.RowKit Go.Lib Go.Sort Go.Proofs Go.Proofs.Ytbheegamibdbhaa.SymPure Go.Proofs.Ytbheegamibdbhaa.SymMerge Go.Proofs.Ytbheegamibdbhaa.StabPure
variable {P : Program} {ρ : Ren} {α : Type} [Inhabited α]
def Dn (enc : α → Value) (w0 : World) (blk off : Nat) (d' : Array α) (e : Ending) (w' : World) : Prop := e = .returned (.tuple #[]) ∧ SW enc w0 blk off d' w'
theorem cell_other (enc : α → Value) (W : World) (blk off n : Nat) (dk : Array α) (os : Array Obj) (a : Addr) (h1 : a.block ≠ blk) (h2 : a.block < W.heap.size) : (sortWorld enc W blk off n dk os).cell? a = W.cell? a := by
  unfold sortWorld
  rw [cell?_grow _ _ _ (by rw [size_putRow]; exact h2), cell?_putRow_other enc _ blk off _ _ (Or.inl h1)]
  rfl
theorem sw_of_alloc {enc : α → Value} {W w' : World} {o : Obj} {blk off : Nat} {d : Array α} (hblk : blk < W.heap.size) (h : SW enc (W.alloc o) blk off d w') : SW enc W blk off d w' := by
  obtain ⟨n, os, rfl⟩ := h
  exact ⟨n, _, sortWorld_alloc enc W _ blk off n _ os hblk⟩
theorem sw_box {enc : α → Value} {W wr : World} {x y : Value} {T : TypeId} {blk off : Nat} {d : Array α} (hblk : blk < W.heap.size) (h : SW enc (W.alloc (.cells #[x, y] T)) blk off d wr) :
    wr.cell? ⟨W.heap.size, 0, none⟩ = some x ∧ wr.cell? ⟨W.heap.size, 1, none⟩ = some y := by
  obtain ⟨n, os, rfl⟩ := h
  have hne : W.heap.size ≠ blk := by omega
  exact ⟨(cell_other enc _ blk off n d os ⟨W.heap.size, 0, none⟩ hne (by simp)).trans (by simp), (cell_other enc _ blk off n d os ⟨W.heap.size, 1, none⟩ hne (by simp)).trans (by simp)⟩
theorem sw_trans {enc : α → Value} {W w1 w2 : World} {blk off : Nat} {d d' : Array α} (hblk : blk < W.heap.size) (h : SW enc W blk off d w1) (g : SW enc w1 blk off d' w2) (hs : d'.size = d.size) : SW enc W blk off d' w2 := by
  obtain ⟨n, os, rfl⟩ := g
  exact h.on hblk n d' os hs
set_option maxHeartbeats 2000000 in
set_option maxRecDepth 100000 in
theorem swapRange_any (L : LaysGt.n49 P ρ) (enc : α → Value) (lf : Fn) (la lb : Array Value) (sf : Nat) (sb : Array Value) (blk off : Nat) (d : Array α) (W : World) (a b n : Nat)
    (hswap : SwapSwaps P sf sb enc blk off d.size) (hH : Holds enc W blk off d) (hblk : blk < W.heap.size) (ha : a + n ≤ d.size) (hb : b + n ≤ d.size) (hsz : d.size < 4611686018427387904) :
    Calls P (ρ.f 49) #[.agg #[.func lf la lb, .func (.func sf) #[] sb], .int .i64 a, .int .i64 b, .int .i64 n] W (Dn enc W blk off (swR d a b n)) := by
  have mixed := L.mixed; have t0 := L.t0; have a0 := L.a0; have z0 := L.z0; have v0 := L.v0; have t3 := L.t3; have a3 := L.a3; have z3 := L.z3; have v3 := L.v3; have t4 := L.t4; have a4 := L.a4; have z4 := L.z4; have v4 := L.v4; have t26 := L.t26; have a26 := L.a26; have z26 := L.z26; have v26 := L.v26; have t38 := L.t38; have a38 := L.a38; have z38 := L.z38; have v38 := L.v38; have t42 := L.t42; have a42 := L.a42; have z42 := L.z42; have v42 := L.v42
  have u42 := run_underlying L.t42
  have HH := Lib.hid (holds_grow enc W #[.cells #[.func lf la lb, .func (.func sf) #[] sb] (ρ.t 42)] blk off d hblk hH)
  rw [← alloc_eq_grow] at HH
  have HS1 := Lib.hid (SW.start HH.out)
  have HSWAP := Lib.hid hswap
  clear hswap hH
  go_enter L.f49, BodyGt.n49_ntmps ρ
  go_wp2
  go_loopw [8] (fun v8 wr => ∃ k : Nat, v8 = .int .i64 k ∧ k ≤ n ∧ Hid (SW enc (W.alloc (.cells #[.func lf la lb, .func (.func sf) #[] sb] (ρ.t 42))) blk off (swR d a b k) wr)) (fun v8 _ => n - (intOf v8).toNat)
  case atStart => exact ⟨0, by go_num, Nat.zero_le _, HS1⟩
  case round =>
    obtain ⟨k, rfl, hk, HS⟩ := hrel
    by_cases hlt : k < n
    · obtain ⟨c0, c1⟩ := sw_box hblk HS.out
      have hs := HSWAP.out wr (swR d a b k) (HS.out.holds (by simp; omega) HH.out (swR_size _ _ _ _)) (swR_size _ _ _ _) (a + k) (b + k) (by omega) (by omega)
      have HN := Lib.hid (HS.out.swap (by simp; omega) (a + k) (b + k) (by rw [swR_size]; omega) (by rw [swR_size]; omega))
      generalize ((wr.setCell ⟨blk, off + (a + k), none⟩ (enc (swR d a b k)[b + k]!)).setCell ⟨blk, off + (b + k), none⟩ (enc (swR d a b k)[a + k]!)) = w2 at hs HN
      rw [Int.natCast_add, Int.natCast_add] at hs
      go_wp2
      go_roundw
      case rel => exact ⟨k + 1, by go_num, by omega, HN⟩
      case measure => simp [intOf]; omega
    · have : k = n := by omega
      subst this
      go_wp2
      go_end0
      exact ⟨rfl, sw_of_alloc hblk HS.out⟩
set_option maxHeartbeats 2000000 in
set_option maxRecDepth 100000 in
theorem rotate_any (L : LaysGt.n42 P ρ) (enc : α → Value) (lf : Fn) (la lb : Array Value) (sf : Nat) (sb : Array Value) (blk off : Nat) (d : Array α) (W : World) (a m b : Nat)
    (hswap : SwapSwaps P sf sb enc blk off d.size) (hH : Holds enc W blk off d) (hblk : blk < W.heap.size) (h0 : a < m) (h1 : m < b) (hb : b ≤ d.size) (hsz : d.size < 4611686018427387904) :
    Calls P (ρ.f 42) #[.agg #[.func lf la lb, .func (.func sf) #[] sb], .int .i64 a, .int .i64 m, .int .i64 b] W (Dn enc W blk off (rot d a m b)) := by
  have mixed := L.mixed; have t0 := L.t0; have a0 := L.a0; have z0 := L.z0; have v0 := L.v0; have t3 := L.t3; have a3 := L.a3; have z3 := L.z3; have v3 := L.v3; have t4 := L.t4; have a4 := L.a4; have z4 := L.z4; have v4 := L.v4; have t26 := L.t26; have a26 := L.a26; have z26 := L.z26; have v26 := L.v26; have t38 := L.t38; have a38 := L.a38; have z38 := L.z38; have v38 := L.v38; have t42 := L.t42; have a42 := L.a42; have z42 := L.z42; have v42 := L.v42
  have u42 := run_underlying L.t42
  have e49 : ∀ args w, (callFunc (ρ.f 49) args).run P w = .ok (.enter (ρ.f 49) args) w := enters_of L.f49 (by kernel_rfl) rfl
  have HL := Lib.hid (show LaysGt.n49 P ρ from { L with })
  have HH := Lib.hid (holds_grow enc W #[.cells #[.func lf la lb, .func (.func sf) #[] sb] (ρ.t 42)] blk off d hblk hH)
  rw [← alloc_eq_grow] at HH
  have HS1 := Lib.hid (SW.start HH.out)
  have HSWAP := Lib.hid hswap
  have HROT : Hid (rot d a m b = rotL m (b - a) (m - a) (b - m) d) := Lib.hid rfl
  generalize rot d a m b = r at HROT ⊢
  clear hswap hH
  go_enter L.f42, BodyGt.n42_ntmps ρ
  go_wp2
  go_loopw [8, 9] (fun v8 v9 wr => ∃ (i j : Nat) (dk : Array α), v8 = .int .i64 i ∧ v9 = .int .i64 j ∧ 0 < i ∧ 0 < j ∧ a + i ≤ m ∧ m + j ≤ b ∧ dk.size = d.size ∧ Hid (∃ f, i + j ≤ f ∧ rotL m f i j dk = r) ∧ Hid (SW enc (W.alloc (.cells #[.func lf la lb, .func (.func sf) #[] sb] (ρ.t 42))) blk off dk wr)) (fun v8 v9 _ => (intOf v8).toNat + (intOf v9).toNat)
  case atStart => exact ⟨m - a, b - m, d, by congr 1; omega, by congr 1; omega, by omega, by omega, by omega, by omega, rfl, Lib.hid ⟨b - a, by omega, HROT.out.symm⟩, HS1⟩
  case round =>
    obtain ⟨i, j, dk, rfl, rfl, hi, hj, hai, hbj, hdk, HR, HS⟩ := hrel
    obtain ⟨c0, c1⟩ := sw_box hblk HS.out
    have HC : ∀ p q n, p + n ≤ d.size → q + n ≤ d.size → Hid (Calls P (ρ.f 49) #[.agg #[.func lf la lb, .func (.func sf) #[] sb], .int .i64 (p : Nat), .int .i64 (q : Nat), .int .i64 (n : Nat)] wr (Dn enc wr blk off (swR dk p q n))) := fun p q n hp hq =>
      Lib.hid (swapRange_any HL.out enc lf la lb sf sb blk off dk wr p q n (by rw [hdk]; exact HSWAP.out) (HS.out.holds (by simp; omega) HH.out hdk) (HS.out.lt (by simp; omega)) (by omega) (by omega) (by omega))
    by_cases e : i = j
    · subst e
      have hc := (HC (m - i) m i (by omega) (by omega)).out
      have HE : Hid (swR dk (m - i) m i = r) := Lib.hid (by
        obtain ⟨f, hf, hr⟩ := HR.out
        obtain ⟨g, rfl⟩ : ∃ g, f = g + 1 := ⟨f - 1, by omega⟩
        rw [rotL, if_pos rfl] at hr; exact hr)
      rw [show ((m - i : Nat) : Int) = (m : Int) - (i : Int) by omega] at hc
      clear HC
      go_wp2_with (go_at_fn (ρ.f 49); refine hc.mono ?_; rintro e w1 ⟨rfl, HD⟩)
      have HD := Lib.hid (sw_trans (by simp; omega) HS.out HD (swR_size _ _ _ _))
      rw [HE.out] at HD
      go_wp2
      go_end0
      exact ⟨rfl, sw_of_alloc hblk HD.out⟩
    · by_cases g : j < i
      · have hc := (HC (m - i) m j (by omega) (by omega)).out
        rw [show ((m - i : Nat) : Int) = (m : Int) - (i : Int) by omega] at hc
        have HE : Hid (∃ f, (i - j) + j ≤ f ∧ rotL m f (i - j) j (swR dk (m - i) m j) = r) := Lib.hid (by
          obtain ⟨f, hf, hr⟩ := HR.out
          obtain ⟨f', rfl⟩ : ∃ g, f = g + 1 := ⟨f - 1, by omega⟩
          rw [rotL, if_neg e, if_pos g] at hr; exact ⟨f', by omega, hr⟩)
        have HSZ := Lib.hid (swR_size dk (m - i) m j)
        have hij : (i : Int) ≠ (j : Int) := by omega
        clear HC HR
        go_wp2_with (go_at_fn (ρ.f 49); refine hc.mono ?_; rintro e w1 ⟨rfl, HD⟩)
        have HD := Lib.hid (sw_trans (by simp; omega) HS.out HD (swR_size _ _ _ _))
        go_wp2
        go_roundw
        case rel => exact ⟨i - j, j, _, by congr 1; omega, rfl, by omega, hj, by omega, hbj, HSZ.out.trans hdk, HE, HD⟩
        case measure => simp [intOf]; omega
      · have hc := (HC (m - i) (m + j - i) i (by omega) (by omega)).out
        rw [show ((m - i : Nat) : Int) = (m : Int) - (i : Int) by omega, show ((m + j - i : Nat) : Int) = (m : Int) + (j : Int) - (i : Int) by omega] at hc
        have HE : Hid (∃ f, i + (j - i) ≤ f ∧ rotL m f i (j - i) (swR dk (m - i) (m + j - i) i) = r) := Lib.hid (by
          obtain ⟨f, hf, hr⟩ := HR.out
          obtain ⟨f', rfl⟩ : ∃ g, f = g + 1 := ⟨f - 1, by omega⟩
          rw [rotL, if_neg e, if_neg g] at hr; exact ⟨f', by omega, hr⟩)
        have HSZ := Lib.hid (swR_size dk (m - i) (m + j - i) i)
        have hij : (i : Int) ≠ (j : Int) := by omega
        clear HC HR
        go_wp2_with (go_at_fn (ρ.f 49); refine hc.mono ?_; rintro e w1 ⟨rfl, HD⟩)
        have HD := Lib.hid (sw_trans (by simp; omega) HS.out HD (swR_size _ _ _ _))
        go_wp2
        go_roundw
        case rel => exact ⟨i, j - i, _, rfl, by congr 1; omega, hi, by omega, hai, by omega, HSZ.out.trans hdk, HE, HD⟩
        case measure => simp [intOf]; omega
end Go.Proofs.Ytbheegamibdbhaa.StabWalk
