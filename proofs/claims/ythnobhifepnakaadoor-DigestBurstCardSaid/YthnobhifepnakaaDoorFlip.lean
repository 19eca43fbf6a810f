/- Flipped: the text with some bits turned. -/
import Derived.Test.YthnobhifepnakaaDoorFlipPure
import Derived.Test.YthnobhifepnakaaDoorWords
import Derived.Outline
set_option linter.unusedVariables false
set_option linter.unusedSimpArgs false
namespace Go.Proofs.YthnobhifepnakaaDoor.Flip
open Go.RowKit Go.Proofs.YthnobhifepnakaaDoorW.PrintWords Go.Proofs.YthnobhifepnakaaDoorW.PrintLast Go.Proofs.YthnobhifepnakaaDoorW.PrintMore
open Go.Proofs.YthnobhifepnakaaDoor.Base Go.Proofs.YthnobhifepnakaaDoor.Words
/-- a row of bytes that may be longer than n -/
structure Row (w : World) (b n : Nat) (f : Nat → Nat) : Prop where mk ::
  (cell : ∀ i, i < n → w.cell? ⟨b, i, none⟩ = some (.int .u8 (f i : Nat)))
  (froz : ∀ i, i < n → w.frozen? ⟨b, i, none⟩ = false)
  (lt : b < w.heap.size)
theorem Row.start (w : World) (e : TypeId) (s : ByteArray) : Row (Lib.bytesWorld w e s) w.heap.size s.size (fun j => (s.data.toList.getD j 0).toNat) := by
  refine ⟨fun i hi => Lib.bytesWorld_cell w e s i hi, fun i hi => ?_, by rw [Lib.bytesWorld_size]; omega⟩
  simp [World.frozen?, Lib.bytesWorld_at_new, Lib.bytesCells]
  intro h
  omega
theorem Row.set {w : World} {b n : Nat} {f : Nat → Nat} (h : Row w b n f) (i : Nat) (hi : i < n) (v : Nat) : Row (w.setCell ⟨b, i, none⟩ (.int .u8 (v : Nat))) b n (fun j => if j = i then v else f j) := by
  refine ⟨fun j hj => ?_, fun j hj => by rw [World.frozen?_setCell]; exact h.froz j hj, by simpa using h.lt⟩
  by_cases e : j = i
  · subst e
    rw [World.cell?_setCell_same _ _ _ (h.cell j hj)]
    simp
  · rw [World.cell?_setCell_other _ _ _ _ (by intro he; injection he with _ he2; exact e he2.symm), h.cell j hj]
    simp [e]
theorem Row.congr {w : World} {b n : Nat} {f g : Nat → Nat} (h : Row w b n f) (e : ∀ i, i < n → f i = g i) : Row w b n g :=
  ⟨fun i hi => by rw [h.cell i hi, e i hi], h.froz, h.lt⟩
theorem pw2_next (k : Nat) : pw2 (k + 1) = pw2 k * 2 := Nat.pow_succ ..
theorem pw2_le (k r : Nat) (h : k < r) (hr : r < 8) : pw2 k ≤ 64 := Nat.pow_le_pow_right (n := 2) (by decide) (show k ≤ 6 by omega)
theorem pw2_lt (r : Nat) (hr : r < 8) : pw2 r < 256 := Nat.pow_lt_pow_right (by decide) hr
theorem pw2_pos (i : Nat) : 0 < pw2 i := Nat.two_pow_pos i
def fs (s : ByteArray) (p m i : Nat) : Nat → Nat := fb (fun j => (s.data.toList.getD j 0).toNat) (8 * s.size) p m i
theorem fs_lt (s : ByteArray) (p m i j : Nat) : fs s p m i j < 256 := fb_lt (fun j => (s.data.toList.getD j 0).toNat_lt) _ _ _ _ _
theorem fs_hit (s : ByteArray) (p m i : Nat) (h : m / pw2 i % 2 = 1) (h2 : p + i < 8 * s.size) (q r : Nat) (hq : q = (p + i) / 8) (hr : r = (p + i) % 8) (j : Nat) : (if j = q then fs s p m i q ^^^ pw2 r else fs s p m i j) = fs s p m (i + 1) j := by
  subst hq hr
  unfold fs
  simp only [fb, pw2] at h ⊢
  by_cases hj : j = (p + i) / 8
  · rw [if_pos hj, if_pos ⟨⟨h, h2⟩, hj⟩, hj]
  · rw [if_neg hj, if_neg (fun e => hj e.2)]
theorem fs_miss (s : ByteArray) (p m i : Nat) (h : ¬ (m / pw2 i % 2 = 1 ∧ p + i < 8 * s.size)) (j : Nat) : fs s p m i j = fs s p m (i + 1) j := by
  unfold fs
  simp only [fb, pw2] at h ⊢
  rw [if_neg (fun e => h e.1)]
theorem half (m i : Nat) : m / pw2 i / 2 = m / pw2 (i + 1) := by rw [pw2_next, Nat.div_div_eq_div_mul]
def flipI (s : ByteArray) (p m : Nat) : List Int := (List.range s.size).map fun j => ((fs s p m 32 j : Nat) : Int)
theorem flipI_str (s : ByteArray) (p m : Nat) : strOfNums (flipI s p m) = strOf (flipL s.data.toList p m) := by
  have e : s.data.toList.length = s.size := Take.size_toList s
  have : (flipI s p m).map (fun n : Int => UInt8.ofNat n.toNat) = flipL s.data.toList p m := by
    simp only [flipI, flipL, List.map_map, e]
    apply List.map_congr_left
    intro j _
    simp [fs]
  unfold strOfNums
  rw [this]
  rfl
set_option maxRecDepth 100000 in
set_option maxHeartbeats 4000000 in
theorem flip_any (s : ByteArray) (p m : Nat) (w : World) (hs : s.size ≤ 2147483647) (hp : p < 8 * s.size) (hm : m < 4294967296) :
    Calls Tryd.prog 27 #[.string s, .int .i64 (p : Nat), .int .i64 (m : Nat)] w fun e w' => e = .returned (.string (strOf (flipL s.data.toList p m))) ∧ Below w.heap.size w w' := by
  have kb := fun W => print_bytes (P := Tryd.prog) 9 64 5 Tryd.underlying9 Tryd.underlying64 Tryd.underlying5 s W
  have HR := Aside0.mk (Row.start w 5 s)
  have HB := Aside0.mk (below_bytes (Below.refl w.heap.size w) 5 s)
  go_enter Tryd.func27, Tryd.ntmps27
  go_wp2
  clear kb
  go_loopw [2, 8, 9, 10, 11] (fun wv iv _ _ _ wr => ∃ i : Nat, i ≤ 32 ∧ iv = .int .i64 i ∧ wv = .int .i64 (m / pw2 i : Nat) ∧ Aside0 (Row wr w.heap.size s.size (fs s p m i)) ∧ Aside0 (Below w.heap.size w wr)) (fun _ iv _ _ _ _ => 32 - (intOf iv).toNat)
  case atStart => exact ⟨0, by omega, rfl, by simp [pw2], HR, HB⟩
  case round =>
    clear HR HB
    obtain ⟨i, hi, rfl, rfl, HR, HB⟩ := hrel
    have hv := half m i
    have hle : m / pw2 i ≤ m := Nat.div_le_self _ _
    by_cases hlt : i < 32
    · by_cases h1 : m / pw2 i % 2 = 1
      · by_cases h2 : p + i < 8 * s.size
        · obtain ⟨q, hq⟩ : ∃ q : Nat, q = (p + i) / 8 := ⟨_, rfl⟩
          obtain ⟨r, hr⟩ : ∃ r : Nat, r = (p + i) % 8 := ⟨_, rfl⟩
          have HF := Aside0.mk (fs_hit s p m i h1 h2 q r hq hr)
          have hqI : ((p : Int) + (i : Int)) / 8 = (q : Int) := by omega
          have hrI : ((p : Int) + (i : Int)) % 8 = (r : Int) := by omega
          have hqs : q < s.size := by omega
          have hr8 : r < 8 := by omega
          have hc := HR.out.cell q hqs
          have hz := HR.out.froz q hqs
          have hl := fs_lt s p m i q
          have hx := u8_xor_nat (fs s p m i q) (pw2 r) hl (pw2_lt r hr8)
          generalize hg : fs s p m i q = g at hc hl hx HF
          clear hg
          generalize hy : m / pw2 i = y at h1 hv hle
          have HY := Aside0.mk hy
          have HV := Aside0.mk hv
          have h1I : ((y : Int) % 2 == 1) = true := beq_iff_eq.2 (by omega)
          have HQ := Aside0.mk hq
          have HRR := Aside0.mk hr
          clear hy hv hq hr
          go_wp2
          go_loop [10, 11] (fun mv kv => ∃ k : Nat, k ≤ r ∧ kv = .int .i64 k ∧ mv = .int .u8 (pw2 k : Nat)) (fun _ kv => r - (intOf kv).toNat)
          case atStart => exact ⟨0, by omega, rfl, rfl⟩
          case round =>
            obtain ⟨k, hk, rfl, rfl⟩ := hrel
            by_cases hkr : k < r
            · have hpl := pw2_le k r hkr hr8
              have HN := Aside0.mk (pw2_next k)
              generalize pw2 k = z at hpl HN
              go_wp2
              go_round
              case rel => exact ⟨k + 1, by omega, by go_num, by rw [HN.out]; go_num⟩
              case measure => simp [intOf]; omega
            · obtain rfl : k = r := by omega
              go_wp2
              go_roundw
              case rel => exact ⟨i + 1, by omega, by go_num, by rw [← HV.out]; go_num, ⟨(HR.out.set q hqs (g ^^^ pw2 k)).congr (fun j hj => HF.out j)⟩, ⟨HB.out.setCell (Nat.le_refl _) _⟩⟩
              case measure => simp [intOf]; omega
        · have HF := Aside0.mk (fs_miss s p m i (fun h => h2 h.2))
          generalize hy : m / pw2 i = y at h1 hv hle
          have HV := Aside0.mk hv
          have h1I : ((y : Int) % 2 == 1) = true := beq_iff_eq.2 (by omega)
          clear hy hv
          go_wp2
          go_roundw
          case rel => exact ⟨i + 1, by omega, by go_num, by rw [← HV.out]; go_num, ⟨HR.out.congr (fun j hj => HF.out j)⟩, HB⟩
          case measure => simp [intOf]; omega
      · have HF := Aside0.mk (fs_miss s p m i (fun h => h1 h.1))
        generalize hy : m / pw2 i = y at h1 hv hle
        have HV := Aside0.mk hv
        have h1I : ((y : Int) % 2 == 1) = false := beq_eq_false_iff_ne.2 (by omega)
        clear hy hv
        go_wp2
        go_roundw
        case rel => exact ⟨i + 1, by omega, by go_num, by rw [← HV.out]; go_num, ⟨HR.out.congr (fun j hj => HF.out j)⟩, HB⟩
        case measure => simp [intOf]; omega
    · obtain rfl : i = 32 := by omega
      have hcv := fun c => run_convert_bytes_arg (P := Tryd.prog) wr 64 5 Tryd.underlying64 Tryd.underlying5 w.heap.size 0 s.size c (flipI s p m) (by simp [flipI]) (fun i hi => by rw [Nat.zero_add, HR.out.cell i hi]; simp [flipI, List.getD, hi]) 9 Tryd.underlying9
      rw [flipI_str] at hcv
      go_wp2
      go_ret
      exact ⟨rfl, HB.out⟩
end Go.Proofs.YthnobhifepnakaaDoor.Flip
