/- Joined texts of this claim: FlipPure, FlipF, OutPure, ProperPure, Proper, LawBack, LawBurst, OpenM, LaidF, LaidK -/
import Derived.Test.YtnifgokjagahfaaDoorJFBurst4
import Derived.Test.YtnifgokjagahfaaDoorJFBurst1
import Derived.Outline
import Derived.Test.YtnifgokjagahfaaDoorJFBurst2
import Derived.Test.YtnifgokjagahfaaDoorPFrameBackx1
import Derived.Test.YtnifgokjagahfaaDoorPFrameBackx2
import Derived.Deep.DeepCutAuto
import Derived.Test.YtnifgokjagahfaaDoorRows
import Derived.Test.YtnifgokjagahfaaDoorJFBurst0
import Derived.ProofKit
import Derived.Lib.SmallJoins
import Derived.Test.YtnifgokjagahfaaDoorTie
import Derived.Lib.LaidTab
/- Plain arithmetic: a text with some bits turned. -/
namespace Go.Proofs.YtnifgokjagahfaaDoor.Flip
open Go.Proofs.YtnifgokjagahfaaDoor.CrcPure
def pw2 (i : Nat) : Nat := 2 ^ i
/-- byte j behind i steps -/
def fb (f : Nat → Nat) (n p m : Nat) : Nat → Nat → Nat
  | 0, j => f j
  | i + 1, j => if (m / 2 ^ i % 2 = 1 ∧ p + i < n) ∧ j = (p + i) / 8 then fb f n p m i j ^^^ 2 ^ ((p + i) % 8) else fb f n p m i j
theorem fb_lt {f : Nat → Nat} (hf : ∀ j, f j < 256) (n p m : Nat) : ∀ i j, fb f n p m i j < 256 := by
  intro i
  induction i with
  | zero => exact hf
  | succ i ih =>
    intro j
    simp only [fb]
    split
    · refine Nat.xor_lt_two_pow (n := 8) (ih j) ?_
      exact Nat.pow_lt_pow_right (by decide) (Nat.mod_lt _ (by decide))
    · exact ih j
def leF (f : Nat → Nat) : Nat → Nat
  | 0 => 0
  | n + 1 => leF f n + 2 ^ (8 * n) * f n
theorem leF_lt {f : Nat → Nat} (hf : ∀ j, f j < 256) (n : Nat) : leF f n < 2 ^ (8 * n) := by
  induction n with
  | zero => simp [leF]
  | succ n ih =>
    have h := hf n
    have : 2 ^ (8 * (n + 1)) = 2 ^ (8 * n) * 256 := by rw [show 8 * (n + 1) = 8 * n + 8 by omega, Nat.pow_add]
    rw [this]
    simp only [leF]
    have h2 : 2 ^ (8 * n) * (f n + 1) ≤ 2 ^ (8 * n) * 256 := Nat.mul_le_mul_left _ (by omega)
    rw [Nat.mul_add, Nat.mul_one] at h2
    omega
theorem leF_congr {f g : Nat → Nat} (n : Nat) (h : ∀ j, j < n → f j = g j) : leF f n = leF g n := by
  induction n with
  | zero => rfl
  | succ n ih => simp only [leF]; rw [ih (fun j hj => h j (by omega)), h n (by omega)]
theorem mul_xor_pow (n a r : Nat) : 2 ^ n * (a ^^^ 2 ^ r) = 2 ^ n * a ^^^ 2 ^ (n + r) := by
  apply Nat.eq_of_testBit_eq; intro k
  rw [Nat.testBit_xor, Nat.testBit_two_pow_mul, Nat.testBit_two_pow_mul, Nat.testBit_xor, Nat.testBit_two_pow, Nat.testBit_two_pow]
  by_cases h : n ≤ k
  · have e : decide (r = k - n) = decide (n + r = k) := by rw [decide_eq_decide]; omega
    simp [h, e]
  · have : ¬ n + r = k := by omega
    simp [h, this]
theorem leF_flip {f : Nat → Nat} (hf : ∀ j, f j < 256) (q r : Nat) (hr : r < 8) (n : Nat) (hq : q < n) : leF (fun j => if j = q then f j ^^^ 2 ^ r else f j) n = leF f n ^^^ 2 ^ (8 * q + r) := by
  have hg : ∀ j, (fun j => if j = q then f j ^^^ 2 ^ r else f j) j < 256 := by
    intro j
    simp only
    split
    · exact Nat.xor_lt_two_pow (n := 8) (hf j) (Nat.pow_lt_pow_right (by decide) hr)
    · exact hf j
  induction n with
  | zero => omega
  | succ n ih =>
    have e1 := add_xor (b := f n) (leF_lt hf n)
    have e2 := add_xor (b := (fun j => if j = q then f j ^^^ 2 ^ r else f j) n) (leF_lt hg n)
    show leF _ n + 2 ^ (8 * n) * (fun j => if j = q then f j ^^^ 2 ^ r else f j) n = (leF f n + 2 ^ (8 * n) * f n) ^^^ _
    rw [e1, e2]
    by_cases h : q = n
    · subst h
      rw [leF_congr q (g := f) (fun j hj => if_neg (by omega))]
      simp only [if_true]
      rw [mul_xor_pow, Nat.xor_assoc]
    · rw [ih (by omega)]
      simp only
      rw [if_neg (fun e => h e.symm)]
      ac_rfl
theorem leF_fb {f : Nat → Nat} (hf : ∀ j, f j < 256) (N p m : Nat) (i : Nat) : leF (fb f (8 * N) p m i) N = flipTo (leF f N) (8 * N) p m i := by
  induction i with
  | zero => exact leF_congr N (fun j _ => rfl)
  | succ i ih =>
    simp only [flipTo]
    by_cases h : m / 2 ^ i % 2 = 1 ∧ p + i < 8 * N
    · rw [if_pos h, ← ih]
      have := leF_flip (fb_lt hf (8 * N) p m i) ((p + i) / 8) ((p + i) % 8) (Nat.mod_lt _ (by decide)) N (by omega)
      rw [show 8 * ((p + i) / 8) + (p + i) % 8 = p + i by omega] at this
      rw [← this]
      refine leF_congr N (fun j _ => ?_)
      simp only [fb]
      by_cases hj : j = (p + i) / 8
      · rw [if_pos ⟨h, hj⟩, if_pos hj]
      · rw [if_neg (fun e => hj e.2), if_neg hj]
    · rw [if_neg h, ← ih]
      refine leF_congr N (fun j _ => ?_)
      simp only [fb]
      rw [if_neg (fun e => h e.1)]
theorem leF_shift (f : Nat → Nat) (n : Nat) : leF f (n + 1) = f 0 + 256 * leF (fun j => f (j + 1)) n := by
  induction n with
  | zero => simp [leF]
  | succ n ih =>
    have e : 2 ^ (8 * (n + 1)) = 256 * 2 ^ (8 * n) := by rw [show 8 * (n + 1) = 8 + 8 * n by omega, Nat.pow_add]
    rw [leF, ih, leF, e, Nat.mul_add, Nat.mul_assoc, Nat.add_assoc]
theorem le_leF : ∀ l : List UInt8, le l = leF (fun j => (l.getD j 0).toNat) l.length
  | [] => rfl
  | c :: l => by
    rw [List.length_cons, leF_shift]
    simp only [le, List.getD_cons_zero, List.getD_cons_succ]
    rw [le_leF l]
/-- the text with the bits of m turned from p on -/
def flipL (l : List UInt8) (p m : Nat) : List UInt8 := (List.range l.length).map fun j => UInt8.ofNat (fb (fun j => (l.getD j 0).toNat) (8 * l.length) p m 32 j)
theorem flipL_length (l : List UInt8) (p m : Nat) : (flipL l p m).length = l.length := by simp [flipL]
theorem flipL_le (l : List UInt8) (p m : Nat) : le (flipL l p m) = flipTo (le l) (8 * l.length) p m 32 := by
  have hf : ∀ j, (fun j => (l.getD j 0).toNat) j < 256 := fun j => (l.getD j 0).toNat_lt
  rw [le_leF, le_leF l, ← leF_fb hf, flipL_length]
  refine leF_congr _ (fun j hj => ?_)
  have := fb_lt hf (8 * l.length) p m 32 j
  simp only [flipL]
  rw [List.getD_eq_getElem?_getD, List.getElem?_map, List.getElem?_range hj]
  simp only [Option.map_some, Option.getD_some]
  rw [UInt8.toNat_ofNat', Nat.mod_eq_of_lt (by exact this)]
theorem flip_burst (l : List UInt8) (p m : Nat) (hp : p ≤ 8 * l.length) : (crc (flipL l p m) = crc l ↔ flipL l p m = l) := by
  refine burst (p := p) (m := (m % 2 ^ 32) % 2 ^ (8 * l.length - p)) (flipL_length l p m) hp ?_ ?_
  · exact Nat.lt_of_le_of_lt (Nat.mod_le _ _) (Nat.mod_lt _ (by decide))
  · rw [flipL_le, flipTo_eq _ _ _ _ _ hp]
end Go.Proofs.YtnifgokjagahfaaDoor.Flip

/- flipped: the text with some bits turned. -/
set_option linter.unusedVariables false
set_option linter.unusedSimpArgs false
namespace Go.Proofs.YtnifgokjagahfaaDoor.Flip
open Go.RowKit Go.Proofs.YtnifgokjagahfaaDoorW.PrintWords Go.Proofs.YtnifgokjagahfaaDoorW.PrintLast Go.Proofs.YtnifgokjagahfaaDoorW.PrintMore
open Go.Proofs.YtnifgokjagahfaaDoor.Base Go.Proofs.YtnifgokjagahfaaDoor.App Go.Proofs.YtnifgokjagahfaaDoor.Put
/-- a row of bytes that may be longer than n -/
structure Row (w : World) (b n : Nat) (f : Nat → Nat) : Prop where mk ::
  (cell : ∀ i, i < n → w.cell? ⟨b, i, none⟩ = some (.int .u8 (f i : Nat)))
  (froz : ∀ i, i < n → w.frozen? ⟨b, i, none⟩ = false)
  (lt : b < w.heap.size)
theorem Row.start (w : World) (e : TypeId) (s : ByteArray) : Row (Lib.bytesWorld w e s) w.heap.size s.size (fun j => (s.data.toList.getD j 0).toNat) := by
  refine ⟨fun i hi => Lib.bytesWorld_cell w e s i hi, fun i hi => ?_, by rw [Lib.bytesWorld_size]; omega⟩
  simp [World.frozen?, Lib.bytesWorld_at_new, Lib.bytesCells]
  intro h
  omega
theorem Row.set {w : World} {b n : Nat} {f : Nat → Nat} (h : Row w b n f) (i : Nat) (hi : i < n) (v : Nat) : Row (w.setCell ⟨b, i, none⟩ (.int .u8 (v : Nat))) b n (fun j => if j = i then v else f j) := by
  refine ⟨fun j hj => ?_, fun j hj => by rw [World.frozen?_setCell]; exact h.froz j hj, by simpa using h.lt⟩
  by_cases e : j = i
  · subst e
    rw [World.cell?_setCell_same _ _ _ (h.cell j hj)]
    simp
  · rw [World.cell?_setCell_other _ _ _ _ (by intro he; injection he with _ he2; exact e he2.symm), h.cell j hj]
    simp [e]
theorem Row.congr {w : World} {b n : Nat} {f g : Nat → Nat} (h : Row w b n f) (e : ∀ i, i < n → f i = g i) : Row w b n g :=
  ⟨fun i hi => by rw [h.cell i hi, e i hi], h.froz, h.lt⟩
theorem pw2_next (k : Nat) : pw2 (k + 1) = pw2 k * 2 := Nat.pow_succ ..
theorem pw2_le (k r : Nat) (h : k < r) (hr : r < 8) : pw2 k ≤ 64 := Nat.pow_le_pow_right (n := 2) (by decide) (show k ≤ 6 by omega)
theorem pw2_lt (r : Nat) (hr : r < 8) : pw2 r < 256 := Nat.pow_lt_pow_right (by decide) hr
theorem pw2_pos (i : Nat) : 0 < pw2 i := Nat.two_pow_pos i
def fs (s : ByteArray) (p m i : Nat) : Nat → Nat := fb (fun j => (s.data.toList.getD j 0).toNat) (8 * s.size) p m i
theorem fs_lt (s : ByteArray) (p m i j : Nat) : fs s p m i j < 256 := fb_lt (fun j => (s.data.toList.getD j 0).toNat_lt) _ _ _ _ _
theorem fs_hit (s : ByteArray) (p m i : Nat) (h : m / pw2 i % 2 = 1) (h2 : p + i < 8 * s.size) (q r : Nat) (hq : q = (p + i) / 8) (hr : r = (p + i) % 8) (j : Nat) : (if j = q then fs s p m i q ^^^ pw2 r else fs s p m i j) = fs s p m (i + 1) j := by
  subst hq hr
  unfold fs
  simp only [fb, pw2] at h ⊢
  by_cases hj : j = (p + i) / 8
  · rw [if_pos hj, if_pos ⟨⟨h, h2⟩, hj⟩, hj]
  · rw [if_neg hj, if_neg (fun e => hj e.2)]
theorem fs_miss (s : ByteArray) (p m i : Nat) (h : ¬ (m / pw2 i % 2 = 1 ∧ p + i < 8 * s.size)) (j : Nat) : fs s p m i j = fs s p m (i + 1) j := by
  unfold fs
  simp only [fb, pw2] at h ⊢
  rw [if_neg (fun e => h e.1)]
theorem half (m i : Nat) : m / pw2 i / 2 = m / pw2 (i + 1) := by rw [pw2_next, Nat.div_div_eq_div_mul]
def flipI (s : ByteArray) (p m : Nat) : List Int := (List.range s.size).map fun j => ((fs s p m 32 j : Nat) : Int)
theorem flipI_list (s : ByteArray) (p m : Nat) : (strOfNums (flipI s p m)).data.toList = flipL s.data.toList p m := by
  have e : s.data.toList.length = s.size := rfl
  have : (flipI s p m).map (fun n : Int => UInt8.ofNat n.toNat) = flipL s.data.toList p m := by
    simp only [flipI, flipL, List.map_map, e]
    apply List.map_congr_left
    intro j _
    simp [fs]
  rw [← this]
  unfold strOfNums
  simp
set_option maxRecDepth 100000 in
set_option maxHeartbeats 4000000 in
theorem flip_any (s : ByteArray) (p m : Nat) (w : World) (hs : s.size ≤ 2147483647) (hp : p < 8 * s.size) (hm : m < 4294967296) :
    Calls Tryd.prog 24 #[.string s, .int .i64 (p : Nat), .int .i64 (m : Nat)] w fun e w' => e = .returned (.string (strOfNums (flipI s p m))) ∧ Below w.heap.size w w' := by
  have kb := fun W => print_bytes (P := Tryd.prog) 9 82 5 Tryd.underlying9 Tryd.underlying82 Tryd.underlying5 s W
  have HR := Aside0.mk (Row.start w 5 s)
  have HB := Aside0.mk (below_bytes (Below.refl w.heap.size w) 5 s)
  go_enter Tryd.func24, Tryd.ntmps24
  go_wp2
  clear kb
  go_loopw [2, 8, 9, 10, 11] (fun wv iv _ _ _ wr => ∃ i : Nat, i ≤ 32 ∧ iv = .int .i64 i ∧ wv = .int .i64 (m / pw2 i : Nat) ∧ Aside0 (Row wr w.heap.size s.size (fs s p m i)) ∧ Aside0 (Below w.heap.size w wr)) (fun _ iv _ _ _ _ => 32 - (intOf iv).toNat)
  case atStart => exact ⟨0, by omega, rfl, by simp [pw2], HR, HB⟩
  case round =>
    clear HR HB
    obtain ⟨i, hi, rfl, rfl, HR, HB⟩ := hrel
    have hv := half m i
    have hle : m / pw2 i ≤ m := Nat.div_le_self _ _
    by_cases hlt : i < 32
    · by_cases h1 : m / pw2 i % 2 = 1
      · by_cases h2 : p + i < 8 * s.size
        · obtain ⟨q, hq⟩ : ∃ q : Nat, q = (p + i) / 8 := ⟨_, rfl⟩
          obtain ⟨r, hr⟩ : ∃ r : Nat, r = (p + i) % 8 := ⟨_, rfl⟩
          have HF := Aside0.mk (fs_hit s p m i h1 h2 q r hq hr)
          have hqI : ((p : Int) + (i : Int)) / 8 = (q : Int) := by omega
          have hrI : ((p : Int) + (i : Int)) % 8 = (r : Int) := by omega
          have hqs : q < s.size := by omega
          have hr8 : r < 8 := by omega
          have hc := HR.out.cell q hqs
          have hz := HR.out.froz q hqs
          have hl := fs_lt s p m i q
          have hx := u8_xor_nat (fs s p m i q) (pw2 r) hl (pw2_lt r hr8)
          generalize hg : fs s p m i q = g at hc hl hx HF
          clear hg
          generalize hy : m / pw2 i = y at h1 hv hle
          have HY := Aside0.mk hy
          have HV := Aside0.mk hv
          have h1I : ((y : Int) % 2 == 1) = true := beq_iff_eq.2 (by omega)
          have HQ := Aside0.mk hq
          have HRR := Aside0.mk hr
          clear hy hv hq hr
          go_wp2
          go_loop [10, 11] (fun mv kv => ∃ k : Nat, k ≤ r ∧ kv = .int .i64 k ∧ mv = .int .u8 (pw2 k : Nat)) (fun _ kv => r - (intOf kv).toNat)
          case atStart => exact ⟨0, by omega, rfl, rfl⟩
          case round =>
            obtain ⟨k, hk, rfl, rfl⟩ := hrel
            by_cases hkr : k < r
            · have hpl := pw2_le k r hkr hr8
              have HN := Aside0.mk (pw2_next k)
              generalize pw2 k = z at hpl HN
              go_wp2
              go_round
              case rel => exact ⟨k + 1, by omega, by go_num, by rw [HN.out]; go_num⟩
              case measure => simp [intOf]; omega
            · obtain rfl : k = r := by omega
              go_wp2
              go_roundw
              case rel => exact ⟨i + 1, by omega, by go_num, by rw [← HV.out]; go_num, ⟨(HR.out.set q hqs (g ^^^ pw2 k)).congr (fun j hj => HF.out j)⟩, ⟨HB.out.setCell (Nat.le_refl _) _⟩⟩
              case measure => simp [intOf]; omega
        · have HF := Aside0.mk (fs_miss s p m i (fun h => h2 h.2))
          generalize hy : m / pw2 i = y at h1 hv hle
          have HV := Aside0.mk hv
          have h1I : ((y : Int) % 2 == 1) = true := beq_iff_eq.2 (by omega)
          clear hy hv
          go_wp2
          go_roundw
          case rel => exact ⟨i + 1, by omega, by go_num, by rw [← HV.out]; go_num, ⟨HR.out.congr (fun j hj => HF.out j)⟩, HB⟩
          case measure => simp [intOf]; omega
      · have HF := Aside0.mk (fs_miss s p m i (fun h => h1 h.1))
        generalize hy : m / pw2 i = y at h1 hv hle
        have HV := Aside0.mk hv
        have h1I : ((y : Int) % 2 == 1) = false := beq_eq_false_iff_ne.2 (by omega)
        clear hy hv
        go_wp2
        go_roundw
        case rel => exact ⟨i + 1, by omega, by go_num, by rw [← HV.out]; go_num, ⟨HR.out.congr (fun j hj => HF.out j)⟩, HB⟩
        case measure => simp [intOf]; omega
    · obtain rfl : i = 32 := by omega
      have hcv := fun c => run_convert_bytes_arg (P := Tryd.prog) wr 82 5 Tryd.underlying82 Tryd.underlying5 w.heap.size 0 s.size c (flipI s p m) (by simp [flipI]) (fun i hi => by rw [Nat.zero_add, HR.out.cell i hi]; simp [flipI, List.getD, hi]) 9 Tryd.underlying9
      go_wp2
      go_ret
      exact ⟨rfl, HB.out⟩
end Go.Proofs.YtnifgokjagahfaaDoor.Flip

/- Plain laws of the statements that do not ask the document: a frame says its message; a changed frame is refused. -/
set_option linter.unusedVariables false
set_option linter.unusedSimpArgs false
namespace Go.Proofs.YtnifgokjagahfaaDoor.OutPure
open Go.RowKit Go.Proofs.YtnifgokjagahfaaDoorW.PrintWords Go.Proofs.YtnifgokjagahfaaDoorW.PrintLast Go.Proofs.YtnifgokjagahfaaDoorW.PrintMore
open Go.Proofs.YtnifgokjagahfaaDoor.Base Go.Proofs.YtnifgokjagahfaaDoor.Layouts Go.Proofs.YtnifgokjagahfaaDoor.Msg Go.Proofs.YtnifgokjagahfaaDoor.Put Go.Proofs.YtnifgokjagahfaaDoor.EncPure Go.Proofs.YtnifgokjagahfaaDoor.DecPure Go.Proofs.YtnifgokjagahfaaDoor.EqM Go.Proofs.YtnifgokjagahfaaDoor.CrcPure Go.Proofs.YtnifgokjagahfaaDoor.Flip
theorem whole_inj (m n : M) (vm : vB m = true) (vn : vB n = true) (km : 1 ≤ m.kind ∧ m.kind < 17) (kn : 1 ≤ n.kind ∧ n.kind < 17) (h : strOfNums (whole m) = strOfNums (whole n)) : m = n := by
  have e : whole m = whole n := by
    rw [← bytesOf_strOfNums _ (byt_whole m km), ← bytesOf_strOfNums _ (byt_whole n kn), h]
  have h1 := dec_whole m vm km
  rw [e, dec_whole n vn kn] at h1
  cases h1
  rfl
theorem same_whole (m n : M) (vm : vB m = true) (vn : vB n = true) (km : 1 ≤ m.kind ∧ m.kind < 17) (kn : 1 ≤ n.kind ∧ n.kind < 17) : ((strOfNums (whole m)).toList == (strOfNums (whole n)).toList) = bM m n := by
  by_cases h : m = n
  · subst h; rw [bM_same]; simp
  · have h1 : bM m n = false := by
      cases hb : bM m n
      · rfl
      · exact absurd ((bM_iff m n).1 hb) h
    rw [h1]
    refine beq_eq_false_iff_ne.2 (fun e => h (whole_inj m n vm vn km kn ?_))
    rw [ByteArray.toList_eq, ByteArray.toList_eq] at e
    exact ByteArray.ext (Array.ext' e)
theorem whole_size (m : M) (vm : vB m = true) (km : 1 ≤ m.kind ∧ m.kind < 17) : 24 ≤ (strOfNums (whole m)).size ∧ (strOfNums (whole m)).size ≤ 4407 := by
  have := body_length_le m vm km
  rw [strOfNums_size, whole_length]
  omega
/-- the bytes of a list -/
def byL (l : List Int) : List UInt8 := (strOfNums l).data.toList
theorem byL_append (a b : List Int) : byL (a ++ b) = byL a ++ byL b := by
  unfold byL strOfNums
  simp
theorem byL_le4 (c : Nat) (h : c < 2 ^ 32) : le (byL (le4 c)) = c := by
  have : byL (le4 c) = [UInt8.ofNat (c % 256), UInt8.ofNat (c / 256 % 256), UInt8.ofNat (c / 65536 % 256), UInt8.ofNat (c / 16777216 % 256)] := rfl
  rw [this]
  simp only [le, UInt8.toNat_ofNat']
  omega
theorem byL_le4_length (c : Nat) : (byL (le4 c)).length = 4 := rfl
/-- a text with its sum behind it has always the same sum -/
theorem crc_sum (l : List Int) : crc (byL (l ++ sumL l)) = steps 32 top ^^^ top := by
  have hc := crc_lt (byL l)
  have e : byL (l ++ sumL l) = byL l ++ byL (le4 (crc (byL l))) := byL_append _ _
  rw [e]
  unfold crc at hc ⊢
  rw [run_append, run_le, byL_le4 _ hc, byL_le4_length]
  have : run top (byL l) ^^^ (run top (byL l) ^^^ top) = top := by rw [← Nat.xor_assoc, Nat.xor_self, Nat.zero_xor]
  rw [this]
theorem flip_refused (m : M) (p q : Nat) (km : 1 ≤ m.kind ∧ m.kind < 17) (hp : p < 8 * (strOfNums (whole m)).size) (hne : strOfNums (flipI (strOfNums (whole m)) p q) ≠ strOfNums (whole m)) :
    (decP (bytesOf (strOfNums (flipI (strOfNums (whole m)) p q)))).2 ≠ 0 := by
  intro h0
  generalize ht : strOfNums (flipI (strOfNums (whole m)) p q) = t at hne h0
  generalize hr : decP (bytesOf t) = r at h0
  obtain ⟨m2, k⟩ := r
  simp only at h0
  subst h0
  obtain ⟨_, _, hw⟩ := dec_ok (byt_bytesOf t) hr
  have hl := flipI_list (strOfNums (whole m)) p q
  rw [ht] at hl
  have e1 : crc t.data.toList = crc (byL (whole m2)) := by unfold byL; rw [← hw, strOfNums_bytesOf]
  have e2 : crc (byL (whole m2)) = crc (byL (whole m)) := (crc_sum (frameB m2)).trans (crc_sum (frameB m)).symm
  have hf := flip_burst (strOfNums (whole m)).data.toList p q (by
    have : (strOfNums (whole m)).data.toList.length = (strOfNums (whole m)).size := rfl
    omega)
  rw [← hl] at hf
  have e3 := hf.1 (e1.trans e2)
  exact hne (ByteArray.ext (Array.ext' e3))
end Go.Proofs.YtnifgokjagahfaaDoor.OutPure

/- Proper, as a function: the valid message nearest to any. -/
set_option linter.unusedVariables false
set_option linter.unusedSimpArgs false
namespace Go.Proofs.YtnifgokjagahfaaDoor.Proper
open Go.RowKit Go.Proofs.YtnifgokjagahfaaDoorW.PrintWords Go.Proofs.YtnifgokjagahfaaDoorW.PrintLast Go.Proofs.YtnifgokjagahfaaDoorW.PrintMore
open Go.Proofs.YtnifgokjagahfaaDoor.Base Go.Proofs.YtnifgokjagahfaaDoor.Layouts Go.Proofs.YtnifgokjagahfaaDoor.Msg Go.Proofs.YtnifgokjagahfaaDoor.Put Go.Proofs.YtnifgokjagahfaaDoor.EncPure Go.Proofs.YtnifgokjagahfaaDoor.DecPure Go.Proofs.YtnifgokjagahfaaDoor.PFrameBack
def clip (n top : Int) : Int := if n.tmod (top + 1) < 0 then n.tmod (top + 1) + top + 1 else n.tmod (top + 1)
theorem tmod_bound (n t : Int) (ht : 0 < t) : -t < n.tmod t ∧ n.tmod t < t := ⟨Int.lt_tmod_of_pos n ht, Int.tmod_lt_of_pos n ht⟩
theorem clip_range (n top : Int) (h : 0 ≤ top) : 0 ≤ clip n top ∧ clip n top ≤ top := by
  have hb := tmod_bound n (top + 1) (by omega)
  unfold clip
  generalize n.tmod (top + 1) = x at hb
  split <;> omega
theorem clipped_f (n top : Int) (h : 0 ≤ top) (h1 : top ≤ 9007199254740992) : granarylaw5_clipped.f n top = some (clip n top) := by
  have hb := tmod_bound n (top + 1) (by omega)
  have B1 : -9223372036854775808 ≤ top + 1 ∧ top + 1 ≤ 9223372036854775807 := by omega
  have c1 : ¬ top + 1 = 0 := by omega
  unfold granarylaw5_clipped.f clip
  rw [w64 _ B1.1 B1.2, if_neg c1]
  generalize n.tmod (top + 1) = x at hb
  by_cases hx : x < 0
  · have B2 : -9223372036854775808 ≤ x + top ∧ x + top ≤ 9223372036854775807 := by omega
    have B3 : -9223372036854775808 ≤ x + top + 1 ∧ x + top + 1 ≤ 9223372036854775807 := by omega
    rw [if_pos hx, if_pos hx, w64 _ B2.1 B2.2, w64 _ B3.1 B3.2]
  · rw [if_neg hx, if_neg hx]
theorem clipped_any (n top : Int) (w : World) (h : 0 ≤ top) (h1 : top ≤ 9007199254740992) : Calls Tryd.prog 25 #[.int .i64 n, .int .i64 top] w fun e w' => e = .returned (.int .i64 (clip n top)) ∧ Drawn0 w w' :=
  granarylaw5_clipped.calls n top _ w (clipped_f n top h h1)
def cutS (s : ByteArray) (n : Nat) : ByteArray := if s.size > n then s.extract 0 n else s
theorem cutS_size (s : ByteArray) (n : Nat) : (cutS s n).size ≤ n := by
  unfold cutS
  split
  · rw [ByteArray.size_extract]; omega
  · omega
theorem cut_any (s : ByteArray) (n : Nat) (w : World) : Calls Tryd.prog 52 #[.string s, .int .i64 (n : Nat)] w fun e w' => e = .returned (.string (cutS s n)) ∧ Drawn0 w w' := by
  refine granarylaw5_cut.calls s n _ w ?_
  unfold granarylaw5_cut.f cutS
  by_cases h : s.size > n
  · rw [if_pos (by omega), if_pos (by omega), if_pos (by omega), if_pos h, Int.toNat_natCast]
  · rw [if_neg (by omega), if_neg h]
def propF (a m : M) (f : Nat) : M :=
  if f < 4 then setNum m f (clip (numOf a f) 9007199254740992) else if f = 4 then setNum m 4 (clip (numOf a 4) 65535)
  else if f = 5 then setText m 5 (cutS a.key 255) else setText m 6 (cutS a.value 4096)
def kP (a : M) : Nat := (1 + clip a.kind 15).toNat
theorem kP_range (a : M) : 1 ≤ kP a ∧ kP a < 17 ∧ (kP a : Int) = 1 + clip a.kind 15 := by
  have := clip_range a.kind 15 (by decide)
  unfold kP
  omega
def mP (a : M) : M := blankM (kP a) (clip a.from_ 65535) (clip a.to_ 65535) (clip a.id 9007199254740992)
def PSt (a : M) (fs : List Nat) (j : Nat) : M := (fs.take j).foldl (propF a) (mP a)
theorem PSt_next (a : M) (fs : List Nat) (j n : Nat) (h : fs[j]? = some n) : PSt a fs (j + 1) = propF a (PSt a fs j) n := by
  unfold PSt
  rw [List.take_add_one, h]
  simp
def properM (a : M) : M := PSt a (fieldsOf (kP a)) (fieldsOf (kP a)).length
theorem propF_head (a m : M) (f : Nat) : SameHead (propF a m f) m := by
  unfold propF
  split
  · exact setNum_head _ _ _
  · split
    · exact setNum_head _ _ _
    · split
      · exact setText_head _ _ _
      · exact setText_head _ _ _
theorem propF_far (a m : M) (f g : Nat) (hf : f < 7) (hg : g < 7) (hne : g ≠ f) : AgreeF (propF a m f) m g := by
  unfold propF
  split
  · exact agree_set _ _ _ _ (by omega) hg hne
  · split
    · rename_i e; exact agree_set _ _ _ _ (by decide) hg (by rw [← e]; exact hne)
    · split
      · rename_i e; exact agree_text _ _ _ _ (.inl rfl) hg (by rw [← e]; exact hne)
      · exact agree_text _ _ _ _ (.inr rfl) hg (by omega)
def InR (m : M) (g : Nat) : Prop := 0 ≤ numOf m g ∧ numOf m g ≤ mostOf g
theorem propF_in (a m : M) (f : Nat) (hf : f < 7) : InR (propF a m f) f := by
  have e : f = 0 ∨ f = 1 ∨ f = 2 ∨ f = 3 ∨ f = 4 ∨ f = 5 ∨ f = 6 := by omega
  rcases e with e | e | e | e | e | e | e <;> subst e
  · exact clip_range a.epoch 9007199254740992 (by decide)
  · exact clip_range a.seq 9007199254740992 (by decide)
  · exact clip_range a.version 9007199254740992 (by decide)
  · exact clip_range a.prev 9007199254740992 (by decide)
  · exact clip_range a.code 65535 (by decide)
  · have := cutS_size a.key 255
    show (0 : Int) ≤ ((cutS a.key 255).size : Int) ∧ ((cutS a.key 255).size : Int) ≤ 255
    omega
  · have := cutS_size a.value 4096
    show (0 : Int) ≤ ((cutS a.value 4096).size : Int) ∧ ((cutS a.value 4096).size : Int) ≤ 4096
    omega
theorem proper_fold (a : M) : ∀ (fs : List Nat) (m : M), (∀ f ∈ fs, f < 7) → SameHead (fs.foldl (propF a) m) m ∧ (∀ g, g < 7 → g ∉ fs → AgreeF (fs.foldl (propF a) m) m g) ∧ (∀ g, g < 7 → (g ∈ fs ∨ InR m g) → InR (fs.foldl (propF a) m) g)
  | [], m, _ => ⟨⟨rfl, rfl, rfl, rfl⟩, fun _ _ _ => ⟨rfl, rfl⟩, fun g _ h => by
      rcases h with h | h
      · cases h
      · exact h⟩
  | f :: fs, m, hf => by
    obtain ⟨h1, h2, h3⟩ := proper_fold a fs (propF a m f) (fun g hg => hf g (by simp [hg]))
    have hf7 := hf f (by simp)
    refine ⟨h1.trans (propF_head a m f), fun g hg hng => ?_, fun g hg h => h3 g hg ?_⟩
    · exact (h2 g hg (fun e => hng (by simp [e]))).trans (propF_far a m f g hf7 hg (fun e => hng (by simp [e])))
    · by_cases e : g = f
      · subst e; exact .inr (propF_in a m g hg)
      · rcases h with h | h
        · rcases List.mem_cons.1 h with h | h
          · exact absurd h e
          · exact .inl h
        · refine .inr ?_
          have ha := propF_far a m f g hf7 hg e
          unfold InR
          rw [ha.1]
          exact h
theorem proper_valid (a : M) : vB (properM a) = true ∧ (1 ≤ (properM a).kind ∧ (properM a).kind < 17) ∧ (properM a).kind = (kP a : Int) := by
  obtain ⟨k1, k2, k3⟩ := kP_range a
  have he : properM a = (fieldsOf (kP a)).foldl (propF a) (mP a) := by unfold properM PSt; rw [List.take_length]
  obtain ⟨⟨h1, h2, h3, h4⟩, ha, hr⟩ := proper_fold a (fieldsOf (kP a)) (mP a) (fieldsOf_lt _ k2)
  rw [← he] at h1 h2 h3 h4 ha hr
  have hk : (properM a).kind = (kP a : Int) := h1
  refine ⟨(vB_iff _).2 ⟨?_, ?_, ?_, fun f hf => ?_⟩, by rw [hk]; omega, hk⟩
  · rw [h2]; exact clip_range a.from_ 65535 (by decide)
  · rw [h3]; exact clip_range a.to_ 65535 (by decide)
  · rw [h4]; exact clip_range a.id 9007199254740992 (by decide)
  · by_cases hm : f ∈ fieldsOf (properM a).kind.toNat
    · rw [need_of_mem _ f hm]
      exact hr f hf (.inl (by rw [hk, Int.toNat_natCast] at hm; exact hm))
    · rw [need_not_mem _ f hm]
      have hz := ha f hf (by rw [hk, Int.toNat_natCast] at hm; exact hm)
      have h0 : numOf (mP a) f = 0 := (zero_blank _ _ _ _ f hf).1
      rw [hz.1, h0]
      exact ⟨Int.le_refl _, Int.le_refl _⟩
end Go.Proofs.YtnifgokjagahfaaDoor.Proper

/- Proper, walked. -/
set_option linter.unusedVariables false
set_option linter.unusedSimpArgs false
namespace Go.Proofs.YtnifgokjagahfaaDoor.Proper
open Go.RowKit Go.Proofs.YtnifgokjagahfaaDoorW.PrintWords Go.Proofs.YtnifgokjagahfaaDoorW.PrintLast Go.Proofs.YtnifgokjagahfaaDoorW.PrintMore
open Go.Proofs.YtnifgokjagahfaaDoor.Base Go.Proofs.YtnifgokjagahfaaDoor.Layouts Go.Proofs.YtnifgokjagahfaaDoor.Msg Go.Proofs.YtnifgokjagahfaaDoor.Put Go.Proofs.YtnifgokjagahfaaDoor.EncPure Go.Proofs.YtnifgokjagahfaaDoor.DecPure Go.Proofs.YtnifgokjagahfaaDoor.Num Go.Proofs.YtnifgokjagahfaaDoor.RefF Go.Proofs.YtnifgokjagahfaaDoor.Mids
theorem infoM : (Tryd.prog.info? 24).map (·.size) = some 11 := by kernel_rfl
theorem mL_one (m : M) : (mL m).toArray.all (·.oneCell') = true := all_oneCell_toArray (by simp [mL, Value.oneCell'])
/-- the table lies where it was laid -/
structure KTab (w : World) : Prop where mk :: (cell : ∀ i, i < 17 → w.cell? ⟨0, i, none⟩ = some (.string (fstr i))) (lt : 0 < w.heap.size)
theorem KTab.below {w w1 : World} (h : KTab w) (hb : Below w.heap.size w w1) : KTab w1 :=
  ⟨fun i hi => (hb.cell (p := ⟨0, i, none⟩) h.lt).trans (h.cell i hi), Nat.lt_of_lt_of_le h.lt hb.size⟩
set_option maxRecDepth 100000 in
set_option maxHeartbeats 16000000 in
theorem proper_any (a : M) (w : World) (hK : KTab w) (hsz : a.key.size ≤ 9223372036854775807 ∧ a.value.size ≤ 9223372036854775807) : Calls Tryd.prog 23 #[.agg (mL a).toArray] w fun e w' => e = .returned (.agg (mL (properM a)).toArray) ∧ Below w.heap.size w w' := by
  obtain ⟨k1, k2, k3⟩ := kP_range a
  have hrg := clip_range a.kind 15 (by decide)
  have hlit : (.agg #[.int .i64 (kP a : Nat), .int .i64 (clip a.from_ 65535), .int .i64 (clip a.to_ 65535), .int .i64 (clip a.id 9007199254740992), .int .i64 0, .int .i64 0, .int .i64 0, .int .i64 0, .int .i64 0, .string { data := #[] }, .string { data := #[] }] : Value) = .agg (mL (mP a)).toArray := rfl
  have hp0 : properM a = PSt a (fieldsOf (kP a)) (fieldsOf (kP a)).length := rfl
  have hnx := PSt_next a (fieldsOf (kP a))
  have hz0 : PSt a (fieldsOf (kP a)) 0 = mP a := rfl
  rw [hp0]
  generalize hkk : kP a = kk at k1 k2 k3 hlit hnx hz0 ⊢
  have HKK := Lib.hid hkk
  have KK := fun (w : World) => Lib.hid (clipped_any a.kind 15 w (by decide) (by decide))
  have hw0 : 1 + clip a.kind 15 = (kk : Int) := by omega
  clear k3
  generalize clip a.kind 15 = ck at KK hw0 hrg
  have K1 := fun (w : World) => Lib.hid (clipped_any a.from_ 65535 w (by decide) (by decide))
  have K2 := fun (w : World) => Lib.hid (clipped_any a.to_ 65535 w (by decide) (by decide))
  have K3 := fun (w : World) => Lib.hid (clipped_any a.id 9007199254740992 w (by decide) (by decide))
  have HLIT := Lib.hid hlit
  have hb2 : Below w.heap.size w ((w.alloc (.cells (mL a).toArray 24)).alloc (.cells (mL zeroM).toArray 24)) := ((Below.refl w.heap.size w).alloc (Nat.le_refl _) _).alloc (by simp) _
  have HMA : Aside0 (MBox ((w.alloc (.cells (mL a).toArray 24)).alloc (.cells (mL zeroM).toArray 24)) w.heap.size a) := ⟨(⟨Go.heap_alloc_new w _, by simp⟩ : MBox (w.alloc (.cells (mL a).toArray 24)) w.heap.size a).below ((Below.refl (w.heap.size + 1) (w.alloc (.cells (mL a).toArray 24))).alloc (by simp) _) (by omega)⟩
  have HMR : Aside0 (MBox ((w.alloc (.cells (mL a).toArray 24)).alloc (.cells (mL zeroM).toArray 24)) (w.heap.size + 1) zeroM) := ⟨by
    have := Go.heap_alloc_new (w.alloc (.cells (mL a).toArray 24)) (.cells (mL zeroM).toArray 24)
    exact ⟨by simpa using this, by simp⟩⟩
  have HB0 := Aside0.mk hb2
  have hT := hK.below hb2
  have hwz : (w.alloc (.cells (mL a).toArray 24)).alloc (.cells #[.int .i64 0, .int .i64 0, .int .i64 0, .int .i64 0, .int .i64 0, .int .i64 0, .int .i64 0, .int .i64 0, .int .i64 0, .string { data := #[] }, .string { data := #[] }] 24) = (w.alloc (.cells (mL a).toArray 24)).alloc (.cells (mL zeroM).toArray 24) := rfl
  generalize (w.alloc (.cells (mL a).toArray 24)).alloc (.cells (mL zeroM).toArray 24) = wz at hwz HB0 HMA HMR hT
  have hct := hT.cell kk k2
  have hgl := hT.lt
  have hlt := HMA.out.lt
  have hc0 : wz.cell? ⟨w.heap.size, 0, none⟩ = some (.int .i64 a.kind) := HMA.out.c 0
  have hc1 : wz.cell? ⟨w.heap.size, 1, none⟩ = some (.int .i64 a.from_) := HMA.out.c 1
  have hc2 : wz.cell? ⟨w.heap.size, 2, none⟩ = some (.int .i64 a.to_) := HMA.out.c 2
  have hc3 : wz.cell? ⟨w.heap.size, 3, none⟩ = some (.int .i64 a.id) := HMA.out.c 3
  have hfs := fstr_size kk
  have hfa := fun j n hn h => fstr_at kk j n k2 hn h
  have HI := Aside0.mk (fun j n => fields_lt kk k2 j n)
  have h6 := fields_len kk k2
  have HNX := Aside0.mk hnx
  have HZ0 := Lib.hid hz0
  clear hK hb2 hT hlit hp0 hnx hz0 hkk
  go_enter Tryd.func23, Tryd.ntmps23
  go_wp2_with fail
  refine (KK _).out.mono ?_
  rintro e w1 ⟨rfl, ⟨⟨nk, rfl⟩⟩⟩
  have hc0' := hc0
  go_upto_region 2 with fail
  try rw [hw0]
  clear hc0 hc0' KK
  go_cut [4] (fun v wx => ∃ g : Nat, v = .pointer (some ⟨g, 0, none⟩) ∧ Aside0 (wz.heap.size ≤ g) ∧ Aside0 (MBox wx g (mP a)) ∧ Aside0 (Below wz.heap.size wz wx))
  case first =>
    refine Reg.wp_region_rel _ (by kernel_rfl) _ _ _ rfl (by kernel_rfl) (fun w' => Below wz.heap.size wz w') (fun i w w' => match i with | 12 => w.heap.size ≤ w'.heap.size ∧ ∀ (g : Nat) (cs : List Value), w.heap[g]? = some (.cells cs.toArray 24 (0, 0)) → ∃ cs1 : List Value, cs1.length = cs.length ∧ w'.heap[g]? = some (.cells cs1.toArray 24 (0, 0)) | _ => Below w.heap.size w w') (fun j vs w' => match j with
      | 0 => vs 0 = .int .i64 (kk : Nat)
      | 1 => vs 1 = .pointer (some ⟨w.heap.size, 1, none⟩)
      | 2 => vs 2 = .int .i64 a.from_
      | 3 => vs 3 = .int .i64 (clip a.from_ 65535)
      | 4 => vs 4 = .pointer (some ⟨w.heap.size, 2, none⟩)
      | 5 => vs 5 = .int .i64 a.to_
      | 6 => vs 6 = .int .i64 (clip a.to_ 65535)
      | 7 => vs 7 = .pointer (some ⟨w.heap.size, 3, none⟩)
      | 8 => vs 8 = .int .i64 a.id
      | 9 => vs 9 = .int .i64 (clip a.id 9007199254740992)
      | 10 => vs 10 = .agg #[.int .i64 (kk : Nat), .int .i64 (clip a.from_ 65535), .int .i64 (clip a.to_ 65535), .int .i64 (clip a.id 9007199254740992), .int .i64 0, .int .i64 0, .int .i64 0, .int .i64 0, .int .i64 0, .string { data := #[] }, .string { data := #[] }]
      | 11 => ∃ (g : Nat) (cs : List Value), (vs 11) = .pointer (some ⟨g, 0, none⟩) ∧ wz.heap.size ≤ g ∧ cs.length = 11 ∧ w'.heap[g]? = some (.cells cs.toArray 24 (0, 0))
      | 12 => ∃ g : Nat, vs 11 = .pointer (some ⟨g, 0, none⟩) ∧ wz.heap.size ≤ g ∧ w'.heap[g]? = some (.cells (mL (mP a)).toArray 24 (0, 0)) ∧ g < w'.heap.size
      | _ => True) (below_drew (pw_below_drewN (Below.refl _ _) nk)) ?_ ?_ ?_ ?_
    · intro i j vs w0 w' hij hI hR hb
      rcases j with _ | j
      · exact hR
      rcases j with _ | j
      · exact hR
      rcases j with _ | j
      · exact hR
      rcases j with _ | j
      · exact hR
      rcases j with _ | j
      · exact hR
      rcases j with _ | j
      · exact hR
      rcases j with _ | j
      · exact hR
      rcases j with _ | j
      · exact hR
      rcases j with _ | j
      · exact hR
      rcases j with _ | j
      · exact hR
      rcases j with _ | j
      · exact hR
      rcases j with _ | j
      · obtain ⟨g, cs, hv, hg, hl, hblk⟩ := hR
        by_cases e : i = 12
        · subst e
          obtain ⟨_, h2⟩ := hb
          obtain ⟨cs1, h3, h4⟩ := h2 g cs hblk
          exact ⟨g, cs1, hv, hg, h3.trans hl, h4⟩
        · have hb2 : Below w0.heap.size w0 w' := by
            match i, e, hb with
            | 0, _, hb | 1, _, hb | 2, _, hb | 3, _, hb | 4, _, hb | 5, _, hb | 6, _, hb | 7, _, hb | 8, _, hb | 9, _, hb | 10, _, hb | 11, _, hb => exact hb
            | n + 13, _, hb => exact hb
          exact ⟨g, cs, hv, hg, hl, (hb2.block g (blk_lt hblk)).trans hblk⟩
      rcases j with _ | j
      · obtain ⟨g, hv, hg, hblk, hlt⟩ := hR
        have hb2 : Below w0.heap.size w0 w' := by
          match i, hij, hb with
          | 0, _, hb | 1, _, hb | 2, _, hb | 3, _, hb | 4, _, hb | 5, _, hb | 6, _, hb | 7, _, hb | 8, _, hb | 9, _, hb | 10, _, hb | 11, _, hb => exact hb
          | 12, hij, _ => exact absurd rfl hij
          | n + 13, _, hb => exact hb
        exact ⟨g, hv, hg, (hb2.block g hlt).trans hblk, Nat.lt_of_lt_of_le hlt hb2.size⟩
      exact trivial
    · intro j o vs vs1 w0 ho he hp hR
      rcases j with _ | j
      · exact he.trans hR
      rcases j with _ | j
      · exact he.trans hR
      rcases j with _ | j
      · exact he.trans hR
      rcases j with _ | j
      · exact he.trans hR
      rcases j with _ | j
      · exact he.trans hR
      rcases j with _ | j
      · exact he.trans hR
      rcases j with _ | j
      · exact he.trans hR
      rcases j with _ | j
      · exact he.trans hR
      rcases j with _ | j
      · exact he.trans hR
      rcases j with _ | j
      · exact he.trans hR
      rcases j with _ | j
      · exact he.trans hR
      rcases j with _ | j
      · show ∃ (g : Nat) (cs : List Value), (vs1 11) = .pointer (some ⟨g, 0, none⟩) ∧ wz.heap.size ≤ g ∧ cs.length = 11 ∧ w0.heap[g]? = some (.cells cs.toArray 24 (0, 0))
        rw [he]; exact hR
      rcases j with _ | j
      · obtain ⟨g, hv, hg, hblk⟩ := hR
        obtain rfl := Option.some.inj ho
        exact ⟨g, (hp 11 rfl).trans hv, hg, hblk⟩
      exact trivial
    · skip
      refine Reg.allOps_cons ?_ ?_
      · intro vs w0 ρ hρ hcst hglb hfun hI hp
        have e3 : ρ (.tmp 3) = .int .i64 (kk : Nat) := hρ (.tmp 3)
        clear hρ hp
        refine Reg.rel_value (.int .i64 (kk : Nat)) ?_ ⟨hI, rfl⟩
        go_simp
      refine Reg.allOps_cons ?_ ?_
      · intro vs w0 ρ hρ hcst hglb hfun hI hp
        have e1 : ρ (.tmp 1) = .pointer (some ⟨w.heap.size, 0, none⟩) := hρ (.tmp 1)
        clear hρ hp
        refine Reg.rel_value (.pointer (some ⟨w.heap.size, 1, none⟩)) ?_ ⟨hI, rfl⟩
        go_simp
      refine Reg.allOps_cons ?_ ?_
      · intro vs w0 ρ hρ hcst hglb hfun hI hp
        have e12 : ρ (.tmp 12) = .pointer (some ⟨w.heap.size, 1, none⟩) := (hρ (.tmp 12)).trans (show vs 1 = .pointer (some ⟨w.heap.size, 1, none⟩) from hp 1 rfl)
        clear hρ hp
        have hl := (hI.cell (p := ⟨w.heap.size, 1, none⟩) hlt).trans hc1
        refine Reg.rel_value (.int .i64 a.from_) ?_ ⟨hI, rfl⟩
        go_simp
      refine Reg.allOps_cons ?_ ?_
      · intro vs w0 ρ hρ hcst hglb hfun hI hp
        have e13 : ρ (.tmp 13) = .int .i64 a.from_ := (hρ (.tmp 13)).trans (show vs 2 = .int .i64 a.from_ from hp 2 rfl)
        clear hρ hp
        refine Reg.rel_call Tryd.func25 (by kernel_rfl) rfl #[.int .i64 a.from_, .int .i64 65535] rfl (hfun _) (by simp [e13, hcst]) ?_
        refine (K1 w0).out.mono ?_
        rintro e w3 ⟨rfl, ⟨⟨n3, rfl⟩⟩⟩
        exact ⟨_, rfl, pw_below_drewN (Below.refl _ _) n3, pw_below_drewN hI n3, rfl⟩
      refine Reg.allOps_cons ?_ ?_
      · intro vs w0 ρ hρ hcst hglb hfun hI hp
        have e1 : ρ (.tmp 1) = .pointer (some ⟨w.heap.size, 0, none⟩) := hρ (.tmp 1)
        clear hρ hp
        refine Reg.rel_value (.pointer (some ⟨w.heap.size, 2, none⟩)) ?_ ⟨hI, rfl⟩
        go_simp
      refine Reg.allOps_cons ?_ ?_
      · intro vs w0 ρ hρ hcst hglb hfun hI hp
        have e15 : ρ (.tmp 15) = .pointer (some ⟨w.heap.size, 2, none⟩) := (hρ (.tmp 15)).trans (show vs 4 = .pointer (some ⟨w.heap.size, 2, none⟩) from hp 4 rfl)
        clear hρ hp
        have hl := (hI.cell (p := ⟨w.heap.size, 2, none⟩) hlt).trans hc2
        refine Reg.rel_value (.int .i64 a.to_) ?_ ⟨hI, rfl⟩
        go_simp
      refine Reg.allOps_cons ?_ ?_
      · intro vs w0 ρ hρ hcst hglb hfun hI hp
        have e16 : ρ (.tmp 16) = .int .i64 a.to_ := (hρ (.tmp 16)).trans (show vs 5 = .int .i64 a.to_ from hp 5 rfl)
        clear hρ hp
        refine Reg.rel_call Tryd.func25 (by kernel_rfl) rfl #[.int .i64 a.to_, .int .i64 65535] rfl (hfun _) (by simp [e16, hcst]) ?_
        refine (K2 w0).out.mono ?_
        rintro e w3 ⟨rfl, ⟨⟨n3, rfl⟩⟩⟩
        exact ⟨_, rfl, pw_below_drewN (Below.refl _ _) n3, pw_below_drewN hI n3, rfl⟩
      refine Reg.allOps_cons ?_ ?_
      · intro vs w0 ρ hρ hcst hglb hfun hI hp
        have e1 : ρ (.tmp 1) = .pointer (some ⟨w.heap.size, 0, none⟩) := hρ (.tmp 1)
        clear hρ hp
        refine Reg.rel_value (.pointer (some ⟨w.heap.size, 3, none⟩)) ?_ ⟨hI, rfl⟩
        go_simp
      refine Reg.allOps_cons ?_ ?_
      · intro vs w0 ρ hρ hcst hglb hfun hI hp
        have e18 : ρ (.tmp 18) = .pointer (some ⟨w.heap.size, 3, none⟩) := (hρ (.tmp 18)).trans (show vs 7 = .pointer (some ⟨w.heap.size, 3, none⟩) from hp 7 rfl)
        clear hρ hp
        have hl := (hI.cell (p := ⟨w.heap.size, 3, none⟩) hlt).trans hc3
        refine Reg.rel_value (.int .i64 a.id) ?_ ⟨hI, rfl⟩
        go_simp
      refine Reg.allOps_cons ?_ ?_
      · intro vs w0 ρ hρ hcst hglb hfun hI hp
        have e19 : ρ (.tmp 19) = .int .i64 a.id := (hρ (.tmp 19)).trans (show vs 8 = .int .i64 a.id from hp 8 rfl)
        clear hρ hp
        refine Reg.rel_call Tryd.func25 (by kernel_rfl) rfl #[.int .i64 a.id, .int .i64 9007199254740992] rfl (hfun _) (by simp [e19, hcst]) ?_
        refine (K3 w0).out.mono ?_
        rintro e w3 ⟨rfl, ⟨⟨n3, rfl⟩⟩⟩
        exact ⟨_, rfl, pw_below_drewN (Below.refl _ _) n3, pw_below_drewN hI n3, rfl⟩
      refine Reg.allOps_cons ?_ ?_
      · intro vs w0 ρ hρ hcst hglb hfun hI hp
        have e11 : ρ (.tmp 11) = .int .i64 (kk : Nat) := (hρ (.tmp 11)).trans (show vs 0 = .int .i64 (kk : Nat) from hp 0 rfl)
        have e14 : ρ (.tmp 14) = .int .i64 (clip a.from_ 65535) := (hρ (.tmp 14)).trans (show vs 3 = .int .i64 (clip a.from_ 65535) from hp 3 rfl)
        have e17 : ρ (.tmp 17) = .int .i64 (clip a.to_ 65535) := (hρ (.tmp 17)).trans (show vs 6 = .int .i64 (clip a.to_ 65535) from hp 6 rfl)
        have e20 : ρ (.tmp 20) = .int .i64 (clip a.id 9007199254740992) := (hρ (.tmp 20)).trans (show vs 9 = .int .i64 (clip a.id 9007199254740992) from hp 9 rfl)
        clear hρ hp
        refine Reg.rel_value (.agg #[.int .i64 (kk : Nat), .int .i64 (clip a.from_ 65535), .int .i64 (clip a.to_ 65535), .int .i64 (clip a.id 9007199254740992), .int .i64 0, .int .i64 0, .int .i64 0, .int .i64 0, .int .i64 0, .string { data := #[] }, .string { data := #[] }]) ?_ ⟨hI, rfl⟩
        go_simp
      refine Reg.allOps_cons ?_ ?_
      · intro vs w0 ρ hρ hcst hglb hfun hI hp
        clear hρ hp
        refine Reg.rel_made (.pointer (some ⟨w0.heap.size, 0, none⟩)) (w' := w0.alloc (.cells (mL zeroM).toArray 24)) ?_ ((Below.refl _ _).alloc (Nat.le_refl _) _) ⟨hI.alloc hI.size _, ⟨w0.heap.size, mL zeroM, rfl, hI.size, rfl, heap_alloc_new w0 _⟩⟩
        go_simp
        rfl
      refine Reg.allOps_cons ?_ ?_
      · intro vs w0 ρ hρ hcst hglb hfun hI hp
        have r11 : ∃ (g : Nat) (cs : List Value), (vs 11) = .pointer (some ⟨g, 0, none⟩) ∧ wz.heap.size ≤ g ∧ cs.length = 11 ∧ w0.heap[g]? = some (.cells cs.toArray 24 (0, 0)) := hp 11 rfl
        have e4 : ρ (.tmp 4) = vs 11 := hρ (.tmp 4)
        obtain ⟨g, cs, hv, hg, hl, hblk⟩ := r11
        have e21 : ρ (.tmp 21) = .agg #[.int .i64 (kk : Nat), .int .i64 (clip a.from_ 65535), .int .i64 (clip a.to_ 65535), .int .i64 (clip a.id 9007199254740992), .int .i64 0, .int .i64 0, .int .i64 0, .int .i64 0, .int .i64 0, .string { data := #[] }, .string { data := #[] }] := (hρ (.tmp 21)).trans (show vs 10 = .agg #[.int .i64 (kk : Nat), .int .i64 (clip a.from_ 65535), .int .i64 (clip a.to_ 65535), .int .i64 (clip a.id 9007199254740992), .int .i64 0, .int .i64 0, .int .i64 0, .int .i64 0, .int .i64 0, .string { data := #[] }, .string { data := #[] }] from hp 10 rfl)
        clear hρ hp
        have hth := blk_there hblk
        rw [hl] at hth
        refine Reg.rel_skip (w' := w0.setCells g 0 (mL (mP a))) ?_ ⟨by rw [setCells_size]; exact Nat.le_refl _, fun g2 cs2 h2 => ?_⟩ ⟨below_setCells hI hg _ _, ⟨g, hv, hg, setCells_whole hblk hl, by rw [setCells_size]; exact blk_lt hblk⟩⟩
        · have hrun := run_storeAt_mid (P := Tryd.prog) w0 g 0 24 (mL (mP a)).toArray hth infoM (mL_one _)
          have e21b : ρ (.tmp 21) = .agg (mL (mP a)).toArray := e21.trans HLIT.out
          clear e21
          rw [hv] at e4
          unfold execOp
          simp only [e4, e21b, Sem.run_bind, hrun, Result.andThen_ok, Sem.run_pure]
        · by_cases e : g2 = g
          · subst e
            rw [hblk] at h2
            simp only [Option.some.injEq, Obj.cells.injEq, and_true, Array.mk.injEq] at h2
            obtain ⟨rfl, _⟩ := h2
            exact ⟨(mL (mP a)), hl.symm, setCells_whole hblk hl⟩
          · exact ⟨cs2, rfl, (setCells_other g e _ _ _).trans h2⟩
      exact Reg.allOps_nil
    intro vs w0 hI hR
    have r0 : vs 0 = .int .i64 (kk : Nat) := hR 0 (by decide)
    have r1 : vs 1 = .pointer (some ⟨w.heap.size, 1, none⟩) := hR 1 (by decide)
    have r2 : vs 2 = .int .i64 a.from_ := hR 2 (by decide)
    have r3 : vs 3 = .int .i64 (clip a.from_ 65535) := hR 3 (by decide)
    have r4 : vs 4 = .pointer (some ⟨w.heap.size, 2, none⟩) := hR 4 (by decide)
    have r5 : vs 5 = .int .i64 a.to_ := hR 5 (by decide)
    have r6 : vs 6 = .int .i64 (clip a.to_ 65535) := hR 6 (by decide)
    have r7 : vs 7 = .pointer (some ⟨w.heap.size, 3, none⟩) := hR 7 (by decide)
    have r8 : vs 8 = .int .i64 a.id := hR 8 (by decide)
    have r9 : vs 9 = .int .i64 (clip a.id 9007199254740992) := hR 9 (by decide)
    have r10 : vs 10 = .agg #[.int .i64 (kk : Nat), .int .i64 (clip a.from_ 65535), .int .i64 (clip a.to_ 65535), .int .i64 (clip a.id 9007199254740992), .int .i64 0, .int .i64 0, .int .i64 0, .int .i64 0, .int .i64 0, .string { data := #[] }, .string { data := #[] }] := hR 10 (by decide)
    obtain ⟨g, hv11, hg, hblk, hltg⟩ : ∃ g : Nat, vs 11 = .pointer (some ⟨g, 0, none⟩) ∧ wz.heap.size ≤ g ∧ w0.heap[g]? = some (.cells (mL (mP a)).toArray 24 (0, 0)) ∧ g < w0.heap.size := hR 12 (by decide)
    simp only [Reg.fillFrom, Act.put, List.setIfInBounds_toArray, List.set_cons_zero, List.set_cons_succ, r0, r1, r2, r3, r4, r5, r6, r7, r8, r9, r10]
    clear hR r0 r1 r2 r3 r4 r5 r6 r7 r8 r9 r10
    rw [hv11]
    go_wp2_with fail
    go_meet
    exact ⟨g, rfl, ⟨hg⟩, ⟨⟨hblk, hltg⟩⟩, ⟨hI⟩⟩
  case rest =>
    obtain ⟨g, rfl, HG, HM, HB⟩ := hcut
    have hB := HB.out
    have hct2 := (hB.cell (p := ⟨0, kk, none⟩) hgl).trans hct
    have hkx : (kk : Int) < 17 := by omega
    have HLT := Aside0.mk hlt
    clear hB hct hgl K1 K2 K3 hc1 hc2 hc3 HLIT hwz hlt
    generalize fstr kk = S at hct2 hfs hfa
    generalize hfe : fieldsOf kk = fs at hfs hfa HI h6 HNX HZ0 ⊢
    have HFE := Lib.hid hfe
    have HS := Aside0.mk hfs
    have HA := Aside0.mk hfa
    have h6' : S.size ≤ 6 := by omega
    have HBW := HB
    rw [← HZ0.out] at HM
    clear hfs hfa h6 HB hfe
    go_wp2
    clear hct2
    go_loopw [6] (fun iv wr => ∃ j : Nat, j ≤ S.size ∧ iv = .int .i64 (j : Int) ∧ Aside0 (MBox wr g (PSt a fs j)) ∧ Aside0 (Below wz.heap.size wz wr)) (fun iv _ => 7 - (intOf iv).toNat)
    case atStart => exact ⟨0, Nat.zero_le _, rfl, HM, HBW⟩
    case round =>
      clear HM HBW
      obtain ⟨j, hj, rfl, HM, HBW⟩ := hrel
      obtain ⟨wo, rfl⟩ : ∃ wo : World, wo = wr := ⟨_, rfl⟩
      by_cases hlt : j < S.size
      · obtain ⟨n, hn⟩ : ∃ n, fs[j]? = some n := ⟨_, List.getElem?_eq_getElem (by rw [← HS.out]; exact hlt)⟩
        have ha := HA.out j n hn hlt
        have hn7 := HI.out j n hn
        have HJ := Lib.hid (HNX.out j n hn)
        have HMO := HMA.out.below HBW.out HLT.out
        generalize PSt a fs j = mj at HM HJ
        clear hn
        have e : n = 0 ∨ n = 1 ∨ n = 2 ∨ n = 3 ∨ n = 4 ∨ n = 5 ∨ n = 6 := by omega
        rcases e with e | e | e | e | e | e | e <;> subst e
        · have ha' : (S[j]'hlt).toNat = 69 := ha
          have hs : wo.cell? ⟨w.heap.size, 4, none⟩ = some (.int .i64 a.epoch) := HMO.c 4
          have hc : wo.cell? ⟨g, 4, none⟩ = some (.int .i64 mj.epoch) := HM.out.c 4
          have hfr : wo.frozen? ⟨g, 4, none⟩ = false := blk_frozen HM.out.row 4
          have KC := fun (w : World) => Lib.hid (clipped_any a.epoch 9007199254740992 w (by decide) (by decide))
          have hst : PSt a fs (j + 1) = setNum mj 0 (clip a.epoch 9007199254740992) := by rw [HJ.out]; rfl
          have HST := Lib.hid hst
          clear ha HMO hst HJ
          go_wp2_with fail
          refine (KC _).out.mono ?_
          rintro e w2 ⟨rfl, ⟨⟨n2, rfl⟩⟩⟩
          go_wp2
          have hB2 : Below wz.heap.size wz (wo.setCell ⟨g, 4, none⟩ (.int .i64 (clip a.epoch 9007199254740992))) := HBW.out.setCell HG.out _
          have hM2 := mbox_num HM.out 0 (by decide) (clip a.epoch 9007199254740992)
          go_roundw
          case rel => exact ⟨j + 1, by omega, by go_num, ⟨by rw [HST.out]; exact ⟨hM2.row, hM2.lt⟩⟩, ⟨hB2.os, hB2.tape, hB2.output, hB2.size, hB2.block⟩⟩
          case measure => simp [intOf]; omega
        · have ha' : (S[j]'hlt).toNat = 83 := ha
          have hs : wo.cell? ⟨w.heap.size, 5, none⟩ = some (.int .i64 a.seq) := HMO.c 5
          have hc : wo.cell? ⟨g, 5, none⟩ = some (.int .i64 mj.seq) := HM.out.c 5
          have hfr : wo.frozen? ⟨g, 5, none⟩ = false := blk_frozen HM.out.row 5
          have KC := fun (w : World) => Lib.hid (clipped_any a.seq 9007199254740992 w (by decide) (by decide))
          have hst : PSt a fs (j + 1) = setNum mj 1 (clip a.seq 9007199254740992) := by rw [HJ.out]; rfl
          have HST := Lib.hid hst
          clear ha HMO hst HJ
          go_wp2_with fail
          refine (KC _).out.mono ?_
          rintro e w2 ⟨rfl, ⟨⟨n2, rfl⟩⟩⟩
          go_wp2
          have hB2 : Below wz.heap.size wz (wo.setCell ⟨g, 5, none⟩ (.int .i64 (clip a.seq 9007199254740992))) := HBW.out.setCell HG.out _
          have hM2 := mbox_num HM.out 1 (by decide) (clip a.seq 9007199254740992)
          go_roundw
          case rel => exact ⟨j + 1, by omega, by go_num, ⟨by rw [HST.out]; exact ⟨hM2.row, hM2.lt⟩⟩, ⟨hB2.os, hB2.tape, hB2.output, hB2.size, hB2.block⟩⟩
          case measure => simp [intOf]; omega
        · have ha' : (S[j]'hlt).toNat = 86 := ha
          have hs : wo.cell? ⟨w.heap.size, 6, none⟩ = some (.int .i64 a.version) := HMO.c 6
          have hc : wo.cell? ⟨g, 6, none⟩ = some (.int .i64 mj.version) := HM.out.c 6
          have hfr : wo.frozen? ⟨g, 6, none⟩ = false := blk_frozen HM.out.row 6
          have KC := fun (w : World) => Lib.hid (clipped_any a.version 9007199254740992 w (by decide) (by decide))
          have hst : PSt a fs (j + 1) = setNum mj 2 (clip a.version 9007199254740992) := by rw [HJ.out]; rfl
          have HST := Lib.hid hst
          clear ha HMO hst HJ
          go_wp2_with fail
          refine (KC _).out.mono ?_
          rintro e w2 ⟨rfl, ⟨⟨n2, rfl⟩⟩⟩
          go_wp2
          have hB2 : Below wz.heap.size wz (wo.setCell ⟨g, 6, none⟩ (.int .i64 (clip a.version 9007199254740992))) := HBW.out.setCell HG.out _
          have hM2 := mbox_num HM.out 2 (by decide) (clip a.version 9007199254740992)
          go_roundw
          case rel => exact ⟨j + 1, by omega, by go_num, ⟨by rw [HST.out]; exact ⟨hM2.row, hM2.lt⟩⟩, ⟨hB2.os, hB2.tape, hB2.output, hB2.size, hB2.block⟩⟩
          case measure => simp [intOf]; omega
        · have ha' : (S[j]'hlt).toNat = 80 := ha
          have hs : wo.cell? ⟨w.heap.size, 7, none⟩ = some (.int .i64 a.prev) := HMO.c 7
          have hc : wo.cell? ⟨g, 7, none⟩ = some (.int .i64 mj.prev) := HM.out.c 7
          have hfr : wo.frozen? ⟨g, 7, none⟩ = false := blk_frozen HM.out.row 7
          have KC := fun (w : World) => Lib.hid (clipped_any a.prev 9007199254740992 w (by decide) (by decide))
          have hst : PSt a fs (j + 1) = setNum mj 3 (clip a.prev 9007199254740992) := by rw [HJ.out]; rfl
          have HST := Lib.hid hst
          clear ha HMO hst HJ
          go_wp2_with fail
          refine (KC _).out.mono ?_
          rintro e w2 ⟨rfl, ⟨⟨n2, rfl⟩⟩⟩
          go_wp2
          have hB2 : Below wz.heap.size wz (wo.setCell ⟨g, 7, none⟩ (.int .i64 (clip a.prev 9007199254740992))) := HBW.out.setCell HG.out _
          have hM2 := mbox_num HM.out 3 (by decide) (clip a.prev 9007199254740992)
          go_roundw
          case rel => exact ⟨j + 1, by omega, by go_num, ⟨by rw [HST.out]; exact ⟨hM2.row, hM2.lt⟩⟩, ⟨hB2.os, hB2.tape, hB2.output, hB2.size, hB2.block⟩⟩
          case measure => simp [intOf]; omega
        · have ha' : (S[j]'hlt).toNat = 67 := ha
          have hs : wo.cell? ⟨w.heap.size, 8, none⟩ = some (.int .i64 a.code) := HMO.c 8
          have hc : wo.cell? ⟨g, 8, none⟩ = some (.int .i64 mj.code) := HM.out.c 8
          have hfr : wo.frozen? ⟨g, 8, none⟩ = false := blk_frozen HM.out.row 8
          have KC := fun (w : World) => Lib.hid (clipped_any a.code 65535 w (by decide) (by decide))
          have hst : PSt a fs (j + 1) = setNum mj 4 (clip a.code 65535) := by rw [HJ.out]; rfl
          have HST := Lib.hid hst
          clear ha HMO hst HJ
          go_wp2_with fail
          refine (KC _).out.mono ?_
          rintro e w2 ⟨rfl, ⟨⟨n2, rfl⟩⟩⟩
          go_wp2
          have hB2 : Below wz.heap.size wz (wo.setCell ⟨g, 8, none⟩ (.int .i64 (clip a.code 65535))) := HBW.out.setCell HG.out _
          have hM2 := mbox_num HM.out 4 (by decide) (clip a.code 65535)
          go_roundw
          case rel => exact ⟨j + 1, by omega, by go_num, ⟨by rw [HST.out]; exact ⟨hM2.row, hM2.lt⟩⟩, ⟨hB2.os, hB2.tape, hB2.output, hB2.size, hB2.block⟩⟩
          case measure => simp [intOf]; omega
        · have ha' : (S[j]'hlt).toNat = 75 := ha
          have hs : wo.cell? ⟨w.heap.size, 9, none⟩ = some (.string a.key) := HMO.c 9
          have hc : wo.cell? ⟨g, 9, none⟩ = some (.string mj.key) := HM.out.c 9
          have hfr : wo.frozen? ⟨g, 9, none⟩ = false := blk_frozen HM.out.row 9
          have KC := fun (w : World) => Lib.hid (show Calls Tryd.prog 52 #[.string a.key, .int .i64 255] w _ from cut_any a.key 255 w)
          have hst : PSt a fs (j + 1) = setText mj 5 (cutS a.key 255) := by rw [HJ.out]; rfl
          have HST := Lib.hid hst
          clear ha HMO hst HJ
          go_wp2_with fail
          refine (KC _).out.mono ?_
          rintro e w2 ⟨rfl, ⟨⟨n2, rfl⟩⟩⟩
          go_wp2
          have hB2 : Below wz.heap.size wz (wo.setCell ⟨g, 9, none⟩ (.string (cutS a.key 255))) := HBW.out.setCell HG.out _
          have hM2 := mbox_text HM.out 5 (by decide) (cutS a.key 255)
          go_roundw
          case rel => exact ⟨j + 1, by omega, by go_num, ⟨by rw [HST.out]; exact ⟨hM2.row, hM2.lt⟩⟩, ⟨hB2.os, hB2.tape, hB2.output, hB2.size, hB2.block⟩⟩
          case measure => simp [intOf]; omega
        · have ha' : (S[j]'hlt).toNat = 87 := ha
          have hs : wo.cell? ⟨w.heap.size, 10, none⟩ = some (.string a.value) := HMO.c 10
          have hc : wo.cell? ⟨g, 10, none⟩ = some (.string mj.value) := HM.out.c 10
          have hfr : wo.frozen? ⟨g, 10, none⟩ = false := blk_frozen HM.out.row 10
          have KC := fun (w : World) => Lib.hid (show Calls Tryd.prog 52 #[.string a.value, .int .i64 4096] w _ from cut_any a.value 4096 w)
          have hst : PSt a fs (j + 1) = setText mj 6 (cutS a.value 4096) := by rw [HJ.out]; rfl
          have HST := Lib.hid hst
          clear ha HMO hst HJ
          go_wp2_with fail
          refine (KC _).out.mono ?_
          rintro e w2 ⟨rfl, ⟨⟨n2, rfl⟩⟩⟩
          go_wp2
          have hB2 : Below wz.heap.size wz (wo.setCell ⟨g, 10, none⟩ (.string (cutS a.value 4096))) := HBW.out.setCell HG.out _
          have hM2 := mbox_text HM.out 6 (by decide) (cutS a.value 4096)
          go_roundw
          case rel => exact ⟨j + 1, by omega, by go_num, ⟨by rw [HST.out]; exact ⟨hM2.row, hM2.lt⟩⟩, ⟨hB2.os, hB2.tape, hB2.output, hB2.size, hB2.block⟩⟩
          case measure => simp [intOf]; omega
      · obtain rfl : j = S.size := by omega
        rw [HS.out] at HM
        have hrg2 := blk_range HM.out.row
        have HRS := HMR.out.below HBW.out HMR.out.lt
        have hth := blk_there HRS.row
        have HBF := Aside0.mk (HB0.out.trans (HBW.out.mono HB0.out.size))
        have HRW := Aside0.mk HRS
        generalize hmf : PSt a fs fs.length = mf at HM hrg2
        have HMF := Lib.hid hmf
        clear HRS hmf
        go_wp2_with (first | ((with_reducible refine gate_load (ty := 24) (x := .tmp 4) rfl ?_); refine wpList_load_mid rfl 24 (.tmp 4) rfl g 0 rfl (mL mf) _ hrg2 Tryd.underlying24 rfl infoM ?_) | ((with_reducible refine gate_store (ty := 24) (x := .tmp 2) (y := .tmp 76) rfl ?_); refine wpList_store_mid rfl 24 (.tmp 2) (.tmp 76) rfl (w.heap.size + 1) 0 (mL mf).toArray rfl rfl hth infoM (mL_one mf) ?_))
        refine bodyPost_ret (v := .agg (mL mf).toArray) ?_ rfl ⟨by rw [HFE.out, HMF.out], below_setCells HBF.out (by omega) _ _⟩
        exact results_c_mid rfl _ _ (w.heap.size + 1) 0 (mL mf) _ rfl (blk_range (setCells_whole HRW.out.row rfl)) Tryd.underlying24 rfl infoM
end Go.Proofs.YtnifgokjagahfaaDoor.Proper

/- FrameBack: every valid message has a frame that says it again; two messages have not one frame. -/
set_option linter.unusedVariables false
set_option linter.unusedSimpArgs false
namespace Go.Proofs.YtnifgokjagahfaaDoor.LawBack
open Go.RowKit Go.Proofs.YtnifgokjagahfaaDoorW.PrintWords Go.Proofs.YtnifgokjagahfaaDoorW.PrintLast Go.Proofs.YtnifgokjagahfaaDoorW.PrintMore
open Go.Proofs.YtnifgokjagahfaaDoor.Base Go.Proofs.YtnifgokjagahfaaDoor.App Go.Proofs.YtnifgokjagahfaaDoor.Layouts Go.Proofs.YtnifgokjagahfaaDoor.Msg Go.Proofs.YtnifgokjagahfaaDoor.Put Go.Proofs.YtnifgokjagahfaaDoor.EncPure Go.Proofs.YtnifgokjagahfaaDoor.DecPure Go.Proofs.YtnifgokjagahfaaDoor.Mids Go.Proofs.YtnifgokjagahfaaDoor.Enc Go.Proofs.YtnifgokjagahfaaDoor.RefF Go.Proofs.YtnifgokjagahfaaDoor.RefDec Go.Proofs.YtnifgokjagahfaaDoor.EqM Go.Proofs.YtnifgokjagahfaaDoor.OutPure
open Go.Proofs.YtnifgokjagahfaaDoor.Proper (properM proper_valid proper_any KTab clip clipped_any clip_range)
open Go.Proofs.YtnifgokjagahfaaDoor.Dec (mL_one)
open Go.Proofs.YtnifgokjagahfaaDoor.LawDec (zeros_new zeros_there zeros_below)
attribute [local go_sem high] eqA
theorem wpList_load_mid_on {P : Program} {ops : Array Oper} {rest : List Oper} {op : Oper} {a : Act} {w : World} {Q : Exit → Act → World → Prop} (hw : Region.wanted op (yielded ops a.tmps) = true) (ty : TypeId) (x : Operand) (ho : op.op = .load ty x)
    (b o : Nat) (hx : a.eval x = .pointer (some ⟨b, o, none⟩)) (cs : List Value) (d : TypeDesc) (hc : w.rangeAt b o cs)
    (hu : P.underlying ty = some d) (hd : d.isRow = true) (hi : (P.info? ty).map (·.size) = some cs.length)
    (h : wpList P ops Q rest (a.put op.dst (.agg cs.toArray)) w) : wpList P ops Q (op :: rest) a w :=
  wpList_step fun K hK => by rw [if_pos hw]; exact wp_load_mid ty x ho b o hx cs d hc hu hd hi (hK _ _ h)
theorem enc_good' (m : M) (vm : vB m = true) (km : 1 ≤ m.kind ∧ m.kind < 17) (w : World) (hN : Crc.Nibs w) : Calls Tryd.prog 13 #[.agg (mL m).toArray] w fun e w' => e = .returned (.tuple #[.string (strOfNums (whole m)), .int .i64 0]) ∧ Below w.heap.size w w' := by
  have h := enc_any m w hN
  rw [encP_of m km vm] at h
  exact h
theorem dec_good' (m : M) (vm : vB m = true) (km : 1 ≤ m.kind ∧ m.kind < 17) (w : World) (hN : Crc.Nibs w) : Calls Tryd.prog 16 #[.string (strOfNums (whole m))] w fun e w' => e = .returned (.tuple #[.agg (mL m).toArray, .int .i64 0]) ∧ Below w.heap.size w w' := by
  have h := Dec.dec_any (strOfNums (whole m)) w (by have := whole_size m vm km; omega) hN
  rw [bytesOf_strOfNums _ (byt_whole _ km), dec_whole m vm km] at h
  exact h
set_option maxRecDepth 100000 in
set_option maxHeartbeats 8000000 in
theorem law_back (a b : M) (w : World) (hK : KTab w) (hN : Crc.Nibs w) (za : a.key.size ≤ 9223372036854775807 ∧ a.value.size ≤ 9223372036854775807) (zb : b.key.size ≤ 9223372036854775807 ∧ b.value.size ≤ 9223372036854775807) : Calls Tryd.prog 7 #[.agg (mL a).toArray, .agg (mL b).toArray] w fun e w' => e = .returned (.bool true) ∧ Below w.heap.size w w' := by
  have HN := Aside0.mk hN
  have HK := Aside0.mk hK
  obtain ⟨v1, k1, _⟩ := proper_valid a
  obtain ⟨v2, k2, _⟩ := proper_valid b
  have KA := fun (w : World) hK => Lib.hid (proper_any a w hK za)
  have KB := fun (w : World) hK => Lib.hid (proper_any b w hK zb)
  generalize properM a = m at KA v1 k1
  generalize properM b = n at KB v2 k2
  have E1 := fun (w : World) hN => Lib.hid (enc_good' m v1 k1 w hN)
  have E2 := fun (w : World) hN => Lib.hid (enc_good' n v2 k2 w hN)
  have D1 := fun (w : World) hN => Lib.hid (dec_good' m v1 k1 w hN)
  have hq := same_whole m n v1 v2 k1 k2
  have hl := (whole_size m v1 k1).1
  generalize strOfNums (whole m) = s at E1 D1 hq hl
  generalize strOfNums (whole n) = t at E2 hq
  have HQ := Aside0.mk hq
  have hb2 : Below w.heap.size w ((w.alloc (.cells (mL a).toArray 24)).alloc (.cells (mL b).toArray 24)) := ((Below.refl w.heap.size w).alloc (Nat.le_refl _) _).alloc (by simp) _
  have HMA : Aside0 (MBox ((w.alloc (.cells (mL a).toArray 24)).alloc (.cells (mL b).toArray 24)) w.heap.size a) := ⟨(⟨Go.heap_alloc_new w _, by simp⟩ : MBox (w.alloc (.cells (mL a).toArray 24)) w.heap.size a).below ((Below.refl (w.heap.size + 1) (w.alloc (.cells (mL a).toArray 24))).alloc (by simp) _) (by omega)⟩
  have HMB : Aside0 (MBox ((w.alloc (.cells (mL a).toArray 24)).alloc (.cells (mL b).toArray 24)) (w.heap.size + 1) b) := ⟨by
    have := Go.heap_alloc_new (w.alloc (.cells (mL a).toArray 24)) (.cells (mL b).toArray 24)
    exact ⟨by simpa using this, by simp⟩⟩
  have HB0 := Aside0.mk hb2
  clear hK hN za zb hb2 hq v1 k1 v2 k2
  generalize hwb : (w.alloc (.cells (mL a).toArray 24)).alloc (.cells (mL b).toArray 24) = wb at HB0 HMA HMB
  have hrg := blk_range HMA.out.row
  go_enter Tryd.func7, Tryd.ntmps7
  go_wp2_with ((with_reducible refine gate_load (ty := 24) (x := .tmp 2) rfl ?_); refine wpList_load_mid rfl 24 (.tmp 2) rfl w.heap.size 0 rfl (mL a) _ hrg Tryd.underlying24 rfl infoM ?_)
  refine (KA _ (HK.out.below HB0.out)).out.mono ?_
  rintro e w1 ⟨rfl, hb⟩
  have HMB1 := Aside0.mk (HMB.out.below hb HMB.out.lt)
  have HB1 := Aside0.mk (HB0.out.trans (hb.mono HB0.out.size))
  clear hb KA HB0 hwb HMA HMB hrg
  have hth := zeros_there w1
  have HM2 := Aside0.mk (zeros_new w1 m)
  have HMB1s := Aside0.mk (HMB1.out.below (zeros_below w1 m) HMB1.out.lt)
  have HB2 := Aside0.mk (HB1.out.trans ((zeros_below w1 m).mono HB1.out.size))
  go_upto_region 2 with (((with_reducible refine gate_store (ty := 24) (x := .tmp 5) (y := .tmp 14) rfl ?_); refine wpList_store_mid rfl 24 (.tmp 5) (.tmp 14) rfl w1.heap.size 0 (mL m).toArray rfl rfl hth infoM (mL_one m) ?_))
  clear hth HMB1
  generalize hw2 : (w1.alloc (.cells #[.int .i64 0, .int .i64 0, .int .i64 0, .int .i64 0, .int .i64 0, .int .i64 0, .int .i64 0, .int .i64 0, .int .i64 0, .string { data := #[] }, .string { data := #[] }] 24)).setCells w1.heap.size 0 (mL m) = w2 at HM2 HB2 HMB1s ⊢
  generalize w1.heap.size = g2 at HM2 hw2 ⊢
  clear hw2
  clear HB1
  have hrg := blk_range HMB1s.out.row
  go_wp2_with ((with_reducible refine gate_load (ty := 24) (x := .tmp 3) rfl ?_); refine wpList_load_mid rfl 24 (.tmp 3) rfl (w.heap.size + 1) 0 rfl (mL b) _ hrg Tryd.underlying24 rfl infoM ?_)
  refine (KB _ (HK.out.below HB2.out)).out.mono ?_
  rintro e w3 ⟨rfl, hb⟩
  have HM3 := Aside0.mk (HM2.out.below hb HM2.out.lt)
  have HB3 := Aside0.mk (HB2.out.trans (hb.mono HB2.out.size))
  clear hb KB HB2 HM2 HMB1s hrg
  have hth := zeros_there w3
  have HM4 := Aside0.mk (zeros_new w3 n)
  have HM3s := Aside0.mk (HM3.out.below (zeros_below w3 n) HM3.out.lt)
  have HB4 := Aside0.mk (HB3.out.trans ((zeros_below w3 n).mono HB3.out.size))
  go_upto_region 3 with (((with_reducible refine gate_store (ty := 24) (x := .tmp 6) (y := .tmp 16) rfl ?_); refine wpList_store_mid rfl 24 (.tmp 6) (.tmp 16) rfl w3.heap.size 0 (mL n).toArray rfl rfl hth infoM (mL_one n) ?_))
  clear hth HM3
  generalize hw4 : (w3.alloc (.cells #[.int .i64 0, .int .i64 0, .int .i64 0, .int .i64 0, .int .i64 0, .int .i64 0, .int .i64 0, .int .i64 0, .int .i64 0, .string { data := #[] }, .string { data := #[] }] 24)).setCells w3.heap.size 0 (mL n) = w4 at HM4 HB4 HM3s ⊢
  generalize w3.heap.size = g4 at HM4 hw4 ⊢
  clear hw4
  clear HB3
  have hrg := blk_range HM3s.out.row
  go_wp2_with ((with_reducible refine gate_load (ty := 24) (x := .tmp 5) rfl ?_); refine wpList_load_mid rfl 24 (.tmp 5) rfl g2 0 rfl (mL m) _ hrg Tryd.underlying24 rfl infoM ?_)
  refine (E1 _ (HN.out.below HB4.out)).out.mono ?_
  rintro e w5 ⟨rfl, hb⟩
  have HP5 := Aside0.mk (HM3s.out.below hb HM3s.out.lt)
  have HN5 := Aside0.mk (HM4.out.below hb HM4.out.lt)
  have HB5 := Aside0.mk (HB4.out.trans (hb.mono HB4.out.size))
  clear hb E1 HB4 HM4 HM3s hrg
  have hrg := blk_range HN5.out.row
  go_wp2_with ((with_reducible refine gate_load (ty := 24) (x := .tmp 6) rfl ?_); refine wpList_load_mid rfl 24 (.tmp 6) rfl g4 0 rfl (mL n) _ hrg Tryd.underlying24 rfl infoM ?_)
  refine (E2 _ (HN.out.below HB5.out)).out.mono ?_
  rintro e w6 ⟨rfl, hb⟩
  have HP6 := Aside0.mk (HP5.out.below hb HP5.out.lt)
  have HN6 := Aside0.mk (HN5.out.below hb HN5.out.lt)
  have HB6 := Aside0.mk (HB5.out.trans (hb.mono HB5.out.size))
  clear hb E2 HB5 HP5 HN5 hrg
  go_wp2_with (go_at_call 15; refine (num_any _ _).mono ?_; rintro e w' ⟨rfl, rfl⟩)
  refine (D1 _ (HN.out.below HB6.out)).out.mono ?_
  rintro e w7 ⟨rfl, hb⟩
  have HP7 := Aside0.mk (HP6.out.below hb HP6.out.lt)
  have HN7 := Aside0.mk (HN6.out.below hb HN6.out.lt)
  have HB7 := Aside0.mk (HB6.out.trans (hb.mono HB6.out.size))
  clear hb D1 HB6 HP6 HN6
  have hth := zeros_there w7
  have HM8 := Aside0.mk (zeros_new w7 m)
  have HP7s := Aside0.mk (HP7.out.below (zeros_below w7 m) HP7.out.lt)
  have HN7s := Aside0.mk (HN7.out.below (zeros_below w7 m) HN7.out.lt)
  have HB8 := Aside0.mk (HB7.out.trans ((zeros_below w7 m).mono HB7.out.size))
  go_upto_region 8 with (((with_reducible refine gate_store (ty := 24) (x := .tmp 11) (y := .tmp 43) rfl ?_); refine wpList_store_mid rfl 24 (.tmp 11) (.tmp 43) rfl w7.heap.size 0 (mL m).toArray rfl rfl hth infoM (mL_one m) ?_))
  clear hth HP7 HN7
  generalize hw8 : (w7.alloc (.cells #[.int .i64 0, .int .i64 0, .int .i64 0, .int .i64 0, .int .i64 0, .int .i64 0, .int .i64 0, .int .i64 0, .int .i64 0, .string { data := #[] }, .string { data := #[] }] 24)).setCells w7.heap.size 0 (mL m) = w8 at HM8 HB8 HP7s HN7s ⊢
  generalize w7.heap.size = g8 at HM8 hw8 ⊢
  clear hw8
  clear HB7
  have hrg5 := blk_range HP7s.out.row
  have hrg6 := blk_range HN7s.out.row
  have hrg11 := blk_range HM8.out.row
  have heq := bM_same m
  have hq := HQ.out
  obtain ⟨q, hmn⟩ : ∃ q, bM m n = q := ⟨_, rfl⟩
  rw [hmn] at hq
  clear HQ
  cases q
  all_goals
    go_wp2_with (first | (go_at_call 15; refine (num_any _ _).mono ?_; rintro e w' ⟨rfl, rfl⟩) | ((with_reducible refine gate_load (ty := 24) (x := .tmp 11) rfl ?_); refine wpList_load_mid_on rfl 24 (.tmp 11) rfl g8 0 rfl (mL m) _ hrg11 Tryd.underlying24 rfl infoM ?_) | ((with_reducible refine gate_load (ty := 24) (x := .tmp 5) rfl ?_); refine wpList_load_mid_on rfl 24 (.tmp 5) rfl g2 0 rfl (mL m) _ hrg5 Tryd.underlying24 rfl infoM ?_) | ((with_reducible refine gate_load (ty := 24) (x := .tmp 6) rfl ?_); refine wpList_load_mid_on rfl 24 (.tmp 6) rfl g4 0 rfl (mL n) _ hrg6 Tryd.underlying24 rfl infoM ?_))
    go_ret
    exact ⟨rfl, HB8.out⟩
end Go.Proofs.YtnifgokjagahfaaDoor.LawBack

/- FrameBurst: a frame changed within 32 neighbouring bits is refused. -/
set_option linter.unusedVariables false
set_option linter.unusedSimpArgs false
namespace Go.Proofs.YtnifgokjagahfaaDoor.LawBurst
open Go.RowKit Go.Proofs.YtnifgokjagahfaaDoorW.PrintWords Go.Proofs.YtnifgokjagahfaaDoorW.PrintLast Go.Proofs.YtnifgokjagahfaaDoorW.PrintMore
open Go.Proofs.YtnifgokjagahfaaDoor.Base Go.Proofs.YtnifgokjagahfaaDoor.App Go.Proofs.YtnifgokjagahfaaDoor.Layouts Go.Proofs.YtnifgokjagahfaaDoor.Msg Go.Proofs.YtnifgokjagahfaaDoor.Put Go.Proofs.YtnifgokjagahfaaDoor.EncPure Go.Proofs.YtnifgokjagahfaaDoor.DecPure Go.Proofs.YtnifgokjagahfaaDoor.Mids Go.Proofs.YtnifgokjagahfaaDoor.Enc Go.Proofs.YtnifgokjagahfaaDoor.RefF Go.Proofs.YtnifgokjagahfaaDoor.RefDec Go.Proofs.YtnifgokjagahfaaDoor.EqM Go.Proofs.YtnifgokjagahfaaDoor.OutPure Go.Proofs.YtnifgokjagahfaaDoor.LawBack Go.Proofs.YtnifgokjagahfaaDoor.Flip
open Go.Proofs.YtnifgokjagahfaaDoor.Proper (properM proper_valid proper_any KTab clip clipped_any clip_range)
open Go.Proofs.YtnifgokjagahfaaDoor.Dec (mL_one)
open Go.Proofs.YtnifgokjagahfaaDoor.LawDec (zeros_new zeros_there zeros_below)
attribute [local go_sem high] eqA
set_option maxRecDepth 100000 in
set_option maxHeartbeats 8000000 in
theorem law_burst (a : M) (at_ x : Int) (w : World) (hK : KTab w) (hN : Crc.Nibs w) (za : a.key.size ≤ 9223372036854775807 ∧ a.value.size ≤ 9223372036854775807) : Calls Tryd.prog 9 #[.agg (mL a).toArray, .int .i64 at_, .int .i64 x] w fun e w' => e = .returned (.bool true) ∧ Below w.heap.size w w' := by
  have HN := Aside0.mk hN
  obtain ⟨v1, k1, _⟩ := proper_valid a
  have HMA : Aside0 (MBox (w.alloc (.cells (mL a).toArray 24)) w.heap.size a) := ⟨⟨Go.heap_alloc_new w _, by simp⟩⟩
  have HB0 := Aside0.mk ((Below.refl w.heap.size w).alloc (Nat.le_refl _) (.cells (mL a).toArray 24))
  have KA := Lib.hid (proper_any a _ (hK.below HB0.out) za)
  generalize properM a = m at KA v1 k1
  have E1 := fun (w : World) hN => Lib.hid (enc_good' m v1 k1 w hN)
  have D1 := fun (w : World) hN => Lib.hid (dec_good' m v1 k1 w hN)
  obtain ⟨hl, hl2⟩ := whole_size m v1 k1
  have HF := Aside0.mk (fun p q hp hne => flip_refused m p q k1 hp hne)
  generalize strOfNums (whole m) = s at E1 D1 hl hl2 HF
  clear hK hN za v1 k1
  generalize hwb : w.alloc (.cells (mL a).toArray 24) = wb at HB0 HMA KA
  have hrg := blk_range HMA.out.row
  go_enter Tryd.func9, Tryd.ntmps9
  go_wp2_with ((with_reducible refine gate_load (ty := 24) (x := .tmp 3) rfl ?_); refine wpList_load_mid rfl 24 (.tmp 3) rfl w.heap.size 0 rfl (mL a) _ hrg Tryd.underlying24 rfl infoM ?_)
  refine KA.out.mono ?_
  rintro e w1 ⟨rfl, hb⟩
  have HB1 := Aside0.mk (HB0.out.trans (hb.mono HB0.out.size))
  clear hb KA HB0 hwb HMA hrg
  have hth := zeros_there w1
  have HM2 := Aside0.mk (zeros_new w1 m)
  have HB2 := Aside0.mk (HB1.out.trans ((zeros_below w1 m).mono HB1.out.size))
  go_upto_region 2 with (((with_reducible refine gate_store (ty := 24) (x := .tmp 7) (y := .tmp 16) rfl ?_); refine wpList_store_mid rfl 24 (.tmp 7) (.tmp 16) rfl w1.heap.size 0 (mL m).toArray rfl rfl hth infoM (mL_one m) ?_))
  clear hth 
  generalize hw2 : (w1.alloc (.cells #[.int .i64 0, .int .i64 0, .int .i64 0, .int .i64 0, .int .i64 0, .int .i64 0, .int .i64 0, .int .i64 0, .int .i64 0, .string { data := #[] }, .string { data := #[] }] 24)).setCells w1.heap.size 0 (mL m) = w2 at HM2 HB2  ⊢
  generalize w1.heap.size = g2 at HM2 hw2 ⊢
  clear hw2
  clear HB1
  have hrg := blk_range HM2.out.row
  go_wp2_with ((with_reducible refine gate_load (ty := 24) (x := .tmp 7) rfl ?_); refine wpList_load_mid rfl 24 (.tmp 7) rfl g2 0 rfl (mL m) _ hrg Tryd.underlying24 rfl infoM ?_)
  refine (E1 _ (HN.out.below HB2.out)).out.mono ?_
  rintro e w3 ⟨rfl, hb⟩
  have HM3 := Aside0.mk (HM2.out.below hb HM2.out.lt)
  have HB3 := Aside0.mk (HB2.out.trans (hb.mono HB2.out.size))
  clear hb E1 HB2 HM2 hrg
  go_wp2_with (go_at_call 15; refine (num_any _ _).mono ?_; rintro e w' ⟨rfl, rfl⟩)
  refine (D1 _ (HN.out.below HB3.out)).out.mono ?_
  rintro e w4 ⟨rfl, hb⟩
  have HM4 := Aside0.mk (HM3.out.below hb HM3.out.lt)
  have HB4 := Aside0.mk (HB3.out.trans (hb.mono HB3.out.size))
  clear hb D1 HB3 HM3
  have hth := zeros_there w4
  have HM5 := Aside0.mk (zeros_new w4 m)
  have HM4s := Aside0.mk (HM4.out.below (zeros_below w4 m) HM4.out.lt)
  have HB5 := Aside0.mk (HB4.out.trans ((zeros_below w4 m).mono HB4.out.size))
  go_upto_region 6 with (((with_reducible refine gate_store (ty := 24) (x := .tmp 10) (y := .tmp 33) rfl ?_); refine wpList_store_mid rfl 24 (.tmp 10) (.tmp 33) rfl w4.heap.size 0 (mL m).toArray rfl rfl hth infoM (mL_one m) ?_))
  clear hth HM4
  generalize hw5 : (w4.alloc (.cells #[.int .i64 0, .int .i64 0, .int .i64 0, .int .i64 0, .int .i64 0, .int .i64 0, .int .i64 0, .int .i64 0, .int .i64 0, .string { data := #[] }, .string { data := #[] }] 24)).setCells w4.heap.size 0 (mL m) = w5 at HM5 HB5 HM4s ⊢
  generalize w4.heap.size = g5 at HM5 hw5 ⊢
  clear hw5
  clear HB4
  have hrg7 := blk_range HM4s.out.row
  have hrg10 := blk_range HM5.out.row
  have heq := bM_same m
  have hw1 : wrap64 (8 * (s.size : Int)) = 8 * (s.size : Int) := w64 _ (by omega) (by omega)
  have hw2 : wrap64 (8 * (s.size : Int) - 1) = 8 * (s.size : Int) - 1 := w64 _ (by omega) (by omega)
  have HS := Aside0.mk (show 24 ≤ s.size ∧ s.size ≤ 4407 from ⟨hl, hl2⟩)
  go_upto_region 8 with (first | (go_at_call 15; refine (num_any _ _).mono ?_; rintro e w' ⟨rfl, rfl⟩) | ((with_reducible refine gate_load (ty := 24) (x := .tmp 7) rfl ?_); refine wpList_load_mid_on rfl 24 (.tmp 7) rfl g2 0 rfl (mL m) _ hrg7 Tryd.underlying24 rfl infoM ?_) | ((with_reducible refine gate_load (ty := 24) (x := .tmp 10) rfl ?_); refine wpList_load_mid_on rfl 24 (.tmp 10) rfl g5 0 rfl (mL m) _ hrg10 Tryd.underlying24 rfl infoM ?_))
  clear hrg7 hrg10 heq HM4s HM5
  have KC := fun (w : World) => Lib.hid (clipped_any at_ (8 * (s.size : Int) - 1) w (by omega) (by omega))
  have KX := fun (w : World) => Lib.hid (clipped_any x 4294967295 w (by decide) (by decide))
  obtain ⟨c1, c2⟩ := clip_range at_ (8 * (s.size : Int) - 1) (by omega)
  obtain ⟨c3, c4⟩ := clip_range x 4294967295 (by decide)
  obtain ⟨p, hp⟩ : ∃ p : Nat, clip at_ (8 * (s.size : Int) - 1) = (p : Int) := ⟨_, (Int.toNat_of_nonneg c1).symm⟩
  obtain ⟨q, hq⟩ : ∃ q : Nat, clip x 4294967295 = (q : Int) := ⟨_, (Int.toNat_of_nonneg c3).symm⟩
  rw [hp] at c1 c2 KC
  rw [hq] at c3 c4 KX
  have hps : p < 8 * s.size := by omega
  have hqs : q < 4294967296 := by omega
  have KF := fun (w : World) => Lib.hid (flip_any s p q w (by omega) hps hqs)
  have HF2 := Aside0.mk (HF.out p q hps)
  have ht : (strOfNums (flipI s p q)).size = s.size := by rw [strOfNums_size]; simp [flipI]
  generalize strOfNums (flipI s p q) = t at KF HF2 ht
  clear HF hp hq c1 c2 c3 c4 hps hqs hl hl2
  go_wp2_with fail
  refine (KC _).out.mono ?_
  rintro e w6 ⟨rfl, ⟨⟨n6, rfl⟩⟩⟩
  go_wp2_with fail
  refine (KX _).out.mono ?_
  rintro e w7 ⟨rfl, ⟨⟨n7, rfl⟩⟩⟩
  go_wp2_with fail
  refine (KF _).out.mono ?_
  rintro e w8 ⟨rfl, hb⟩
  have HB8 := Aside0.mk (HB5.out.trans (below_drewN_left hb |>.mono HB5.out.size))
  clear hb KC KX KF hw1 hw2 HB5
  by_cases hts : t = s
  · subst hts
    have hqq : (t.toList == t.toList) = true := by simp
    go_wp2
    go_ret
    exact ⟨rfl, HB8.out⟩
  · have hqq : (t.toList == s.toList) = false := by
      rw [ByteArray.toList_eq, ByteArray.toList_eq]
      exact beq_eq_false_iff_ne.2 (fun e => hts (ByteArray.ext (Array.ext' e)))
    have hne := HF2.out hts
    have KD := Lib.hid (Dec.dec_any t w8 (by have := HS.out; omega) (HN.out.below HB8.out))
    clear HF2
    generalize decP (bytesOf t) = r at KD hne
    obtain ⟨m2, k⟩ := r
    simp only at KD hne
    go_wp2_with fail
    refine KD.out.mono ?_
    rintro e w9 ⟨rfl, hb⟩
    have HB9 := Aside0.mk (HB8.out.trans (hb.mono HB8.out.size))
    clear hb KD HB8 hqq
    have hth := zeros_there w9
    have HM10 := Aside0.mk (zeros_new w9 m2)
    have HB10 := Aside0.mk (HB9.out.trans ((zeros_below w9 m2).mono HB9.out.size))
    go_upto_region 12 with (((with_reducible refine gate_store (ty := 24) (x := .tmp 13) (y := .tmp 59) rfl ?_); refine wpList_store_mid rfl 24 (.tmp 13) (.tmp 59) rfl w9.heap.size 0 (mL m2).toArray rfl rfl hth infoM (mL_one m2) ?_))
    clear hth 
    generalize hw10 : (w9.alloc (.cells #[.int .i64 0, .int .i64 0, .int .i64 0, .int .i64 0, .int .i64 0, .int .i64 0, .int .i64 0, .int .i64 0, .int .i64 0, .string { data := #[] }, .string { data := #[] }] 24)).setCells w9.heap.size 0 (mL m2) = w10 at HM10 HB10  ⊢
    generalize w9.heap.size = g10 at HM10 hw10 ⊢
    clear hw10
    have hkb : (k != 0) = true := bne_iff_ne.2 hne
    go_wp2_with (go_at_call 15; refine (num_any _ _).mono ?_; rintro e w' ⟨rfl, rfl⟩)
    go_ret
    exact ⟨rfl, HB10.out⟩
end Go.Proofs.YtnifgokjagahfaaDoor.LawBurst

/- A message as an argument. -/
set_option linter.unusedVariables false
set_option linter.unusedSimpArgs false
namespace Go.Proofs.YtnifgokjagahfaaDoor.OpenM
open Go.ChangeShapes Go.WideShapes Go.ChangeAt Go.RowKit Go.Joins
open Go.Proofs.YtnifgokjagahfaaDoor.Msg
theorem list11 {α : Type} {l : List α} (h : l.length = 11) : ∃ c0 c1 c2 c3 c4 c5 c6 c7 c8 c9 c10, l = [c0, c1, c2, c3, c4, c5, c6, c7, c8, c9, c10] := by
  match l, h with
  | [c0, c1, c2, c3, c4, c5, c6, c7, c8, c9, c10], _ => exact ⟨c0, c1, c2, c3, c4, c5, c6, c7, c8, c9, c10, rfl⟩
theorem c3 : Tryd.prog.cellsOf 3 = 1 := by kernel_rfl
theorem c9 : Tryd.prog.cellsOf 9 = 1 := by kernel_rfl
theorem cE : Tryd.prog.cellsOf 22 = 1 := by kernel_rfl
theorem cM : Tryd.prog.cellsOf 24 = 11 := by kernel_rfl
set_option maxRecDepth 100000 in
set_option maxHeartbeats 1000000 in
theorem open_msg {H : Type} {enc : TypeId × Value → H} {W : World} {r : Reach} {b0 base : Nat} {sp : Nat → Bool} {held : Bool} {v : Value} {d : DataW H} {p : List MemPlace}
    (hv : Value.okWide Tryd.prog W r b0 24 v) (h : DataW.Trod enc Tryd.prog W base sp held 24 v d p) : ∃ m : M, v = .agg (mL m).toArray ∧ m.key.size ≤ 9223372036854775807 ∧ m.value.size ≤ 9223372036854775807 := by
  obtain ⟨⟨l⟩, rfl, hsz⟩ := okWide_struct Tryd.underlying24 hv
  rw [cM] at hsz
  obtain ⟨x0, x1, x2, x3, x4, x5, x6, x7, x8, x9, x10, rfl⟩ := list11 (l := l) (by simpa using hsz)
  obtain ⟨fuel, hf⟩ := h
  obtain ⟨xs, n, _, _, _, hxl, hg⟩ := DataW.trod_struct Tryd.underlying24 hf
  obtain ⟨u0, u1, u2, u3, u4, u5, u6, u7, u8, u9, u10, rfl⟩ := list11 (l := xs) hxl
  have g0 := hg 0 _ rfl
  have g1 := hg 1 _ rfl
  have g2 := hg 2 _ rfl
  have g3 := hg 3 _ rfl
  have g4 := hg 4 _ rfl
  have g5 := hg 5 _ rfl
  have g6 := hg 6 _ rfl
  have g7 := hg 7 _ rfl
  have g8 := hg 8 _ rfl
  have g9 := hg 9 _ rfl
  have g10 := hg 10 _ rfl
  simp only [c3, c9, cE, Value.cells, List.drop_succ_cons, List.drop_zero, List.take_succ_cons, List.take_zero, List.getElem_toArray, List.getElem_cons_zero, List.getElem_cons_succ, List.getElem?_cons_zero, List.getElem?_cons_succ] at g0 g1 g2 g3 g4 g5 g6 g7 g8 g9 g10
  obtain ⟨a0, e0, _, _⟩ := DataW.trod_int Tryd.underlying3 g0
  obtain ⟨a1, e1, _, _⟩ := DataW.trod_int Tryd.underlying3 g1
  obtain ⟨a2, e2, _, _⟩ := DataW.trod_int Tryd.underlying3 g2
  obtain ⟨a3, e3, _, _⟩ := DataW.trod_int Tryd.underlying3 g3
  obtain ⟨a4, e4, _, _⟩ := DataW.trod_int Tryd.underlying3 g4
  obtain ⟨a5, e5, _, _⟩ := DataW.trod_int Tryd.underlying3 g5
  obtain ⟨a6, e6, _, _⟩ := DataW.trod_int Tryd.underlying3 g6
  obtain ⟨a7, e7, _, _⟩ := DataW.trod_int Tryd.underlying3 g7
  obtain ⟨a8, e8, _, _⟩ := DataW.trod_int Tryd.underlying22 g8
  obtain ⟨a9, e9, _, z9⟩ := DataW.trod_string Tryd.underlying9 g9
  obtain ⟨a10, e10, _, z10⟩ := DataW.trod_string Tryd.underlying9 g10
  simp only [List.cons.injEq, and_true] at e0 e1 e2 e3 e4 e5 e6 e7 e8 e9 e10
  subst e0 e1 e2 e3 e4 e5 e6 e7 e8 e9 e10
  exact ⟨⟨a0, a1, a2, a3, a4, a5, a6, a7, a8, a9, a10⟩, rfl, z9, z10⟩
end Go.Proofs.YtnifgokjagahfaaDoor.OpenM

/- The tables that a row lays down, as the walks ask them. -/
set_option linter.unusedVariables false
set_option linter.unusedSimpArgs false
namespace Go.Proofs.YtnifgokjagahfaaDoor.LaidF
open Go.RowKit
open Go.Proofs.YtnifgokjagahfaaDoor.Base Go.Proofs.YtnifgokjagahfaaDoor.Layouts Go.Proofs.YtnifgokjagahfaaDoor.RefF
open Go.Proofs.YtnifgokjagahfaaDoor.Crc (Nibs nib)
theorem tail {P : Program} {x : String × DataW Unit} {r : List (String × DataW Unit)} {w : World} (h : laidMet P (x :: r) w) : laidMet P r w := by
  obtain ⟨ps, ⟨g, t, cs, fuel, p, q, _, _, _, _, hq, rfl⟩, hn, hc⟩ := h
  exact ⟨q, hq, (List.nodup_append.1 hn).2.1, fun b off hm => hc b off (List.mem_append_right _ hm)⟩
def nibI : List Int := [0, 498536548, 997073096, 651767980, 1994146192, 1802195444, 1303535960, 1342533948, 3988292384, 4027552580, 3604390888, 3412177804, 2607071920, 2262029012, 2685067896, 3183342108]
theorem gNib : Tryd.prog.globalNamed "granary/digest.nibbles" = some 2 := by kernel_rfl
theorem nibs_of {W : World} {r : List (String × DataW Unit)} (h : laidMet Tryd.prog (("granary/digest.nibbles", Lib.tabData .u32 nibI) :: r) W) : Nibs W := by
  have hT := Lib.tabIs_of_head (t := 142) gNib (by kernel_rfl) Tryd.underlying142 Tryd.underlying137 (by kernel_rfl) (by kernel_rfl) h
  have hc : ∀ i, i < 16 → W.cell? ⟨2, i, none⟩ = some (.int .u32 (nib i : Nat)) := by
    intro i hi
    rw [hT.cell gNib i (by simpa [nibI] using hi)]
    have : ∀ i, i < 16 → nibI.getD i 0 = (nib i : Nat) := by decide
    rw [this i hi]
  exact ⟨hc, World.block_lt_of_cell? W ⟨2, 0, none⟩ (hc 0 (by decide))⟩
theorem cells_of_strs {H : Type} {enc : TypeId × Value → H} {P : Program} {w : World} {base : Nat} {sp : Nat → Bool} {held : Bool} {fuel : Nat} {t e : TypeId} {n : Nat} {cs : List Value} {rows : List (List UInt8)} {p : List MemPlace}
    (ht : P.underlying t = some (.array n e)) (he : P.underlying e = some .string) (hce : P.cellsOf e = 1)
    (h : DataW.trod enc P w base sp held fuel t cs = some (.agg (rows.map fun l => DataW.lit (Lit.string l)), p)) (hr : rows.length = n) : ∀ (i : Nat) (l : List UInt8), rows[i]? = some l → cs[i]? = some (Value.string ⟨l.toArray⟩) := by
  cases fuel with
  | zero => simp [DataW.trod] at h
  | succ fuel =>
    simp only [DataW.trod, ht, hce] at h
    split at h
    · rename_i hl
      obtain ⟨xs, hm, hx⟩ := Option.map_eq_some_iff.1 h
      have hxs : xs.map (·.1) = rows.map (fun l => (DataW.lit (H := H) (Lit.string l))) := by
        have := congrArg Prod.fst hx
        simpa using this
      intro i l hi
      have hin : i < n := by
        rcases Nat.lt_or_ge i n with h | h
        · exact h
        · rw [List.getElem?_eq_none (by omega)] at hi; cases hi
      obtain ⟨b, hb, hf⟩ := Lib.mapM_at hm i i (by simp [hin])
      have h2 : (xs.map (·.1))[i]? = some (DataW.lit (Lit.string l)) := by rw [hxs, List.getElem?_map, hi]; rfl
      rw [List.getElem?_map, hb] at h2
      simp only [Option.map_some, Option.some.injEq] at h2
      obtain ⟨b1, b2⟩ := b
      simp only at h2
      subst h2
      obtain ⟨s, hs, hx2, _⟩ := DataW.trod_string he hf
      simp only [Prod.mk.injEq, DataW.lit.injEq, Lit.string.injEq] at hx2
      have h3 := congrArg (·[0]?) hs
      simp only [List.getElem?_take, List.getElem?_drop, Nat.mul_one, Nat.add_zero, List.getElem?_cons_zero] at h3
      have e : s = ⟨l.toArray⟩ := by rw [hx2.1]
      rw [e] at h3
      simpa using h3
    · cases h
def fldI : List (List UInt8) := [[], [], [], [69, 86], [69, 86, 67], [69, 83, 86], [69, 83, 86, 80, 67], [69, 83], [69, 83, 86, 80, 67], [], [69, 83, 86, 80, 67], [75], [86, 67, 75, 87], [83, 86], [83, 86, 80, 67, 87], [83, 86, 80], [83, 86, 80, 67, 75, 87]]
theorem gFld : Tryd.prog.globalNamed "granary/granaryref5.fields" = some 1 := by kernel_rfl
theorem strs_of {nm : String} {g : Nat} {W : World} {r : List (String × DataW Unit)} (hgn : Tryd.prog.globalNamed nm = some g) (hgt : (Tryd.prog.globals[g]?).map (·.type) = some 105)
    (h : laidMet Tryd.prog ((nm, .agg (fldI.map fun l => DataW.lit (Lit.string l))) :: r) W) (i : Nat) (hi : i < 17) : W.cell? ⟨g, i, none⟩ = some (.string (fstr i)) := by
  obtain ⟨ps, ⟨g', t', cs, fuel, p, q, hg', ht', hvar, hd, _, _⟩, _⟩ := h
  obtain rfl := Option.some.inj (hgn.symm.trans hg')
  obtain rfl := Option.some.inj (hgt.symm.trans ht')
  have hc := cells_of_strs Tryd.underlying105 Tryd.underlying9 (by kernel_rfl) hd rfl
  rw [World.var?_cell hgn hvar i, ← Array.getElem?_toList]
  have hf : fldI[i]? = some ((fieldsOf i).map fun f => UInt8.ofNat (chOf f)) := by
    have : ∀ i, i < 17 → fldI[i]? = some ((fieldsOf i).map fun f => UInt8.ofNat (chOf f)) := by decide
    exact this i hi
  exact hc i _ hf
theorem rtab_of {W : World} {r : List (String × DataW Unit)} (h : laidMet Tryd.prog (("granary/granaryref5.fields", .agg (fldI.map fun l => DataW.lit (Lit.string l))) :: r) W) : RTab W :=
  ⟨fun i hi => strs_of gFld (by kernel_rfl) h i hi, World.block_lt_of_cell? W ⟨1, 0, none⟩ (strs_of gFld (by kernel_rfl) h 0 (by decide))⟩
end Go.Proofs.YtnifgokjagahfaaDoor.LaidF

/- The table of kinds that a row lays down. -/
set_option linter.unusedVariables false
namespace Go.Proofs.YtnifgokjagahfaaDoor.LaidF
open Go.RowKit
open Go.Proofs.YtnifgokjagahfaaDoor.Base Go.Proofs.YtnifgokjagahfaaDoor.Layouts Go.Proofs.YtnifgokjagahfaaDoor.RefF
theorem gKind : Tryd.prog.globalNamed "granary/granarylaw5.kindHas" = some 0 := by kernel_rfl
theorem ktab_of {W : World} {r : List (String × DataW Unit)} (h : laidMet Tryd.prog (("granary/granarylaw5.kindHas", .agg (fldI.map fun l => DataW.lit (Lit.string l))) :: r) W) : Proper.KTab W :=
  ⟨fun i hi => strs_of gKind (by kernel_rfl) h i hi, World.block_lt_of_cell? W ⟨0, 0, none⟩ (strs_of gKind (by kernel_rfl) h 0 (by decide))⟩
end Go.Proofs.YtnifgokjagahfaaDoor.LaidF
