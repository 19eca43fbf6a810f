/- The document's MD5: the padding, the four words as bytes. -/
import Derived.Test.YthnobhifepnakaaDoorRefPure
import Derived.Test.YthnobhifepnakaaDoorSum
set_option linter.unusedVariables false
set_option linter.unusedSimpArgs false
namespace Go.Proofs.YthnobhifepnakaaDoor.RefMD5
open Go.RowKit Go.Proofs.YthnobhifepnakaaDoorW.PrintWords Go.Proofs.YthnobhifepnakaaDoorW.PrintLast Go.Proofs.YthnobhifepnakaaDoorW.PrintMore
open Go.Proofs.YthnobhifepnakaaDoor.Base Go.Proofs.YthnobhifepnakaaDoor.StepsRef Go.Proofs.YthnobhifepnakaaDoor.Words Go.Proofs.YthnobhifepnakaaDoor.PDigestMD5s
open Go.Proofs.YthnobhifepnakaaDoor.Sum (endI endI_next endI_length endI_str lenI)
open Go.Proofs.YthnobhifepnakaaDoor.Md5Pure (St bytes4 told first tail md5 padN len8)
set_option maxRecDepth 100000 in
set_option maxHeartbeats 1000000 in
theorem bytes4_any (x : Nat) (w : World) (hx : x < 4294967296) : Calls Tryd.prog 52 #[.int .i64 (x : Nat)] w fun e w' => e = .returned (.string (strOf (bytes4 x))) ∧ Below w.heap.size w w' := by
  have hnew := news w [.int .u8 ((x : Int) % 256), .int .u8 ((x : Int) / 256 % 256), .int .u8 ((x : Int) / 65536 % 256), .int .u8 ((x : Int) / 16777216 % 256)] 5
  have hcv := run_convert_bytes_arg (P := Tryd.prog) (w.alloc (.cells [Value.int .u8 ((x : Int) % 256), .int .u8 ((x : Int) / 256 % 256), .int .u8 ((x : Int) / 65536 % 256), .int .u8 ((x : Int) / 16777216 % 256)].toArray 5)) 64 5 Tryd.underlying64 Tryd.underlying5 w.heap.size 0 4 4 (b4 x) rfl (fun i hi => by
    rw [Nat.zero_add]
    refine hnew i _ ?_
    have e : i = 0 ∨ i = 1 ∨ i = 2 ∨ i = 3 := by omega
    rcases e with e | e | e | e <;> subst e <;> simp [b4]) 9 Tryd.underlying9
  have e1 : strOfNums (b4 x) = strOf (bytes4 x) := by unfold strOfNums; rw [b4_bytes]; rfl
  rw [e1] at hcv
  have HB := Aside0.mk ((Below.refl w.heap.size w).alloc (Nat.le_refl _) (.cells [Value.int .u8 ((x : Int) % 256), .int .u8 ((x : Int) / 256 % 256), .int .u8 ((x : Int) / 65536 % 256), .int .u8 ((x : Int) / 16777216 % 256)].toArray 5))
  clear hnew e1
  go_enter Tryd.func52, Tryd.ntmps52
  go_wp2
  go_ret
  exact ⟨rfl, HB.out⟩
theorem lit_owns (w : World) (n : Nat) (e : TypeId) : (w.alloc (.cells #[.int .u8 128] e)).ownsRow w.heap.size e 1 (.slice (some ⟨w.heap.size, 0, none⟩) 1 1) (1 + 0) (nums .u8 (endI 0 n 0)) :=
  ⟨rfl, .inr ⟨w.heap.size, 1, _, rfl, Nat.le_refl _, heap_alloc_new w _, by omega, by simp only [maxLen]; omega, by simp, rfl⟩⟩
theorem own_slice {w : World} {base : Nat} {e : TypeId} {v : Value} {n : Nat} {xs : List Value} (h : w.ownsRow base e 1 v n xs) (hn : n ≠ 0) : ∃ g c, v = .slice (some ⟨g, 0, none⟩) n c := by
  rcases h.2 with ⟨_, h2⟩ | ⟨g, cap, cs, rfl, _⟩
  · exact absurd h2 hn
  · exact ⟨g, cap, rfl⟩
def lenV : Value → Nat
  | .slice _ n _ => n
  | _ => 0
theorem endI_pad (k n : Nat) : endI (k + 1) n 0 = endI k n 0 ++ [0] := by simp [endI, lenI, List.replicate_succ']
/-- what is left of the bits ahead of byte i -/
def left (n i : Nat) : Nat := if i = 0 then n else 8 * n / 2 ^ (8 * i)
theorem left_one (n : Nat) : n / 32 = left n (0 + 1) := by unfold left; simp; omega
theorem left_next (n i : Nat) (h : i ≠ 0) : left n i / 256 = left n (i + 1) := by
  unfold left
  rw [if_neg h, if_neg (by omega), Nat.div_div_eq_div_mul, show 8 * (i + 1) = 8 * i + 8 by omega, Nat.pow_add]
theorem left_le (n i : Nat) : left n i ≤ 8 * n := by unfold left; split; omega; exact Nat.div_le_self _ _
set_option maxRecDepth 100000 in
set_option maxHeartbeats 4000000 in
theorem tail_any (n : Nat) (w : World) (hn : n ≤ 1099511627776) :
    Calls Tryd.prog 44 #[.int .i64 (n : Nat)] w fun e w' => e = .returned (.string (strOf (tail n))) ∧ Below w.heap.size w w' := by
  have HO := Aside0.mk (lit_owns w n 5)
  have HB := Aside0.mk ((Below.refl w.heap.size w).alloc (Nat.le_refl _) (.cells #[.int .u8 128] 5))
  obtain ⟨p, hp⟩ : ∃ p : Nat, p = padN n := ⟨_, rfl⟩
  have hpn : p = (119 - n % 64) % 64 := hp
  have HP := Aside0.mk hp
  clear hp
  go_enter Tryd.func44, Tryd.ntmps44
  go_wp2
  go_loopw [3] (fun v wr => ∃ k : Nat, k ≤ p ∧ Aside0 (wr.ownsRow w.heap.size 5 1 v (1 + k) (nums .u8 (endI k n 0))) ∧ Aside0 (Below w.heap.size w wr)) (fun v _ => 65 - lenV v)
  case atStart => exact ⟨0, Nat.zero_le _, HO, HB⟩
  case round =>
    clear HO HB
    obtain ⟨k, hk, HO, HB⟩ := hrel
    obtain ⟨wo, rfl⟩ : ∃ wo : World, wo = wr := ⟨_, rfl⟩
    obtain ⟨g, c, rfl⟩ := own_slice HO.out (by omega)
    by_cases hlt : k < p
    · have hcd : (((n : Int) + (1 + (k : Int))) % 64 == 56) = false := beq_eq_false_iff_ne.2 (by omega)
      have hnew := news wo [.int .u8 0] 5
      have HN := Lib.hid (endI_pad k n)
      have HZ := Aside0.mk HB.out.size
      have hk64 : k < 64 := by omega
      clear hpn
      go_wp2_with (at_builtin; go_loud (refine list_append_at (P := Tryd.prog) (w0 := w) w.heap.size rfl (.tmp 14) (.tmp 15) 64 5 (.int .u8 0) 1 rfl Tryd.underlying64 info8 rfl (by decide) _ (1 + k) (nums .u8 (endI k n 0)) wo.heap.size 1 1 [.int .u8 0] rfl rfl rfl ?h1 ?hc (HO.out.alloc _) (HB.out.alloc HZ.out _) ?hs ?hl ?_); (case h1 => simp [Value.oneCell']); (case hc => exact hnew); (case hs => have := HZ.out; simp; omega); (case hl => omega); intro v1 w2 HO1 HB1 _)
      go_roundw
      case rel => exact ⟨k + 1, by omega, ⟨by rw [HN.out, nums_append]; exact HO1⟩, ⟨HB1⟩⟩
      case measure =>
        obtain ⟨g1, c1, rfl⟩ := own_slice HO1 (by omega)
        simp [lenV]; omega
    · obtain rfl : k = p := by omega
      have hcd : (((n : Int) + (1 + (k : Int))) % 64 == 56) = true := beq_iff_eq.2 (by omega)
      have hcd2 : (((n : Int) + (1 + (k : Int))) % 64 != 56) = false := by rw [bne, hcd]; rfl
      have hk64 : k < 64 := by omega
      clear hpn
      have HOa : Aside0 (wo.ownsRow w.heap.size 5 1 (.slice (some ⟨g, 0, none⟩) (1 + k) c) (1 + k + 0) (nums .u8 (endI k n 0))) := HO
      go_wp2
      go_loopw [3, 4, 5, 6] (fun v bv iv _ wr => ∃ i : Nat, i ≤ 8 ∧ iv = .int .i64 i ∧ bv = .int .i64 (left n i : Nat) ∧ Aside0 (wr.ownsRow w.heap.size 5 1 v (1 + k + i) (nums .u8 (endI k n i))) ∧ Aside0 (Below w.heap.size w wr)) (fun _ _ iv _ _ => 8 - (intOf iv).toNat)
      case atStart => exact ⟨0, by omega, rfl, rfl, HOa, HB⟩
      case round =>
        clear HOa HB HO
        obtain ⟨i, hi, rfl, rfl, HO, HB⟩ := hrel
        obtain ⟨wo, rfl⟩ : ∃ wo : World, wo = wr := ⟨_, rfl⟩
        by_cases hlt : i < 8
        · have HN := Lib.hid (endI_next k n i)
          have HZ := Aside0.mk HB.out.size
          by_cases h0 : i = 0
          · subst h0
            have hnew := news wo [.int .u8 ((n : Int) % 32 * 8)] 5
            have HV : Aside0 (((8 * n / 2 ^ (8 * 0) % 256 : Nat) : Int) = (n : Int) % 32 * 8) := ⟨by simp; omega⟩
            have HL := Aside0.mk (left_one n)
            have hl0 : left n 0 = n := rfl
            rw [hl0]
            go_wp2_with (at_builtin; go_loud (refine list_append_at (P := Tryd.prog) (w0 := w) w.heap.size rfl (.tmp 33) (.tmp 36) 64 5 (.int .u8 0) 1 rfl Tryd.underlying64 info8 rfl (by decide) _ (1 + k + 0) (nums .u8 (endI k n 0)) wo.heap.size 1 1 [.int .u8 ((n : Int) % 32 * 8)] rfl rfl rfl ?h1 ?hc (HO.out.alloc _) (HB.out.alloc HZ.out _) ?hs ?hl ?_); (case h1 => simp [Value.oneCell']); (case hc => exact hnew); (case hs => have := HZ.out; simp; omega); (case hl => omega); intro v1 w2 HO1 HB1 _)
            go_roundw
            case rel => exact ⟨0 + 1, by omega, by go_num, by rw [← HL.out]; go_num, ⟨by rw [HN.out, nums_append, HV.out]; exact HO1⟩, ⟨HB1⟩⟩
            case measure => simp [intOf]
          · have hle := left_le n i
            have hi0 : ((i : Int) == 0) = false := beq_eq_false_iff_ne.2 (by omega)
            have HL := Aside0.mk (left_next n i h0)
            have HV : Aside0 (((8 * n / 2 ^ (8 * i) % 256 : Nat) : Int) = ((left n i : Nat) : Int) % 256) := ⟨by unfold left; rw [if_neg h0]; omega⟩
            generalize left n i = q at hle HL HV ⊢
            have hnew := news wo [.int .u8 ((q : Int) % 256)] 5
            go_wp2_with (at_builtin; go_loud (refine list_append_at (P := Tryd.prog) (w0 := w) w.heap.size rfl (.tmp 33) (.tmp 36) 64 5 (.int .u8 0) 1 rfl Tryd.underlying64 info8 rfl (by decide) _ (1 + k + i) (nums .u8 (endI k n i)) wo.heap.size 1 1 [.int .u8 ((q : Int) % 256)] rfl rfl rfl ?h1 ?hc (HO.out.alloc _) (HB.out.alloc HZ.out _) ?hs ?hl ?_); (case h1 => simp [Value.oneCell']); (case hc => exact hnew); (case hs => have := HZ.out; simp; omega); (case hl => omega); intro v1 w2 HO1 HB1 _)
            go_roundw
            case rel => exact ⟨i + 1, by omega, by go_num, by rw [← HL.out]; go_num, ⟨by rw [HN.out, nums_append, HV.out]; exact HO1⟩, ⟨HB1⟩⟩
            case measure => simp [intOf]; omega
        · obtain rfl : i = 8 := by omega
          have hcv := own_string (P := Tryd.prog) Tryd.underlying64 Tryd.underlying5 Tryd.underlying9 HO.out
          rw [endI_str k n HP.out] at hcv
          go_wp2
          go_ret
          exact ⟨rfl, HB.out⟩
end Go.Proofs.YthnobhifepnakaaDoor.RefMD5
