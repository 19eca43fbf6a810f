/- MD5 of a Hasher in the digest package. -/
import Derived.Test.YthnobhifepnakaaDoorHasher
set_option linter.unusedVariables false
set_option linter.unusedSimpArgs false
namespace Go.Proofs.YthnobhifepnakaaDoor.Sum
open Go.RowKit Go.Proofs.YthnobhifepnakaaDoorW.PrintWords Go.Proofs.YthnobhifepnakaaDoorW.PrintLast Go.Proofs.YthnobhifepnakaaDoorW.PrintMore
open Go.Proofs.YthnobhifepnakaaDoor.Base Go.Proofs.YthnobhifepnakaaDoor.Mix Go.Proofs.YthnobhifepnakaaDoor.Take Go.Proofs.YthnobhifepnakaaDoor.Words Go.Proofs.YthnobhifepnakaaDoor.Hasher
open Go.Proofs.YthnobhifepnakaaDoor.Md5Pure (St mdBlock Abs spl spl_length told bytes4 md5 first padN len8 tail)
theorem hC_one (st : St) (tl : List UInt8) (crc cnt : Int) : (hC st tl crc cnt).toArray.all (·.oneCell') = true := by
  refine all_oneCell_toArray (fun v hv => ?_)
  unfold hC stL byteL at hv
  simp only [List.mem_append, List.mem_cons, List.mem_map, List.not_mem_nil, or_false] at hv
  rcases hv with (rfl | rfl | rfl | rfl) | ⟨c, _, rfl⟩ | rfl | rfl <;> rfl
theorem hC_range {w : World} {b : Nat} {t : TypeId} {L : List Value} (h : w.heap[b]? = some (.cells L.toArray t (0, 0))) : w.rangeAt b 0 L := by
  intro j v hv
  rw [cell_of_row _ _ _ _ _ _ h, List.getElem?_toArray, Nat.zero_add]; exact hv
/-- a struct's copy in a new block -/
theorem copy_facts (w : World) (Z : Array Value) (t : TypeId) (L : List Value) (hz : Z.size = L.length) :
    (w.alloc (.cells Z t)).there w.heap.size 0 L.toArray.size ∧ ((w.alloc (.cells Z t)).setCells w.heap.size 0 L.toArray.toList).heap[w.heap.size]? = some (.cells L.toArray t (0, 0)) ∧ Below w.heap.size w ((w.alloc (.cells Z t)).setCells w.heap.size 0 L.toArray.toList) := by
  have hn : (w.alloc (.cells Z t)).heap[w.heap.size]? = some (.cells Z t (0, 0)) := Go.heap_alloc_new w _
  refine ⟨fun j hj => ?_, ?_, Go.Proofs.YthnobhifepnakaaDoor.StepsRef.below_setCells ((Below.refl w.heap.size w).alloc (Nat.le_refl _) _) (Nat.le_refl _) _ _⟩
  · rw [Nat.zero_add]
    refine ⟨?_, frozen_of_row _ _ j _ _ hn⟩
    rw [cell_of_row _ _ j _ _ _ hn, Array.getElem?_eq_getElem (by simp at hj; omega)]; rfl
  · have := heap_setCells w.heap.size t L 0 (w.alloc (.cells Z t)) Z.toList (by simp [hz]) (by simpa using hn)
    rw [show L.toArray.toList = L from rfl, this]
    congr 2
    simp [hz]
def lenI (n k : Nat) : List Int := (List.range k).map fun i => ((8 * n / 2 ^ (8 * i) % 256 : Nat) : Int)
def endI (p n k : Nat) : List Int := 128 :: (List.replicate p 0 ++ lenI n k)
theorem endI_next (p n k : Nat) : endI p n (k + 1) = endI p n k ++ [((8 * n / 2 ^ (8 * k) % 256 : Nat) : Int)] := by simp [endI, lenI, List.range_succ]
theorem endI_length (p n k : Nat) : (endI p n k).length = 1 + p + k := by simp [endI, lenI]; omega
theorem endI_str (p n : Nat) (h : p = padN n) : strOfNums (endI p n 8) = strOf (tail n) := by
  have e : (endI p n 8).map (fun n : Int => UInt8.ofNat n.toNat) = tail n := by
    subst h
    unfold endI lenI tail len8
    simp only [List.map_cons, List.map_append, List.map_replicate, List.map_map]
    rfl
  unfold strOfNums strOf
  rw [e]
theorem made_end (w : World) (p n : Nat) (hp : p < 64) (e : TypeId) : (w.alloc (.cells ((madeCells #[.int .u8 0] (1 + p + 8)).setIfInBounds 0 (.int .u8 128)) e)).ownsRow w.heap.size e 1 (.slice (some ⟨w.heap.size, 0, none⟩) (1 + p) (1 + p + 8)) (1 + p) (nums .u8 (endI p n 0)) := by
  refine ⟨by rw [nums, List.length_map, endI_length]; omega, .inr ⟨w.heap.size, 1 + p + 8, _, rfl, Nat.le_refl _, heap_alloc_new w _, by omega, by simp only [maxLen]; omega, by simp [size_madeCells], ?_⟩⟩
  apply List.ext_getElem?
  intro i
  by_cases h0 : i = 0
  · subst h0; simp [madeCells, endI, nums, List.getElem?_take, Array.getElem?_setIfInBounds]
  · by_cases hi : i < 1 + p
    · obtain ⟨j, rfl⟩ : ∃ j, i = j + 1 := ⟨i - 1, by omega⟩
      simp [madeCells, endI, lenI, nums, hi, List.getElem?_replicate, Array.getElem?_setIfInBounds, show j < p by omega, show j + 1 < 1 + p + 8 by omega, Nat.mod_one]
    · rw [List.getElem?_eq_none (by simp; omega), List.getElem?_eq_none (by rw [nums, List.length_map, endI_length]; omega)]
theorem make_both {P : Program} (t e : TypeId) (z : Value) (bytes : Nat) (ht : P.underlying t = some (.slice e)) (hinfo : (P.info? e).map (fun i => (i.zero, i.size, i.bytes)) = some (some z, 1, bytes))
    (l c : Int) (h0 : 0 ≤ l) (hlc : l ≤ c) (hbytes : (bytes : Int) * c ≤ 281474976710656) (h63 : c ≤ 9223372036854775807) (w : World) :
    (Instr.makeSlice t (.int .i64 l) (.int .i64 c)).run P w = .ok (.slice (some ⟨w.heap.size, 0, none⟩) l.toNat c.toNat) (w.alloc (.cells (madeCells z.cells c.toNat) e)) := by
  obtain ⟨i0, hi, hzz⟩ := Option.map_eq_some_iff.1 hinfo
  simp only [Prod.mk.injEq] at hzz
  obtain ⟨hz0, hz1, hz2⟩ := hzz
  have := run_make (P := P) w t e i0 z ht hi hz0 .i64 .i64 l c h0 hlc (by rw [hz2]; exact hbytes) h63
  rw [hz1, Nat.mul_one] at this
  exact this
set_option maxRecDepth 100000 in
set_option maxHeartbeats 4000000 in
theorem sum_any (b : Nat) (L : List UInt8) (c : Int) (w : World) (h : Hash w b L c) (hG : Glob w) (hn : L.length ≤ 1099511627776) :
    Calls Tryd.prog 31 #[.pointer (some ⟨b, 0, none⟩)] w fun e w' => e = .returned (.string (strOf (md5 L))) ∧ Below w.heap.size w w' := by
  obtain ⟨st, tl, hR⟩ := h
  have HR := Aside0.mk hR
  have HG := Aside0.mk hG
  have hrg := hC_range hR.row
  have hlen := hC_length st tl c L.length hR.abs.len
  have hi84 : (Tryd.prog.info? 84).map (·.size) = some (hC st tl c L.length).length := by rw [hlen]; kernel_rfl
  have hZ : (Tryd.zeroCells84).size = (hC st tl c L.length).length := by rw [hlen]; rfl
  obtain ⟨hth, hk1, hk2⟩ := copy_facts w Tryd.zeroCells84 84 (hC st tl c L.length) hZ
  have h1c := hC_one st tl c L.length
  have hblt := hR.lt
  have hcn0 := hR.cnt
  have HC0 := Aside0.mk hcn0
  clear hR hG hlen hZ hcn0
  generalize hLn : L.length = n at hn HR hrg hi84 hth hk1 hk2 h1c HC0
  have HLn := Lib.hid hLn
  clear hLn
  obtain ⟨p, hp⟩ : ∃ p : Nat, (119 - (n : Int) % 64) % 64 = (p : Int) := ⟨(119 - n % 64) % 64, by omega⟩
  have hp64 : p < 64 := by omega
  have hp2 : (119 - (n : Int)) % 64 = (p : Int) := by omega
  have HPn : Aside0 (p = padN n) := ⟨by unfold padN; omega⟩
  have hmk := make_both (P := Tryd.prog) 64 5 (.int .u8 0) 1 Tryd.underlying64 info8 (1 + (p : Int)) (1 + (p : Int) + 8) (by omega) (by omega) (by omega) (by omega)
  have hmc : (madeCells #[Value.int .u8 0] (1 + p + 8))[0]? = some (.int .u8 0) := by simp [madeCells]
  go_enter Tryd.func31, Tryd.ntmps31
  go_wp2_with (first | ((with_reducible refine gate_load (ty := 84) (x := .tmp 11) rfl ?_); refine wpList_load_mid rfl 84 (.tmp 11) rfl b 0 rfl (hC st tl c n) _ hrg Tryd.underlying84 rfl hi84 ?_) | ((with_reducible refine gate_store (ty := 84) (x := .tmp 3) (y := .tmp 12) rfl ?_); refine wpList_store_mid rfl 84 (.tmp 3) (.tmp 12) rfl w.heap.size 0 (hC st tl c n).toArray rfl rfl hth hi84 h1c ?_; have HK1 := Aside0.mk hk1; have HK2 := Aside0.mk hk2; have hcn := (hk2.cell (p := ⟨b, 69, none⟩) hblt).trans HC0.out; clear hk1 hk2; generalize (w.alloc (.cells Tryd.zeroCells84 84)).setCells w.heap.size 0 (hC st tl c n).toArray.toList = w1 at HK1 HK2 hcn ⊢))
  have HE := Aside0.mk (made_end w1 p n hp64 5)
  have HB := Aside0.mk ((Below.refl w1.heap.size w1).alloc (Nat.le_refl _) (.cells ((madeCells #[.int .u8 0] (1 + p + 8)).setIfInBounds 0 (.int .u8 128)) 5))
  generalize w1.alloc (.cells ((madeCells #[.int .u8 0] (1 + p + 8)).setIfInBounds 0 (.int .u8 128)) 5) = ws at HE HB ⊢
  clear hmk hmc hcn h1c hth hi84 hrg
  simp only [hp]
  go_loopw [6, 7] (fun v i wr => ∃ k : Nat, k ≤ 8 ∧ i = .int .i64 k ∧ Aside0 (wr.ownsRow w1.heap.size 5 1 v (1 + p + k) (nums .u8 (endI p n k))) ∧ Aside0 (Below w1.heap.size w1 wr)) (fun _ i _ => 8 - (intOf i).toNat)
  case atStart => exact ⟨0, Nat.zero_le _, rfl, HE, HB⟩
  case round =>
    clear HE HB
    obtain ⟨k, hk, rfl, HO, HB⟩ := hrel
    obtain ⟨wo, rfl⟩ : ∃ wo : World, wo = wr := ⟨_, rfl⟩
    by_cases hlt : k < 8
    · have hnew := news wo [.int .u8 ((n : Int) * 8 / 2 ^ (8 * k) % 256)] 5
      have HN := Lib.hid (endI_next p n k)
      have HV : Aside0 (((8 * n / 2 ^ (8 * k) % 256 : Nat) : Int) = (n : Int) * 8 / 2 ^ (8 * k) % 256) := ⟨by rw [Nat.mul_comm 8 n]; simp only [Int.natCast_emod, Int.natCast_ediv, Int.natCast_mul, Int.natCast_pow]; rfl⟩
      have HZ := Aside0.mk HB.out.size
      go_wp2_with (at_builtin; go_loud (refine list_append_at (P := Tryd.prog) (w0 := w1) w1.heap.size rfl (.tmp 38) (.tmp 44) 64 5 (.int .u8 0) 1 rfl Tryd.underlying64 info8 rfl (by decide) _ (1 + p + k) (nums .u8 (endI p n k)) wo.heap.size 1 1 [.int .u8 ((n : Int) * 8 / 2 ^ (8 * k) % 256)] rfl rfl rfl ?h1 ?hc (HO.out.alloc _) (HB.out.alloc HZ.out _) ?hs ?hl ?_); (case h1 => simp [Value.oneCell']); (case hc => exact hnew); (case hs => have := HZ.out; simp; omega); (case hl => omega); intro v1 w2 HO1 HB1 _)
      go_roundw
      case rel => exact ⟨k + 1, by omega, by go_num, ⟨by rw [HN.out, nums_append, HV.out]; exact HO1⟩, ⟨HB1⟩⟩
      case measure => simp [intOf]; omega
    · obtain rfl : k = 8 := by omega
      have hcv := own_string (P := Tryd.prog) Tryd.underlying64 Tryd.underlying5 Tryd.underlying9 HO.out
      rw [endI_str p n HPn.out] at hcv
      have hNlt : w.heap.size < w1.heap.size := by
        rcases Nat.lt_or_ge w.heap.size w1.heap.size with k | k
        · exact k
        · have := HK1.out; rw [Array.getElem?_eq_none k] at this; cases this
      have HWO := Aside0.mk (below_then HK2.out HK2.out.size HB.out)
      have HRn : Aside0 (Rep wo w.heap.size L st tl c (L.length : Nat)) := ⟨HR.out.abs, by rw [HLn.out]; exact (HB.out.block _ hNlt).trans HK1.out⟩
      have htl : (strOf (tail n)).size ≤ 200 := by rw [strOf_size]; simp [tail, len8, padN]; omega
      have HTL := Aside0.mk htl
      clear htl
      go_wp2_with fail
      refine (take_any w.heap.size L st tl c (strOf (tail n)) wo HRn.out (HG.out.tabs.below HWO.out) HG.out.tabs.lt3 HG.out.tabs.lt4 (by have := HTL.out; rw [HLn.out]; omega)).mono ?_
      rintro e w2 ⟨rfl, hO2, st2, tl2, hR2⟩
      rw [strOf_toList, ← HLn.out] at hR2
      have hrg2 := st_range hR2.row
      have hi81 : (Tryd.prog.info? 81).map (·.size) = some (stL st2).length := by show _ = some 4; kernel_rfl
      have HS2 := Aside0.mk (And.intro hR2.abs.sum hR2.abs.ok)
      have HB2 := Aside0.mk (HWO.out.trans (hO2.below (Nat.le_refl _) HWO.out.size))
      clear hR2 hO2 hcv
      go_wp2_with (first | ((with_reducible refine gate_load (ty := 81) (x := .tmp 49) rfl ?_); refine wpList_load_mid rfl 81 (.tmp 49) rfl w.heap.size 0 rfl (stL st2) _ hrg2 Tryd.underlying81 rfl hi81 ?_))
      refine (words_any st2 _ HS2.out.2).mono ?_
      rintro e w3 ⟨rfl, hb3⟩
      have HB3 := Aside0.mk (below_then HB2.out HB2.out.size hb3)
      clear hb3
      rw [HS2.out.1]
      go_wp2
      go_ret
      exact ⟨rfl, HB3.out⟩
set_option maxRecDepth 100000 in
set_option maxHeartbeats 4000000 in
theorem nil_any (w : World) : Calls Tryd.prog 31 #[.pointer none] w fun e w' => e = .returned (.string (strOf [])) ∧ w = w' := by
  go_enter Tryd.func31, Tryd.ntmps31
  go_wp2
  go_ret
  exact ⟨rfl, rfl⟩
open Go.Proofs.YthnobhifepnakaaDoor.Crc (flat flat_next)
set_option maxRecDepth 100000 in
set_option maxHeartbeats 4000000 in
theorem md5_any (A : Option Addr) (c : Nat) (l : List ByteArray) (w : World) (hr : Kd.C Kd.string w A l.length l) (hc : l.length ≤ c) (hG : Glob w) (hl : l.length ≤ 1073741824) (hn : (flat l).length ≤ 1099511627776) :
    Calls Tryd.prog 21 #[.slice A l.length c] w fun e w' => e = .returned (.string (strOf (md5 (flat l)))) ∧ Below w.heap.size w w' := by
  have HR := Aside0.mk hr
  have HG := Aside0.mk hG
  have HF := Aside0.mk (show ∀ k, k < l.length → (flat (l.take k)).length + (rdOf ByteArray.empty l (k : Nat)).size ≤ 1099511627776 from fun k hk => by
    have h1 := flat_next l k hk
    have h2 := congrArg List.length h1
    rw [List.length_append, size_toList] at h2
    rw [← h2]
    refine Nat.le_trans ?_ hn
    unfold flat
    rw [← List.take_append_drop (k + 1) l, List.flatMap_append, List.length_append, List.take_append_drop]
    exact Nat.le_add_right _ _)
  have HN := Aside0.mk hn
  clear hr hG hn
  go_enter Tryd.func21, Tryd.ntmps21
  go_wp2_with fail
  refine (new_any w HG.out).mono ?_
  rintro e w1 ⟨rfl, rfl⟩
  have HH := Aside0.mk (fresh w)
  have HB := Aside0.mk ((Below.refl w.heap.size w).alloc (Nat.le_refl _) (.cells (hC first (List.replicate 64 0) 0 0).toArray 84))
  generalize w.alloc (.cells (hC first (List.replicate 64 0) 0 0).toArray 84) = w1 at HH HB ⊢
  go_wp2
  go_loopw [9] (fun i wr => ∃ k : Nat, k ≤ l.length ∧ i = .int .i64 k ∧ Aside0 (Hash wr w.heap.size (flat (l.take k)) 0) ∧ Aside0 (Below w.heap.size w wr)) (fun i _ => l.length - (intOf i).toNat)
  case atStart => exact ⟨0, Nat.zero_le _, rfl, HH, HB⟩
  case round =>
    clear HH HB
    obtain ⟨k, hk, rfl, HH, HB⟩ := hrel
    obtain ⟨wo, rfl⟩ : ∃ wo : World, wo = wr := ⟨_, rfl⟩
    by_cases hlt : k < l.length
    · have HX := Lib.hid (flat_next l k hlt)
      have HF1 := Aside0.mk (HF.out k hlt)
      obtain ⟨ad, e1, hx⟩ := Kd.at_string HR.out (k : Int) (by omega) (by omega)
      cases e1
      rw [Int.toNat_natCast] at hx
      have hx := pw_cell_below HB.out hx
      generalize rdOf ByteArray.empty l (k : Int) = t at hx HX HF1
      go_wp2_with fail
      obtain ⟨st, tl, hR⟩ := HH.out
      refine (take_any w.heap.size _ st tl 0 t wo hR (HG.out.tabs.below HB.out) HG.out.tabs.lt3 HG.out.tabs.lt4 (by have := HF1.out; omega)).mono ?_
      rintro e w2 ⟨rfl, hO2, st2, tl2, hR2⟩
      rw [← HX.out] at hR2
      have HH2 : Aside0 (Hash w2 w.heap.size (flat (l.take (k + 1))) 0) := ⟨st2, tl2, hR2⟩
      have HB2 := Aside0.mk (HB.out.trans (hO2.below (Nat.le_refl _) HB.out.size))
      clear hR hR2 hO2 hx
      go_wp2
      go_roundw
      case rel => exact ⟨k + 1, by omega, by go_num, HH2, HB2⟩
      case measure => simp [intOf]; omega
    · obtain rfl : k = l.length := by omega
      rw [List.take_length] at HH
      go_wp2_with fail
      refine (sum_any w.heap.size _ 0 wo HH.out (HG.out.below HB.out) HN.out).mono ?_
      rintro e w3 ⟨rfl, hb3⟩
      have HB3 := Aside0.mk (below_then HB.out HB.out.size hb3)
      clear hb3
      go_wp2
      go_ret
      exact ⟨rfl, HB3.out⟩
end Go.Proofs.YthnobhifepnakaaDoor.Sum
