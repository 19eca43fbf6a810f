/- DigestCRCs: the law's walk. -/
import Derived.Test.YthnobhifepnakaaDoorRefCRC
import Derived.Test.YthnobhifepnakaaDoorOver
import Derived.Test.YthnobhifepnakaaDoorOpen
set_option linter.unusedVariables false
set_option linter.unusedSimpArgs false
namespace Go.Proofs.YthnobhifepnakaaDoor.LawCRC
open Go.RowKit Go.Proofs.YthnobhifepnakaaDoorW.PrintWords Go.Proofs.YthnobhifepnakaaDoorW.PrintLast Go.Proofs.YthnobhifepnakaaDoorW.PrintMore
open Go.Proofs.YthnobhifepnakaaDoor.Base Go.Proofs.YthnobhifepnakaaDoor.CrcPure Go.Proofs.YthnobhifepnakaaDoor.Crc Go.Proofs.YthnobhifepnakaaDoor.PDigestCRCs Go.Proofs.YthnobhifepnakaaDoor.RefCRC Go.Proofs.YthnobhifepnakaaDoor.Over Go.Proofs.YthnobhifepnakaaDoor.Open
theorem twin_any (A : Option Addr) (c : Nat) (l : List ByteArray) (w : World) (hr : Kd.C Kd.string w A l.length l) (hc : l.length ≤ c) (hl : l.length ≤ 1073741824) :
    Calls Tryd.prog 12 #[.slice A l.length c] w fun e w' => ∃ v : Value, e = .returned v ∧ Kd.R Kd.string 9 w' w.heap.size (fun _ => True) v l ∧ Below w.heap.size w w' := by
  obtain ⟨k, hk⟩ := twin_f l hl
  exact granarylaw2_twin.calls k A c l l w hr hc hk
theorem join_any (A : Option Addr) (c : Nat) (l : List ByteArray) (w : World) (hr : Kd.C Kd.string w A l.length l) (hc : l.length ≤ c) (hl : l.length ≤ 1073741824) (hf : (flat l).length ≤ 1073741824) :
    Calls Tryd.prog 14 #[.slice A l.length c] w fun e w' => e = .returned (.string (joined l)) ∧ Below w.heap.size w w' := by
  obtain ⟨k, hk⟩ := join_f l hl hf
  exact granaryref2_Join.calls k A c l _ w hr hc hk
theorem refcrc_any (s : ByteArray) (w : World) (hs : s.size ≤ 1073741824) :
    Calls Tryd.prog 15 #[.string s] w fun e w' => e = .returned (.int .i64 (crc s.data.toList : Nat)) ∧ Drawn0 w w' := by
  obtain ⟨k, hk⟩ := crc_f s hs
  exact granaryref2_CRC.calls k s _ w hk
theorem same_any (A B : Option Addr) (c d : Nat) (l : List ByteArray) (w : World) (hr : Kd.C Kd.string w A l.length l) (hc : l.length ≤ c) (hr' : Kd.C Kd.string w B l.length l) (hc' : l.length ≤ d) (hl : l.length ≤ 1073741824) :
    Calls Tryd.prog 16 #[.slice A l.length c, .slice B l.length d] w fun e w' => e = .returned (.bool true) ∧ Drawn0 w w' := by
  obtain ⟨k, hk⟩ := same_f l hl
  exact granarylaw2_same.calls k A c l B d l _ w hr hc hr' hc' hk
theorem over_nil (w : World) : Calls Tryd.prog 17 #[.slice none 0 0] w fun e w' => e = .returned (.tuple #[]) ∧ w = w' := by
  go_enter Tryd.func17, Tryd.ntmps17
  go_wp2
  refine wp_loop_rounds 1 ?_
  rw [rounds_succ]
  go_wp2
  go_end0
  exact ⟨rfl, rfl⟩
theorem over_R (v : Value) (l : List ByteArray) (B : Nat) (w : World) (hl : l.length ≤ 1073741824) (hs : ∀ s ∈ l, s.size ≤ 1073741824) (hB : B ≤ w.heap.size)
    (hR : Kd.R Kd.string 9 w B (fun _ => True) v l) :
    Calls Tryd.prog 17 #[v] w fun e w' => e = .returned (.tuple #[]) ∧ Kd.R Kd.string 9 w' B (fun _ => True) v (l.map turned) ∧ Below B w w' := by
  rcases (Kd.own_of_R hR).2 with ⟨rfl, hn⟩ | ⟨g, cap, cur, rfl, _⟩
  · obtain rfl : l = [] := List.eq_nil_of_length_eq_zero hn
    refine (over_nil w).mono ?_
    rintro e w' ⟨rfl, rfl⟩
    exact ⟨rfl, hR, Below.refl _ _⟩
  · exact over_any g cap l B w (by omega) (fun s h => by have := hs s h; omega) hB hR
theorem flat_total (l : List ByteArray) : (flat l).length + l.length = total l := by
  induction l with
  | nil => rfl
  | cons s l ih =>
    simp only [total, List.map_cons, List.sum_cons, List.length_cons]
    have e : flat (s :: l) = s.data.toList ++ flat l := by simp [flat]
    rw [e, List.length_append, data_length]
    simp only [total] at ih
    omega
theorem mem_total (l : List ByteArray) : ∀ s ∈ l, s.size + 1 ≤ total l := by
  induction l with
  | nil => intro s h; cases h
  | cons t l ih =>
    intro s h
    simp only [total, List.map_cons, List.sum_cons] at ih ⊢
    rcases List.mem_cons.1 h with rfl | h
    · omega
    · have := ih s h; omega
theorem turned_size (s : ByteArray) : (turned s).size ≤ s.size + 1 := by
  unfold turned
  split
  · show 1 ≤ _; omega
  · rw [ByteArray.size_append, strOfNums_size, ByteArray.size_extract]; simp; omega
theorem turned_total (l : List ByteArray) : total (l.map turned) ≤ 2 * total l := by
  induction l with
  | nil => exact Nat.le_refl _
  | cons s l ih =>
    simp only [total, List.map_cons, List.sum_cons] at ih ⊢
    have := turned_size s
    omega
set_option maxHeartbeats 1000000 in
theorem law_calls (A : Option Addr) (c : Nat) (l : List ByteArray) (w : World) (hr : Kd.C Kd.string w A l.length l) (hc : l.length ≤ c) (ht : total l ≤ 10000000) (hT : Nibs w) :
    Calls Tryd.prog 3 #[.slice A l.length c] w fun e w' => e = .returned (.bool true) ∧ Below w.heap.size w w' := by
  have hft := flat_total l
  have htt := turned_total l
  have hft2 := flat_total (l.map turned)
  rw [List.length_map] at hft2
  have hb1 : l.length ≤ 1073741824 := by omega
  have hb2 : (flat l).length ≤ 1073741824 := by omega
  have hb3 : (flat (l.map turned)).length ≤ 1073741824 := by omega
  have HS := Aside0.mk (fun s (h : s ∈ l) => (by have := mem_total l s h; omega : s.size ≤ 1073741824))
  have HS2 := Aside0.mk (fun s (h : s ∈ l.map turned) => (by have := mem_total _ s h; omega : s.size ≤ 1073741824))
  clear hft htt hft2 ht
  have HR := Aside0.mk hr
  have HT := Aside0.mk hT
  clear hr hT
  go_enter Tryd.func3, Tryd.ntmps3
  go_wp2_with fail
  refine (twin_any A c l w HR.out hc hb1).mono ?_
  rintro e w1 ⟨v, rfl, hR1, HB1⟩
  obtain ⟨A1, c1, rfl, hc1, hC1⟩ := Kd.R_reads hR1
  have HR1 := Aside0.mk hR1
  have HC1 := Aside0.mk hC1
  have HT1 := Aside0.mk (HT.out.below HB1)
  have HA1 := Aside0.mk (Kd.C_below HR.out HB1)
  have HB1 := Aside0.mk HB1
  clear hR1 hC1
  go_wp2_with fail
  refine (CRC_any A1 c1 l w1 HC1.out hc1 (by omega) (fun s h => by have := HS.out s h; omega) HT1.out).mono ?_
  rintro e w' ⟨rfl, rfl⟩
  go_wp2_with fail
  refine (join_any A c l w1 HA1.out hc hb1 hb2).mono ?_
  rintro e w2 ⟨rfl, hB2⟩
  have HB2 := Aside0.mk hB2
  clear hB2
  go_wp2_with fail
  refine (refcrc_any (joined l) w2 (by rw [joined_size]; exact hb2)).mono ?_
  rintro e w3 ⟨rfl, ⟨⟨m3, rfl⟩⟩⟩
  rw [joined_data]
  go_wp2_with fail
  refine (same_any A1 A c1 c l _ (Kd.C_below (Kd.C_below HC1.out HB2.out) (pw_below_drewN (Below.refl _ _) m3)) hc1 (Kd.C_below (Kd.C_below HA1.out HB2.out) (pw_below_drewN (Below.refl _ _) m3)) hc hb1).mono ?_
  rintro e w4 ⟨rfl, ⟨⟨m4, rfl⟩⟩⟩
  go_wp2_with fail
  have hB3 : Below w.heap.size w (w2.drewN (m3 + m4)) := pw_below_drewN (below_after HB1.out HB2.out) _
  have HB3 := Aside0.mk hB3
  clear hB3
  refine (over_R _ l w.heap.size _ hb1 HS.out HB3.out.size (Kd.R_drewN (Kd.R_below HR1.out HB2.out) _)).mono ?_
  rintro e w5 ⟨rfl, hR5, hB5⟩
  have hB6 := HB3.out.trans hB5
  have HB6 := Aside0.mk hB6
  clear hB5 hB6
  have hC5 := (Kd.R_reads' hR5).2
  have HR5 := Aside0.mk hR5
  have HC5 := Aside0.mk hC5.2
  clear hR5 hC5
  have e1 : (l.map turned).length = l.length := List.length_map _
  have HT5 := Aside0.mk (HT.out.below HB6.out)
  have k1 := CRC_any A1 c1 (l.map turned) w5 HC5.out (by rw [e1]; exact hc1) (by rw [e1]; omega) (fun s h => by have := HS2.out s h; omega) HT5.out
  rw [e1] at k1
  have K1 := Lib.hid k1
  clear k1 e1
  go_wp2_with fail
  refine K1.out.mono ?_
  rintro e w' ⟨rfl, rfl⟩
  clear K1
  have e1 : (l.map turned).length = l.length := List.length_map _
  have k1 := twin_any A1 c1 (l.map turned) w5 HC5.out (by rw [e1]; exact hc1) (by rw [e1]; exact hb1)
  rw [e1] at k1
  have K1 := Lib.hid k1
  clear k1 e1
  go_wp2_with fail
  refine K1.out.mono ?_
  rintro e w6 ⟨v, rfl, hR6, hB7⟩
  clear K1
  obtain ⟨A2, c2, rfl, hc2, hC6⟩ := Kd.R_reads hR6
  clear hR6
  have k1 := join_any A2 c2 (l.map turned) w6 hC6 hc2 (by rw [List.length_map]; exact hb1) hb3
  rw [List.length_map] at k1
  have K1 := Lib.hid k1
  have HC6 := Aside0.mk hC6
  have HB7 := Aside0.mk hB7
  clear k1 hC6 hB7
  go_wp2_with fail
  refine K1.out.mono ?_
  rintro e w7 ⟨rfl, hB8⟩
  have HB8 := Aside0.mk hB8
  clear hB8 K1
  go_wp2_with fail
  refine (refcrc_any (joined (l.map turned)) _ (by rw [joined_size]; exact hb3)).mono ?_
  rintro e w8 ⟨rfl, ⟨⟨m8, rfl⟩⟩⟩
  rw [joined_data]
  go_wp2_with fail
  go_ret
  exact ⟨rfl, pw_below_drewN (below_after (below_after HB6.out HB7.out) HB8.out) _⟩
end Go.Proofs.YthnobhifepnakaaDoor.LawCRC
