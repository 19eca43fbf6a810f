/- DigestHexBack: Unhex gives back what Hex wrote, and takes nothing else. -/
import Derived.Test.YthnobhifepnakaaDoorKnown
import Derived.Test.YthnobhifepnakaaDoorJoined
import Derived.Test.YthnobhifepnakaaDoorHexBackPure
set_option linter.unusedVariables false
set_option linter.unusedSimpArgs false
namespace Go.Proofs.YthnobhifepnakaaDoor.HexBack
open Go.RowKit Go.Proofs.YthnobhifepnakaaDoorW.PrintWords Go.Proofs.YthnobhifepnakaaDoorW.PrintLast Go.Proofs.YthnobhifepnakaaDoorW.PrintMore
open Go.Proofs.YthnobhifepnakaaDoor.Unhexes Go.Proofs.YthnobhifepnakaaDoor.Hexes Go.Proofs.YthnobhifepnakaaDoor.Hasher Go.Proofs.YthnobhifepnakaaDoor.Known
open Go.Proofs.YthnobhifepnakaaDoor.Crc (Nibs)
theorem Hex_hx (s : ByteArray) (w : World) (hs : s.size ≤ 1073741824) : Calls Tryd.prog 25 #[.string s] w fun e w' => e = .returned (.string (hx s)) ∧ Below w.heap.size w w' := Hex_calls s w hs
theorem cap_size (s : ByteArray) : (hx s ++ ⟨#[65, 48]⟩).size = 2 * s.size + 2 := by
  rw [ByteArray.size_append, hx_size]; rfl
theorem odd_size (s : ByteArray) : (hx s ++ ⟨#[48]⟩).size = 2 * s.size + 1 := by
  rw [ByteArray.size_append, hx_size]; rfl
theorem Unhex_of (s : ByteArray) (t : ByteArray) (c : Int) (w : World) (hs : s.size ≤ 1073741824) (ht : unhexT s = t) (hc : unhexE s = c) : Calls Tryd.prog 33 #[.string s] w fun e w' => e = .returned (.tuple #[.string t, .int .i64 c]) ∧ Below w.heap.size w w' := by
  subst ht; subst hc; exact Unhex_any s w hs
set_option maxRecDepth 100000 in
set_option maxHeartbeats 8000000 in
theorem law_back (s : ByteArray) (w : World) (hG : Glob w) (hN : Nibs w) (hs : s.size ≤ 100000000) : Calls Tryd.prog 10 #[.string s] w fun e w' => e = .returned (.bool true) ∧ Below w.heap.size w w' := by
  obtain ⟨wz, rfl⟩ : ∃ w0 : World, w0 = w := ⟨_, rfl⟩
  have HG := Aside0.mk hG
  have HN := Aside0.mk hN
  clear hG hN
  have hz := hx_size s
  have k0 := fun w => Hex_hx s w (by omega)
  have k1 := fun w => Unhex_of (hx s) s 0 w (by omega) (hx_back s) (unhexE_yes (hx_isHex s))
  have k2 := fun w => Unhex_of (hx s ++ ⟨#[65, 48]⟩) ⟨#[]⟩ 20 w (by have := cap_size s; omega) (unhexT_no (not_hex_cap s)) (unhexE_no (not_hex_cap s))
  have k3 := fun w => Unhex_of (hx s ++ ⟨#[48]⟩) ⟨#[]⟩ 20 w (by have := odd_size s; omega) (unhexT_no (not_hex_odd s)) (unhexE_no (not_hex_odd s))
  have hdg := fun k hk => hx_digit s k hk
  generalize hx s = X at hz k0 k1 k2 k3 hdg
  have K0 := Aside0.mk k0
  have K1 := Aside0.mk k1
  have K2 := Aside0.mk k2
  have K3 := Aside0.mk k3
  have HD := Aside0.mk hdg
  clear k0 k1 k2 k3 hdg
  have HZ := Lib.hid hz
  have hzi : (X.size : Int) = 2 * (s.size : Int) := by omega
  clear hz
  go_enter Tryd.func10, Tryd.ntmps10
  go_wp2_with fail
  refine (K0.out wz).mono ?_
  rintro e w1 ⟨rfl, hb⟩
  have HB1 := Aside0.mk hb
  clear hb
  go_wp2_with fail
  refine (K1.out w1).mono ?_
  rintro e w2 ⟨rfl, hb⟩
  have HB2 := Aside0.mk (HB1.out.trans (hb.mono HB1.out.size))
  clear hb
  go_wp2_with (go_at_call 20; refine (Joined.num_any _ _).mono ?_; rintro e w' ⟨rfl, rfl⟩)
  go_loop [6] (fun i => ∃ k : Nat, k ≤ 2 * s.size ∧ i = .int .i64 k) (fun i => 2 * s.size - (intOf i).toNat)
  case atStart => exact ⟨0, Nat.zero_le _, rfl⟩
  case round =>
    obtain ⟨k, hk, rfl⟩ := hrel
    by_cases hlt : k < 2 * s.size
    · have hkz : k < X.size := by rw [HZ.out]; exact hlt
      have hd := HD.out k hkz
      rw [Go.Proofs.YthnobhifepnakaaDoor.Base.bt_nat X k hkz] at hd
      rcases hd with hd | hd
      · have d0 : decide ((48 : Int) ≤ (X[k].toNat : Int)) = true := decide_eq_true hd.1
        have d1 : decide ((X[k].toNat : Int) ≤ 57) = true := decide_eq_true hd.2
        go_wp2
        go_round
        case rel => exact ⟨k + 1, by omega, by go_num⟩
        case measure => simp [intOf]; omega
      · have d0 : decide ((48 : Int) ≤ (X[k].toNat : Int)) = true := decide_eq_true (by omega)
        have d1 : decide ((X[k].toNat : Int) ≤ 57) = false := decide_eq_false (by omega)
        have d2 : decide ((97 : Int) ≤ (X[k].toNat : Int)) = true := decide_eq_true hd.1
        have d3 : decide ((X[k].toNat : Int) ≤ 102) = true := decide_eq_true hd.2
        go_wp2
        go_round
        case rel => exact ⟨k + 1, by omega, by go_num⟩
        case measure => simp [intOf]; omega
    · by_cases hh : isHex s
      · have HH := Aside0.mk hh
        have hb2 := hx_unhex s hh
        have HBK := Lib.hid hb2
        have hvz : (strOfNums (vals s)).size ≤ 1073741824 := by rw [strOfNums_size]; simp [vals]; omega
        have HVZ := Aside0.mk hvz
        clear hh hb2 hvz
        go_wp2_with fail
        refine (Unhex_of s (strOfNums (vals s)) 0 w2 (by omega) (unhexT_yes HH.out) (unhexE_yes HH.out)).mono ?_
        rintro e w3 ⟨rfl, hb⟩
        have HB3 := Aside0.mk (HB2.out.trans (hb.mono HB2.out.size))
        clear hb
        go_wp2_with (go_at_call 20; refine (Joined.num_any _ _).mono ?_; rintro e w' ⟨rfl, rfl⟩)
        refine (Hex_hx (strOfNums (vals s)) w3 HVZ.out).mono ?_
        rintro e w4 ⟨rfl, hb⟩
        have HB4 := Aside0.mk (HB3.out.trans (hb.mono HB3.out.size))
        clear hb
        rw [HBK.out]
        have hadd1 : (9223372036854775807 < X.size + 2) = False := eq_false (by rw [HZ.out]; omega)
        have hadd2 : (9223372036854775807 < X.size + 1) = False := eq_false (by rw [HZ.out]; omega)
        go_wp2_with (go_at_call 20; refine (Joined.num_any _ _).mono ?_; rintro e w' ⟨rfl, rfl⟩)
        refine (K2.out w4).mono ?_
        rintro e w8 ⟨rfl, hb⟩
        have HB8 := Aside0.mk (HB4.out.trans (hb.mono HB4.out.size))
        clear hb
        go_wp2_with fail
        refine (K3.out w8).mono ?_
        rintro e w9 ⟨rfl, hb⟩
        have HB9 := Aside0.mk (HB8.out.trans (hb.mono HB8.out.size))
        clear hb
        go_wp2_with (go_at_call 20; refine (Joined.num_any _ _).mono ?_; rintro e w' ⟨rfl, rfl⟩)
        refine (known_any w9 (HG.out.below HB9.out) (HN.out.below HB9.out)).mono ?_
        rintro e w10 ⟨rfl, hb⟩
        have HB10 := Aside0.mk (HB9.out.trans (hb.mono HB9.out.size))
        clear hb
        go_wp2
        go_ret
        exact ⟨rfl, HB10.out⟩
      · have HH := Aside0.mk hh
        clear hh
        go_wp2_with fail
        refine (Unhex_of s ⟨#[]⟩ 20 w2 (by omega) (unhexT_no HH.out) (unhexE_no HH.out)).mono ?_
        rintro e w3 ⟨rfl, hb⟩
        have HB3 := Aside0.mk (HB2.out.trans (hb.mono HB2.out.size))
        clear hb
        have hadd1 : (9223372036854775807 < X.size + 2) = False := eq_false (by rw [HZ.out]; omega)
        have hadd2 : (9223372036854775807 < X.size + 1) = False := eq_false (by rw [HZ.out]; omega)
        go_wp2_with (go_at_call 20; refine (Joined.num_any _ _).mono ?_; rintro e w' ⟨rfl, rfl⟩)
        refine (K2.out w3).mono ?_
        rintro e w8 ⟨rfl, hb⟩
        have HB8 := Aside0.mk (HB3.out.trans (hb.mono HB3.out.size))
        clear hb
        go_wp2_with fail
        refine (K3.out w8).mono ?_
        rintro e w9 ⟨rfl, hb⟩
        have HB9 := Aside0.mk (HB8.out.trans (hb.mono HB8.out.size))
        clear hb
        go_wp2_with (go_at_call 20; refine (Joined.num_any _ _).mono ?_; rintro e w' ⟨rfl, rfl⟩)
        refine (known_any w9 (HG.out.below HB9.out) (HN.out.below HB9.out)).mono ?_
        rintro e w10 ⟨rfl, hb⟩
        have HB10 := Aside0.mk (HB9.out.trans (hb.mono HB9.out.size))
        clear hb
        go_wp2
        go_ret
        exact ⟨rfl, HB10.out⟩
end Go.Proofs.YthnobhifepnakaaDoor.HexBack
