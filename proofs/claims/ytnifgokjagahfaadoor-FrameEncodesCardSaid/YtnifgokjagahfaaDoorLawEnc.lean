/- FrameEncodes: the program's Encode and the document's answer alike. -/
import Derived.Test.YtnifgokjagahfaaDoorRefEnc
set_option linter.unusedVariables false
set_option linter.unusedSimpArgs false
namespace Go.Proofs.YtnifgokjagahfaaDoor.RefF
open Go.RowKit Go.Proofs.YtnifgokjagahfaaDoorW.PrintWords Go.Proofs.YtnifgokjagahfaaDoorW.PrintLast Go.Proofs.YtnifgokjagahfaaDoorW.PrintMore
open Go.Proofs.YtnifgokjagahfaaDoor.Base Go.Proofs.YtnifgokjagahfaaDoor.App Go.Proofs.YtnifgokjagahfaaDoor.Layouts Go.Proofs.YtnifgokjagahfaaDoor.Msg Go.Proofs.YtnifgokjagahfaaDoor.Put Go.Proofs.YtnifgokjagahfaaDoor.EncPure Go.Proofs.YtnifgokjagahfaaDoor.DecPure Go.Proofs.YtnifgokjagahfaaDoor.RefSum Go.Proofs.YtnifgokjagahfaaDoor.Mids Go.Proofs.YtnifgokjagahfaaDoor.Enc
set_option maxRecDepth 100000 in
set_option maxHeartbeats 4000000 in
theorem renc_kind (m : M) (w : World) (hk : ¬ (1 ≤ m.kind ∧ m.kind < 17)) : Calls Tryd.prog 14 #[.agg (mL m).toArray] w fun e w' => e = .returned (.tuple #[.string ByteArray.empty, .int .i64 53]) ∧ Below w.heap.size w w' := by
  have HB0 := Aside0.mk ((Below.refl w.heap.size w).alloc (Nat.le_refl _) (.cells (mL m).toArray 24))
  have HM0 : Aside0 (MBox (w.alloc (.cells (mL m).toArray 24)) w.heap.size m) := ⟨⟨Go.heap_alloc_new w _, by simp⟩⟩
  have hc0 : (w.alloc (.cells (mL m).toArray 24)).cell? ⟨w.heap.size, 0, none⟩ = some (.int .i64 m.kind) := HM0.out.c 0
  have hk' : m.kind < 1 ∨ (¬ m.kind < 1 ∧ m.kind > 16) := by omega
  clear hk
  rcases hk' with h | ⟨h1, h2⟩ <;>
    (go_enter Tryd.func14, Tryd.ntmps14
     go_wp2
     go_ret2
     exact ⟨rfl, HB0.out⟩)
set_option maxRecDepth 100000 in
set_option maxHeartbeats 4000000 in
theorem renc_field (m : M) (w : World) (hk : 1 ≤ m.kind ∧ m.kind < 17) (hv : vB m = false) (hR : RTab w) (hkey : m.key.size ≤ 9223372036854775807 ∧ m.value.size ≤ 9223372036854775807) : Calls Tryd.prog 14 #[.agg (mL m).toArray] w fun e w' => e = .returned (.tuple #[.string ByteArray.empty, .int .i64 50]) ∧ Below w.heap.size w w' := by
  have HB0 := Aside0.mk ((Below.refl w.heap.size w).alloc (Nat.le_refl _) (.cells (mL m).toArray 24))
  have HM0 : Aside0 (MBox (w.alloc (.cells (mL m).toArray 24)) w.heap.size m) := ⟨⟨Go.heap_alloc_new w _, by simp⟩⟩
  have hR0 := hR.below HB0.out
  generalize hwa : w.alloc (.cells (mL m).toArray 24) = wa at HB0 HM0 hR0
  have hc0 : wa.cell? ⟨w.heap.size, 0, none⟩ = some (.int .i64 m.kind) := HM0.out.c 0
  have hrg0 := blk_range HM0.out.row
  have hk1 := hk.1
  have hk2 : ¬ m.kind > 16 := by omega
  have hk3 : ¬ m.kind < 1 := by omega
  have KV := Lib.hid (rvalid_any m wa hk hR0 hkey)
  have HV := Aside0.mk hv
  clear hk hv hR hR0 hkey
  go_enter Tryd.func14, Tryd.ntmps14
  go_wp2_with ((with_reducible refine gate_load (ty := 24) (x := .tmp 1) rfl ?_); refine wpList_load_mid rfl 24 (.tmp 1) rfl w.heap.size 0 rfl (mL m) _ hrg0 Tryd.underlying24 rfl infoM ?_)
  refine KV.out.mono ?_
  rintro e w1 ⟨rfl, hb⟩
  rw [HV.out]
  have HB1 := Aside0.mk (HB0.out.trans (hb.mono HB0.out.size))
  clear hb hrg0 hc0 KV HM0 hwa
  go_wp2
  go_ret2
  exact ⟨rfl, HB1.out⟩
theorem renc_any (m : M) (w : World) (hR : RTab w) (hkey : m.key.size ≤ 9223372036854775807 ∧ m.value.size ≤ 9223372036854775807) : Calls Tryd.prog 14 #[.agg (mL m).toArray] w fun e w' => e = .returned (.tuple #[.string (encP m).1, .int .i64 (encP m).2]) ∧ Below w.heap.size w w' := by
  unfold encP kB
  by_cases hk : 1 ≤ m.kind ∧ m.kind < 17
  · rw [if_pos (decide_eq_true hk)]
    cases hv : vB m
    · rw [if_neg (by decide)]; exact renc_field m w hk hv hR hkey
    · rw [if_pos rfl]; exact renc_good m w hk hv hR
  · rw [if_neg (by simpa using hk)]; exact renc_kind m w hk
theorem num_any (x : Int) (w : World) : Calls Tryd.prog 15 #[.int .i64 x] w fun e w' => e = .returned (.int .i64 x) ∧ w = w' := by
  go_enter Tryd.func15, Tryd.ntmps15
  go_wp2
  go_ret
  exact ⟨rfl, rfl⟩
set_option maxRecDepth 100000 in
set_option maxHeartbeats 4000000 in
theorem law_encodes (m : M) (w : World) (hN : Crc.Nibs w) (hR : RTab w) (hkey : m.key.size ≤ 9223372036854775807 ∧ m.value.size ≤ 9223372036854775807) : Calls Tryd.prog 3 #[.agg (mL m).toArray] w fun e w' => e = .returned (.bool true) ∧ Below w.heap.size w w' := by
  have HB0 := Aside0.mk ((Below.refl w.heap.size w).alloc (Nat.le_refl _) (.cells (mL m).toArray 24))
  have HM0 : Aside0 (MBox (w.alloc (.cells (mL m).toArray 24)) w.heap.size m) := ⟨⟨Go.heap_alloc_new w _, by simp⟩⟩
  have hR0 := Aside0.mk (hR.below HB0.out)
  generalize hwa : w.alloc (.cells (mL m).toArray 24) = wa at HB0 HM0 hR0
  have hrg0 := blk_range HM0.out.row
  have K1 := Lib.hid (enc_any m wa (hN.below HB0.out))
  have K2 := fun (w : World) hR => Lib.hid (renc_any m w hR hkey)
  generalize encP m = r at K1 K2
  obtain ⟨s, x⟩ := r
  simp only at K1 K2
  clear hN hR hkey
  go_enter Tryd.func3, Tryd.ntmps3
  go_wp2_with ((with_reducible refine gate_load (ty := 24) (x := .tmp 1) rfl ?_); refine wpList_load_mid rfl 24 (.tmp 1) rfl w.heap.size 0 rfl (mL m) _ hrg0 Tryd.underlying24 rfl infoM ?_)
  refine K1.out.mono ?_
  rintro e w1 ⟨rfl, hb⟩
  have HM1 := Aside0.mk (HM0.out.below hb HM0.out.lt)
  have HB1 := Aside0.mk (HB0.out.trans (hb.mono HB0.out.size))
  have HR1 := Aside0.mk (hR0.out.below hb)
  have hrg1 := blk_range HM1.out.row
  clear hb hrg0 K1 hwa HM0 hR0
  go_wp2_with ((with_reducible refine gate_load (ty := 24) (x := .tmp 1) rfl ?_); refine wpList_load_mid rfl 24 (.tmp 1) rfl w.heap.size 0 rfl (mL m) _ hrg1 Tryd.underlying24 rfl infoM ?_)
  refine (K2 _ HR1.out).out.mono ?_
  rintro e w2 ⟨rfl, hb⟩
  have HB2 := Aside0.mk (HB1.out.trans (hb.mono HB1.out.size))
  clear hb hrg1 K2 HM1 HR1 HB1 HB0
  have hq : (s.toList == s.toList) = true := by simp
  go_wp2_with fail
  refine (num_any x _).mono ?_
  rintro e w3 ⟨rfl, rfl⟩
  go_wp2
  go_ret
  exact ⟨rfl, HB2.out⟩
end Go.Proofs.YtnifgokjagahfaaDoor.RefF
