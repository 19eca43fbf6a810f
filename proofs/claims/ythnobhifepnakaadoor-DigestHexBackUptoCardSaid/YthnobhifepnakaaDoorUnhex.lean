/- Unhex of the digest package: what it answers. -/
import Derived.Test.YthnobhifepnakaaDoorPDigestHexBackx1
import Derived.Test.YthnobhifepnakaaDoorBase
import Derived.Outline
import Derived.Lib.Hide
import Derived.WalkSpells
import Derived.Laws.Strings2
import Derived.Lib.Strings
namespace Go.Proofs.YthnobhifepnakaaDoor.Unhexes
open Go.RowKit Go.Proofs.YthnobhifepnakaaDoorW.PrintWords Go.Proofs.YthnobhifepnakaaDoorW.PrintLast Go.Proofs.YthnobhifepnakaaDoorW.PrintMore
open Go.Proofs.YthnobhifepnakaaDoor.PDigestHexBack
def dg (c : Int) : Int := if 48 ≤ c ∧ c ≤ 57 then c - 48 else if 97 ≤ c ∧ c ≤ 102 then c - 87 else -1
theorem dg_range (c : Int) : -1 ≤ dg c ∧ dg c ≤ 15 := by unfold dg; split <;> (try split) <;> omega
theorem digit_any (c : Int) (w : World) (h0 : 0 ≤ c) (h1 : c ≤ 255) : Calls Tryd.prog 49 #[.int .u8 c] w fun e w' => e = .returned (.int .i64 (dg c)) ∧ Drawn0 w w' := by
  refine digest_digit.calls 1 c (dg c) w ?_
  unfold digest_digit.f dg
  by_cases a : 48 ≤ c
  · rw [if_pos a]
    simp only [digest_digit.j0]
    by_cases b : c ≤ 57
    · simp [a, b]; omega
    · by_cases d : 97 ≤ c
      · by_cases e : c ≤ 102
        · simp [b, d, e]; omega
        · simp [b, d, e]
      · simp [b, d]
  · rw [if_neg a]
    simp only [digest_digit.j0]
    have d : ¬ 97 ≤ c := by omega
    simp [a, d]
def pr (s : ByteArray) (i : Nat) : Int := 16 * dg (bt s (2 * i : Nat)) + dg (bt s (2 * i + 1 : Nat))
def part (s : ByteArray) (k j : Nat) : Int := if j = 0 then 0 else if j = 1 then dg (bt s (2 * k : Nat)) else pr s k
def cur (s : ByteArray) (k j i : Nat) : Value := .int .u8 (if i < k then pr s i else if i = k then part s k j else 0)
def good (s : ByteArray) (m : Nat) : Prop := ∀ j, j < m → 0 ≤ dg (bt s (j : Nat))
def isHex (s : ByteArray) : Prop := s.size % 2 = 0 ∧ good s s.size
def vals (s : ByteArray) : List Int := (List.range (s.size / 2)).map (pr s)
set_option maxHeartbeats 1000000 in
theorem Unhex_odd (s : ByteArray) (w : World) (hs : s.size ≤ 1073741824) (h : s.size % 2 = 1) :
    Calls Tryd.prog 33 #[.string s] w fun e w' => e = .returned (.tuple #[.string ⟨#[]⟩, .int .i64 20]) ∧ Below w.heap.size w w' := by
  have h2 : ((s.size : Int) % 2 == 1) = true := beq_iff_eq.2 (by omega)
  go_enter Tryd.func33, Tryd.ntmps33
  go_wp2
  go_ret2
  exact ⟨rfl, Below.refl _ _⟩
theorem part_range (s : ByteArray) (k j : Nat) (h : j < 2) (hg : good s (2 * k + j)) : 0 ≤ part s k j ∧ part s k j ≤ 15 := by
  unfold part
  by_cases h0 : j = 0
  · rw [if_pos h0]; omega
  · have h1 : j = 1 := by omega
    rw [if_neg h0, if_pos h1]
    have := dg_range (bt s (2 * k : Nat))
    have := hg (2 * k) (by omega)
    omega
theorem rowIs_string {P : Program} {w : World} {b n : Nat} {ty src dst e : TypeId} {f : Nat → Value} (hs : P.underlying src = some (.slice e)) (he : P.underlying e = some (.int .u8)) (hd : P.underlying dst = some .string)
    (h : w.rowIs b ty n f) (xs : List Int) (hl : xs.length = n) (hf : ∀ i, i < n → f i = .int .u8 (xs.getD i 0)) (c : Nat) :
    (convert src dst (.slice (some ⟨b, 0, none⟩) n c)).run P w = .ok (.string (strOfNums xs)) w := by
  refine run_convert_bytes_arg w src e hs he b 0 n c xs hl (fun i hi => ?_) dst hd
  rw [Nat.zero_add, h.cell hi, hf i hi]
theorem ext_cell (s : ByteArray) (k : Nat) (w : World) (h : 2 * k + 2 ≤ s.size) : ∀ m, m < 2 → (Lib.bytesWorld w 5 (s.extract (2 * k) (2 * k + 2))).cell? ⟨w.heap.size, m, none⟩ = some (.int .u8 (bt s (2 * k + m : Nat))) := by
  intro m hm
  rw [Lib.bytesWorld_cell w 5 _ m (by simp; omega)]
  congr 2
  rw [Lib.extract_data]
  have h2 : (2 * k + m : Nat) < s.size := by omega
  have h3 : m < s.size - 2 * k := by omega
  rw [← rd_bytesOf]
  have hl := data_length s
  have h4 : (2 * (k : Int) + (m : Int)).toNat = 2 * k + m := by omega
  have h5 : 2 * k + m < s.data.size := h2
  simp [rd, bytesOf, List.getD_eq_getElem?_getD, List.getElem?_take, List.getElem?_drop, hm, h4, Array.getElem?_eq_getElem h5]
theorem cur_next (s : ByteArray) (k i : Nat) : cur s k 2 i = cur s (k + 1) 0 i := by
  unfold cur
  congr 1
  by_cases h1 : i < k
  · rw [if_pos h1, if_pos (by omega)]
  · by_cases h2 : i = k
    · subst h2; rw [if_neg h1, if_pos rfl, if_pos (by omega)]; rfl
    · rw [if_neg h1, if_neg h2, if_neg (by omega)]; simp [part]
theorem cur_end (s : ByteArray) (i : Nat) (h : i < s.size / 2) : cur s (s.size / 2) 0 i = .int .u8 ((vals s).getD i 0) := by
  unfold cur
  rw [if_pos h]
  simp [vals, h]
theorem good_next (s : ByteArray) (m : Nat) (h : good s m) (h1 : 0 ≤ dg (bt s (m : Nat))) : good s (m + 1) := by
  intro j hj
  by_cases e : j = m
  · subst e; exact h1
  · exact h j (by omega)
theorem cell_set_other (w : World) (a b : Addr) (v : Value) (h : a.block ≠ b.block) : (w.setCell a v).cell? b = w.cell? b := by
  exact World.cell?_of_block (w := w) (w' := w.setCell a v) (by simp [World.setCell, Array.getElem?_modify, h])
theorem cur_step (s : ByteArray) (k j i : Nat) (x c : Int) (hj : j < 2) (hx : part s k j = x) (hc : bt s (2 * k + j : Nat) = c) :
    (if i = k then Value.int .u8 (x * 16 + dg c) else cur s k j i) = cur s k (j + 1) i := by
  subst hx hc
  unfold cur
  by_cases h2 : i = k
  · subst h2
    simp only [if_true, Nat.lt_irrefl, if_false]
    congr 1
    obtain rfl | rfl : j = 0 ∨ j = 1 := by omega
    · simp [part]
    · simp [part, pr]; omega
  · simp only [if_neg h2]
theorem below_bytes {w W : World} (h : Below w.heap.size w W) (e : TypeId) (s : ByteArray) : Below w.heap.size w (Lib.bytesWorld W e s) := by
  have hs := h.size
  refine ⟨h.os, h.tape, h.output, by rw [Lib.bytesWorld_size]; omega, fun i hi => ?_⟩
  rw [Lib.bytesWorld_at_old _ _ _ _ (by omega)]
  exact h.block i hi
/-- what Unhex answers of a text of even length -/
def UnhexRes (s : ByteArray) (e : Ending) : Prop :=
  (good s s.size ∧ e = .returned (.tuple #[.string (strOfNums (vals s)), .int .i64 0])) ∨ (¬ good s s.size ∧ e = .returned (.tuple #[.string ⟨#[]⟩, .int .i64 20]))
set_option maxHeartbeats 1000000 in
theorem Unhex_even (s : ByteArray) (w : World) (hs : s.size ≤ 1073741824) (h : s.size % 2 = 0) :
    Calls Tryd.prog 33 #[.string s] w fun e w' => UnhexRes s e ∧ Below w.heap.size w w' := by
  have h2 : ((s.size : Int) % 2 == 1) = false := beq_eq_false_iff_ne.2 (by omega)
  have hmk := print_make_int (P := Tryd.prog) 64 5 (.int .u8 0) 1 Tryd.underlying64 Go.Proofs.YthnobhifepnakaaDoor.Base.info8 rfl (by decide) ((s.size : Int) / 2) (by omega) (by omega)
  have HR := Aside0.mk (World.rowIs_made w (.int .u8 0) (s.size / 2) 5)
  have hB0 := Aside0.mk ((Below.refl w.heap.size w).alloc (Nat.le_refl _) (.cells (madeCells #[.int .u8 0] (s.size / 2)) 5))
  go_enter Tryd.func33, Tryd.ntmps33
  go_wp2
  clear hmk
  go_loopw [5, 7, 8, 19, 29, 31] (fun _ _ _ i _ _ wr => ∃ k : Nat, k ≤ s.size / 2 ∧ i = .int .i64 k ∧ Aside0 (wr.rowIs w.heap.size 5 (s.size / 2) (cur s k 0)) ∧ Aside0 (Below w.heap.size w wr) ∧ Aside0 (good s (2 * k))) (fun _ _ _ i _ _ _ => s.size - (intOf i).toNat)
  case atStart => exact ⟨0, by omega, rfl, ⟨HR.out.congr (fun i hi => by simp [cur, part])⟩, hB0, ⟨fun j hj => by omega⟩⟩
  case round =>
    clear HR hB0
    obtain ⟨k, hk, rfl, HO, HB, HG⟩ := hrel
    obtain ⟨wo, rfl⟩ : ∃ wo : World, wo = wr := ⟨_, rfl⟩
    by_cases hlt : k < s.size / 2
    · have hsl := fun wx => run_slice_string (P := Tryd.prog) (w := wx) 9 s .i64 .i64 (2 * (k : Int)) (2 * (k : Int) + 2) Tryd.underlying9 (by omega) (by omega) (by omega)
      have kb := fun W => print_bytes (P := Tryd.prog) 9 64 5 Tryd.underlying9 Tryd.underlying64 Tryd.underlying5 (s.extract (2 * k) (2 * k + 2)) W
      have hd20 : decide ((k : Int) < (s.size : Int) / 2) = true := decide_eq_true (by omega)
      have HLT := Aside0.mk HO.out.lt
      have hmin : min (2 * k + 2) s.size - 2 * k = 2 := by omega
      have HC := Aside0.mk (ext_cell s k wo (by omega))
      have HO1 := Aside0.mk (HO.out.of_block (Lib.bytesWorld_at_old wo 5 (s.extract (2 * k) (2 * k + 2)) _ HO.out.lt))
      have HB1 := Aside0.mk (below_bytes HB.out 5 (s.extract (2 * k) (2 * k + 2)))
      go_wp2
      clear hsl kb hmin
      go_loopw [7, 8, 31] (fun _ _ i wi => ∃ j : Nat, j ≤ 2 ∧ i = .int .i64 j ∧ Aside0 (wi.rowIs w.heap.size 5 (s.size / 2) (cur s k j)) ∧ Aside0 (Below w.heap.size w wi) ∧ Aside0 (∀ m, m < 2 → wi.cell? ⟨wo.heap.size, m, none⟩ = some (.int .u8 (bt s (2 * k + m : Nat)))) ∧ Aside0 (good s (2 * k + j))) (fun _ _ i _ => 2 - (intOf i).toNat)
      case atStart => exact ⟨0, by omega, rfl, HO1, HB1, HC, HG⟩
      case round =>
        clear HO1 HB1 HC HG HO HB
        obtain ⟨j, hj, rfl, HO, HB, HC, HG⟩ := hrel
        by_cases hlj : j < 2
        · have hcell := HC.out j hlj
          have hbr := bt_range s (2 * k + j : Nat)
          have hdr := dg_range (bt s (2 * k + j : Nat))
          generalize hbt : bt s (2 * k + j : Nat) = c at hcell hbr hdr
          have Hbt := Aside0.mk hbt
          clear hbt
          have hrow : wr.cell? ⟨w.heap.size, k, none⟩ = some (.int .u8 (part s k j)) := by
            have := HO.out.cell (i := k) (by omega)
            simpa [cur] using this
          have hfr := HO.out.frozen k
          have hpr := part_range s k j hlj HG.out
          generalize hpt : part s k j = x at hrow hpr
          have Hpt := Aside0.mk hpt
          clear hpt
          by_cases hneg : dg c < 0
          · go_wp2_with (go_at_call 49; refine (digit_any c _ (by omega) (by omega)).mono ?_; rintro e w' ⟨rfl, ⟨⟨m1, rfl⟩⟩⟩)
            go_ret2
            exact ⟨.inr ⟨fun hg => by have := hg (2 * k + j) (by omega); rw [Hbt.out] at this; omega, rfl⟩, pw_below_drewN HB.out m1⟩
          · have hor : bits .or .u8 (x * 16) (dg c) = x * 16 + dg c := bits_join .u8 8 (by decide) wraps_u8 4 _ _ (by omega) (by omega) (by omega) (by omega) (by omega) (by omega)
            go_wp2_with (go_at_call 49; refine (digit_any c _ (by omega) (by omega)).mono ?_; rintro e w' ⟨rfl, ⟨⟨m1, rfl⟩⟩⟩)
            go_roundw
            case rel =>
              refine ⟨j + 1, by omega, by go_num, ⟨?_⟩, ⟨?_⟩, ⟨?_⟩, ⟨?_⟩⟩
              · have := HO.out.set k (.int .u8 (x * 16 + dg c))
                exact this.congr (fun i hi => cur_step s k j i x c hlj Hpt.out Hbt.out)
              · exact (pw_below_drewN HB.out m1).setCell (Nat.le_refl _) _
              · intro m hm
                have hne : w.heap.size ≠ wo.heap.size := by have := HO.out.lt; have := HLT.out; omega
                rw [cell_set_other _ _ _ _ (by exact hne)]
                exact HC.out m hm
              · exact good_next s (2 * k + j) HG.out (Hbt.out ▸ (by omega))
            case measure => simp [intOf]; omega
        · obtain rfl : j = 2 := by omega
          clear hlj
          go_wp2
          go_roundw
          case rel => exact ⟨k + 1, by omega, by go_num, ⟨HO.out.congr (fun i hi => cur_next s k i)⟩, HB, HG⟩
          case measure => simp [intOf]; omega
    · obtain rfl : k = s.size / 2 := by omega
      have hcv := rowIs_string (P := Tryd.prog) Tryd.underlying64 Tryd.underlying5 Tryd.underlying9 HO.out (vals s) (by simp [vals]) (fun i hi => cur_end s i hi) (s.size / 2)
      go_wp2
      go_ret2
      exact ⟨.inl ⟨by have := HG.out; rwa [show 2 * (s.size / 2) = s.size by omega] at this, rfl⟩, HB.out⟩
end Go.Proofs.YthnobhifepnakaaDoor.Unhexes
