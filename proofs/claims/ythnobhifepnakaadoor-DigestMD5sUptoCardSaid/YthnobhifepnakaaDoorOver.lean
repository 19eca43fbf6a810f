/- A list of texts is written over where it lies. -/
import Derived.Test.YthnobhifepnakaaDoorBase
import Derived.Deep.RegionWith
set_option linter.unusedVariables false
set_option linter.unusedSimpArgs false
namespace Go.Proofs.YthnobhifepnakaaDoor.Over
open Go.RowKit Go.Proofs.YthnobhifepnakaaDoorW.PrintWords Go.Proofs.YthnobhifepnakaaDoorW.PrintLast Go.Proofs.YthnobhifepnakaaDoorW.PrintMore
open Go.Proofs.YthnobhifepnakaaDoor.Base
def turned (s : ByteArray) : ByteArray := if s.size = 0 then ⟨#[120]⟩ else strOfNums [bits .xor .u8 (bt s 0) 1] ++ s.extract 1 s.size
/-- the first k texts are turned -/
def turnedTo (l : List ByteArray) (k : Nat) : List ByteArray := (l.take k).map turned ++ l.drop k
theorem turnedTo_length (l : List ByteArray) (k : Nat) : (turnedTo l k).length = l.length := by simp [turnedTo]; omega
theorem turnedTo_at (l : List ByteArray) (k : Nat) (h : k < l.length) : rdOf ByteArray.empty (turnedTo l k) (k : Nat) = rdOf ByteArray.empty l (k : Nat) := by
  have : (List.take k l).length = k := by simp; omega
  have h2 : ((List.take k l).map turned).length = k := by simp; omega
  simp only [rdOf, turnedTo, Int.toNat_natCast]
  rw [List.getD_eq_getElem?_getD, List.getElem?_append_right (by omega), h2]
  simp
theorem turnedTo_next (l : List ByteArray) (k : Nat) (h : k < l.length) : (turnedTo l k).set k (turned (rdOf ByteArray.empty l (k : Nat))) = turnedTo l (k + 1) := by
  have h1 : (List.take k (l.map turned)).length = k := by simp; omega
  have h2 : rdOf ByteArray.empty l (k : Nat) = l[k] := by simp [rdOf, List.getElem?_eq_getElem h]
  unfold turnedTo
  rw [h2, List.map_take, List.map_take, List.take_add_one, List.drop_eq_getElem_cons h]
  rw [List.set_append_right _ _ (by omega), h1, Nat.sub_self, List.set_cons_zero, List.getElem?_map, List.getElem?_eq_getElem h, List.append_assoc]
  rfl
theorem conv_one {P : Program} (src dst e : TypeId) (hs : P.underlying src = some (.slice e)) (he : P.underlying e = some (.int .u8)) (hd : P.underlying dst = some .string) (w : World) (x : Int) :
    (convert src dst (.slice (some ⟨w.heap.size, 0, none⟩) 1 1)).run P ((w.alloc (.cells #[.int .u8 x] e)).drew) = .ok (.string (strOfNums [x])) ((w.alloc (.cells #[.int .u8 x] e)).drew) := by
  refine run_convert_bytes_arg _ src e hs he w.heap.size 0 1 1 [x] rfl (fun i hi => ?_) dst hd
  obtain rfl : i = 0 := by omega
  simp
theorem toList_ne (s : ByteArray) (h : 0 < s.size) : s.toList.isEmpty = false := by
  have := data_length s
  have e : s.toList = s.data.toList := Lib.toList_data s
  rw [e]
  cases h2 : s.data.toList with
  | nil => rw [h2] at this; simp at this; omega
  | cons a b => rfl
theorem rdOf_mem (l : List ByteArray) (k : Nat) (h : k < l.length) : rdOf ByteArray.empty l (k : Nat) ∈ l := by
  simp [rdOf, List.getElem?_eq_getElem h]
theorem size_zero (s : ByteArray) (h : s.size = 0) : s = ⟨#[]⟩ := by
  cases s with | mk d =>
  have : d.size = 0 := h
  congr 1
  exact Array.eq_empty_of_size_eq_zero this
theorem put_at {W : World} {g cap n B e : Nat} {l : List ByteArray} (h : Kd.R Kd.string e W B (fun _ => True) (.slice (some ⟨g, 0, none⟩) l.length cap) l) (k : Nat) (x : ByteArray) (hn : l.length = n) :
    Kd.R Kd.string e (W.setCell ⟨g, k, none⟩ (.string x)) B (fun _ => True) (.slice (some ⟨g, 0, none⟩) n cap) (l.set k x) := by
  subst hn
  exact (Kd.R_put h (k : Int) x).1
theorem own_base_le {W : World} {g n cap B e : Nat} {l : List ByteArray} {ok : Nat → Prop} (h : Kd.R Kd.string e W B ok (.slice (some ⟨g, 0, none⟩) n cap) l) : B ≤ g := by
  rcases (Kd.own_of_R h).2 with ⟨h1, _⟩ | ⟨g', _, _, h1, h2, _⟩
  · simp at h1
  · simp at h1; omega
theorem turned_ne (s : ByteArray) (h : 0 < s.size) : turned s = strOfNums [bits .xor .u8 (s[0].toNat : Int) 1] ++ s.extract 1 s.size := by
  unfold turned
  rw [if_neg (by omega), show bt s 0 = (s[0].toNat : Int) from bt_nat s 0 h]
set_option maxHeartbeats 1000000 in
theorem over_any (g cap : Nat) (l : List ByteArray) (B : Nat) (w : World) (hl : l.length ≤ 140737488351232) (hs : ∀ s ∈ l, s.size ≤ 140737488351232) (hB : B ≤ w.heap.size)
    (hR : Kd.R Kd.string 9 w B (fun _ => True) (.slice (some ⟨g, 0, none⟩) l.length cap) l) :
    Calls Tryd.prog 17 #[.slice (some ⟨g, 0, none⟩) l.length cap] w fun e w' => e = .returned (.tuple #[]) ∧ Kd.R Kd.string 9 w' B (fun _ => True) (.slice (some ⟨g, 0, none⟩) l.length cap) (l.map turned) ∧ Below B w w' := by
  have HR := Aside0.mk hR
  have HS := Aside0.mk hs
  clear hR hs
  go_enter Tryd.func17, Tryd.ntmps17
  go_wp2
  go_loopw [2] (fun i wr => ∃ k : Nat, k ≤ l.length ∧ i = .int .i64 k ∧ Aside0 (Kd.R Kd.string 9 wr B (fun _ => True) (.slice (some ⟨g, 0, none⟩) l.length cap) (turnedTo l k)) ∧ Aside0 (Below B w wr)) (fun i _ => l.length - (intOf i).toNat)
  case atStart => exact ⟨0, Nat.zero_le _, rfl, ⟨by simp [turnedTo]; exact HR.out⟩, ⟨Below.refl _ _⟩⟩
  case round =>
    obtain ⟨k, hk, rfl, HO, HB⟩ := hrel
    by_cases hlt : k < l.length
    · have hsz := turnedTo_length l k
      have hc := Kd.R_cell ByteArray.empty (by rw [hsz]; exact HO.out) (k : Int) (by omega) (by rw [hsz]; omega)
      rw [turnedTo_at l k hlt, Int.toNat_natCast] at hc
      obtain ⟨hcell, hfr⟩ := hc
      have HP := Lib.hid (turnedTo_next l k hlt)
      have hss := HS.out _ (rdOf_mem l k hlt)
      generalize rdOf ByteArray.empty l (k : Nat) = s at hcell HP hss
      by_cases hz : s.size = 0
      · obtain rfl : s = ⟨#[]⟩ := size_zero s hz
        have HPU := Lib.hid (put_at (hsz ▸ HO.out) k (⟨#[120]⟩ : ByteArray) hsz)
        clear hsz
        go_wp2
        go_roundw
        case rel => exact ⟨k + 1, by omega, by go_num, ⟨by have := HPU.out; rwa [show (⟨#[120]⟩ : ByteArray) = turned ⟨#[]⟩ from rfl, HP.out] at this⟩, ⟨HB.out.setCell (own_base_le HO.out) _⟩⟩
        case measure => simp [intOf]; omega
      · have h0 : 0 < s.size := by omega
        have hne := toList_ne s h0
        have hadd : (9223372036854775807 < (strOfNums [bits .xor .u8 (s[0].toNat : Int) 1]).size + (s.size - 1)) = False := eq_false (by rw [strOfNums_size]; simp; omega)
        have h1s : (1 : Int) ≤ (s.size : Int) := by omega
        have hcell2 : ∀ o, (wr.alloc o).cell? ⟨g, k, none⟩ = some (.string s) := fun o => (((Below.refl wr.heap.size wr).alloc (Nat.le_refl _) o).cell (World.block_lt_of_cell? wr _ hcell)).trans hcell
        have hfr2 : ∀ o, (wr.alloc o).frozen? ⟨g, k, none⟩ = false := fun o => (((Below.refl wr.heap.size wr).alloc (Nat.le_refl _) o).frozen (World.block_lt_of_cell? wr _ hcell)).trans hfr
        have HPU := Lib.hid (put_at (W := (wr.alloc (.cells #[.int .u8 (bits .xor .u8 (s[0].toNat : Int) 1)] 5)).drew) (Kd.R_drew (Kd.R_alloc (hsz ▸ HO.out) _)) k (turned s) hsz)
        rw [HP.out, turned_ne s h0] at HPU
        have hcv := conv_one (P := Tryd.prog) 64 9 5 Tryd.underlying64 Tryd.underlying5 Tryd.underlying9 wr (bits .xor .u8 (s[0].toNat : Int) 1)
        clear hsz
        go_wp2
        go_region_law (fail)
        all_goals
          go_wp2
          go_roundw
          case rel => exact ⟨k + 1, by omega, by go_num, ⟨HPU.out⟩, ⟨(below_drew (HB.out.alloc (Nat.le_trans hB HB.out.size) _)).setCell (own_base_le HO.out) _⟩⟩
          case measure => simp [intOf]; omega
    · obtain rfl : k = l.length := by omega
      go_wp2
      go_end0
      exact ⟨rfl, by have := HO.out; simpa [turnedTo] using this, HB.out⟩
end Go.Proofs.YthnobhifepnakaaDoor.Over
