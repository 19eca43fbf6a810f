/- DigestHashers: the law's walk. -/
import Derived.Test.YthnobhifepnakaaDoorPlays
set_option linter.unusedVariables false
set_option linter.unusedSimpArgs false
namespace Go.Proofs.YthnobhifepnakaaDoor.LawHash
open Go.RowKit Go.Proofs.YthnobhifepnakaaDoorW.PrintWords Go.Proofs.YthnobhifepnakaaDoorW.PrintLast Go.Proofs.YthnobhifepnakaaDoorW.PrintMore
open Go.Proofs.YthnobhifepnakaaDoor.Base Go.Proofs.YthnobhifepnakaaDoor.Hasher Go.Proofs.YthnobhifepnakaaDoor.Ops Go.Proofs.YthnobhifepnakaaDoor.Bench
open Go.Proofs.YthnobhifepnakaaDoor.Crc (Nibs)
open Go.Proofs.YthnobhifepnakaaDoor.RefMD5 (RTabs)
/-- a bench whose texts are not longer than n -/
def Held (W w : World) (B n : Nat) : Prop := ∃ o c, Bench W w B o c (fun i => (o i).isSome) c ∧ ∀ i, (c i).size ≤ n
def zB : Array Value := #[.pointer none, .pointer none, .pointer none, .pointer none, .string ⟨#[]⟩, .string ⟨#[]⟩, .string ⟨#[]⟩, .string ⟨#[]⟩, .bool false, .bool false, .bool false, .bool false]
theorem held_new (w : World) : Held w (w.alloc (.cells zB 46)) w.heap.size 0 := by
  refine ⟨fun _ => none, fun _ => ⟨#[]⟩, ⟨(Below.refl w.heap.size w).alloc (Nat.le_refl _) _, Nat.le_refl _, ⟨_, Go.heap_alloc_new w _, rfl, ?_⟩, ?_, ?_⟩, fun i => Nat.le_refl _⟩
  · intro i hi
    have e : i = 0 ∨ i = 1 ∨ i = 2 ∨ i = 3 ∨ i = 4 ∨ i = 5 ∨ i = 6 ∨ i = 7 ∨ i = 8 ∨ i = 9 ∨ i = 10 ∨ i = 11 := by omega
    rcases e with e | e | e | e | e | e | e | e | e | e | e | e <;> subst e <;> rfl
  · intro i b h; cases h
  · intro i j b h; cases h
theorem plays_held (W w : World) (B n : Nat) (x : Op3) (hB : Held W w B n) (hG : Glob W) (hN : Nibs W) (hT : RTabs W) (hz : n + x.s.size ≤ 100000000) :
    Calls Tryd.prog 23 #[.pointer (some ⟨B, 0, none⟩), .agg (opL x).toArray] w fun e w' => e = .returned (.bool true) ∧ Held W w' B (n + x.s.size) := by
  obtain ⟨o, c, hB, hc⟩ := hB
  refine (plays_any W w B o c x hB hG hN hT (fun i => by have := hc i; omega)).mono ?_
  rintro e w' ⟨rfl, o', c', hB', hc'⟩
  exact ⟨rfl, o', c', hB', fun i => by have := hc i; have := hc' i; omega⟩
theorem held_below {W w : World} {B n : Nat} (h : Held W w B n) : Below W.heap.size W w := by
  obtain ⟨o, c, hB, _⟩ := h
  exact hB.be
theorem total_take (l : List Op3) (k : Nat) (x : Op3) (h : l[k]? = some x) : totalO (l.take (k + 1)) = totalO (l.take k) + (x.s.size + 1) ∧ totalO (l.take (k + 1)) ≤ totalO l := by
  have e : l.take (k + 1) = l.take k ++ [x] := by rw [List.take_add_one, h]; rfl
  have e2 : totalO (l.take (k + 1)) + totalO (l.drop (k + 1)) = totalO l := by
    unfold totalO
    rw [← List.sum_append_nat, ← List.map_append, List.take_append_drop]
  constructor
  · rw [e]; unfold totalO; simp
  · omega
theorem total_len (l : List Op3) : l.length ≤ totalO l := by
  induction l with
  | nil => exact Nat.zero_le _
  | cons x l ih =>
    simp only [totalO, List.map_cons, List.sum_cons, List.length_cons] at ih ⊢
    omega
set_option maxRecDepth 100000 in
set_option maxHeartbeats 4000000 in
theorem law_hash (A : Option Addr) (cp : Nat) (l : List Op3) (w : World) (hr : OpsAt w A l) (hc : l.length ≤ cp) (ht : totalO l ≤ 10000000) (hG : Glob w) (hN : Nibs w) (hT : RTabs w) :
    Calls Tryd.prog 6 #[.slice A l.length cp] w fun e w' => e = .returned (.bool true) ∧ Below w.heap.size w w' := by
  obtain ⟨wz, rfl⟩ : ∃ w0 : World, w0 = w := ⟨_, rfl⟩
  have HG := Aside0.mk hG
  have HN := Aside0.mk hN
  have HT := Aside0.mk hT
  have HR := Aside0.mk hr
  have HTT := Aside0.mk ht
  have hlen := total_len l
  have hl2 : l.length ≤ 10000000 := by omega
  have HB := Aside0.mk (held_new wz)
  unfold zB at HB
  clear hG hN hT hr ht hlen
  go_enter Tryd.func6, Tryd.ntmps6
  go_wp2_with fail
  refine (plays_held wz _ wz.heap.size 0 ⟨1, 0, ⟨#[]⟩⟩ HB.out HG.out HN.out HT.out (by decide)).mono ?_
  rintro e w1 ⟨rfl, hH⟩
  have HB := Aside0.mk hH
  clear hH
  go_wp2
  go_loopw [4, 5] (fun _ i wr => ∃ k : Nat, k ≤ l.length ∧ i = .int .i64 k ∧ Aside0 (Held wz wr wz.heap.size (totalO (l.take k)))) (fun _ i _ => l.length - (intOf i).toNat)
  case atStart => exact ⟨0, Nat.zero_le _, rfl, HB⟩
  case round =>
    clear HB
    obtain ⟨k, hk, rfl, HB⟩ := hrel
    obtain ⟨wo, rfl⟩ : ∃ wo : World, wo = wr := ⟨_, rfl⟩
    by_cases hlt : k < l.length
    · obtain ⟨x, hx⟩ : ∃ x, l[k]? = some x := ⟨_, List.getElem?_eq_getElem hlt⟩
      have htk := total_take l k x hx
      obtain ⟨b, off, rfl, hbl, hrg⟩ := HR.out.below (held_below HB.out) k x hx
      have hi : (Tryd.prog.info? 49).map (·.size) = some 3 := by kernel_rfl
      have HZ : Aside0 (totalO (l.take k) + x.s.size ≤ 100000000) := ⟨by have := HTT.out; omega⟩
      have HN2 := Lib.hid htk.1
      clear htk hx
      go_wp2_with ((with_reducible refine gate_load (ty := 49) (x := .tmp 23) rfl ?_); refine wpList_load_mid rfl 49 (.tmp 23) rfl b (off + k * 3) rfl (opL x) _ hrg Tryd.underlying49 rfl hi ?_)
      refine (plays_held wz wo wz.heap.size _ x HB.out HG.out HN.out HT.out HZ.out).mono ?_
      rintro e w3 ⟨rfl, hH⟩
      have HB3 : Aside0 (Held wz w3 wz.heap.size (totalO (l.take (k + 1)))) := ⟨by
        obtain ⟨o, c, h1, h2⟩ := hH
        refine ⟨o, c, h1, fun i => ?_⟩
        have := h2 i
        rw [HN2.out]
        omega⟩
      clear hH hrg
      go_wp2
      go_roundw
      case rel => exact ⟨k + 1, by omega, by go_num, HB3⟩
      case measure => simp [intOf]; omega
    · obtain rfl : k = l.length := by omega
      rw [List.take_length] at HB
      go_wp2
      go_loopw [4, 6] (fun _ i wr => ∃ k : Nat, 3 ≤ k ∧ k ≤ 6 ∧ i = .int .i64 k ∧ Aside0 (Held wz wr wz.heap.size (totalO l))) (fun _ i _ => 6 - (intOf i).toNat)
      case atStart => exact ⟨3, by omega, by omega, rfl, HB⟩
      case round =>
        clear HB
        obtain ⟨k, hk3, hk6, rfl, HB⟩ := hrel
        obtain ⟨wo, rfl⟩ : ∃ wo : World, wo = wr := ⟨_, rfl⟩
        have hz : totalO l + 0 ≤ 100000000 := by have := HTT.out; omega
        have HZ := Aside0.mk hz
        clear hz
        by_cases hlt : k < 6
        · go_wp2_with fail
          refine (plays_held wz wo wz.heap.size _ ⟨(k : Int), 0, ⟨#[]⟩⟩ HB.out HG.out HN.out HT.out HZ.out).mono ?_
          rintro e w3 ⟨rfl, hH⟩
          have HB3 : Aside0 (Held wz w3 wz.heap.size (totalO l)) := ⟨hH⟩
          clear hH
          go_wp2
          go_roundw
          case rel => exact ⟨k + 1, by omega, by omega, by go_num, HB3⟩
          case measure => simp [intOf]; omega
        · obtain rfl : k = 6 := by omega
          go_wp2
          go_ret
          exact ⟨rfl, held_below HB.out⟩
end Go.Proofs.YthnobhifepnakaaDoor.LawHash
