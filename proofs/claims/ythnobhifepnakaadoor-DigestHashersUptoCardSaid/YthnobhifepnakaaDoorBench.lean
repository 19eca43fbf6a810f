/- The bench of DigestHashers: what it holds; a place that holds nil. -/
import Derived.Test.YthnobhifepnakaaDoorOps
import Derived.Test.YthnobhifepnakaaDoorHashKit
import Derived.Test.YthnobhifepnakaaDoorRefMD5
set_option linter.unusedVariables false
set_option linter.unusedSimpArgs false
namespace Go.Proofs.YthnobhifepnakaaDoor.Bench
open Go.RowKit Go.Proofs.YthnobhifepnakaaDoorW.PrintWords Go.Proofs.YthnobhifepnakaaDoorW.PrintLast Go.Proofs.YthnobhifepnakaaDoorW.PrintMore
open Go.Proofs.YthnobhifepnakaaDoor.Base Go.Proofs.YthnobhifepnakaaDoor.Hasher Go.Proofs.YthnobhifepnakaaDoor.Words Go.Proofs.YthnobhifepnakaaDoor.Take Go.Proofs.YthnobhifepnakaaDoor.HashKit Go.Proofs.YthnobhifepnakaaDoor.Ops
open Go.Proofs.YthnobhifepnakaaDoor.Md5Pure (md5 first)
open Go.Proofs.YthnobhifepnakaaDoor.CrcPure (crc)
open Go.Proofs.YthnobhifepnakaaDoor.Crc (Nibs)
open Go.Proofs.YthnobhifepnakaaDoor.RefMD5 (RTabs)
def upd {α : Type} (f : Nat → α) (p : Nat) (v : α) (i : Nat) : α := if i = p then v else f i
/-- the bench's twelve cells -/
def bc (o : Nat → Option Nat) (c : Nat → ByteArray) (t : Nat → Bool) (i : Nat) : Value :=
  if i < 4 then .pointer ((o i).map fun b => ⟨b, 0, none⟩) else if i < 8 then .string (c (i - 4)) else .bool (t (i - 8))
theorem bc_own (o c t p b i) (hp : p < 4) : (if i = p then Value.pointer (some ⟨b, 0, none⟩) else bc o c t i) = bc (upd o p (some b)) c t i := by
  unfold bc upd
  by_cases h : i = p
  · subst h; simp [hp]
  · simp [h]
theorem bc_came (o c t p s i) (hp : p < 4) : (if i = 4 + p then Value.string s else bc o c t i) = bc o (upd c p s) t i := by
  unfold bc upd
  by_cases h : i = 4 + p
  · subst h; rw [if_pos rfl, if_neg (by omega), if_pos (by omega), if_pos (by omega)]
  · rw [if_neg h]
    by_cases h4 : i < 4
    · rw [if_pos h4, if_pos h4]
    · rw [if_neg h4, if_neg h4]
      by_cases h8 : i < 8
      · rw [if_pos h8, if_pos h8, if_neg (by omega)]
      · rw [if_neg h8, if_neg h8]
theorem bc_there (o c t p v i) (hp : p < 4) : (if i = 8 + p then Value.bool v else bc o c t i) = bc o c (upd t p v) i := by
  unfold bc upd
  by_cases h : i = 8 + p
  · subst h; rw [if_pos rfl, if_neg (by omega), if_neg (by omega), if_pos (by omega)]
  · rw [if_neg h]
    by_cases h4 : i < 4
    · rw [if_pos h4, if_pos h4]
    · rw [if_neg h4, if_neg h4]
      by_cases h8 : i < 8
      · rw [if_pos h8, if_pos h8]
      · rw [if_neg h8, if_neg h8, if_neg (by omega)]
/-- the bench's block B, the Hashers o, the texts c and the marks t that it holds; to the Hashers have come the texts d -/
structure Bench (W w : World) (B : Nat) (o : Nat → Option Nat) (c : Nat → ByteArray) (t : Nat → Bool) (d : Nat → ByteArray) : Prop where mk ::
  (be : Below W.heap.size W w) (lo : W.heap.size ≤ B) (row : w.rowIs B 46 12 (bc o c t))
  (own : ∀ i b, o i = some b → W.heap.size ≤ b ∧ b ≠ B ∧ Hash w b (d i).data.toList (crc (d i).data.toList : Nat))
  (apart : ∀ i j b, o i = some b → o j = some b → i = j)
theorem Bench.after {W w w1 B o c t d} (h : Bench W w B o c t d) (hb : Below w.heap.size w w1) : Bench W w1 B o c t d :=
  ⟨below_then h.be h.be.size hb, h.lo, h.row.of_block (hb.block _ h.row.lt), fun i b hi => ⟨(h.own i b hi).1, (h.own i b hi).2.1, hash_after (h.own i b hi).2.2 hb⟩, h.apart⟩
theorem rep_set {w : World} {b a : Nat} {L : List UInt8} {c : Int} (h : Hash w b L c) (hne : b ≠ a) (i : Nat) (v : Value) : Hash (w.setCell ⟨a, i, none⟩ v) b L c := by
  obtain ⟨st, tl, hR⟩ := h
  exact ⟨st, tl, hR.abs, (heap_setCell_other _ _ _ _ hne).trans hR.row⟩
theorem Bench.store {W w B o c t d} (h : Bench W w B o c t d) (i : Nat) (v : Value) {o' c' t'} (e : ∀ j, j < 12 → (if j = i then v else bc o c t j) = bc o' c' t' j)
    (ho : ∀ i b, o' i = some b → W.heap.size ≤ b ∧ b ≠ B ∧ Hash w b (d i).data.toList (crc (d i).data.toList : Nat)) (ha : ∀ i j b, o' i = some b → o' j = some b → i = j) : Bench W (w.setCell ⟨B, i, none⟩ v) B o' c' t' d :=
  ⟨h.be.setCell h.lo _, h.lo, (h.row.set i v).congr e, fun i b hi => ⟨(ho i b hi).1, (ho i b hi).2.1, rep_set (ho i b hi).2.2 (ho i b hi).2.1 _ _⟩, ha⟩
theorem Bench.came {W w B o c t d} (h : Bench W w B o c t d) (p : Nat) (hp : p < 4) (s : ByteArray) : Bench W (w.setCell ⟨B, 4 + p, none⟩ (.string s)) B o (upd c p s) t d :=
  h.store (4 + p) _ (fun j _ => bc_came o c t p s j hp) h.own h.apart
theorem Bench.there {W w B o c t d} (h : Bench W w B o c t d) (p : Nat) (hp : p < 4) (v : Bool) : Bench W (w.setCell ⟨B, 8 + p, none⟩ (.bool v)) B o c (upd t p v) d :=
  h.store (8 + p) _ (fun j _ => bc_there o c t p v j hp) h.own h.apart
/-- a new Hasher b, not yet laid into its place -/
theorem Bench.fresh {W w B o c t d} (h : Bench W w B o c t d) (p : Nat) (hp : p < 4) (w1 : World) (b : Nat) (hb : Below w.heap.size w w1) (hlb : w.heap.size ≤ b) (hh : Hash w1 b [] (crc [] : Nat)) :
    Bench W (w1.setCell ⟨B, p, none⟩ (.pointer (some ⟨b, 0, none⟩))) B (upd o p (some b)) c t (upd d p ⟨#[]⟩) := by
  have h1 := h.after hb
  have hlt : ∀ i b', o i = some b' → b' < w.heap.size := fun i b' hi => hash_lt (h.own i b' hi).2.2
  have hBl := h.row.lt
  have hs := h.be.size
  have key : Bench W w1 B (fun i => if i = p then none else o i) (fun i => c i) t (upd d p ⟨#[]⟩) → True := fun _ => trivial
  refine ⟨h1.be.setCell h1.lo _, h1.lo, (h1.row.set p _).congr (fun j _ => bc_own o c t p b j hp), ?_, ?_⟩
  · intro i b' hi
    unfold upd at hi ⊢
    by_cases hip : i = p
    · subst hip
      rw [if_pos rfl] at hi
      obtain rfl : b = b' := Option.some.inj hi
      rw [if_pos rfl]
      exact ⟨by omega, by omega, rep_set hh (by omega) _ _⟩
    · rw [if_neg hip] at hi
      rw [if_neg hip]
      have := h1.own i b' hi
      exact ⟨this.1, this.2.1, rep_set this.2.2 this.2.1 _ _⟩
  · intro i j b' hi hj
    unfold upd at hi hj
    by_cases hip : i = p
    · by_cases hjp : j = p
      · rw [hip, hjp]
      · rw [if_pos hip] at hi
        rw [if_neg hjp] at hj
        have := hlt j b' hj
        have := Option.some.inj hi
        omega
    · rw [if_neg hip] at hi
      by_cases hjp : j = p
      · rw [if_pos hjp] at hj
        have := hlt i b' hi
        have := Option.some.inj hj
        omega
      · rw [if_neg hjp] at hj
        exact h.apart i j b' hi hj
/-- bytes came to one Hasher -/
theorem Bench.wrote {W w B o c t d} (h : Bench W w B o c t d) (p b : Nat) (hb : o p = some b) (w1 : World) (s : ByteArray) (hO : Only b w w1) (hh : Hash w1 b s.data.toList (crc s.data.toList : Nat)) : Bench W w1 B o c t (upd d p s) := by
  have hp := h.own p b hb
  refine ⟨h.be.trans (hO.below hp.1 h.be.size), h.lo, h.row.of_block (hO.block B h.row.lt hp.2.1.symm), ?_, h.apart⟩
  intro i b' hi
  unfold upd
  by_cases hip : i = p
  · subst hip
    rw [hb] at hi
    obtain rfl := Option.some.inj hi
    rw [if_pos rfl]
    exact ⟨hp.1, hp.2.1, hh⟩
  · rw [if_neg hip]
    have := h.own i b' hi
    refine ⟨this.1, this.2.1, hash_only this.2.2 hO ?_⟩
    intro e
    subst e
    exact hip (h.apart i p b' hi hb)
theorem Bench.congr {W w B o c t d o' c' t' d'} (h : Bench W w B o c t d) (eo : ∀ i, o i = o' i) (ec : ∀ i, c i = c' i) (et : ∀ i, t i = t' i) (ed : ∀ i, d i = d' i) : Bench W w B o' c' t' d' := by
  obtain rfl : o = o' := funext eo
  obtain rfl : c = c' := funext ec
  obtain rfl : t = t' := funext et
  obtain rfl : d = d' := funext ed
  exact h
/-- the methods of a nil Hasher -/
theorem write_nil (s : ByteArray) (w : World) : Calls Tryd.prog 29 #[.pointer none, .string s] w fun e w' => e = .returned (.int .i64 2) ∧ w = w' := by
  go_enter Tryd.func29, Tryd.ntmps29
  go_wp2
  go_ret
  exact ⟨rfl, rfl⟩
theorem crc_nilp (w : World) : Calls Tryd.prog 32 #[.pointer none] w fun e w' => e = .returned (.int .i64 0) ∧ w = w' := by
  go_enter Tryd.func32, Tryd.ntmps32
  go_wp2
  go_ret
  exact ⟨rfl, rfl⟩
theorem count_nil (w : World) : Calls Tryd.prog 30 #[.pointer none] w fun e w' => e = .returned (.int .i64 0) ∧ w = w' := by
  go_enter Tryd.func30, Tryd.ntmps30
  go_wp2
  go_ret
  exact ⟨rfl, rfl⟩
theorem op_cells (w : World) (x : Op3) : (w.alloc (.cells (opL x).toArray 49)).cell? ⟨w.heap.size, 0, none⟩ = some (.int .i64 x.kind) ∧ (w.alloc (.cells (opL x).toArray 49)).cell? ⟨w.heap.size, 1, none⟩ = some (.int .i64 x.at_) ∧ (w.alloc (.cells (opL x).toArray 49)).cell? ⟨w.heap.size, 2, none⟩ = some (.string x.s) :=
  ⟨cell_of_row _ _ _ _ _ _ (Go.heap_alloc_new w _), cell_of_row _ _ _ _ _ _ (Go.heap_alloc_new w _), cell_of_row _ _ _ _ _ _ (Go.heap_alloc_new w _)⟩
set_option maxRecDepth 100000 in
set_option maxHeartbeats 2000000 in
theorem none_any (x : Op3) (w : World) : Calls Tryd.prog 47 #[.agg (opL x).toArray] w fun e w' => e = .returned (.bool true) ∧ Below w.heap.size w w' := by
  have hc := op_cells w x
  have HB := Aside0.mk ((Below.refl w.heap.size w).alloc (Nat.le_refl _) (.cells (opL x).toArray 49))
  obtain ⟨k, a, s⟩ := x
  simp only [] at hc
  obtain ⟨h0, h1, h2⟩ := hc
  go_enter Tryd.func47, Tryd.ntmps47
  by_cases e2 : k = 2
  · subst e2
    go_wp2_with fail
    refine (write_nil s _).mono ?_
    rintro e w' ⟨rfl, rfl⟩
    go_wp2_with (go_at_call 20; refine (num_any _ _).mono ?_; rintro e w' ⟨rfl, rfl⟩)
    go_ret
    exact ⟨rfl, HB.out⟩
  · have b2 : (k == 2) = false := beq_eq_false_iff_ne.2 e2
    by_cases e3 : k = 3
    · subst e3
      go_wp2_with fail
      refine (Sum.nil_any _).mono ?_
      rintro e w' ⟨rfl, rfl⟩
      rw [show strOf [] = (⟨#[]⟩ : ByteArray) from rfl]
      go_wp2
      go_ret
      exact ⟨rfl, HB.out⟩
    · have b3 : (k == 3) = false := beq_eq_false_iff_ne.2 e3
      by_cases e4 : k = 4
      · subst e4
        go_wp2_with fail
        refine (crc_nilp _).mono ?_
        rintro e w' ⟨rfl, rfl⟩
        go_wp2
        go_ret
        exact ⟨rfl, HB.out⟩
      · have b4 : (k == 4) = false := beq_eq_false_iff_ne.2 e4
        by_cases e5 : k = 5
        · subst e5
          go_wp2_with fail
          refine (count_nil _).mono ?_
          rintro e w' ⟨rfl, rfl⟩
          go_wp2
          go_ret
          exact ⟨rfl, HB.out⟩
        · have b5 : (k == 5) = false := beq_eq_false_iff_ne.2 e5
          go_wp2
          go_ret
          exact ⟨rfl, HB.out⟩
end Go.Proofs.YthnobhifepnakaaDoor.Bench
