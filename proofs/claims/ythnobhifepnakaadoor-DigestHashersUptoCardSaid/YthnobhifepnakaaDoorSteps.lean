/- The document's CRCJoin: what its functions answer. -/
import Derived.Test.YthnobhifepnakaaDoorBase
import Derived.Test.YthnobhifepnakaaDoorCrcPure
import Derived.Deep.MidRow
import Derived.Deep.RegionWith
import Derived.Outline
import Derived.Test.YthnobhifepnakaaDoorPDigestJoinsx1
set_option linter.unusedVariables false
set_option linter.unusedSimpArgs false
namespace Go.Proofs.YthnobhifepnakaaDoor.StepsRef
open Go.RowKit Go.Proofs.YthnobhifepnakaaDoorW.PrintWords Go.Proofs.YthnobhifepnakaaDoorW.PrintLast Go.Proofs.YthnobhifepnakaaDoorW.PrintMore
open Go.Proofs.YthnobhifepnakaaDoor.Base Go.Proofs.YthnobhifepnakaaDoor.CrcPure Go.Proofs.YthnobhifepnakaaDoor.PDigestJoins
def pw (i : Nat) : Nat := 2 ^ i
theorem pw_pos (i : Nat) : 0 < pw i := Nat.two_pow_pos i
theorem pw_le (i : Nat) (h : i < 32) : pw i ≤ 2147483648 := Nat.pow_le_pow_right (n := 2) (by decide) (show i ≤ 31 by omega)
/-- the document's table of powers lies where it was laid -/
structure Pows (w : World) : Prop where mk :: (cell : ∀ i, i < 32 → w.cell? ⟨0, i, none⟩ = some (.int .i64 (pw i : Nat))) (lt : 0 < w.heap.size)
theorem Pows.below {w w1 : World} (h : Pows w) (hb : Below w.heap.size w w1) : Pows w1 :=
  ⟨fun i hi => (hb.cell (p := ⟨0, i, none⟩) h.lt).trans (h.cell i hi), Nat.lt_of_lt_of_le h.lt hb.size⟩
/-- 32 words, as the struct's cells -/
def tabL (T : Nat → Nat) : List Value := (List.range 32).map fun i => Value.int .i64 (T i : Nat)
theorem tabL_length (T : Nat → Nat) : (tabL T).length = 32 := by simp [tabL]
theorem tabA_size (T : Nat → Nat) : (tabL T).toArray.size = 32 := by simp [tabL]
theorem tabA_at (T : Nat → Nat) (i : Nat) (h : i < 32) : (tabL T).toArray[i]? = some (.int .i64 (T i : Nat)) := by simp [tabL, h]
theorem new_cell (w : World) (c : Array Value) (t : TypeId) (i : Nat) : (w.alloc (.cells c t)).cell? ⟨w.heap.size, i, none⟩ = c[i]? := cell_of_row _ _ _ _ _ _ (heap_alloc_new w _)
theorem ofTo_lt (T : Nat → Nat) (hT : ∀ i, i < 32 → T i < 4294967296) (x : Nat) (i : Nat) (h : i ≤ 32) : ofTo T x i < 4294967296 := by
  induction i with
  | zero => simp [ofTo]
  | succ i ih =>
    simp only [ofTo]
    split
    · exact Nat.xor_lt_two_pow (n := 32) (ih (by omega)) (hT i (by omega))
    · exact ih (by omega)
set_option maxHeartbeats 1000000 in
theorem of_any (T : Nat → Nat) (x : Nat) (w : World) (hT : ∀ i, i < 32 → T i < 4294967296) (hx : x < 4294967296) (hP : Pows w) :
    Calls Tryd.prog 39 #[.agg (tabL T).toArray, .int .i64 (x : Nat)] w fun e w' => e = .returned (.int .i64 (ofTo T x 32 : Nat)) ∧ Below w.heap.size w w' := by
  have HT := Aside0.mk hT
  have HP := Aside0.mk hP
  have HB := Aside0.mk ((Below.refl w.heap.size w).alloc (Nat.le_refl _) (.cells (tabL T).toArray 71))
  clear hT hP
  go_enter Tryd.func39, Tryd.ntmps39
  go_wp2
  go_loop [5, 6] (fun v i => ∃ k : Nat, k ≤ 32 ∧ i = .int .i64 k ∧ v = .int .i64 (ofTo T x k : Nat)) (fun _ i => 32 - (intOf i).toNat)
  case atStart => exact ⟨0, Nat.zero_le _, rfl, rfl⟩
  case round =>
    obtain ⟨k, hk, rfl, rfl⟩ := hrel
    have hol := ofTo_lt T HT.out x k hk
    by_cases hlt : k < 32
    · have HN := Lib.hid (show ofTo T x (k + 1) = if x / pw k % 2 = 1 then ofTo T x k ^^^ T k else ofTo T x k from rfl)
      have hTk := HT.out k hlt
      have hc1 := (HB.out.cell (p := ⟨0, k, none⟩) HP.out.lt).trans (HP.out.cell k hlt)
      have hc2 := (new_cell w (tabL T).toArray 71 k).trans (tabA_at T k hlt)
      have hp1 := pw_pos k
      have hp2 := pw_le k hlt
      generalize ofTo T x k = y at hol HN
      generalize pw k = q at hc1 hp1 hp2 HN
      have hq : 1 ≤ (q : Int) := by omega
      have hq0 : 0 ≤ (x : Int) / (q : Int) := Int.ediv_nonneg (by omega) (by omega)
      have hq1 : (x : Int) / (q : Int) ≤ 4294967296 := Int.le_trans (Int.ediv_le_self _ (by omega)) (by omega)
      by_cases hb : x / q % 2 = 1
      · have hb1 : ((x : Int) / (q : Int) % 2 == 1) = true := by rw [beq_iff_eq, ← Int.natCast_ediv]; omega
        have hx1 := i64_xor_nat y (T k) (by omega) (by omega)
        go_wp2
        go_round
        case rel => exact ⟨k + 1, by omega, by go_num, by rw [HN.out, if_pos hb]⟩
        case measure => simp [intOf]; omega
      · have hb1 : ((x : Int) / (q : Int) % 2 == 1) = false := by rw [beq_eq_false_iff_ne, ← Int.natCast_ediv]; omega
        go_wp2
        go_round
        case rel => exact ⟨k + 1, by omega, by go_num, by rw [HN.out, if_neg hb]⟩
        case measure => simp [intOf]; omega
    · obtain rfl : k = 32 := by omega
      go_wp2
      go_ret
      exact ⟨rfl, HB.out⟩
/-- the first k words are the new ones -/
def cur (T U : Nat → Nat) (k i : Nat) : Value := .int .i64 ((if i < k then U i else 0 : Nat) : Int)
section
variable {P : Program} {ops : Array Oper} {o : Oper} {a : Act} {Q : Exit → Act → World → Prop} {K : Act → World → Prop} {E : Prop}
theorem step_load_row {W : World} (hw : Region.wanted o (yielded ops a.tmps) = true) (ty : TypeId) (x : Operand) (ho : o.op = .load ty x)
    (g : Nat) (hx : a.eval x = .pointer (some ⟨g, 0, none⟩)) (t : TypeId) (cs : Array Value) (fr : Nat × Nat) (d : TypeDesc) (hg : W.heap[g]? = some (.cells cs t fr))
    (hu : P.underlying ty = some d) (hd : (match d with | .struct _ | .array _ _ => true | _ => false) = true) (hi : (P.info? ty).map (·.size) = some cs.size)
    (h : K (a.put o.dst (.agg cs)) W) : if Region.wanted o (yielded ops a.tmps) = true then Oper.wp P o a W K Q else E := by
  rw [if_pos hw]
  exact wp_load_row ty x ho g hx t cs fr d hg hu hd hi h
end
theorem zero32 : (tabL fun _ => 0).toArray = #[.int .i64 0, .int .i64 0, .int .i64 0, .int .i64 0, .int .i64 0, .int .i64 0, .int .i64 0, .int .i64 0, .int .i64 0, .int .i64 0, .int .i64 0, .int .i64 0, .int .i64 0, .int .i64 0, .int .i64 0, .int .i64 0,
    .int .i64 0, .int .i64 0, .int .i64 0, .int .i64 0, .int .i64 0, .int .i64 0, .int .i64 0, .int .i64 0, .int .i64 0, .int .i64 0, .int .i64 0, .int .i64 0, .int .i64 0, .int .i64 0, .int .i64 0, .int .i64 0] := rfl
theorem rowIs_tab (w : World) (T : Nat → Nat) (t : TypeId) (b : Nat) (h : w.heap[b]? = some (.cells (tabL T).toArray t (0, 0))) : w.rowIs b t 32 (fun i => .int .i64 (T i : Nat)) :=
  ⟨_, h, tabA_size T, fun i hi => tabA_at T i hi⟩
theorem tab_of_rowIs {w : World} {T : Nat → Nat} {t : TypeId} {b : Nat} {f : Nat → Value} (h : w.rowIs b t 32 f) (hf : ∀ i, i < 32 → f i = .int .i64 (T i : Nat)) : w.heap[b]? = some (.cells (tabL T).toArray t (0, 0)) := by
  obtain ⟨c, h1, h2, h3⟩ := h
  rw [h1]
  congr 2
  apply Array.ext_getElem?
  intro i
  by_cases hi : i < 32
  · rw [h3 i hi, hf i hi, tabA_at T i hi]
  · rw [Array.getElem?_eq_none (by omega), Array.getElem?_eq_none (by rw [tabA_size]; omega)]
theorem range_tab {w : World} {T : Nat → Nat} {t : TypeId} {b : Nat} (h : w.heap[b]? = some (.cells (tabL T).toArray t (0, 0))) : w.rangeAt b 0 (tabL T) := by
  intro j v hv
  have := cell_of_row w b j _ _ _ h
  rw [Nat.zero_add, this]
  simpa using hv
theorem World_heap_old (w : World) (o : Obj) (i : Nat) (h : i < w.heap.size) : (w.alloc o).heap[i]? = w.heap[i]? := Go.heap_alloc_old w o h
theorem range3 {w w3 : World} {b o : Nat} {cs : List Value} (h : Below w.heap.size w w3) (hb : b < w.heap.size) (hr : w.rangeAt b o cs) : w3.rangeAt b o cs := fun j v hv => (h.cell (p := ⟨b, o + j, none⟩) hb).trans (hr j v hv)
theorem cur_next (T U : Nat → Nat) (k i : Nat) : (if i = k then Value.int .i64 ((U k : Nat) : Int) else cur T U k i) = cur T U (k + 1) i := by
  unfold cur
  by_cases h : i = k
  · subst h; rw [if_pos rfl, if_pos (by omega)]
  · rw [if_neg h]
    by_cases h2 : i < k
    · rw [if_pos h2, if_pos (by omega)]
    · rw [if_neg h2, if_neg (by omega)]
theorem there_tab {w : World} {T : Nat → Nat} {t : TypeId} {b : Nat} (h : w.heap[b]? = some (.cells (tabL T).toArray t (0, 0))) (n : Nat) (hn : n = 32) : w.there b 0 n := by
  intro j hj
  subst hn
  rw [Nat.zero_add]
  exact ⟨by rw [cell_of_row w b j _ _ _ h, tabA_at T j hj]; rfl, frozen_of_row w b j _ _ h⟩
theorem below_setCells {B : Nat} {w W : World} (h : Below B w W) {b : Nat} (hb : B ≤ b) : ∀ (vs : List Value) (o : Nat), Below B w (W.setCells b o vs)
  | vs, o => by
    induction vs generalizing W o with
    | nil => exact h
    | cons v r ih => exact ih (h.setCell hb v) _
theorem results_cell_mid {P : Program} {fn : Func} {p : Tmp} {ty : TypeId} (h : fn.results = #[.cell p ty]) (tmps : Array Value) (w : World) (b o : Nat) (cs : List Value) (d : TypeDesc)
    (hp : tmps.getD p undef = .pointer (some ⟨b, o, none⟩)) (hc : w.rangeAt b o cs) (hu : P.underlying ty = some d) (hd : d.isRow = true) (hi : (P.info? ty).map (·.size) = some cs.length) :
    (results fn tmps).run P w = .ok (.agg cs.toArray) w := by
  have hp' : tmps[p]?.getD undef = .pointer (some ⟨b, o, none⟩) := by simpa using hp
  simp [results, h, hp', asAddr, run_loadVar_mid w b o ty cs d hc hu hd hi]
theorem three (w : World) (A Z : Obj) : (((w.alloc A).alloc Z).alloc Z).heap[w.heap.size]? = some A ∧ (((w.alloc A).alloc Z).alloc Z).heap[w.heap.size + 1]? = some Z ∧ (((w.alloc A).alloc Z).alloc Z).heap[w.heap.size + 1 + 1]? = some Z ∧ (((w.alloc A).alloc Z).alloc Z).heap.size = w.heap.size + 3 := by
  refine ⟨?_, ?_, ?_, ?_⟩
  · rw [World_heap_old _ _ _ (by simp; omega), heap_alloc2_old]
  · rw [World_heap_old _ _ _ (by simp), heap_alloc2_new]
  · exact heap_alloc2_new (w.alloc A) Z Z |> (by simpa using ·)
  · simp
set_option maxRecDepth 100000 in
set_option maxHeartbeats 2000000 in
theorem twice_any (T : Nat → Nat) (w : World) (hT : ∀ i, i < 32 → T i < 4294967296) (hP : Pows w) :
    Calls Tryd.prog 40 #[.agg (tabL T).toArray] w fun e w' => e = .returned (.agg ((tabL fun i => ofTo T (T i) 32).toArray)) ∧ Below w.heap.size w w' := by
  have HT := Aside0.mk hT
  have HP := Aside0.mk hP
  clear hT hP
  have h3 := three w (.cells (tabL T).toArray 71) (.cells ((tabL fun _ => 0).toArray) 71)
  have hB := (((Below.refl w.heap.size w).alloc (Nat.le_refl _) (.cells (tabL T).toArray 71)).alloc (by simp) (.cells ((tabL fun _ => 0).toArray) 71)).alloc (by simp; omega) (.cells ((tabL fun _ => 0).toArray) 71)
  rw [zero32] at h3 hB
  have hu := Tryd.underlying71
  have hi : (Tryd.prog.info? 71).map (·.size) = some (tabL T).length := by rw [tabL_length]; kernel_rfl
  have H3 := Aside0.mk h3
  have HB0 := Aside0.mk hB
  clear h3 hB
  go_enter Tryd.func40, Tryd.ntmps40
  go_wp2
  go_loopw [4] (fun i wr => ∃ k : Nat, k ≤ 32 ∧ i = .int .i64 k ∧ Aside0 (wr.rowIs (w.heap.size + 1 + 1) 71 32 (cur T (fun i => ofTo T (T i) 32) k)) ∧ Aside0 (wr.heap[w.heap.size]? = some (.cells (tabL T).toArray 71 (0, 0))) ∧ Aside0 (wr.heap[w.heap.size + 1]? = some (.cells ((tabL fun _ => 0).toArray) 71 (0, 0))) ∧ Aside0 (Below w.heap.size w wr)) (fun i _ => 32 - (intOf i).toNat)
  case atStart =>
    rw [← zero32] at H3
    exact ⟨0, Nat.zero_le _, rfl, ⟨(rowIs_tab _ _ _ _ H3.out.2.2.1).congr (fun i hi => rfl)⟩, ⟨H3.out.1⟩, ⟨H3.out.2.1⟩, HB0⟩
  case round =>
    clear H3 HB0
    obtain ⟨k, hk, rfl, HO, HA, HZ, HB⟩ := hrel
    by_cases hlt : k < 32
    · have hTk := HT.out k hlt
      have hcA : wr.cell? ⟨w.heap.size, k, none⟩ = some (.int .i64 (T k : Nat)) := (cell_of_row _ _ _ _ _ _ HA.out).trans (tabA_at T k hlt)
      have hrA := range_tab HA.out
      have hszO := HO.out.lt
      have HSN : w.heap.size < wr.drew.heap.size := by simp; omega
      have hcO := HO.out.cell hlt
      have hfO := HO.out.frozen k
      go_wp2
      refine start_ (n := 10) (S := fun w' => w'.rangeAt w.heap.size 0 (tabL T) ∧ w'.cell? ⟨w.heap.size, k, none⟩ = some (.int .i64 (T k : Nat))) (ds := [9]) #[false, false, false, false, false, false, false, false, false, false] (by kernel_rfl) rfl rfl ⟨hrA, hcA⟩ (fun hHeld => ?_)
      refine pure_ (i := 0) (N := some 9) (v := ?_) (a' := ?_) #[true, false, false, false, false, false, false, false, false, false] rfl rfl (by kernel_rfl) (fun _ _ _ h => h) (Or.inl ⟨by rfl, ?_⟩) ?_ ?_
      rotate_left
      · intro w'
        go_simp
        with_reducible rfl
      rotate_left
      · simp only [Act.put, List.setIfInBounds_toArray, List.set_cons_zero, List.set_cons_succ, i64_w, i32_w]
        rfl
      refine pure_ (i := 2) (N := some 11) (v := ?_) (a' := ?_) #[true, false, true, false, false, false, false, false, false, false] rfl rfl (by kernel_rfl) (fun _ _ _ h => h) (Or.inl ⟨by rfl, ?_⟩) ?_ ?_
      rotate_left
      · intro w'
        go_simp
        with_reducible rfl
      rotate_left
      · simp only [Act.put, List.setIfInBounds_toArray, List.set_cons_zero, List.set_cons_succ, i64_w, i32_w]
        rfl
      refine pure_ (i := 3) (N := some 12) (v := ?_) (a' := ?_) #[true, false, true, true, false, false, false, false, false, false] rfl rfl (by kernel_rfl) (fun _ _ _ h => h) (Or.inl ⟨by rfl, ?_⟩) ?_ ?_
      rotate_left
      · intro w'
        go_simp
        with_reducible rfl
      rotate_left
      · simp only [Act.put, List.setIfInBounds_toArray, List.set_cons_zero, List.set_cons_succ, i64_w, i32_w]
        rfl
      refine pure_ (i := 4) (N := some 13) (v := ?_) (a' := ?_) #[true, false, true, true, true, false, false, false, false, false] rfl rfl (by kernel_rfl) (fun _ _ _ h => h) (Or.inl ⟨by rfl, ?_⟩) ?_ ?_
      rotate_left
      · intro w'
        go_simp
        with_reducible rfl
      rotate_left
      · simp only [Act.put, List.setIfInBounds_toArray, List.set_cons_zero, List.set_cons_succ, i64_w, i32_w]
        rfl
      refine pure_ (i := 7) (N := some 16) (v := ?_) (a' := ?_) #[true, false, true, true, true, false, false, true, false, false] rfl rfl (by kernel_rfl) (fun _ _ _ h => h) (Or.inl ⟨by rfl, ?_⟩) ?_ ?_
      rotate_left
      · intro w'
        go_simp
        with_reducible rfl
      rotate_left
      · simp only [Act.put, List.setIfInBounds_toArray, List.set_cons_zero, List.set_cons_succ, i64_w, i32_w]
        rfl
      refine take_ (i := 1) (N := some 10) (a' := ?_) #[true, true, true, true, true, false, false, true, false, false] rfl rfl (by kernel_rfl) (fun _ _ _ h => h) (yieldsIf_load_mid (by rfl) _ _ rfl _ _ rfl _ _ (fun w h => h.1) hu rfl hi) hHeld ?_ ?_
      rotate_left
      · simp only [Act.put, List.setIfInBounds_toArray, List.set_cons_zero, List.set_cons_succ, i64_w, i32_w]
        rfl
      refine take_ (i := 5) (N := some 14) (v := ?_) (a' := ?_) #[true, true, true, true, true, true, false, true, false, false] rfl rfl (by kernel_rfl) (fun _ _ _ h => h) (Or.inl ⟨by rfl, ?_⟩) hHeld ?_ ?_
      rotate_left
      · rintro w' ⟨s0, s1⟩
        go_simp
        with_reducible rfl
      rotate_left
      · simp only [Act.put, List.setIfInBounds_toArray, List.set_cons_zero, List.set_cons_succ, i64_w, i32_w]
        rfl
      refine one_ (i := 6) (N := some 15) #[true, true, true, true, true, true, true, true, false, false] rfl rfl (by kernel_rfl) (by decide) (fun K hK => ?_)
      refine goes_ Tryd.func39 (by kernel_rfl) rfl #[.agg (tabL T).toArray, .int .i64 (T k : Nat)] (by rfl) rfl rfl (by simp only [List.map_toArray, List.map_cons, List.map_nil]; rfl) ?_
      with_reducible refine (of_any T (T k) _ HT.out hTk (HP.out.below (below_drew HB.out))).mono ?_
      rintro e w3 ⟨rfl, hb3⟩
      have hcO3 : w3.cell? ⟨w.heap.size + 1 + 1, k, none⟩ = some (cur T (fun i => ofTo T (T i) 32) k k) := (hb3.cell (p := ⟨w.heap.size + 1 + 1, k, none⟩) hszO).trans hcO
      have hfO3 : w3.frozen? ⟨w.heap.size + 1 + 1, k, none⟩ = false := (hb3.frozen (p := ⟨w.heap.size + 1 + 1, k, none⟩) hszO).trans hfO
      refine ⟨_, rfl, ?_⟩
      refine hK.out _ _ ⟨range3 hb3 HSN hrA, (hb3.cell (p := ⟨w.heap.size, k, none⟩) HSN).trans hcA⟩ (fun hHeld => ?_)
      clear hK K
      refine norm_ (a' := ?_) ?_ ?_
      rotate_left
      · show Act.put _ (some 15) _ = _
        simp only [Act.put, List.setIfInBounds_toArray, List.set_cons_zero, List.set_cons_succ, i64_w, i32_w]
        rfl
      refine pure_ (i := 8) (N := some 17) (v := ?_) (a' := ?_) #[true, true, true, true, true, true, true, true, true, false] rfl rfl (by kernel_rfl) (fun _ _ _ h => h) (Or.inl ⟨by rfl, ?_⟩) ?_ ?_
      rotate_left
      · intro w'
        go_simp
        with_reducible rfl
      rotate_left
      · simp only [Act.put, List.setIfInBounds_toArray, List.set_cons_zero, List.set_cons_succ, i64_w, i32_w]
        rfl
      refine last_ (i := 9) (N := none) #[true, true, true, true, true, true, true, true, true, true] rfl rfl (by kernel_rfl) (by decide) (fun K hK => ?_)
      refine skip_ (w1 := ?_) (by rfl) rfl ?_ ?_
      rotate_left
      · go_simp
        rfl
      refine hK.out _ _ ?_
      clear hK K
      refine done_ (by kernel_rfl) ?_
      go_wp2
      go_roundw
      case rel =>
        have hOlt := HO.out.lt
        refine ⟨k + 1, by omega, by go_num, ⟨?_⟩, ⟨?_⟩, ⟨?_⟩, ⟨?_⟩⟩
        · exact ((HO.out.of_block (hb3.block _ hszO)).set k _).congr (fun i hi => cur_next T _ k i)
        · rw [heap_setCell_other _ _ _ _ (by simp; omega)]; exact (hb3.block _ HSN).trans HA.out
        · rw [heap_setCell_other _ _ _ _ (by simp)]; exact (hb3.block (w.heap.size + 1) (by show w.heap.size + 1 < wr.heap.size; omega)).trans HZ.out
        · exact ((below_then HB.out HB.out.size (below_drew_left hb3))).setCell (by simp; omega) _
      case measure => simp [intOf]; omega
    · obtain rfl : k = 32 := by omega
      have hU := tab_of_rowIs (T := fun i => ofTo T (T i) 32) HO.out (fun i hi => by simp [cur, hi])
      have hi1 : (Tryd.prog.info? 71).map (·.size) = some (tabL fun i => ofTo T (T i) 32).toArray.size := by rw [tabA_size]; kernel_rfl
      have hth : wr.there (w.heap.size + 1) 0 (tabL fun i => ofTo T (T i) 32).toArray.size := there_tab HZ.out _ (by rw [tabA_size])
      have h1c : (tabL fun i => ofTo T (T i) 32).toArray.all (·.oneCell') = true := all_oneCell_toArray (by simp [tabL, Value.oneCell'])
      go_wp2_with (first | (refine wpList_load_row rfl 71 (.tmp 3) rfl (w.heap.size + 1 + 1) rfl 71 _ (0, 0) _ hU hu rfl hi1 ?_) | (refine wpList_store_mid rfl 71 (.tmp 2) (.tmp 18) rfl (w.heap.size + 1) 0 _ rfl rfl hth hi1 h1c ?_))
      refine bodyPost_ret (v := .agg (tabL fun i => ofTo T (T i) 32).toArray) ?_ rfl ⟨rfl, below_setCells HB.out (by omega) _ _⟩
      exact results_cell_mid (by rfl) _ _ (w.heap.size + 1) 0 _ _ (by rfl) (World.rangeAt_setCells_same _ _ _ _ (by simpa using hth)) hu rfl (by rw [tabL_length]; kernel_rfl)
end Go.Proofs.YthnobhifepnakaaDoor.StepsRef
