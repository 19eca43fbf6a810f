/- Joined texts of this claim: Take, Words, Hasher, Sum -/
import Derived.Test.YtljjpdjknnhceaaDoorJRPlc14
import Derived.Lib.LazyBuf
import Derived.Lib.SlBuf
import Derived.Test.YtljjpdjknnhceaaDoorJRPlc13
set_option linter.unusedVariables false
set_option linter.unusedSimpArgs false
/- take of the digest package: the bytes of a text, block by block. -/
set_option linter.unusedVariables false
set_option linter.unusedSimpArgs false
namespace Go.Proofs.YtljjpdjknnhceaaDoor.Take
open Go.RowKit Go.Proofs.YtljjpdjknnhceaaDoorW.PrintWords Go.Proofs.YtljjpdjknnhceaaDoorW.PrintLast Go.Proofs.YtljjpdjknnhceaaDoorW.PrintMore
open Go.Proofs.YtljjpdjknnhceaaDoor.Base Go.Proofs.YtljjpdjknnhceaaDoor.Mix
open Go.Proofs.YtljjpdjknnhceaaDoor.Md5Pure (St mdBlock Abs spl spl_length)
/-- nothing but block b was written -/
structure Only (b : Nat) (w w' : World) : Prop where mk ::
  (os : w'.os = w.os) (tape : w'.tape = w.tape) (output : w'.output = w.output) (size : w.heap.size ≤ w'.heap.size) (block : ∀ k, k < w.heap.size → k ≠ b → w'.heap[k]? = w.heap[k]?)
theorem Only.refl (b : Nat) (w : World) : Only b w w := ⟨rfl, rfl, rfl, Nat.le_refl _, fun _ _ _ => rfl⟩
theorem Only.after {b : Nat} {w w1 w2 : World} (h : Only b w w1) (k : Below w1.heap.size w1 w2) : Only b w w2 :=
  ⟨k.os.trans h.os, k.tape.trans h.tape, k.output.trans h.output, Nat.le_trans h.size k.size, fun i hi hn => (k.block i (Nat.lt_of_lt_of_le hi h.size)).trans (h.block i hi hn)⟩
theorem Only.trans {b : Nat} {w w1 w2 : World} (h : Only b w w1) (k : Only b w1 w2) : Only b w w2 :=
  ⟨k.os.trans h.os, k.tape.trans h.tape, k.output.trans h.output, Nat.le_trans h.size k.size, fun i hi hn => (k.block i (Nat.lt_of_lt_of_le hi h.size) hn).trans (h.block i hi hn)⟩
theorem Only.setCell {b : Nat} {w w1 : World} (h : Only b w w1) (i : Nat) (v : Value) : Only b w (w1.setCell ⟨b, i, none⟩ v) :=
  ⟨h.os, h.tape, h.output, by simpa [World.setCell] using h.size, fun k hk hn => by rw [heap_setCell_other _ _ _ _ (by simpa using hn)]; exact h.block k hk hn⟩
theorem Only.setCells {b : Nat} {w : World} : ∀ (vs : List Value) (o : Nat) (w1 : World), Only b w w1 → Only b w (w1.setCells b o vs)
  | [], _, _, h => h
  | v :: r, o, w1, h => Only.setCells r (o + 1) _ (h.setCell o v)
theorem Only.below {b B : Nat} {w w1 : World} (h : Only b w w1) (hb : B ≤ b) (hw : B ≤ w.heap.size) : Below B w w1 := ⟨h.os, h.tape, h.output, h.size, fun k hk => h.block k (by omega) (by omega)⟩
theorem tabs_only {b : Nat} {w w1 : World} (h : Tabs w) (k : Only b w w1) (h3 : 3 < b) (h4 : 4 < b) : Tabs w1 :=
  ⟨fun i hi => by rw [← h.sine i hi]; exact World.cell?_of_block (k.block _ h.lt3 (Nat.ne_of_lt h3)), fun i hi => by rw [← h.turn i hi]; exact World.cell?_of_block (k.block _ h.lt4 (Nat.ne_of_lt h4)), Nat.lt_of_lt_of_le h.lt3 k.size, Nat.lt_of_lt_of_le h.lt4 k.size⟩
/-- a row's cells behind setCells -/
theorem heap_setCells (b : Nat) (t : TypeId) : ∀ (vs : List Value) (o : Nat) (w : World) (L : List Value), o + vs.length ≤ L.length → w.heap[b]? = some (.cells L.toArray t (0, 0)) →
    (w.setCells b o vs).heap[b]? = some (.cells (L.take o ++ vs ++ L.drop (o + vs.length)).toArray t (0, 0))
  | [], o, w, L, _, h => by
    show w.heap[b]? = _
    rw [h]; simp
  | v :: r, o, w, L, hl, h => by
    simp only [List.length_cons] at hl
    have h1 := heap_setCell_same w b o L.toArray t v h
    rw [List.setIfInBounds_toArray] at h1
    have := heap_setCells b t r (o + 1) (w.setCell ⟨b, o, none⟩ v) (L.set o v) (by rw [List.length_set]; omega) h1
    show ((w.setCell ⟨b, o, none⟩ v).setCells b (o + 1) r).heap[b]? = _
    rw [this]
    congr 3
    have e1 : (L.set o v).take (o + 1) = L.take o ++ [v] := by
      rw [List.take_add_one, List.take_set_of_le (Nat.le_refl o)]
      simp [List.getElem?_set, show o < L.length by omega]
    have e2 : (L.set o v).drop (o + 1 + r.length) = L.drop (o + (v :: r).length) := by
      rw [List.drop_set_of_lt (by omega)]; congr 1; simp; omega
    rw [e1, e2]; simp
def stL (s : St) : List Value := [.int .u32 (s.a : Nat), .int .u32 (s.b : Nat), .int .u32 (s.c : Nat), .int .u32 (s.d : Nat)]
/-- the cells of a Hasher -/
def hC (s : St) (tl : List UInt8) (crc : Int) (cnt : Int) : List Value := stL s ++ (byteL tl ++ [.int .u32 crc, .int .i64 cnt])
theorem hC_length (s : St) (tl : List UInt8) (crc cnt : Int) (h : tl.length = 64) : (hC s tl crc cnt).length = 70 := by simp [hC, stL, byteL_length, h]
theorem hC_cnt (s : St) (tl : List UInt8) (crc cnt : Int) (h : tl.length = 64) : (hC s tl crc cnt).toArray[69]? = some (.int .i64 cnt) := by
  rw [List.getElem?_toArray]
  unfold hC
  rw [List.getElem?_append_right (by simp [stL]), List.getElem?_append_right (by rw [byteL_length, h]; simp [stL])]
  rw [byteL_length, h]; rfl
theorem hC_crc (s : St) (tl : List UInt8) (crc cnt : Int) (h : tl.length = 64) : (hC s tl crc cnt).toArray[68]? = some (.int .u32 crc) := by
  rw [List.getElem?_toArray]
  unfold hC
  rw [List.getElem?_append_right (by simp [stL]), List.getElem?_append_right (by rw [byteL_length, h]; simp [stL])]
  rw [byteL_length, h]; rfl
theorem hC_set_cnt (s : St) (tl : List UInt8) (crc cnt c : Int) (h : tl.length = 64) : (hC s tl crc cnt).toArray.setIfInBounds 69 (.int .i64 c) = (hC s tl crc c).toArray := by
  rw [List.setIfInBounds_toArray]
  unfold hC
  rw [List.set_append_right _ _ (by simp [stL]), List.set_append_right _ _ (by rw [byteL_length, h]; simp [stL]), byteL_length, h]
  rfl
theorem hC_set_crc (s : St) (tl : List UInt8) (crc cnt c : Int) (h : tl.length = 64) : (hC s tl crc cnt).toArray.setIfInBounds 68 (.int .u32 c) = (hC s tl c cnt).toArray := by
  rw [List.setIfInBounds_toArray]
  unfold hC
  rw [List.set_append_right _ _ (by simp [stL]), List.set_append_right _ _ (by rw [byteL_length, h]; simp [stL]), byteL_length, h]
  rfl
theorem hC_spl (s : St) (tl x : List UInt8) (crc cnt : Int) (k : Nat) (h : tl.length = 64) (hk : k + x.length ≤ 64) :
    (hC s tl crc cnt).take (4 + k) ++ byteL x ++ (hC s tl crc cnt).drop (4 + k + (byteL x).length) = hC s (spl tl k x) crc cnt := by
  have e4 : (stL s).length = 4 := rfl
  unfold hC spl
  rw [byteL_length, List.take_append, List.drop_append, e4, List.take_of_length_le (by rw [e4]; omega), List.drop_of_length_le (by rw [e4]; omega)]
  rw [show 4 + k - 4 = k by omega, show 4 + k + x.length - 4 = k + x.length by omega]
  rw [List.take_append_of_le_length (by rw [byteL_length]; omega), List.drop_append_of_le_length (by rw [byteL_length]; omega)]
  simp [byteL, List.map_take, List.map_drop]
theorem hC_state (s r : St) (tl : List UInt8) (crc cnt : Int) : (hC s tl crc cnt).take 0 ++ stL r ++ (hC s tl crc cnt).drop (0 + (stL r).length) = hC r tl crc cnt := by simp [hC, stL]
/-- a Hasher to which L has come -/
structure Rep (w : World) (b : Nat) (L : List UInt8) (s : St) (tl : List UInt8) (crc cnt : Int) : Prop where mk ::
  (abs : Abs s tl L) (row : w.heap[b]? = some (.cells (hC s tl crc cnt).toArray 157 (0, 0)))
theorem Rep.cnt {w : World} {b : Nat} {L : List UInt8} {s : St} {tl : List UInt8} {crc cnt : Int} (h : Rep w b L s tl crc cnt) : w.cell? ⟨b, 69, none⟩ = some (.int .i64 cnt) := (cell_of_row _ _ _ _ _ _ h.row).trans (hC_cnt _ _ _ _ h.abs.len)
theorem Rep.crc {w : World} {b : Nat} {L : List UInt8} {s : St} {tl : List UInt8} {crc cnt : Int} (h : Rep w b L s tl crc cnt) : w.cell? ⟨b, 68, none⟩ = some (.int .u32 crc) := (cell_of_row _ _ _ _ _ _ h.row).trans (hC_crc _ _ _ _ h.abs.len)
theorem Rep.lt {w : World} {b : Nat} {L : List UInt8} {s : St} {tl : List UInt8} {crc cnt : Int} (h : Rep w b L s tl crc cnt) : b < w.heap.size := by
  rcases Nat.lt_or_ge b w.heap.size with k | k
  · exact k
  · have := h.row; rw [Array.getElem?_eq_none k] at this; cases this
theorem Rep.frozen {w : World} {b : Nat} {L : List UInt8} {s : St} {tl : List UInt8} {crc cnt : Int} (h : Rep w b L s tl crc cnt) (i : Nat) : w.frozen? ⟨b, i, none⟩ = false := frozen_of_row _ _ i _ _ h.row
theorem Rep.setCnt {w : World} {b : Nat} {L : List UInt8} {s : St} {tl : List UInt8} {crc cnt : Int} (h : Rep w b L s tl crc cnt) (c : Int) : Rep (w.setCell ⟨b, 69, none⟩ (.int .i64 c)) b L s tl crc c :=
  ⟨h.abs, by rw [heap_setCell_same _ _ _ _ _ _ h.row, hC_set_cnt _ _ _ _ _ h.abs.len]⟩
theorem Rep.setCrc {w : World} {b : Nat} {L : List UInt8} {s : St} {tl : List UInt8} {crc cnt : Int} (h : Rep w b L s tl crc cnt) (c : Int) : Rep (w.setCell ⟨b, 68, none⟩ (.int .u32 c)) b L s tl c cnt :=
  ⟨h.abs, by rw [heap_setCell_same _ _ _ _ _ _ h.row, hC_set_crc _ _ _ _ _ h.abs.len]⟩
theorem Rep.after {w w1 : World} {b : Nat} {L : List UInt8} {s : St} {tl : List UInt8} {crc cnt : Int} (h : Rep w b L s tl crc cnt) (k : Below w.heap.size w w1) : Rep w1 b L s tl crc cnt := ⟨h.abs, (k.block _ h.lt).trans h.row⟩
/-- copy from a text -/
theorem run_copy_min {P : Program} (w : World) (dT sT ty elem : TypeId) (b o dLen dCap : Nat) (t : ByteArray) (n : Nat) (hn : Nat.min t.size dLen = n)
    (hu : P.underlying dT = some (.slice elem)) (hz : ∀ w, (Go.sizeOf elem).run P w = .ok 1 w)
    (hc : ∀ j, j < n → (w.cell? ⟨b, o + j, none⟩).isSome = true) (hf : ∀ j, j < n → w.frozen? ⟨b, o + j, none⟩ = false) :
    (Builtin.copy_ #[dT, sT] ty #[.slice (some ⟨b, o, none⟩) dLen dCap, .string t]).run P w = .ok (goInt n) (w.setCells b o (byteL (t.data.toList.take n))) := by
  have hl : (byteL (t.data.toList.take n)).length = n := by
    rw [byteL_length, List.length_take, ← Lib.size_eq, ← hn]; exact Nat.min_eq_left (Nat.min_le_left _ _)
  have hst := run_storeCells_cells (P := P) b o (byteL (t.data.toList.take n)) 0 w (by rw [hl]; simpa using hc) (by rw [hl]; simpa using hf) (by
    intro v hv
    obtain ⟨x, _, rfl⟩ := List.mem_map.1 hv
    rfl)
  have e : ((t.data.toList.map fun x => Value.int .u8 (x.toNat : Int)).take n) = byteL (t.data.toList.take n) := by rw [← List.map_take]; rfl
  simp [Builtin.copy_, run_underlying hu, Builtin.lenOf, Builtin.firstCells, hz, hn]
  rw [e, hst]
  rfl
theorem size_toList (d : ByteArray) : d.data.toList.length = d.size := by rw [← Lib.size_eq]
theorem extract_toList (d : ByteArray) (n : Nat) (h : n ≤ d.size) : (d.extract n d.size).data.toList = d.data.toList.drop n := by
  rw [ByteArray.data_extract, Array.toList_extract]
  simp only [List.extract_eq_take_drop]
  rw [List.take_of_length_le (by rw [List.length_drop, size_toList]; exact Nat.le_refl _)]
theorem slice_tail (b r : Nat) (hr : r < 64) (W : World) : (Instr.sliceAt 155 (.pointer (some ⟨b, 4, none⟩)) (some (.int .i64 (r : Int))) none none).run Tryd.prog W = .ok (.slice (some ⟨b, 4 + r, none⟩) (64 - r) (64 - r)) W := by
  have hso : (Tryd.prog.info? (Tryd.prog.elem 155)).isSome = true := by kernel_rfl
  have hce : Tryd.prog.cellsOf (Tryd.prog.elem 155) = 1 := by kernel_rfl
  have ha2 : Tryd.prog.arrayLen 155 = 64 := by kernel_rfl
  obtain ⟨ii, hii⟩ := Option.isSome_iff_exists.1 hso
  rw [run_sliceAt_array_l W 155 ⟨b, 4, none⟩ (by kernel_rfl) .i64 (r : Int) (by omega) (by rw [ha2]; omega)]
  rw [run_sizeOf _ hii, hce, ha2, Int.toNat_natCast]
  simp only [Result.andThen, slicedAt, Addr.add]
  rw [if_neg (by omega)]
  split <;> simp_all
theorem slice_rest (d : ByteArray) (n : Nat) (h : n ≤ d.size) (W : World) : (Instr.slice 9 (.string d) (some (.int .i64 (n : Int))) none none).run Tryd.prog W = .ok (.string (d.extract n d.size)) W := by
  rw [run_slice_string_l (P := Tryd.prog) W 9 d Tryd.underlying9 .i64 (n : Int) (by omega) (by omega), Int.toNat_natCast]
/-- the copy into a Hasher's tail -/
theorem copied {w wr : World} {b : Nat} {L : List UInt8} {st : St} {tl : List UInt8} {crc cnt : Int} (h : Rep wr b L st tl crc cnt) (hO : Only b w wr) (d : ByteArray) (n : Nat) (hn : Nat.min d.size (64 - L.length % 64) = n) (ty : TypeId) :
    ∃ w1, (Builtin.copy_ #[109, 9] ty #[.slice (some ⟨b, 4 + L.length % 64, none⟩) (64 - L.length % 64) (64 - L.length % 64), .string d]).run Tryd.prog wr = .ok (goInt n) w1 ∧ Only b w w1 ∧
      w1.heap[b]? = some (.cells (hC st (spl tl (L.length % 64) (d.data.toList.take n)) crc cnt).toArray 157 (0, 0)) := by
  have hr : L.length % 64 < 64 := Nat.mod_lt _ (by decide)
  have hnl : (d.data.toList.take n).length = n := by rw [List.length_take, size_toList, ← hn]; exact Nat.min_eq_left (Nat.min_le_left _ _)
  have hn2 : n ≤ 64 - L.length % 64 := by rw [← hn]; exact Nat.min_le_right _ _
  have hso : (Tryd.prog.info? 5).isSome = true := by kernel_rfl
  have hce : Tryd.prog.cellsOf 5 = 1 := by kernel_rfl
  obtain ⟨ii, hii⟩ := Option.isSome_iff_exists.1 hso
  refine ⟨_, run_copy_min wr 109 9 ty 5 b (4 + L.length % 64) _ _ d n hn Tryd.underlying109 (fun w => by rw [run_sizeOf _ hii, hce]) (fun j hj => ?_) (fun j hj => h.frozen _), Only.setCells _ _ _ hO, ?_⟩
  · rw [cell_of_row _ _ _ _ _ _ h.row, List.getElem?_toArray, List.getElem?_eq_getElem (by rw [hC_length _ _ _ _ h.abs.len]; omega)]; rfl
  · rw [heap_setCells b _ _ _ _ (hC st tl crc cnt) (by rw [hC_length _ _ _ _ h.abs.len, byteL_length, hnl]; omega) h.row, hC_spl _ _ _ _ _ _ h.abs.len (by rw [hnl]; omega)]
theorem st_range {w : World} {b : Nat} {t : TypeId} {st : St} {tl : List UInt8} {crc cnt : Int} (h : w.heap[b]? = some (.cells (hC st tl crc cnt).toArray t (0, 0))) : w.rangeAt b 0 (stL st) := by
  intro j v hv
  rw [cell_of_row _ _ _ _ _ _ h, List.getElem?_toArray, Nat.zero_add]
  have hj : j < (stL st).length := by
    rcases Nat.lt_or_ge j (stL st).length with k | k
    · exact k
    · rw [List.getElem?_eq_none k] at hv; cases hv
  unfold hC
  rw [List.getElem?_append_left hj]; exact hv
theorem tl_range {w : World} {b : Nat} {t : TypeId} {st : St} {tl : List UInt8} {crc cnt : Int} (h : w.heap[b]? = some (.cells (hC st tl crc cnt).toArray t (0, 0))) : w.rangeAt b 4 (byteL tl) := by
  intro j v hv
  rw [cell_of_row _ _ _ _ _ _ h, List.getElem?_toArray]
  have hj : j < (byteL tl).length := by
    rcases Nat.lt_or_ge j (byteL tl).length with k | k
    · exact k
    · rw [List.getElem?_eq_none k] at hv; cases hv
  unfold hC
  rw [List.getElem?_append_right (by simp [stL]), List.getElem?_append_left (by simp [stL]; omega)]
  rw [show 4 + j - (stL st).length = j by simp [stL]]; exact hv
theorem st_there {w : World} {b : Nat} {t : TypeId} {st : St} {tl : List UInt8} {crc cnt : Int} (h : w.heap[b]? = some (.cells (hC st tl crc cnt).toArray t (0, 0))) : w.there b 0 4 := by
  intro j hj
  rw [Nat.zero_add]
  refine ⟨?_, frozen_of_row _ _ j _ _ h⟩
  rw [cell_of_row _ _ _ _ _ _ h, List.getElem?_toArray, List.getElem?_eq_getElem (by simp [hC, stL]; omega)]; rfl
theorem state_set {w : World} {b : Nat} {t : TypeId} {st r : St} {tl : List UInt8} {crc cnt : Int} (h : w.heap[b]? = some (.cells (hC st tl crc cnt).toArray t (0, 0))) : (w.setCells b 0 (stL r)).heap[b]? = some (.cells (hC r tl crc cnt).toArray t (0, 0)) := by
  rw [heap_setCells b t _ _ _ (hC st tl crc cnt) (by simp [hC, stL]) h, hC_state]
theorem stL_one (r : St) : (stL r).toArray.all (·.oneCell') = true := all_oneCell_toArray (by simp [stL, Value.oneCell'])
theorem mix_L (s : St) (l : List UInt8) (w : World) (hs : s.ok) (hl : l.length = 64) (hT : Tabs w) :
    Calls Tryd.prog 86 #[.agg (stL s).toArray, .agg (byteL l).toArray] w fun e w' => e = .returned (.agg (stL (mdBlock s l)).toArray) ∧ Below w.heap.size w w' := mix_any s l w hs hl hT
section
variable {P : Program} {ops : Array Oper} {o : Oper} {a : Act} {Q : Exit → Act → World → Prop} {K : Act → World → Prop} {E : Prop}
theorem step_store_mid {W : World} (hw : Region.wanted o (yielded ops a.tmps) = true) (ty : TypeId) (x y : Operand) (ho : o.op = .store ty x y) (b off : Nat) (cs : List Value) (hx : a.eval x = .pointer (some ⟨b, off, none⟩)) (hy : a.eval y = .agg cs.toArray)
    (ht : W.there b off cs.length) (hi : (P.info? ty).map (·.size) = some cs.length) (h1 : cs.toArray.all (·.oneCell') = true) (h : K (a.put o.dst undef) (W.setCells b off cs)) : if Region.wanted o (yielded ops a.tmps) = true then Oper.wp P o a W K Q else E := by
  rw [if_pos hw]
  exact wp_store_mid ty x y ho b off cs.toArray hx hy (by simpa using ht) (by simpa using hi) h1 (by simpa using h)
end
def strSz : Value → Nat
  | .string d => d.size
  | _ => 0
set_option maxRecDepth 100000 in
set_option maxHeartbeats 4000000 in
theorem take_any (b : Nat) (L : List UInt8) (st : St) (tl : List UInt8) (crc : Int) (s : ByteArray) (w : World) (hR : Rep w b L st tl crc L.length) (hT : Tabs w) (h3 : 3 < b) (h4 : 4 < b) (hn : L.length + s.size ≤ 4611686018427387904) :
    Calls Tryd.prog 60 #[.pointer (some ⟨b, 0, none⟩), .string s] w fun e w' => e = .returned (.tuple #[]) ∧ Only b w w' ∧ ∃ st' tl', Rep w' b (L ++ s.data.toList) st' tl' crc ((L ++ s.data.toList).length : Nat) := by
  have HT := Aside0.mk hT
  have HR := Aside0.mk hR
  have hcn := hR.cnt
  have hfn := hR.frozen 69
  have HB := Aside0.mk (And.intro h3 h4)
  clear hT hR h3 h4
  go_enter Tryd.func60, Tryd.ntmps60
  go_wp2
  have HR1 := Aside0.mk (HR.out.setCnt ((L.length : Int) + (s.size : Int)))
  have HO1 := Aside0.mk ((Only.refl b w).setCell 69 (.int .i64 ((L.length : Int) + (s.size : Int))))
  clear HR hcn hfn
  generalize w.setCell ⟨b, 69, none⟩ (.int .i64 ((L.length : Int) + (s.size : Int))) = ws at HR1 HO1 ⊢
  go_loopw [1, 4] (fun v1 v4 wr => ∃ (d : ByteArray) (x : List UInt8) (st1 : St) (tl1 : List UInt8), v1 = .string d ∧ v4 = .int .i64 (((L ++ x).length % 64 : Nat) : Int) ∧ Aside0 (x ++ d.data.toList = s.data.toList) ∧ Aside0 (Rep wr b (L ++ x) st1 tl1 crc ((L.length : Int) + (s.size : Int))) ∧ Aside0 (Only b w wr)) (fun v1 v4 _ => strSz v1)
  case atStart => exact ⟨s, [], st, tl, rfl, by rw [List.append_nil]; rfl, ⟨rfl⟩, ⟨by rw [List.append_nil]; exact HR1.out⟩, HO1⟩
  case round =>
    clear HR1 HO1
    obtain ⟨d, x, st1, tl1, rfl, rfl, HX, HR, HO⟩ := hrel
    obtain ⟨wo, rfl⟩ : ∃ wo : World, wo = wr := ⟨_, rfl⟩
    have hr : (L ++ x).length % 64 < 64 := Nat.mod_lt _ (by decide)
    have HRr := Aside0.mk (show ∀ y, (L ++ x).length % 64 + y < 64 → ((L ++ x).length + y) % 64 = (L ++ x).length % 64 + y from fun y hy => by omega)
    have HRf := Aside0.mk (show ∀ y, (L ++ x).length % 64 + y = 64 → ((L ++ x).length + y) % 64 = 0 from fun y hy => by omega)
    by_cases hd : 0 < d.size
    · obtain ⟨n, hn⟩ : ∃ n, Nat.min d.size (64 - (L ++ x).length % 64) = n := ⟨_, rfl⟩
      obtain ⟨w1, hcp, hO1, hw1⟩ := copied HR.out HO.out d n hn 3
      have hnd : n ≤ d.size := by rw [← hn]; exact Nat.min_le_left _ _
      have hnr : n ≤ 64 - (L ++ x).length % 64 := by rw [← hn]; exact Nat.min_le_right _ _
      have hn0 : 0 < n := by rw [← hn]; exact Nat.lt_min.2 ⟨hd, by omega⟩
      have HA := Aside0.mk HR.out.abs
      have HN := Lib.hid hn
      have HW1 := Lib.hid hw1
      have HO1 := Aside0.mk hO1
      have hnl : (d.data.toList.take n).length = n := by rw [List.length_take, size_toList]; exact Nat.min_eq_left hnd
      have HNL := Lib.hid hnl
      have hszE : (d.extract n d.size).size = d.size - n := by rw [← size_toList, extract_toList d n hnd, List.length_drop, size_toList]
      have HSZ := Lib.hid hszE
      clear hn hw1 hO1 HO HR hnl hszE
      have hsl := slice_tail b ((L ++ x).length % 64) hr
      have hss := slice_rest d n hnd
      have HX1 : Aside0 ((x ++ d.data.toList.take n) ++ (d.extract n d.size).data.toList = s.data.toList) := ⟨by rw [extract_toList d n hnd, List.append_assoc, List.take_append_drop]; exact HX.out⟩
      have HLE : Aside0 (L ++ (x ++ d.data.toList.take n) = (L ++ x) ++ d.data.toList.take n) := ⟨(List.append_assoc _ _ _).symm⟩
      have HLL : Aside0 ((L ++ (x ++ d.data.toList.take n)).length = (L ++ x).length + n) := ⟨by rw [HLE.out]; exact (List.length_append).trans (by rw [HNL.out])⟩
      by_cases hf : (L ++ x).length % 64 + n = 64
      · have HAf := Aside0.mk (HA.out.full (d.data.toList.take n) (by rw [HNL.out]; exact hf))
        have hfr : (L ++ (x ++ d.data.toList.take n)).length % 64 = 0 := by rw [HLL.out]; exact HRf.out n hf
        have HFR := Aside0.mk hfr
        have hlt2 := spl_length tl1 ((L ++ x).length % 64) (d.data.toList.take n) (by rw [HNL.out, HA.out.len]; omega)
        rw [HA.out.len] at hlt2
        clear hfr
        generalize spl tl1 ((L ++ x).length % 64) (d.data.toList.take n) = tl2 at HW1 HAf hlt2
        have HL2 := Aside0.mk hlt2
        clear hlt2
        generalize (L ++ x).length % 64 = r at hr hsl hcp hnr hf HRr HRf HN ⊢
        have hbe : ((r : Int) + (n : Int) == 64) = true := by rw [beq_iff_eq]; omega
        have hrS := st_range HW1.out
        have hrT := tl_range HW1.out
        have hok := HA.out.ok
        have HTd : Tabs w1.drew := (tabs_only HT.out HO1.out HB.out.1 HB.out.2).below (below_drew (Below.refl _ _))
        have hblt : b < w1.drew.heap.size := by
          show b < w1.heap.size
          rcases Nat.lt_or_ge b w1.heap.size with k | k
          · exact k
          · have := HW1.out; rw [Array.getElem?_eq_none k] at this; cases this
        have hu81 := Tryd.underlying154
        have hu82 := Tryd.underlying155
        have hi81 : (Tryd.prog.info? 154).map (·.size) = some (stL st1).length := by show _ = some 4; kernel_rfl
        have hi4 : (Tryd.prog.info? 154).map (·.size) = some (stL (mdBlock st1 tl2)).length := by show _ = some 4; kernel_rfl
        have hi82 : (Tryd.prog.info? 155).map (·.size) = some (byteL tl2).length := by rw [byteL_length, HL2.out]; kernel_rfl
        have h1c := stL_one (mdBlock st1 tl2)
        have hl2 := HL2.out
        go_wp2_with (at_builtin; refine Lib.wpList_copy_run _ rfl _ _ 109 9 rfl _ _ rfl rfl hcp ?_)
        refine start_ (n := 13) (S := fun w' => w'.rangeAt b 0 (stL st1) ∧ w'.rangeAt b 4 (byteL tl2)) (ds := [12]) #[false, false, false, false, false, false, false, false, false, false, false, false, false] (by kernel_rfl) rfl rfl ⟨hrS, hrT⟩ (fun hHeld => ?_)
        refine pure_ (i := 0) (N := some 38) (v := ?_) (a' := ?_) #[true, false, false, false, false, false, false, false, false, false, false, false, false] rfl rfl (by kernel_rfl) (fun _ _ _ h => h) (Or.inl ⟨by rfl, ?_⟩) ?_ ?_
        rotate_left
        · intro w'
          go_simp
          with_reducible rfl
        rotate_left
        · simp only [Act.put, List.setIfInBounds_toArray, List.set_cons_zero, List.set_cons_succ, i64_w, i32_w]
          rfl
        refine pure_ (i := 1) (N := some 39) (v := ?_) (a' := ?_) #[true, true, false, false, false, false, false, false, false, false, false, false, false] rfl rfl (by kernel_rfl) (fun _ _ _ h => h) (Or.inl ⟨by rfl, ?_⟩) ?_ ?_
        rotate_left
        · intro w'
          go_simp
          with_reducible rfl
        rotate_left
        · simp only [Act.put, List.setIfInBounds_toArray, List.set_cons_zero, List.set_cons_succ, i64_w, i32_w]
          rfl
        refine pure_ (i := 2) (N := some 40) (v := ?_) (a' := ?_) #[true, true, true, false, false, false, false, false, false, false, false, false, false] rfl rfl (by kernel_rfl) (fun _ _ _ h => h) (Or.inl ⟨by rfl, ?_⟩) ?_ ?_
        rotate_left
        · intro w'
          go_simp
          with_reducible rfl
        rotate_left
        · simp only [Act.put, List.setIfInBounds_toArray, List.set_cons_zero, List.set_cons_succ, i64_w, i32_w]
          rfl
        refine pure_ (i := 3) (N := some 41) (v := ?_) (a' := ?_) #[true, true, true, true, false, false, false, false, false, false, false, false, false] rfl rfl (by kernel_rfl) (fun _ _ _ h => h) (Or.inl ⟨by rfl, ?_⟩) ?_ ?_
        rotate_left
        · intro w'
          go_simp
          with_reducible rfl
        rotate_left
        · simp only [Act.put, List.setIfInBounds_toArray, List.set_cons_zero, List.set_cons_succ, i64_w, i32_w]
          rfl
        refine pure_ (i := 5) (N := some 43) (v := ?_) (a' := ?_) #[true, true, true, true, false, true, false, false, false, false, false, false, false] rfl rfl (by kernel_rfl) (fun _ _ _ h => h) (Or.inl ⟨by rfl, ?_⟩) ?_ ?_
        rotate_left
        · intro w'
          go_simp
          with_reducible rfl
        rotate_left
        · simp only [Act.put, List.setIfInBounds_toArray, List.set_cons_zero, List.set_cons_succ, i64_w, i32_w]
          rfl
        refine pure_ (i := 6) (N := some 44) (v := ?_) (a' := ?_) #[true, true, true, true, false, true, true, false, false, false, false, false, false] rfl rfl (by kernel_rfl) (fun _ _ _ h => h) (Or.inl ⟨by rfl, ?_⟩) ?_ ?_
        rotate_left
        · intro w'
          go_simp
          with_reducible rfl
        rotate_left
        · simp only [Act.put, List.setIfInBounds_toArray, List.set_cons_zero, List.set_cons_succ, i64_w, i32_w]
          rfl
        refine pure_ (i := 7) (N := some 45) (v := ?_) (a' := ?_) #[true, true, true, true, false, true, true, true, false, false, false, false, false] rfl rfl (by kernel_rfl) (fun _ _ _ h => h) (Or.inl ⟨by rfl, ?_⟩) ?_ ?_
        rotate_left
        · intro w'
          go_simp
          with_reducible rfl
        rotate_left
        · simp only [Act.put, List.setIfInBounds_toArray, List.set_cons_zero, List.set_cons_succ, i64_w, i32_w]
          rfl
        refine take_ (i := 4) (N := some 42) (a' := ?_) #[true, true, true, true, true, true, true, true, false, false, false, false, false] rfl rfl (by kernel_rfl) (fun _ _ _ h => h) (yieldsIf_load_mid (by rfl) _ _ rfl _ _ rfl _ _ (fun w h => h.1) hu81 rfl hi81) hHeld ?_ ?_
        rotate_left
        · simp only [Act.put, List.setIfInBounds_toArray, List.set_cons_zero, List.set_cons_succ, i64_w, i32_w]
          rfl
        refine take_ (i := 8) (N := some 46) (a' := ?_) #[true, true, true, true, true, true, true, true, true, false, false, false, false] rfl rfl (by kernel_rfl) (fun _ _ _ h => h) (yieldsIf_load_mid (by rfl) _ _ rfl _ _ rfl _ _ (fun w h => h.2) hu82 rfl hi82) hHeld ?_ ?_
        rotate_left
        · simp only [Act.put, List.setIfInBounds_toArray, List.set_cons_zero, List.set_cons_succ, i64_w, i32_w]
          rfl
        refine one_ (i := 9) (N := some 47) #[true, true, true, true, true, true, true, true, true, true, false, false, false] rfl rfl (by kernel_rfl) (by decide) (fun K hK => ?_)
        refine goes_ Tryd.func86 (by kernel_rfl) rfl #[.agg (stL st1).toArray, .agg (byteL tl2).toArray] (by rfl) rfl rfl (by simp only [List.map_toArray, List.map_cons, List.map_nil]; rfl) ?_
        with_reducible refine (mix_L st1 tl2 w1.drew hok hl2 HTd).mono ?_
        rintro e w3 ⟨rfl, hb3⟩
        have hr3 := (hb3.block b hblt).trans HW1.out
        have hth3 := st_there hr3
        refine ⟨_, rfl, ?_⟩
        refine hK.out _ _ ⟨st_range hr3, tl_range hr3⟩ (fun hHeld => ?_)
        clear hK K
        refine norm_ (a' := ?_) ?_ ?_
        rotate_left
        · show Act.put _ (some 47) _ = _
          simp only [Act.put, List.setIfInBounds_toArray, List.set_cons_zero, List.set_cons_succ, i64_w, i32_w]
          rfl
        refine pure_ (i := 10) (N := some 48) (v := ?_) (a' := ?_) #[true, true, true, true, true, true, true, true, true, true, true, false, false] rfl rfl (by kernel_rfl) (fun _ _ _ h => h) (Or.inl ⟨by rfl, ?_⟩) ?_ ?_
        rotate_left
        · intro w'
          go_simp
          with_reducible rfl
        rotate_left
        · simp only [Act.put, List.setIfInBounds_toArray, List.set_cons_zero, List.set_cons_succ, i64_w, i32_w]
          rfl
        refine pure_ (i := 11) (N := some 49) (v := ?_) (a' := ?_) #[true, true, true, true, true, true, true, true, true, true, true, true, false] rfl rfl (by kernel_rfl) (fun _ _ _ h => h) (Or.inl ⟨by rfl, ?_⟩) ?_ ?_
        rotate_left
        · intro w'
          go_simp
          with_reducible rfl
        rotate_left
        · simp only [Act.put, List.setIfInBounds_toArray, List.set_cons_zero, List.set_cons_succ, i64_w, i32_w]
          rfl
        refine last_ (i := 12) (N := none) #[true, true, true, true, true, true, true, true, true, true, true, true, true] rfl rfl (by kernel_rfl) (by decide) (fun K hK => ?_)
        refine step_store_mid (by rfl) 154 (.tmp 49) (.tmp 47) rfl b 0 (stL (mdBlock st1 tl2)) rfl rfl hth3 hi4 h1c ?_
        refine hK.out _ _ ?_
        clear hK K
        refine done_ (by kernel_rfl) ?_
        go_wp2
        go_roundw
        case rel =>
          refine ⟨_, x ++ d.data.toList.take n, mdBlock st1 tl2, tl2, rfl, by rw [HFR.out]; rfl, HX1, ⟨by rw [HLE.out]; exact HAf.out, state_set hr3⟩, ⟨?_⟩⟩
          exact Only.setCells _ _ _ (HO1.out.after (below_drew_left hb3))
        case measure => simp only [strSz]; rw [HSZ.out]; omega
      · have HAp := Aside0.mk (HA.out.part (d.data.toList.take n) (by rw [HNL.out]; omega))
        have hfr : (L ++ (x ++ d.data.toList.take n)).length % 64 = (L ++ x).length % 64 + n := by rw [HLL.out]; exact HRr.out n (by omega)
        have HFR := Aside0.mk hfr
        clear hfr
        generalize spl tl1 ((L ++ x).length % 64) (d.data.toList.take n) = tl2 at HW1 HAp
        generalize (L ++ x).length % 64 = r at hr hsl hcp hnr hf HRr HRf HN HFR ⊢
        have hbe : ((r : Int) + (n : Int) == 64) = false := by rw [beq_eq_false_iff_ne]; omega
        go_wp2_with (at_builtin; refine Lib.wpList_copy_run _ rfl _ _ 109 9 rfl _ _ rfl rfl hcp ?_)
        go_roundw
        case rel => exact ⟨_, x ++ d.data.toList.take n, st1, tl2, rfl, by rw [HFR.out]; rfl, HX1, ⟨by rw [HLE.out]; exact HAp.out, HW1.out⟩, HO1⟩
        case measure => simp only [strSz]; rw [HSZ.out]; omega
    · have hd0 : d.data.toList = [] := List.eq_nil_of_length_eq_zero (by rw [size_toList]; omega)
      have HXe : Aside0 (x = s.data.toList) := ⟨by have := HX.out; rw [hd0, List.append_nil] at this; exact this⟩
      clear hd0
      go_wp2
      go_end0
      refine ⟨rfl, HO.out, st1, tl1, ?_⟩
      have hq := HR.out
      rw [HXe.out] at hq
      rw [List.length_append, size_toList]
      exact hq
end Go.Proofs.YtljjpdjknnhceaaDoor.Take

/- words and NewHasher of the digest package. -/
set_option linter.unusedVariables false
set_option linter.unusedSimpArgs false
namespace Go.Proofs.YtljjpdjknnhceaaDoor.Words
open Go.RowKit Go.Proofs.YtljjpdjknnhceaaDoorW.PrintWords Go.Proofs.YtljjpdjknnhceaaDoorW.PrintLast Go.Proofs.YtljjpdjknnhceaaDoorW.PrintMore
open Go.Proofs.YtljjpdjknnhceaaDoor.Base Go.Proofs.YtljjpdjknnhceaaDoor.Mix Go.Proofs.YtljjpdjknnhceaaDoor.Take
open Go.Proofs.YtljjpdjknnhceaaDoor.Md5Pure (St mdBlock Abs spl spl_length told bytes4)
section
variable {P : Program} {ops : Array Oper} {rest : List Oper} {o : Oper} {a : Act} {Q : Exit → Act → World → Prop}
/-- append of a made slice, in a region that draws nothing -/
theorem list_append_at {w0 W : World} (base : Nat) (hgd : o.guard = none) (s x : Operand) (t e : TypeId) (z : Value) (bytes : Nat)
    (ho : o.op = .call { callee := .builtin .append, args := #[s, x], argTypes := #[t, t] })
    (ht : P.underlying t = some (.slice e)) (hinfo : (P.info? e).map (fun i => (i.zero, i.size, i.bytes)) = some (some z, 1, bytes)) (hz : z.cells.size = 1) (hb0 : 0 < bytes)
    (v : Value) (n : Nat) (xs : List Value) (b m c : Nat) (ys : List Value) (hs : a.eval s = v) (hx : a.eval x = .slice (some ⟨b, 0, none⟩) m c) (hm : ys.length = m) (h1 : ∀ u ∈ ys, u.oneCell' = true)
    (hc : ∀ j u, ys[j]? = some u → W.cell? ⟨b, j, none⟩ = some u)
    (HO : W.ownsRow base e 1 v n xs) (HB : Below base w0 W) (hbase : base ≤ W.heap.size) (hl : (n + m) * bytes ≤ 140737488355328)
    (h : ∀ v1 w1, w1.ownsRow base e 1 v1 (n + m) (xs ++ ys) → Below base w0 w1 → W.grownBy w1 v.ownBlock → wpList P ops Q rest (a.put o.dst v1) w1) :
    wpList P ops Q (o :: rest) a W := by
  obtain ⟨i0, hi, hzz⟩ := Option.map_eq_some_iff.1 hinfo
  simp only [Prod.mk.injEq] at hzz
  obtain ⟨hz0, hz1, hz2⟩ := hzz
  have hlen : n + m ≤ 140737488355328 := Nat.le_trans (Nat.le_mul_of_pos_right _ hb0) hl
  obtain ⟨v1, w1, hr, hown, hg, _⟩ := run_append_own (P := P) W base t o.type e i0 z 1 bytes ht hi hz0 hz1 hz2 hz (by decide) v n xs HO ⟨b, 0, none⟩ m c ys (by rw [hm, Nat.mul_one])
    (by intro j u hj; have := hc j u hj; have e : (⟨b, 0, none⟩ : Addr).add j = ⟨b, j, none⟩ := by unfold Addr.add; split <;> simp_all
        rw [e]; exact this) h1 (by simp only [maxLen]; omega) hl hbase
  refine wpList_plain hgd fun K hK => ?_
  unfold Oper.wp execOp
  simp only [ho, resolve, invoke, builtin, Sem.run_bind, Sem.run_pure, Result.andThen_ok, List.map_toArray, List.map_cons, List.map_nil, hs, hx, hr]
  exact hK _ _ (h v1 w1 hown (HB.grown hg hbase (own_base HO)) hg)
end
theorem news (w : World) (ys : List Value) (e : TypeId) : ∀ j u, ys[j]? = some u → (w.alloc (.cells ys.toArray e)).cell? ⟨w.heap.size, j, none⟩ = some u := by
  intro j u hj
  rw [cell_of_row _ _ _ _ _ _ (Go.heap_alloc_new w (.cells ys.toArray e)), List.getElem?_toArray]; exact hj
def strOf (l : List UInt8) : ByteArray := ⟨l.toArray⟩
theorem strOf_toList (l : List UInt8) : (strOf l).data.toList = l := rfl
theorem strOf_size (l : List UInt8) : (strOf l).size = l.length := rfl
theorem strOf_data (s : ByteArray) : strOf s.data.toList = s := rfl
def comp (s : St) (i : Nat) : Nat := if i = 0 then s.a else if i = 1 then s.b else if i = 2 then s.c else s.d
def b4 (x : Nat) : List Int := [((x % 256 : Nat) : Int), ((x / 256 % 256 : Nat) : Int), ((x / 65536 % 256 : Nat) : Int), ((x / 16777216 % 256 : Nat) : Int)]
def toldI (s : St) : Nat → List Int
  | 0 => []
  | k + 1 => toldI s k ++ b4 (comp s k)
theorem toldI_length (s : St) (k : Nat) : (toldI s k).length = 4 * k := by
  induction k with
  | zero => rfl
  | succ k ih => simp [toldI, b4, ih]; omega
theorem b4_bytes (x : Nat) : (b4 x).map (fun n : Int => UInt8.ofNat n.toNat) = bytes4 x := rfl
theorem toldI_str (s : St) : strOfNums (toldI s 4) = strOf (told s) := by
  have e : (toldI s 4).map (fun n : Int => UInt8.ofNat n.toNat) = told s := by
    show (((([] ++ b4 s.a) ++ b4 s.b) ++ b4 s.c) ++ b4 s.d).map (fun n : Int => UInt8.ofNat n.toNat) = told s
    simp only [List.map_append, b4_bytes, List.map_nil, List.nil_append]
    rfl
  unfold strOfNums strOf
  rw [e]
theorem comp_lt (s : St) (h : s.ok) (i : Nat) : comp s i < 4294967296 := by
  unfold comp
  split
  · exact h.1
  · split
    · exact h.2.1
    · split
      · exact h.2.2.1
      · exact h.2.2.2
theorem index_st (s : St) (k : Nat) (w : World) (h : k < 4) : (Instr.index 154 (.agg (stL s).toArray) (.int .i64 (k : Int))).run Tryd.prog w = .ok (.int .u32 (comp s k : Nat)) w := by
  have hso : (Tryd.prog.info? 153).isSome = true := by kernel_rfl
  have hce : Tryd.prog.cellsOf 153 = 1 := by kernel_rfl
  obtain ⟨ii, hii⟩ := Option.isSome_iff_exists.1 hso
  have hlt : (k : Int) < 4 := by omega
  have hat : (stL s)[k]? = some (.int .u32 (comp s k : Nat)) := by
    have e : k = 0 ∨ k = 1 ∨ k = 2 ∨ k = 3 := by omega
    rcases e with e | e | e | e <;> subst e <;> rfl
  simp [Instr.index, run_underlying Tryd.underlying154, asIntOf, run_sizeOf _ hii, hce, part, run_underlying Tryd.underlying153, hlt, hat]
  intro hge; omega
set_option maxRecDepth 100000 in
set_option maxHeartbeats 4000000 in
theorem words_any (s : St) (w : World) (hs : s.ok) : Calls Tryd.prog 87 #[.agg (stL s).toArray] w fun e w' => e = .returned (.string (strOf (told s))) ∧ Below w.heap.size w w' := by
  have hmk := make_cap (P := Tryd.prog) 109 5 (.int .u8 0) 1 Tryd.underlying109 info8 rfl 16 (by omega) (by omega) (by omega)
  have hsz1 : (w.alloc (.cells (stL s).toArray 154)).heap.size = w.heap.size + 1 := by simp
  have hm := made_owns (w.alloc (.cells (stL s).toArray 154)) (.int .u8 0) rfl 16 (by simp only [maxLen]; omega) 5
  rw [hsz1] at hm
  have HM := Aside0.mk hm
  have HBm := Aside0.mk ((Below.refl (w.heap.size + 1) (w.alloc (.cells (stL s).toArray 154))).alloc (by rw [hsz1]; exact Nat.le_refl _) (.cells (madeCells (Value.int .u8 0).cells 16) 5))
  have HB0 := Aside0.mk ((Below.refl w.heap.size w).alloc (Nat.le_refl _) (.cells (stL s).toArray 154))
  clear hm hsz1
  have HS := Aside0.mk hs
  clear hs
  have hrg : ((w.alloc (.cells (stL s).toArray 154)).alloc (.cells (madeCells (Value.int .u8 0).cells 16) 5)).rangeAt w.heap.size 0 (stL s) := by
    intro j v hv
    rw [Nat.zero_add, cell_of_row _ _ _ _ _ _ ((Go.heap_alloc_old _ _ (by simp)).trans (Go.heap_alloc_new w (.cells (stL s).toArray 154))), List.getElem?_toArray]; exact hv
  have hi81 : (Tryd.prog.info? 154).map (·.size) = some (stL s).length := by show _ = some 4; kernel_rfl
  go_enter Tryd.func87, Tryd.ntmps87
  go_wp2_with ((with_reducible refine gate_load (ty := 154) (x := .tmp 1) rfl ?_); refine wpList_load_mid rfl 154 (.tmp 1) rfl w.heap.size 0 rfl (stL s) _ hrg Tryd.underlying154 rfl hi81 ?_)
  clear hmk hrg hi81
  go_loopw [3, 8] (fun v i wr => ∃ k : Nat, k ≤ 4 ∧ i = .int .i64 k ∧ Aside0 (wr.ownsRow (w.heap.size + 1) 5 1 v (toldI s k).length (nums .u8 (toldI s k))) ∧ Aside0 (Below (w.heap.size + 1) (w.alloc (.cells (stL s).toArray 154)) wr)) (fun _ i _ => 4 - (intOf i).toNat)
  case atStart => exact ⟨0, Nat.zero_le _, rfl, HM, HBm⟩
  case round =>
    clear HM HBm
    obtain ⟨k, hk, rfl, HO, HB⟩ := hrel
    obtain ⟨wo, rfl⟩ : ∃ wo : World, wo = wr := ⟨_, rfl⟩
    by_cases hlt : k < 4
    · have hix := index_st s k wo hlt
      have hcl := comp_lt s HS.out k
      have HN := Lib.hid (show toldI s (k + 1) = toldI s k ++ b4 (comp s k) from rfl)
      have HL := Lib.hid (toldI_length s k)
      generalize comp s k = c at hix hcl HN
      have hnew := news wo [.int .u8 ((c : Int) % 256), .int .u8 ((c : Int) / 256 % 256), .int .u8 ((c : Int) / 65536 % 256), .int .u8 ((c : Int) / 16777216)] 5
      have hsz := HB.out.size
      have hsz2 : w.heap.size + 1 ≤ wo.heap.size := by simpa using hsz
      have HZ := Aside0.mk hsz2
      clear hsz hsz2
      have hb4 : nums .u8 (b4 c) = [.int .u8 ((c : Int) % 256), .int .u8 ((c : Int) / 256 % 256), .int .u8 ((c : Int) / 65536 % 256), .int .u8 ((c : Int) / 16777216)] := by
        unfold b4 nums
        simp only [List.map_cons, List.map_nil]
        rw [show ((c / 16777216 % 256 : Nat) : Int) = (c : Int) / 16777216 by omega]
        rfl
      have HB4 := Lib.hid hb4
      clear hb4
      go_wp2_with (at_builtin; go_loud (refine list_append_at (P := Tryd.prog) (w0 := w.alloc (.cells (stL s).toArray 154)) (w.heap.size + 1) rfl (.tmp 11) (.tmp 23) 109 5 (.int .u8 0) 1 rfl Tryd.underlying109 info8 rfl (by decide) _ (toldI s k).length (nums .u8 (toldI s k)) wo.heap.size 4 4 [.int .u8 ((c : Int) % 256), .int .u8 ((c : Int) / 256 % 256), .int .u8 ((c : Int) / 65536 % 256), .int .u8 ((c : Int) / 16777216)] rfl rfl rfl ?h1 ?hc (HO.out.alloc _) (HB.out.alloc HZ.out _) ?hs ?hl ?_); (case h1 => simp [Value.oneCell']); (case hc => exact hnew); (case hs => have := HZ.out; simp; omega); (case hl => rw [HL.out]; omega); intro v1 w1 HO1 HB1 _)
      go_roundw
      case rel => exact ⟨k + 1, by omega, by go_num, ⟨by rw [HN.out, nums_append, List.length_append, HB4.out]; exact HO1⟩, ⟨HB1⟩⟩
      case measure => simp [intOf]; omega
    · have hcv := own_string (P := Tryd.prog) Tryd.underlying109 Tryd.underlying5 Tryd.underlying9 HO.out
      obtain rfl : k = 4 := by omega
      rw [toldI_str] at hcv
      go_wp2
      go_ret
      exact ⟨rfl, HB0.out.trans (HB.out.mono (by omega))⟩
end Go.Proofs.YtljjpdjknnhceaaDoor.Words

/- NewHasher and the methods of Hasher in the digest package. -/
set_option linter.unusedVariables false
set_option linter.unusedSimpArgs false
namespace Go.Proofs.YtljjpdjknnhceaaDoor.Hasher
open Go.RowKit Go.Proofs.YtljjpdjknnhceaaDoorW.PrintWords Go.Proofs.YtljjpdjknnhceaaDoorW.PrintLast Go.Proofs.YtljjpdjknnhceaaDoorW.PrintMore
open Go.Proofs.YtljjpdjknnhceaaDoor.Base Go.Proofs.YtljjpdjknnhceaaDoor.Mix Go.Proofs.YtljjpdjknnhceaaDoor.Take Go.Proofs.YtljjpdjknnhceaaDoor.Words
open Go.Proofs.YtljjpdjknnhceaaDoor.Md5Pure (St mdBlock Abs spl spl_length told bytes4 md5 first padN len8)
open Go.Proofs.YtljjpdjknnhceaaDoor.CrcPure (run crc run_append run_lt crc_lt top xor_top)
/-- what the program laid down -/
structure Glob (w : World) : Prop where mk ::
  (tabs : Tabs w) (first : w.rangeAt 2 0 (stL first))
theorem Glob.lt1 {w : World} (h : Glob w) : 2 < w.heap.size := Nat.lt_trans (by decide) h.tabs.lt4
theorem Glob.below {w w1 : World} (h : Glob w) (hb : Below w.heap.size w w1) : Glob w1 :=
  ⟨h.tabs.below hb, fun j v hv => (hb.cell (p := ⟨2, 0 + j, none⟩) h.lt1).trans (h.first j v hv)⟩
theorem Glob.only {b : Nat} {w w1 : World} (h : Glob w) (k : Only b w w1) (hb : 4 < b) : Glob w1 :=
  ⟨tabs_only h.tabs k (Nat.lt_trans (by decide) hb) hb, fun j v hv => (World.cell?_of_block (k.block 2 h.lt1 (Nat.ne_of_lt (Nat.lt_trans (by decide) hb)))).trans (h.first j v hv)⟩
/-- a Hasher's pointer, to which L has come -/
def Hash (w : World) (b : Nat) (L : List UInt8) (crc : Int) : Prop := ∃ st tl, Rep w b L st tl crc (L.length : Nat)
theorem fresh (w : World) : Hash (w.alloc (.cells (hC first (List.replicate 64 0) 0 0).toArray 157)) w.heap.size [] 0 := ⟨_, _, Abs.start, Go.heap_alloc_new w _⟩
theorem first_lit : stL first = [.int .u32 1732584193, .int .u32 4023233417, .int .u32 2562383102, .int .u32 271733878] := rfl
set_option maxRecDepth 100000 in
set_option maxHeartbeats 2000000 in
theorem new_any (w : World) (hG : Glob w) : Calls Tryd.prog 59 #[] w fun e w' => e = .returned (.pointer (some ⟨w.heap.size, 0, none⟩)) ∧ w' = w.alloc (.cells (hC first (List.replicate 64 0) 0 0).toArray 157) := by
  have hrg := hG.first
  rw [first_lit] at hrg
  have hi81 : (Tryd.prog.info? 154).map (·.size) = some 4 := by kernel_rfl
  clear hG
  go_enter Tryd.func59, Tryd.ntmps59
  go_wp2_with ((with_reducible refine gate_load (ty := 154) (x := .global 2) rfl ?_); refine wpList_load_mid rfl 154 (.global 2) rfl 2 0 rfl _ _ hrg Tryd.underlying154 rfl hi81 ?_)
  go_ret
  exact ⟨rfl, rfl⟩
theorem run_crc (L s : List UInt8) : 4294967295 - run (4294967295 - crc L) s = crc (L ++ s) ∧ crc L < 4294967296 ∧ run (4294967295 - crc L) s < 4294967296 := by
  have h0 := run_lt L (w := top) (by decide)
  have h1 := xor_top (run top L) h0
  have h2 := run_lt (L ++ s) (w := top) (by decide)
  have h3 := xor_top (run top (L ++ s)) h2
  have e : 4294967295 - crc L = run top L := by unfold crc; rw [h1]; unfold top at *; omega
  rw [e, ← run_append]
  refine ⟨?_, crc_lt L, h2⟩
  unfold crc; rw [h3]; rfl
end Go.Proofs.YtljjpdjknnhceaaDoor.Hasher

/- MD5 of a Hasher in the digest package. -/
set_option linter.unusedVariables false
set_option linter.unusedSimpArgs false
namespace Go.Proofs.YtljjpdjknnhceaaDoor.Sum
open Go.RowKit Go.Proofs.YtljjpdjknnhceaaDoorW.PrintWords Go.Proofs.YtljjpdjknnhceaaDoorW.PrintLast Go.Proofs.YtljjpdjknnhceaaDoorW.PrintMore
open Go.Proofs.YtljjpdjknnhceaaDoor.Base Go.Proofs.YtljjpdjknnhceaaDoor.Mix Go.Proofs.YtljjpdjknnhceaaDoor.Take Go.Proofs.YtljjpdjknnhceaaDoor.Words Go.Proofs.YtljjpdjknnhceaaDoor.Hasher
open Go.Proofs.YtljjpdjknnhceaaDoor.Md5Pure (St mdBlock Abs spl spl_length told bytes4 md5 first padN len8 tail)
theorem hC_one (st : St) (tl : List UInt8) (crc cnt : Int) : (hC st tl crc cnt).toArray.all (·.oneCell') = true := by
  refine all_oneCell_toArray (fun v hv => ?_)
  unfold hC stL byteL at hv
  simp only [List.mem_append, List.mem_cons, List.mem_map, List.not_mem_nil, or_false] at hv
  rcases hv with (rfl | rfl | rfl | rfl) | ⟨c, _, rfl⟩ | rfl | rfl <;> rfl
theorem hC_range {w : World} {b : Nat} {t : TypeId} {L : List Value} (h : w.heap[b]? = some (.cells L.toArray t (0, 0))) : w.rangeAt b 0 L := by
  intro j v hv
  rw [cell_of_row _ _ _ _ _ _ h, List.getElem?_toArray, Nat.zero_add]; exact hv
/-- a struct's copy in a new block -/
theorem copy_facts (w : World) (Z : Array Value) (t : TypeId) (L : List Value) (hz : Z.size = L.length) :
    (w.alloc (.cells Z t)).there w.heap.size 0 L.toArray.size ∧ ((w.alloc (.cells Z t)).setCells w.heap.size 0 L.toArray.toList).heap[w.heap.size]? = some (.cells L.toArray t (0, 0)) ∧ Below w.heap.size w ((w.alloc (.cells Z t)).setCells w.heap.size 0 L.toArray.toList) := by
  have hn : (w.alloc (.cells Z t)).heap[w.heap.size]? = some (.cells Z t (0, 0)) := Go.heap_alloc_new w _
  refine ⟨fun j hj => ?_, ?_, Go.Proofs.YtljjpdjknnhceaaDoor.StepsRef.below_setCells ((Below.refl w.heap.size w).alloc (Nat.le_refl _) _) (Nat.le_refl _) _ _⟩
  · rw [Nat.zero_add]
    refine ⟨?_, frozen_of_row _ _ j _ _ hn⟩
    rw [cell_of_row _ _ j _ _ _ hn, Array.getElem?_eq_getElem (by simp at hj; omega)]; rfl
  · have := heap_setCells w.heap.size t L 0 (w.alloc (.cells Z t)) Z.toList (by simp [hz]) (by simpa using hn)
    rw [show L.toArray.toList = L from rfl, this]
    congr 2
    simp [hz]
def lenI (n k : Nat) : List Int := (List.range k).map fun i => ((8 * n / 2 ^ (8 * i) % 256 : Nat) : Int)
def endI (p n k : Nat) : List Int := 128 :: (List.replicate p 0 ++ lenI n k)
theorem endI_next (p n k : Nat) : endI p n (k + 1) = endI p n k ++ [((8 * n / 2 ^ (8 * k) % 256 : Nat) : Int)] := by simp [endI, lenI, List.range_succ]
theorem endI_length (p n k : Nat) : (endI p n k).length = 1 + p + k := by simp [endI, lenI]; omega
theorem endI_str (p n : Nat) (h : p = padN n) : strOfNums (endI p n 8) = strOf (tail n) := by
  have e : (endI p n 8).map (fun n : Int => UInt8.ofNat n.toNat) = tail n := by
    subst h
    unfold endI lenI tail len8
    simp only [List.map_cons, List.map_append, List.map_replicate, List.map_map]
    rfl
  unfold strOfNums strOf
  rw [e]
theorem made_end (w : World) (p n : Nat) (hp : p < 64) (e : TypeId) : (w.alloc (.cells ((madeCells #[.int .u8 0] (1 + p + 8)).setIfInBounds 0 (.int .u8 128)) e)).ownsRow w.heap.size e 1 (.slice (some ⟨w.heap.size, 0, none⟩) (1 + p) (1 + p + 8)) (1 + p) (nums .u8 (endI p n 0)) := by
  refine ⟨by rw [nums, List.length_map, endI_length]; omega, .inr ⟨w.heap.size, 1 + p + 8, _, rfl, Nat.le_refl _, heap_alloc_new w _, by omega, by simp only [maxLen]; omega, by simp [size_madeCells], ?_⟩⟩
  apply List.ext_getElem?
  intro i
  by_cases h0 : i = 0
  · subst h0; simp [madeCells, endI, nums, List.getElem?_take, Array.getElem?_setIfInBounds]
  · by_cases hi : i < 1 + p
    · obtain ⟨j, rfl⟩ : ∃ j, i = j + 1 := ⟨i - 1, by omega⟩
      simp [madeCells, endI, lenI, nums, hi, List.getElem?_replicate, Array.getElem?_setIfInBounds, show j < p by omega, show j + 1 < 1 + p + 8 by omega, Nat.mod_one]
    · rw [List.getElem?_eq_none (by simp; omega), List.getElem?_eq_none (by rw [nums, List.length_map, endI_length]; omega)]
theorem make_both {P : Program} (t e : TypeId) (z : Value) (bytes : Nat) (ht : P.underlying t = some (.slice e)) (hinfo : (P.info? e).map (fun i => (i.zero, i.size, i.bytes)) = some (some z, 1, bytes))
    (l c : Int) (h0 : 0 ≤ l) (hlc : l ≤ c) (hbytes : (bytes : Int) * c ≤ 281474976710656) (h63 : c ≤ 9223372036854775807) (w : World) :
    (Instr.makeSlice t (.int .i64 l) (.int .i64 c)).run P w = .ok (.slice (some ⟨w.heap.size, 0, none⟩) l.toNat c.toNat) (w.alloc (.cells (madeCells z.cells c.toNat) e)) := by
  obtain ⟨i0, hi, hzz⟩ := Option.map_eq_some_iff.1 hinfo
  simp only [Prod.mk.injEq] at hzz
  obtain ⟨hz0, hz1, hz2⟩ := hzz
  have := run_make (P := P) w t e i0 z ht hi hz0 .i64 .i64 l c h0 hlc (by rw [hz2]; exact hbytes) h63
  rw [hz1, Nat.mul_one] at this
  exact this
set_option maxRecDepth 100000 in
set_option maxHeartbeats 4000000 in
theorem sum_any (b : Nat) (L : List UInt8) (c : Int) (w : World) (h : Hash w b L c) (hG : Glob w) (hn : L.length ≤ 1099511627776) :
    Calls Tryd.prog 61 #[.pointer (some ⟨b, 0, none⟩)] w fun e w' => e = .returned (.string (strOf (md5 L))) ∧ Below w.heap.size w w' := by
  obtain ⟨st, tl, hR⟩ := h
  have HR := Aside0.mk hR
  have HG := Aside0.mk hG
  have hrg := hC_range hR.row
  have hlen := hC_length st tl c L.length hR.abs.len
  have hi84 : (Tryd.prog.info? 157).map (·.size) = some (hC st tl c L.length).length := by rw [hlen]; kernel_rfl
  have hZ : (Tryd.zeroCells157).size = (hC st tl c L.length).length := by rw [hlen]; rfl
  obtain ⟨hth, hk1, hk2⟩ := copy_facts w Tryd.zeroCells157 157 (hC st tl c L.length) hZ
  have h1c := hC_one st tl c L.length
  have hblt := hR.lt
  have hcn0 := hR.cnt
  have HC0 := Aside0.mk hcn0
  clear hR hG hlen hZ hcn0
  generalize hLn : L.length = n at hn HR hrg hi84 hth hk1 hk2 h1c HC0
  have HLn := Lib.hid hLn
  clear hLn
  obtain ⟨p, hp⟩ : ∃ p : Nat, (119 - (n : Int) % 64) % 64 = (p : Int) := ⟨(119 - n % 64) % 64, by omega⟩
  have hp64 : p < 64 := by omega
  have hp2 : (119 - (n : Int)) % 64 = (p : Int) := by omega
  have HPn : Aside0 (p = padN n) := ⟨by unfold padN; omega⟩
  have hmk := make_both (P := Tryd.prog) 109 5 (.int .u8 0) 1 Tryd.underlying109 info8 (1 + (p : Int)) (1 + (p : Int) + 8) (by omega) (by omega) (by omega) (by omega)
  have hmc : (madeCells #[Value.int .u8 0] (1 + p + 8))[0]? = some (.int .u8 0) := by simp [madeCells]
  go_enter Tryd.func61, Tryd.ntmps61
  go_wp2_with (first | ((with_reducible refine gate_load (ty := 157) (x := .tmp 11) rfl ?_); refine wpList_load_mid rfl 157 (.tmp 11) rfl b 0 rfl (hC st tl c n) _ hrg Tryd.underlying157 rfl hi84 ?_) | ((with_reducible refine gate_store (ty := 157) (x := .tmp 3) (y := .tmp 12) rfl ?_); refine wpList_store_mid rfl 157 (.tmp 3) (.tmp 12) rfl w.heap.size 0 (hC st tl c n).toArray rfl rfl hth hi84 h1c ?_; have HK1 := Aside0.mk hk1; have HK2 := Aside0.mk hk2; have hcn := (hk2.cell (p := ⟨b, 69, none⟩) hblt).trans HC0.out; clear hk1 hk2; generalize (w.alloc (.cells Tryd.zeroCells157 157)).setCells w.heap.size 0 (hC st tl c n).toArray.toList = w1 at HK1 HK2 hcn ⊢))
  have HE := Aside0.mk (made_end w1 p n hp64 5)
  have HB := Aside0.mk ((Below.refl w1.heap.size w1).alloc (Nat.le_refl _) (.cells ((madeCells #[.int .u8 0] (1 + p + 8)).setIfInBounds 0 (.int .u8 128)) 5))
  generalize w1.alloc (.cells ((madeCells #[.int .u8 0] (1 + p + 8)).setIfInBounds 0 (.int .u8 128)) 5) = ws at HE HB ⊢
  clear hmk hmc hcn h1c hth hi84 hrg
  simp only [hp]
  go_loopw [6, 7] (fun v i wr => ∃ k : Nat, k ≤ 8 ∧ i = .int .i64 k ∧ Aside0 (wr.ownsRow w1.heap.size 5 1 v (1 + p + k) (nums .u8 (endI p n k))) ∧ Aside0 (Below w1.heap.size w1 wr)) (fun _ i _ => 8 - (intOf i).toNat)
  case atStart => exact ⟨0, Nat.zero_le _, rfl, HE, HB⟩
  case round =>
    clear HE HB
    obtain ⟨k, hk, rfl, HO, HB⟩ := hrel
    obtain ⟨wo, rfl⟩ : ∃ wo : World, wo = wr := ⟨_, rfl⟩
    by_cases hlt : k < 8
    · have hnew := news wo [.int .u8 ((n : Int) * 8 / 2 ^ (8 * k) % 256)] 5
      have HN := Lib.hid (endI_next p n k)
      have HV : Aside0 (((8 * n / 2 ^ (8 * k) % 256 : Nat) : Int) = (n : Int) * 8 / 2 ^ (8 * k) % 256) := ⟨by rw [Nat.mul_comm 8 n]; simp only [Int.natCast_emod, Int.natCast_ediv, Int.natCast_mul, Int.natCast_pow]; rfl⟩
      have HZ := Aside0.mk HB.out.size
      go_wp2_with (at_builtin; go_loud (refine list_append_at (P := Tryd.prog) (w0 := w1) w1.heap.size rfl (.tmp 38) (.tmp 44) 109 5 (.int .u8 0) 1 rfl Tryd.underlying109 info8 rfl (by decide) _ (1 + p + k) (nums .u8 (endI p n k)) wo.heap.size 1 1 [.int .u8 ((n : Int) * 8 / 2 ^ (8 * k) % 256)] rfl rfl rfl ?h1 ?hc (HO.out.alloc _) (HB.out.alloc HZ.out _) ?hs ?hl ?_); (case h1 => simp [Value.oneCell']); (case hc => exact hnew); (case hs => have := HZ.out; simp; omega); (case hl => omega); intro v1 w2 HO1 HB1 _)
      go_roundw
      case rel => exact ⟨k + 1, by omega, by go_num, ⟨by rw [HN.out, nums_append, HV.out]; exact HO1⟩, ⟨HB1⟩⟩
      case measure => simp [intOf]; omega
    · obtain rfl : k = 8 := by omega
      have hcv := own_string (P := Tryd.prog) Tryd.underlying109 Tryd.underlying5 Tryd.underlying9 HO.out
      rw [endI_str p n HPn.out] at hcv
      have hNlt : w.heap.size < w1.heap.size := by
        rcases Nat.lt_or_ge w.heap.size w1.heap.size with k | k
        · exact k
        · have := HK1.out; rw [Array.getElem?_eq_none k] at this; cases this
      have HWO := Aside0.mk (below_then HK2.out HK2.out.size HB.out)
      have HRn : Aside0 (Rep wo w.heap.size L st tl c (L.length : Nat)) := ⟨HR.out.abs, by rw [HLn.out]; exact (HB.out.block _ hNlt).trans HK1.out⟩
      have htl : (strOf (tail n)).size ≤ 200 := by rw [strOf_size]; simp [tail, len8, padN]; omega
      have HTL := Aside0.mk htl
      clear htl
      go_wp2_with fail
      refine (take_any w.heap.size L st tl c (strOf (tail n)) wo HRn.out (HG.out.tabs.below HWO.out) HG.out.tabs.lt3 HG.out.tabs.lt4 (by have := HTL.out; rw [HLn.out]; omega)).mono ?_
      rintro e w2 ⟨rfl, hO2, st2, tl2, hR2⟩
      rw [strOf_toList, ← HLn.out] at hR2
      have hrg2 := st_range hR2.row
      have hi81 : (Tryd.prog.info? 154).map (·.size) = some (stL st2).length := by show _ = some 4; kernel_rfl
      have HS2 := Aside0.mk (And.intro hR2.abs.sum hR2.abs.ok)
      have HB2 := Aside0.mk (HWO.out.trans (hO2.below (Nat.le_refl _) HWO.out.size))
      clear hR2 hO2 hcv
      go_wp2_with (first | ((with_reducible refine gate_load (ty := 154) (x := .tmp 49) rfl ?_); refine wpList_load_mid rfl 154 (.tmp 49) rfl w.heap.size 0 rfl (stL st2) _ hrg2 Tryd.underlying154 rfl hi81 ?_))
      refine (words_any st2 _ HS2.out.2).mono ?_
      rintro e w3 ⟨rfl, hb3⟩
      have HB3 := Aside0.mk (below_then HB2.out HB2.out.size hb3)
      clear hb3
      rw [HS2.out.1]
      go_wp2
      go_ret
      exact ⟨rfl, HB3.out⟩
set_option maxRecDepth 100000 in
set_option maxHeartbeats 4000000 in
theorem nil_any (w : World) : Calls Tryd.prog 61 #[.pointer none] w fun e w' => e = .returned (.string (strOf [])) ∧ w = w' := by
  go_enter Tryd.func61, Tryd.ntmps61
  go_wp2
  go_ret
  exact ⟨rfl, rfl⟩
open Go.Proofs.YtljjpdjknnhceaaDoor.Crc (flat flat_next)
set_option maxRecDepth 100000 in
set_option maxHeartbeats 4000000 in
theorem md5_any (A : Option Addr) (c : Nat) (l : List ByteArray) (w : World) (hr : Kd.C Kd.string w A l.length l) (hc : l.length ≤ c) (hG : Glob w) (hl : l.length ≤ 1073741824) (hn : (flat l).length ≤ 1099511627776) :
    Calls Tryd.prog 27 #[.slice A l.length c] w fun e w' => e = .returned (.string (strOf (md5 (flat l)))) ∧ Below w.heap.size w w' := by
  have HR := Aside0.mk hr
  have HG := Aside0.mk hG
  have HF := Aside0.mk (show ∀ k, k < l.length → (flat (l.take k)).length + (rdOf ByteArray.empty l (k : Nat)).size ≤ 1099511627776 from fun k hk => by
    have h1 := flat_next l k hk
    have h2 := congrArg List.length h1
    rw [List.length_append, size_toList] at h2
    rw [← h2]
    refine Nat.le_trans ?_ hn
    unfold flat
    rw [← List.take_append_drop (k + 1) l, List.flatMap_append, List.length_append, List.take_append_drop]
    exact Nat.le_add_right _ _)
  have HN := Aside0.mk hn
  clear hr hG hn
  go_enter Tryd.func27, Tryd.ntmps27
  go_wp2_with fail
  refine (new_any w HG.out).mono ?_
  rintro e w1 ⟨rfl, rfl⟩
  have HH := Aside0.mk (fresh w)
  have HB := Aside0.mk ((Below.refl w.heap.size w).alloc (Nat.le_refl _) (.cells (hC first (List.replicate 64 0) 0 0).toArray 157))
  generalize w.alloc (.cells (hC first (List.replicate 64 0) 0 0).toArray 157) = w1 at HH HB ⊢
  go_wp2
  go_loopw [9] (fun i wr => ∃ k : Nat, k ≤ l.length ∧ i = .int .i64 k ∧ Aside0 (Hash wr w.heap.size (flat (l.take k)) 0) ∧ Aside0 (Below w.heap.size w wr)) (fun i _ => l.length - (intOf i).toNat)
  case atStart => exact ⟨0, Nat.zero_le _, rfl, HH, HB⟩
  case round =>
    clear HH HB
    obtain ⟨k, hk, rfl, HH, HB⟩ := hrel
    obtain ⟨wo, rfl⟩ : ∃ wo : World, wo = wr := ⟨_, rfl⟩
    by_cases hlt : k < l.length
    · have HX := Lib.hid (flat_next l k hlt)
      have HF1 := Aside0.mk (HF.out k hlt)
      obtain ⟨ad, e1, hx⟩ := Kd.at_string HR.out (k : Int) (by omega) (by omega)
      cases e1
      rw [Int.toNat_natCast] at hx
      have hx := pw_cell_below HB.out hx
      generalize rdOf ByteArray.empty l (k : Int) = t at hx HX HF1
      go_wp2_with fail
      obtain ⟨st, tl, hR⟩ := HH.out
      refine (take_any w.heap.size _ st tl 0 t wo hR (HG.out.tabs.below HB.out) HG.out.tabs.lt3 HG.out.tabs.lt4 (by have := HF1.out; omega)).mono ?_
      rintro e w2 ⟨rfl, hO2, st2, tl2, hR2⟩
      rw [← HX.out] at hR2
      have HH2 : Aside0 (Hash w2 w.heap.size (flat (l.take (k + 1))) 0) := ⟨st2, tl2, hR2⟩
      have HB2 := Aside0.mk (HB.out.trans (hO2.below (Nat.le_refl _) HB.out.size))
      clear hR hR2 hO2 hx
      go_wp2
      go_roundw
      case rel => exact ⟨k + 1, by omega, by go_num, HH2, HB2⟩
      case measure => simp [intOf]; omega
    · obtain rfl : k = l.length := by omega
      rw [List.take_length] at HH
      go_wp2_with fail
      refine (sum_any w.heap.size _ 0 wo HH.out (HG.out.below HB.out) HN.out).mono ?_
      rintro e w3 ⟨rfl, hb3⟩
      have HB3 := Aside0.mk (below_then HB.out HB.out.size hb3)
      clear hb3
      go_wp2
      go_ret
      exact ⟨rfl, HB3.out⟩
end Go.Proofs.YtljjpdjknnhceaaDoor.Sum
