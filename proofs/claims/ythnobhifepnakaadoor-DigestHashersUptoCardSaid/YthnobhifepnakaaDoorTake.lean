/- take of the digest package: the bytes of a text, block by block. -/
import Derived.Test.YthnobhifepnakaaDoorMix
import Derived.Test.YthnobhifepnakaaDoorTakePure
import Derived.Lib.LazyBuf
import Derived.Lib.SlBuf
set_option linter.unusedVariables false
set_option linter.unusedSimpArgs false
namespace Go.Proofs.YthnobhifepnakaaDoor.Take
open Go.RowKit Go.Proofs.YthnobhifepnakaaDoorW.PrintWords Go.Proofs.YthnobhifepnakaaDoorW.PrintLast Go.Proofs.YthnobhifepnakaaDoorW.PrintMore
open Go.Proofs.YthnobhifepnakaaDoor.Base Go.Proofs.YthnobhifepnakaaDoor.Mix
open Go.Proofs.YthnobhifepnakaaDoor.Md5Pure (St mdBlock Abs spl spl_length)
/-- nothing but block b was written -/
structure Only (b : Nat) (w w' : World) : Prop where mk ::
  (os : w'.os = w.os) (tape : w'.tape = w.tape) (output : w'.output = w.output) (size : w.heap.size ≤ w'.heap.size) (block : ∀ k, k < w.heap.size → k ≠ b → w'.heap[k]? = w.heap[k]?)
theorem Only.refl (b : Nat) (w : World) : Only b w w := ⟨rfl, rfl, rfl, Nat.le_refl _, fun _ _ _ => rfl⟩
theorem Only.after {b : Nat} {w w1 w2 : World} (h : Only b w w1) (k : Below w1.heap.size w1 w2) : Only b w w2 :=
  ⟨k.os.trans h.os, k.tape.trans h.tape, k.output.trans h.output, Nat.le_trans h.size k.size, fun i hi hn => (k.block i (Nat.lt_of_lt_of_le hi h.size)).trans (h.block i hi hn)⟩
theorem Only.trans {b : Nat} {w w1 w2 : World} (h : Only b w w1) (k : Only b w1 w2) : Only b w w2 :=
  ⟨k.os.trans h.os, k.tape.trans h.tape, k.output.trans h.output, Nat.le_trans h.size k.size, fun i hi hn => (k.block i (Nat.lt_of_lt_of_le hi h.size) hn).trans (h.block i hi hn)⟩
theorem Only.setCell {b : Nat} {w w1 : World} (h : Only b w w1) (i : Nat) (v : Value) : Only b w (w1.setCell ⟨b, i, none⟩ v) :=
  ⟨h.os, h.tape, h.output, by simpa [World.setCell] using h.size, fun k hk hn => by rw [heap_setCell_other _ _ _ _ (by simpa using hn)]; exact h.block k hk hn⟩
theorem Only.setCells {b : Nat} {w : World} : ∀ (vs : List Value) (o : Nat) (w1 : World), Only b w w1 → Only b w (w1.setCells b o vs)
  | [], _, _, h => h
  | v :: r, o, w1, h => Only.setCells r (o + 1) _ (h.setCell o v)
theorem Only.below {b B : Nat} {w w1 : World} (h : Only b w w1) (hb : B ≤ b) (hw : B ≤ w.heap.size) : Below B w w1 := ⟨h.os, h.tape, h.output, h.size, fun k hk => h.block k (by omega) (by omega)⟩
theorem tabs_only {b : Nat} {w w1 : World} (h : Tabs w) (k : Only b w w1) (h3 : 3 < b) (h4 : 4 < b) : Tabs w1 :=
  ⟨fun i hi => by rw [← h.sine i hi]; exact World.cell?_of_block (k.block _ h.lt3 (Nat.ne_of_lt h3)), fun i hi => by rw [← h.turn i hi]; exact World.cell?_of_block (k.block _ h.lt4 (Nat.ne_of_lt h4)), Nat.lt_of_lt_of_le h.lt3 k.size, Nat.lt_of_lt_of_le h.lt4 k.size⟩
/-- a row's cells behind setCells -/
theorem heap_setCells (b : Nat) (t : TypeId) : ∀ (vs : List Value) (o : Nat) (w : World) (L : List Value), o + vs.length ≤ L.length → w.heap[b]? = some (.cells L.toArray t (0, 0)) →
    (w.setCells b o vs).heap[b]? = some (.cells (L.take o ++ vs ++ L.drop (o + vs.length)).toArray t (0, 0))
  | [], o, w, L, _, h => by
    show w.heap[b]? = _
    rw [h]; simp
  | v :: r, o, w, L, hl, h => by
    simp only [List.length_cons] at hl
    have h1 := heap_setCell_same w b o L.toArray t v h
    rw [List.setIfInBounds_toArray] at h1
    have := heap_setCells b t r (o + 1) (w.setCell ⟨b, o, none⟩ v) (L.set o v) (by rw [List.length_set]; omega) h1
    show ((w.setCell ⟨b, o, none⟩ v).setCells b (o + 1) r).heap[b]? = _
    rw [this]
    congr 3
    have e1 : (L.set o v).take (o + 1) = L.take o ++ [v] := by
      rw [List.take_add_one, List.take_set_of_le (Nat.le_refl o)]
      simp [List.getElem?_set, show o < L.length by omega]
    have e2 : (L.set o v).drop (o + 1 + r.length) = L.drop (o + (v :: r).length) := by
      rw [List.drop_set_of_lt (by omega)]; congr 1; simp; omega
    rw [e1, e2]; simp
def stL (s : St) : List Value := [.int .u32 (s.a : Nat), .int .u32 (s.b : Nat), .int .u32 (s.c : Nat), .int .u32 (s.d : Nat)]
/-- the cells of a Hasher -/
def hC (s : St) (tl : List UInt8) (crc : Int) (cnt : Int) : List Value := stL s ++ (byteL tl ++ [.int .u32 crc, .int .i64 cnt])
theorem hC_length (s : St) (tl : List UInt8) (crc cnt : Int) (h : tl.length = 64) : (hC s tl crc cnt).length = 70 := by simp [hC, stL, byteL_length, h]
theorem hC_cnt (s : St) (tl : List UInt8) (crc cnt : Int) (h : tl.length = 64) : (hC s tl crc cnt).toArray[69]? = some (.int .i64 cnt) := by
  rw [List.getElem?_toArray]
  unfold hC
  rw [List.getElem?_append_right (by simp [stL]), List.getElem?_append_right (by rw [byteL_length, h]; simp [stL])]
  rw [byteL_length, h]; rfl
theorem hC_crc (s : St) (tl : List UInt8) (crc cnt : Int) (h : tl.length = 64) : (hC s tl crc cnt).toArray[68]? = some (.int .u32 crc) := by
  rw [List.getElem?_toArray]
  unfold hC
  rw [List.getElem?_append_right (by simp [stL]), List.getElem?_append_right (by rw [byteL_length, h]; simp [stL])]
  rw [byteL_length, h]; rfl
theorem hC_set_cnt (s : St) (tl : List UInt8) (crc cnt c : Int) (h : tl.length = 64) : (hC s tl crc cnt).toArray.setIfInBounds 69 (.int .i64 c) = (hC s tl crc c).toArray := by
  rw [List.setIfInBounds_toArray]
  unfold hC
  rw [List.set_append_right _ _ (by simp [stL]), List.set_append_right _ _ (by rw [byteL_length, h]; simp [stL]), byteL_length, h]
  rfl
theorem hC_set_crc (s : St) (tl : List UInt8) (crc cnt c : Int) (h : tl.length = 64) : (hC s tl crc cnt).toArray.setIfInBounds 68 (.int .u32 c) = (hC s tl c cnt).toArray := by
  rw [List.setIfInBounds_toArray]
  unfold hC
  rw [List.set_append_right _ _ (by simp [stL]), List.set_append_right _ _ (by rw [byteL_length, h]; simp [stL]), byteL_length, h]
  rfl
theorem hC_spl (s : St) (tl x : List UInt8) (crc cnt : Int) (k : Nat) (h : tl.length = 64) (hk : k + x.length ≤ 64) :
    (hC s tl crc cnt).take (4 + k) ++ byteL x ++ (hC s tl crc cnt).drop (4 + k + (byteL x).length) = hC s (spl tl k x) crc cnt := by
  have e4 : (stL s).length = 4 := rfl
  unfold hC spl
  rw [byteL_length, List.take_append, List.drop_append, e4, List.take_of_length_le (by rw [e4]; omega), List.drop_of_length_le (by rw [e4]; omega)]
  rw [show 4 + k - 4 = k by omega, show 4 + k + x.length - 4 = k + x.length by omega]
  rw [List.take_append_of_le_length (by rw [byteL_length]; omega), List.drop_append_of_le_length (by rw [byteL_length]; omega)]
  simp [byteL, List.map_take, List.map_drop]
theorem hC_state (s r : St) (tl : List UInt8) (crc cnt : Int) : (hC s tl crc cnt).take 0 ++ stL r ++ (hC s tl crc cnt).drop (0 + (stL r).length) = hC r tl crc cnt := by simp [hC, stL]
/-- a Hasher to which L has come -/
structure Rep (w : World) (b : Nat) (L : List UInt8) (s : St) (tl : List UInt8) (crc cnt : Int) : Prop where mk ::
  (abs : Abs s tl L) (row : w.heap[b]? = some (.cells (hC s tl crc cnt).toArray 84 (0, 0)))
theorem Rep.cnt {w : World} {b : Nat} {L : List UInt8} {s : St} {tl : List UInt8} {crc cnt : Int} (h : Rep w b L s tl crc cnt) : w.cell? ⟨b, 69, none⟩ = some (.int .i64 cnt) := (cell_of_row _ _ _ _ _ _ h.row).trans (hC_cnt _ _ _ _ h.abs.len)
theorem Rep.crc {w : World} {b : Nat} {L : List UInt8} {s : St} {tl : List UInt8} {crc cnt : Int} (h : Rep w b L s tl crc cnt) : w.cell? ⟨b, 68, none⟩ = some (.int .u32 crc) := (cell_of_row _ _ _ _ _ _ h.row).trans (hC_crc _ _ _ _ h.abs.len)
theorem Rep.lt {w : World} {b : Nat} {L : List UInt8} {s : St} {tl : List UInt8} {crc cnt : Int} (h : Rep w b L s tl crc cnt) : b < w.heap.size := by
  rcases Nat.lt_or_ge b w.heap.size with k | k
  · exact k
  · have := h.row; rw [Array.getElem?_eq_none k] at this; cases this
theorem Rep.frozen {w : World} {b : Nat} {L : List UInt8} {s : St} {tl : List UInt8} {crc cnt : Int} (h : Rep w b L s tl crc cnt) (i : Nat) : w.frozen? ⟨b, i, none⟩ = false := frozen_of_row _ _ i _ _ h.row
theorem Rep.setCnt {w : World} {b : Nat} {L : List UInt8} {s : St} {tl : List UInt8} {crc cnt : Int} (h : Rep w b L s tl crc cnt) (c : Int) : Rep (w.setCell ⟨b, 69, none⟩ (.int .i64 c)) b L s tl crc c :=
  ⟨h.abs, by rw [heap_setCell_same _ _ _ _ _ _ h.row, hC_set_cnt _ _ _ _ _ h.abs.len]⟩
theorem Rep.setCrc {w : World} {b : Nat} {L : List UInt8} {s : St} {tl : List UInt8} {crc cnt : Int} (h : Rep w b L s tl crc cnt) (c : Int) : Rep (w.setCell ⟨b, 68, none⟩ (.int .u32 c)) b L s tl c cnt :=
  ⟨h.abs, by rw [heap_setCell_same _ _ _ _ _ _ h.row, hC_set_crc _ _ _ _ _ h.abs.len]⟩
theorem Rep.after {w w1 : World} {b : Nat} {L : List UInt8} {s : St} {tl : List UInt8} {crc cnt : Int} (h : Rep w b L s tl crc cnt) (k : Below w.heap.size w w1) : Rep w1 b L s tl crc cnt := ⟨h.abs, (k.block _ h.lt).trans h.row⟩
/-- copy from a text -/
theorem run_copy_min {P : Program} (w : World) (dT sT ty elem : TypeId) (b o dLen dCap : Nat) (t : ByteArray) (n : Nat) (hn : Nat.min t.size dLen = n)
    (hu : P.underlying dT = some (.slice elem)) (hz : ∀ w, (Go.sizeOf elem).run P w = .ok 1 w)
    (hc : ∀ j, j < n → (w.cell? ⟨b, o + j, none⟩).isSome = true) (hf : ∀ j, j < n → w.frozen? ⟨b, o + j, none⟩ = false) :
    (Builtin.copy_ #[dT, sT] ty #[.slice (some ⟨b, o, none⟩) dLen dCap, .string t]).run P w = .ok (goInt n) (w.setCells b o (byteL (t.data.toList.take n))) := by
  have hl : (byteL (t.data.toList.take n)).length = n := by
    rw [byteL_length, List.length_take, ← Lib.size_eq, ← hn]; exact Nat.min_eq_left (Nat.min_le_left _ _)
  have hst := run_storeCells_cells (P := P) b o (byteL (t.data.toList.take n)) 0 w (by rw [hl]; simpa using hc) (by rw [hl]; simpa using hf) (by
    intro v hv
    obtain ⟨x, _, rfl⟩ := List.mem_map.1 hv
    rfl)
  have e : ((t.data.toList.map fun x => Value.int .u8 (x.toNat : Int)).take n) = byteL (t.data.toList.take n) := by rw [← List.map_take]; rfl
  simp [Builtin.copy_, run_underlying hu, Builtin.lenOf, Builtin.firstCells, hz, hn]
  rw [e, hst]
  rfl
theorem size_toList (d : ByteArray) : d.data.toList.length = d.size := by rw [← Lib.size_eq]
theorem extract_toList (d : ByteArray) (n : Nat) (h : n ≤ d.size) : (d.extract n d.size).data.toList = d.data.toList.drop n := by
  rw [ByteArray.data_extract, Array.toList_extract]
  simp only [List.extract_eq_take_drop]
  rw [List.take_of_length_le (by rw [List.length_drop, size_toList]; exact Nat.le_refl _)]
theorem slice_tail (b r : Nat) (hr : r < 64) (W : World) : (Instr.sliceAt 82 (.pointer (some ⟨b, 4, none⟩)) (some (.int .i64 (r : Int))) none none).run Tryd.prog W = .ok (.slice (some ⟨b, 4 + r, none⟩) (64 - r) (64 - r)) W := by
  have hso : (Tryd.prog.info? (Tryd.prog.elem 82)).isSome = true := by kernel_rfl
  have hce : Tryd.prog.cellsOf (Tryd.prog.elem 82) = 1 := by kernel_rfl
  have ha2 : Tryd.prog.arrayLen 82 = 64 := by kernel_rfl
  obtain ⟨ii, hii⟩ := Option.isSome_iff_exists.1 hso
  rw [run_sliceAt_array_l W 82 ⟨b, 4, none⟩ (by kernel_rfl) .i64 (r : Int) (by omega) (by rw [ha2]; omega)]
  rw [run_sizeOf _ hii, hce, ha2, Int.toNat_natCast]
  simp only [Result.andThen, slicedAt, Addr.add]
  rw [if_neg (by omega)]
  split <;> simp_all
theorem slice_rest (d : ByteArray) (n : Nat) (h : n ≤ d.size) (W : World) : (Instr.slice 9 (.string d) (some (.int .i64 (n : Int))) none none).run Tryd.prog W = .ok (.string (d.extract n d.size)) W := by
  rw [run_slice_string_l (P := Tryd.prog) W 9 d Tryd.underlying9 .i64 (n : Int) (by omega) (by omega), Int.toNat_natCast]
/-- the copy into a Hasher's tail -/
theorem copied {w wr : World} {b : Nat} {L : List UInt8} {st : St} {tl : List UInt8} {crc cnt : Int} (h : Rep wr b L st tl crc cnt) (hO : Only b w wr) (d : ByteArray) (n : Nat) (hn : Nat.min d.size (64 - L.length % 64) = n) (ty : TypeId) :
    ∃ w1, (Builtin.copy_ #[64, 9] ty #[.slice (some ⟨b, 4 + L.length % 64, none⟩) (64 - L.length % 64) (64 - L.length % 64), .string d]).run Tryd.prog wr = .ok (goInt n) w1 ∧ Only b w w1 ∧
      w1.heap[b]? = some (.cells (hC st (spl tl (L.length % 64) (d.data.toList.take n)) crc cnt).toArray 84 (0, 0)) := by
  have hr : L.length % 64 < 64 := Nat.mod_lt _ (by decide)
  have hnl : (d.data.toList.take n).length = n := by rw [List.length_take, size_toList, ← hn]; exact Nat.min_eq_left (Nat.min_le_left _ _)
  have hn2 : n ≤ 64 - L.length % 64 := by rw [← hn]; exact Nat.min_le_right _ _
  have hso : (Tryd.prog.info? 5).isSome = true := by kernel_rfl
  have hce : Tryd.prog.cellsOf 5 = 1 := by kernel_rfl
  obtain ⟨ii, hii⟩ := Option.isSome_iff_exists.1 hso
  refine ⟨_, run_copy_min wr 64 9 ty 5 b (4 + L.length % 64) _ _ d n hn Tryd.underlying64 (fun w => by rw [run_sizeOf _ hii, hce]) (fun j hj => ?_) (fun j hj => h.frozen _), Only.setCells _ _ _ hO, ?_⟩
  · rw [cell_of_row _ _ _ _ _ _ h.row, List.getElem?_toArray, List.getElem?_eq_getElem (by rw [hC_length _ _ _ _ h.abs.len]; omega)]; rfl
  · rw [heap_setCells b _ _ _ _ (hC st tl crc cnt) (by rw [hC_length _ _ _ _ h.abs.len, byteL_length, hnl]; omega) h.row, hC_spl _ _ _ _ _ _ h.abs.len (by rw [hnl]; omega)]
theorem st_range {w : World} {b : Nat} {t : TypeId} {st : St} {tl : List UInt8} {crc cnt : Int} (h : w.heap[b]? = some (.cells (hC st tl crc cnt).toArray t (0, 0))) : w.rangeAt b 0 (stL st) := by
  intro j v hv
  rw [cell_of_row _ _ _ _ _ _ h, List.getElem?_toArray, Nat.zero_add]
  have hj : j < (stL st).length := by
    rcases Nat.lt_or_ge j (stL st).length with k | k
    · exact k
    · rw [List.getElem?_eq_none k] at hv; cases hv
  unfold hC
  rw [List.getElem?_append_left hj]; exact hv
theorem tl_range {w : World} {b : Nat} {t : TypeId} {st : St} {tl : List UInt8} {crc cnt : Int} (h : w.heap[b]? = some (.cells (hC st tl crc cnt).toArray t (0, 0))) : w.rangeAt b 4 (byteL tl) := by
  intro j v hv
  rw [cell_of_row _ _ _ _ _ _ h, List.getElem?_toArray]
  have hj : j < (byteL tl).length := by
    rcases Nat.lt_or_ge j (byteL tl).length with k | k
    · exact k
    · rw [List.getElem?_eq_none k] at hv; cases hv
  unfold hC
  rw [List.getElem?_append_right (by simp [stL]), List.getElem?_append_left (by simp [stL]; omega)]
  rw [show 4 + j - (stL st).length = j by simp [stL]]; exact hv
theorem st_there {w : World} {b : Nat} {t : TypeId} {st : St} {tl : List UInt8} {crc cnt : Int} (h : w.heap[b]? = some (.cells (hC st tl crc cnt).toArray t (0, 0))) : w.there b 0 4 := by
  intro j hj
  rw [Nat.zero_add]
  refine ⟨?_, frozen_of_row _ _ j _ _ h⟩
  rw [cell_of_row _ _ _ _ _ _ h, List.getElem?_toArray, List.getElem?_eq_getElem (by simp [hC, stL]; omega)]; rfl
theorem state_set {w : World} {b : Nat} {t : TypeId} {st r : St} {tl : List UInt8} {crc cnt : Int} (h : w.heap[b]? = some (.cells (hC st tl crc cnt).toArray t (0, 0))) : (w.setCells b 0 (stL r)).heap[b]? = some (.cells (hC r tl crc cnt).toArray t (0, 0)) := by
  rw [heap_setCells b t _ _ _ (hC st tl crc cnt) (by simp [hC, stL]) h, hC_state]
theorem stL_one (r : St) : (stL r).toArray.all (·.oneCell') = true := all_oneCell_toArray (by simp [stL, Value.oneCell'])
theorem mix_L (s : St) (l : List UInt8) (w : World) (hs : s.ok) (hl : l.length = 64) (hT : Tabs w) :
    Calls Tryd.prog 50 #[.agg (stL s).toArray, .agg (byteL l).toArray] w fun e w' => e = .returned (.agg (stL (mdBlock s l)).toArray) ∧ Below w.heap.size w w' := mix_any s l w hs hl hT
section
variable {P : Program} {ops : Array Oper} {o : Oper} {a : Act} {Q : Exit → Act → World → Prop} {K : Act → World → Prop} {E : Prop}
theorem step_store_mid {W : World} (hw : Region.wanted o (yielded ops a.tmps) = true) (ty : TypeId) (x y : Operand) (ho : o.op = .store ty x y) (b off : Nat) (cs : List Value) (hx : a.eval x = .pointer (some ⟨b, off, none⟩)) (hy : a.eval y = .agg cs.toArray)
    (ht : W.there b off cs.length) (hi : (P.info? ty).map (·.size) = some cs.length) (h1 : cs.toArray.all (·.oneCell') = true) (h : K (a.put o.dst undef) (W.setCells b off cs)) : if Region.wanted o (yielded ops a.tmps) = true then Oper.wp P o a W K Q else E := by
  rw [if_pos hw]
  exact wp_store_mid ty x y ho b off cs.toArray hx hy (by simpa using ht) (by simpa using hi) h1 (by simpa using h)
end
def strSz : Value → Nat
  | .string d => d.size
  | _ => 0
set_option maxRecDepth 100000 in
set_option maxHeartbeats 4000000 in
theorem take_any (b : Nat) (L : List UInt8) (st : St) (tl : List UInt8) (crc : Int) (s : ByteArray) (w : World) (hR : Rep w b L st tl crc L.length) (hT : Tabs w) (h3 : 3 < b) (h4 : 4 < b) (hn : L.length + s.size ≤ 4611686018427387904) :
    Calls Tryd.prog 41 #[.pointer (some ⟨b, 0, none⟩), .string s] w fun e w' => e = .returned (.tuple #[]) ∧ Only b w w' ∧ ∃ st' tl', Rep w' b (L ++ s.data.toList) st' tl' crc ((L ++ s.data.toList).length : Nat) := by
  have HT := Aside0.mk hT
  have HR := Aside0.mk hR
  have hcn := hR.cnt
  have hfn := hR.frozen 69
  have HB := Aside0.mk (And.intro h3 h4)
  clear hT hR h3 h4
  go_enter Tryd.func41, Tryd.ntmps41
  go_wp2
  have HR1 := Aside0.mk (HR.out.setCnt ((L.length : Int) + (s.size : Int)))
  have HO1 := Aside0.mk ((Only.refl b w).setCell 69 (.int .i64 ((L.length : Int) + (s.size : Int))))
  clear HR hcn hfn
  generalize w.setCell ⟨b, 69, none⟩ (.int .i64 ((L.length : Int) + (s.size : Int))) = ws at HR1 HO1 ⊢
  go_loopw [1, 4] (fun v1 v4 wr => ∃ (d : ByteArray) (x : List UInt8) (st1 : St) (tl1 : List UInt8), v1 = .string d ∧ v4 = .int .i64 (((L ++ x).length % 64 : Nat) : Int) ∧ Aside0 (x ++ d.data.toList = s.data.toList) ∧ Aside0 (Rep wr b (L ++ x) st1 tl1 crc ((L.length : Int) + (s.size : Int))) ∧ Aside0 (Only b w wr)) (fun v1 v4 _ => strSz v1)
  case atStart => exact ⟨s, [], st, tl, rfl, by rw [List.append_nil]; rfl, ⟨rfl⟩, ⟨by rw [List.append_nil]; exact HR1.out⟩, HO1⟩
  case round =>
    clear HR1 HO1
    obtain ⟨d, x, st1, tl1, rfl, rfl, HX, HR, HO⟩ := hrel
    obtain ⟨wo, rfl⟩ : ∃ wo : World, wo = wr := ⟨_, rfl⟩
    have hr : (L ++ x).length % 64 < 64 := Nat.mod_lt _ (by decide)
    have HRr := Aside0.mk (show ∀ y, (L ++ x).length % 64 + y < 64 → ((L ++ x).length + y) % 64 = (L ++ x).length % 64 + y from fun y hy => by omega)
    have HRf := Aside0.mk (show ∀ y, (L ++ x).length % 64 + y = 64 → ((L ++ x).length + y) % 64 = 0 from fun y hy => by omega)
    by_cases hd : 0 < d.size
    · obtain ⟨n, hn⟩ : ∃ n, Nat.min d.size (64 - (L ++ x).length % 64) = n := ⟨_, rfl⟩
      obtain ⟨w1, hcp, hO1, hw1⟩ := copied HR.out HO.out d n hn 3
      have hnd : n ≤ d.size := by rw [← hn]; exact Nat.min_le_left _ _
      have hnr : n ≤ 64 - (L ++ x).length % 64 := by rw [← hn]; exact Nat.min_le_right _ _
      have hn0 : 0 < n := by rw [← hn]; exact Nat.lt_min.2 ⟨hd, by omega⟩
      have HA := Aside0.mk HR.out.abs
      have HN := Lib.hid hn
      have HW1 := Lib.hid hw1
      have HO1 := Aside0.mk hO1
      have hnl : (d.data.toList.take n).length = n := by rw [List.length_take, size_toList]; exact Nat.min_eq_left hnd
      have HNL := Lib.hid hnl
      have hszE : (d.extract n d.size).size = d.size - n := by rw [← size_toList, extract_toList d n hnd, List.length_drop, size_toList]
      have HSZ := Lib.hid hszE
      clear hn hw1 hO1 HO HR hnl hszE
      have hsl := slice_tail b ((L ++ x).length % 64) hr
      have hss := slice_rest d n hnd
      have HX1 : Aside0 ((x ++ d.data.toList.take n) ++ (d.extract n d.size).data.toList = s.data.toList) := ⟨by rw [extract_toList d n hnd, List.append_assoc, List.take_append_drop]; exact HX.out⟩
      have HLE : Aside0 (L ++ (x ++ d.data.toList.take n) = (L ++ x) ++ d.data.toList.take n) := ⟨(List.append_assoc _ _ _).symm⟩
      have HLL : Aside0 ((L ++ (x ++ d.data.toList.take n)).length = (L ++ x).length + n) := ⟨by rw [HLE.out]; exact (List.length_append).trans (by rw [HNL.out])⟩
      by_cases hf : (L ++ x).length % 64 + n = 64
      · have HAf := Aside0.mk (HA.out.full (d.data.toList.take n) (by rw [HNL.out]; exact hf))
        have hfr : (L ++ (x ++ d.data.toList.take n)).length % 64 = 0 := by rw [HLL.out]; exact HRf.out n hf
        have HFR := Aside0.mk hfr
        have hlt2 := spl_length tl1 ((L ++ x).length % 64) (d.data.toList.take n) (by rw [HNL.out, HA.out.len]; omega)
        rw [HA.out.len] at hlt2
        clear hfr
        generalize spl tl1 ((L ++ x).length % 64) (d.data.toList.take n) = tl2 at HW1 HAf hlt2
        have HL2 := Aside0.mk hlt2
        clear hlt2
        generalize (L ++ x).length % 64 = r at hr hsl hcp hnr hf HRr HRf HN ⊢
        have hbe : ((r : Int) + (n : Int) == 64) = true := by rw [beq_iff_eq]; omega
        have hrS := st_range HW1.out
        have hrT := tl_range HW1.out
        have hok := HA.out.ok
        have HTd : Tabs w1.drew := (tabs_only HT.out HO1.out HB.out.1 HB.out.2).below (below_drew (Below.refl _ _))
        have hblt : b < w1.drew.heap.size := by
          show b < w1.heap.size
          rcases Nat.lt_or_ge b w1.heap.size with k | k
          · exact k
          · have := HW1.out; rw [Array.getElem?_eq_none k] at this; cases this
        have hu81 := Tryd.underlying81
        have hu82 := Tryd.underlying82
        have hi81 : (Tryd.prog.info? 81).map (·.size) = some (stL st1).length := by show _ = some 4; kernel_rfl
        have hi4 : (Tryd.prog.info? 81).map (·.size) = some (stL (mdBlock st1 tl2)).length := by show _ = some 4; kernel_rfl
        have hi82 : (Tryd.prog.info? 82).map (·.size) = some (byteL tl2).length := by rw [byteL_length, HL2.out]; kernel_rfl
        have h1c := stL_one (mdBlock st1 tl2)
        have hl2 := HL2.out
        go_wp2_with (at_builtin; refine Lib.wpList_copy_run _ rfl _ _ 64 9 rfl _ _ rfl rfl hcp ?_)
        refine start_ (n := 13) (S := fun w' => w'.rangeAt b 0 (stL st1) ∧ w'.rangeAt b 4 (byteL tl2)) (ds := [12]) #[false, false, false, false, false, false, false, false, false, false, false, false, false] (by kernel_rfl) rfl rfl ⟨hrS, hrT⟩ (fun hHeld => ?_)
        refine pure_ (i := 0) (N := some 38) (v := ?_) (a' := ?_) #[true, false, false, false, false, false, false, false, false, false, false, false, false] rfl rfl (by kernel_rfl) (fun _ _ _ h => h) (Or.inl ⟨by rfl, ?_⟩) ?_ ?_
        rotate_left
        · intro w'
          go_simp
          with_reducible rfl
        rotate_left
        · simp only [Act.put, List.setIfInBounds_toArray, List.set_cons_zero, List.set_cons_succ, i64_w, i32_w]
          rfl
        refine pure_ (i := 1) (N := some 39) (v := ?_) (a' := ?_) #[true, true, false, false, false, false, false, false, false, false, false, false, false] rfl rfl (by kernel_rfl) (fun _ _ _ h => h) (Or.inl ⟨by rfl, ?_⟩) ?_ ?_
        rotate_left
        · intro w'
          go_simp
          with_reducible rfl
        rotate_left
        · simp only [Act.put, List.setIfInBounds_toArray, List.set_cons_zero, List.set_cons_succ, i64_w, i32_w]
          rfl
        refine pure_ (i := 2) (N := some 40) (v := ?_) (a' := ?_) #[true, true, true, false, false, false, false, false, false, false, false, false, false] rfl rfl (by kernel_rfl) (fun _ _ _ h => h) (Or.inl ⟨by rfl, ?_⟩) ?_ ?_
        rotate_left
        · intro w'
          go_simp
          with_reducible rfl
        rotate_left
        · simp only [Act.put, List.setIfInBounds_toArray, List.set_cons_zero, List.set_cons_succ, i64_w, i32_w]
          rfl
        refine pure_ (i := 3) (N := some 41) (v := ?_) (a' := ?_) #[true, true, true, true, false, false, false, false, false, false, false, false, false] rfl rfl (by kernel_rfl) (fun _ _ _ h => h) (Or.inl ⟨by rfl, ?_⟩) ?_ ?_
        rotate_left
        · intro w'
          go_simp
          with_reducible rfl
        rotate_left
        · simp only [Act.put, List.setIfInBounds_toArray, List.set_cons_zero, List.set_cons_succ, i64_w, i32_w]
          rfl
        refine pure_ (i := 5) (N := some 43) (v := ?_) (a' := ?_) #[true, true, true, true, false, true, false, false, false, false, false, false, false] rfl rfl (by kernel_rfl) (fun _ _ _ h => h) (Or.inl ⟨by rfl, ?_⟩) ?_ ?_
        rotate_left
        · intro w'
          go_simp
          with_reducible rfl
        rotate_left
        · simp only [Act.put, List.setIfInBounds_toArray, List.set_cons_zero, List.set_cons_succ, i64_w, i32_w]
          rfl
        refine pure_ (i := 6) (N := some 44) (v := ?_) (a' := ?_) #[true, true, true, true, false, true, true, false, false, false, false, false, false] rfl rfl (by kernel_rfl) (fun _ _ _ h => h) (Or.inl ⟨by rfl, ?_⟩) ?_ ?_
        rotate_left
        · intro w'
          go_simp
          with_reducible rfl
        rotate_left
        · simp only [Act.put, List.setIfInBounds_toArray, List.set_cons_zero, List.set_cons_succ, i64_w, i32_w]
          rfl
        refine pure_ (i := 7) (N := some 45) (v := ?_) (a' := ?_) #[true, true, true, true, false, true, true, true, false, false, false, false, false] rfl rfl (by kernel_rfl) (fun _ _ _ h => h) (Or.inl ⟨by rfl, ?_⟩) ?_ ?_
        rotate_left
        · intro w'
          go_simp
          with_reducible rfl
        rotate_left
        · simp only [Act.put, List.setIfInBounds_toArray, List.set_cons_zero, List.set_cons_succ, i64_w, i32_w]
          rfl
        refine take_ (i := 4) (N := some 42) (a' := ?_) #[true, true, true, true, true, true, true, true, false, false, false, false, false] rfl rfl (by kernel_rfl) (fun _ _ _ h => h) (yieldsIf_load_mid (by rfl) _ _ rfl _ _ rfl _ _ (fun w h => h.1) hu81 rfl hi81) hHeld ?_ ?_
        rotate_left
        · simp only [Act.put, List.setIfInBounds_toArray, List.set_cons_zero, List.set_cons_succ, i64_w, i32_w]
          rfl
        refine take_ (i := 8) (N := some 46) (a' := ?_) #[true, true, true, true, true, true, true, true, true, false, false, false, false] rfl rfl (by kernel_rfl) (fun _ _ _ h => h) (yieldsIf_load_mid (by rfl) _ _ rfl _ _ rfl _ _ (fun w h => h.2) hu82 rfl hi82) hHeld ?_ ?_
        rotate_left
        · simp only [Act.put, List.setIfInBounds_toArray, List.set_cons_zero, List.set_cons_succ, i64_w, i32_w]
          rfl
        refine one_ (i := 9) (N := some 47) #[true, true, true, true, true, true, true, true, true, true, false, false, false] rfl rfl (by kernel_rfl) (by decide) (fun K hK => ?_)
        refine goes_ Tryd.func50 (by kernel_rfl) rfl #[.agg (stL st1).toArray, .agg (byteL tl2).toArray] (by rfl) rfl rfl (by simp only [List.map_toArray, List.map_cons, List.map_nil]; rfl) ?_
        with_reducible refine (mix_L st1 tl2 w1.drew hok hl2 HTd).mono ?_
        rintro e w3 ⟨rfl, hb3⟩
        have hr3 := (hb3.block b hblt).trans HW1.out
        have hth3 := st_there hr3
        refine ⟨_, rfl, ?_⟩
        refine hK.out _ _ ⟨st_range hr3, tl_range hr3⟩ (fun hHeld => ?_)
        clear hK K
        refine norm_ (a' := ?_) ?_ ?_
        rotate_left
        · show Act.put _ (some 47) _ = _
          simp only [Act.put, List.setIfInBounds_toArray, List.set_cons_zero, List.set_cons_succ, i64_w, i32_w]
          rfl
        refine pure_ (i := 10) (N := some 48) (v := ?_) (a' := ?_) #[true, true, true, true, true, true, true, true, true, true, true, false, false] rfl rfl (by kernel_rfl) (fun _ _ _ h => h) (Or.inl ⟨by rfl, ?_⟩) ?_ ?_
        rotate_left
        · intro w'
          go_simp
          with_reducible rfl
        rotate_left
        · simp only [Act.put, List.setIfInBounds_toArray, List.set_cons_zero, List.set_cons_succ, i64_w, i32_w]
          rfl
        refine pure_ (i := 11) (N := some 49) (v := ?_) (a' := ?_) #[true, true, true, true, true, true, true, true, true, true, true, true, false] rfl rfl (by kernel_rfl) (fun _ _ _ h => h) (Or.inl ⟨by rfl, ?_⟩) ?_ ?_
        rotate_left
        · intro w'
          go_simp
          with_reducible rfl
        rotate_left
        · simp only [Act.put, List.setIfInBounds_toArray, List.set_cons_zero, List.set_cons_succ, i64_w, i32_w]
          rfl
        refine last_ (i := 12) (N := none) #[true, true, true, true, true, true, true, true, true, true, true, true, true] rfl rfl (by kernel_rfl) (by decide) (fun K hK => ?_)
        refine step_store_mid (by rfl) 81 (.tmp 49) (.tmp 47) rfl b 0 (stL (mdBlock st1 tl2)) rfl rfl hth3 hi4 h1c ?_
        refine hK.out _ _ ?_
        clear hK K
        refine done_ (by kernel_rfl) ?_
        go_wp2
        go_roundw
        case rel =>
          refine ⟨_, x ++ d.data.toList.take n, mdBlock st1 tl2, tl2, rfl, by rw [HFR.out]; rfl, HX1, ⟨by rw [HLE.out]; exact HAf.out, state_set hr3⟩, ⟨?_⟩⟩
          exact Only.setCells _ _ _ (HO1.out.after (below_drew_left hb3))
        case measure => simp only [strSz]; rw [HSZ.out]; omega
      · have HAp := Aside0.mk (HA.out.part (d.data.toList.take n) (by rw [HNL.out]; omega))
        have hfr : (L ++ (x ++ d.data.toList.take n)).length % 64 = (L ++ x).length % 64 + n := by rw [HLL.out]; exact HRr.out n (by omega)
        have HFR := Aside0.mk hfr
        clear hfr
        generalize spl tl1 ((L ++ x).length % 64) (d.data.toList.take n) = tl2 at HW1 HAp
        generalize (L ++ x).length % 64 = r at hr hsl hcp hnr hf HRr HRf HN HFR ⊢
        have hbe : ((r : Int) + (n : Int) == 64) = false := by rw [beq_eq_false_iff_ne]; omega
        go_wp2_with (at_builtin; refine Lib.wpList_copy_run _ rfl _ _ 64 9 rfl _ _ rfl rfl hcp ?_)
        go_roundw
        case rel => exact ⟨_, x ++ d.data.toList.take n, st1, tl2, rfl, by rw [HFR.out]; rfl, HX1, ⟨by rw [HLE.out]; exact HAp.out, HW1.out⟩, HO1⟩
        case measure => simp only [strSz]; rw [HSZ.out]; omega
    · have hd0 : d.data.toList = [] := List.eq_nil_of_length_eq_zero (by rw [size_toList]; omega)
      have HXe : Aside0 (x = s.data.toList) := ⟨by have := HX.out; rw [hd0, List.append_nil] at this; exact this⟩
      clear hd0
      go_wp2
      go_end0
      refine ⟨rfl, HO.out, st1, tl1, ?_⟩
      have hq := HR.out
      rw [HXe.out] at hq
      rw [List.length_append, size_toList]
      exact hq
end Go.Proofs.YthnobhifepnakaaDoor.Take
