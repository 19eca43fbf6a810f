/- words and NewHasher of the digest package. -/
import Derived.Test.YthnobhifepnakaaDoorTake
set_option linter.unusedVariables false
set_option linter.unusedSimpArgs false
namespace Go.Proofs.YthnobhifepnakaaDoor.Words
open Go.RowKit Go.Proofs.YthnobhifepnakaaDoorW.PrintWords Go.Proofs.YthnobhifepnakaaDoorW.PrintLast Go.Proofs.YthnobhifepnakaaDoorW.PrintMore
open Go.Proofs.YthnobhifepnakaaDoor.Base Go.Proofs.YthnobhifepnakaaDoor.Mix Go.Proofs.YthnobhifepnakaaDoor.Take
open Go.Proofs.YthnobhifepnakaaDoor.Md5Pure (St mdBlock Abs spl spl_length told bytes4)
section
variable {P : Program} {ops : Array Oper} {rest : List Oper} {o : Oper} {a : Act} {Q : Exit → Act → World → Prop}
/-- append of a made slice, in a region that draws nothing -/
theorem list_append_at {w0 W : World} (base : Nat) (hgd : o.guard = none) (s x : Operand) (t e : TypeId) (z : Value) (bytes : Nat)
    (ho : o.op = .call { callee := .builtin .append, args := #[s, x], argTypes := #[t, t] })
    (ht : P.underlying t = some (.slice e)) (hinfo : (P.info? e).map (fun i => (i.zero, i.size, i.bytes)) = some (some z, 1, bytes)) (hz : z.cells.size = 1) (hb0 : 0 < bytes)
    (v : Value) (n : Nat) (xs : List Value) (b m c : Nat) (ys : List Value) (hs : a.eval s = v) (hx : a.eval x = .slice (some ⟨b, 0, none⟩) m c) (hm : ys.length = m) (h1 : ∀ u ∈ ys, u.oneCell' = true)
    (hc : ∀ j u, ys[j]? = some u → W.cell? ⟨b, j, none⟩ = some u)
    (HO : W.ownsRow base e 1 v n xs) (HB : Below base w0 W) (hbase : base ≤ W.heap.size) (hl : (n + m) * bytes ≤ 140737488355328)
    (h : ∀ v1 w1, w1.ownsRow base e 1 v1 (n + m) (xs ++ ys) → Below base w0 w1 → W.grownBy w1 v.ownBlock → wpList P ops Q rest (a.put o.dst v1) w1) :
    wpList P ops Q (o :: rest) a W := by
  obtain ⟨i0, hi, hzz⟩ := Option.map_eq_some_iff.1 hinfo
  simp only [Prod.mk.injEq] at hzz
  obtain ⟨hz0, hz1, hz2⟩ := hzz
  have hlen : n + m ≤ 140737488355328 := Nat.le_trans (Nat.le_mul_of_pos_right _ hb0) hl
  obtain ⟨v1, w1, hr, hown, hg, _⟩ := run_append_own (P := P) W base t o.type e i0 z 1 bytes ht hi hz0 hz1 hz2 hz (by decide) v n xs HO ⟨b, 0, none⟩ m c ys (by rw [hm, Nat.mul_one])
    (by intro j u hj; have := hc j u hj; have e : (⟨b, 0, none⟩ : Addr).add j = ⟨b, j, none⟩ := by unfold Addr.add; split <;> simp_all
        rw [e]; exact this) h1 (by simp only [maxLen]; omega) hl hbase
  refine wpList_plain hgd fun K hK => ?_
  unfold Oper.wp execOp
  simp only [ho, resolve, invoke, builtin, Sem.run_bind, Sem.run_pure, Result.andThen_ok, List.map_toArray, List.map_cons, List.map_nil, hs, hx, hr]
  exact hK _ _ (h v1 w1 hown (HB.grown hg hbase (own_base HO)) hg)
end
theorem news (w : World) (ys : List Value) (e : TypeId) : ∀ j u, ys[j]? = some u → (w.alloc (.cells ys.toArray e)).cell? ⟨w.heap.size, j, none⟩ = some u := by
  intro j u hj
  rw [cell_of_row _ _ _ _ _ _ (Go.heap_alloc_new w (.cells ys.toArray e)), List.getElem?_toArray]; exact hj
def strOf (l : List UInt8) : ByteArray := ⟨l.toArray⟩
theorem strOf_toList (l : List UInt8) : (strOf l).data.toList = l := rfl
theorem strOf_size (l : List UInt8) : (strOf l).size = l.length := rfl
theorem strOf_data (s : ByteArray) : strOf s.data.toList = s := rfl
def comp (s : St) (i : Nat) : Nat := if i = 0 then s.a else if i = 1 then s.b else if i = 2 then s.c else s.d
def b4 (x : Nat) : List Int := [((x % 256 : Nat) : Int), ((x / 256 % 256 : Nat) : Int), ((x / 65536 % 256 : Nat) : Int), ((x / 16777216 % 256 : Nat) : Int)]
def toldI (s : St) : Nat → List Int
  | 0 => []
  | k + 1 => toldI s k ++ b4 (comp s k)
theorem toldI_length (s : St) (k : Nat) : (toldI s k).length = 4 * k := by
  induction k with
  | zero => rfl
  | succ k ih => simp [toldI, b4, ih]; omega
theorem b4_bytes (x : Nat) : (b4 x).map (fun n : Int => UInt8.ofNat n.toNat) = bytes4 x := rfl
theorem toldI_str (s : St) : strOfNums (toldI s 4) = strOf (told s) := by
  have e : (toldI s 4).map (fun n : Int => UInt8.ofNat n.toNat) = told s := by
    show (((([] ++ b4 s.a) ++ b4 s.b) ++ b4 s.c) ++ b4 s.d).map (fun n : Int => UInt8.ofNat n.toNat) = told s
    simp only [List.map_append, b4_bytes, List.map_nil, List.nil_append]
    rfl
  unfold strOfNums strOf
  rw [e]
theorem comp_lt (s : St) (h : s.ok) (i : Nat) : comp s i < 4294967296 := by
  unfold comp
  split
  · exact h.1
  · split
    · exact h.2.1
    · split
      · exact h.2.2.1
      · exact h.2.2.2
theorem index_st (s : St) (k : Nat) (w : World) (h : k < 4) : (Instr.index 81 (.agg (stL s).toArray) (.int .i64 (k : Int))).run Tryd.prog w = .ok (.int .u32 (comp s k : Nat)) w := by
  have hso : (Tryd.prog.info? 62).isSome = true := by kernel_rfl
  have hce : Tryd.prog.cellsOf 62 = 1 := by kernel_rfl
  obtain ⟨ii, hii⟩ := Option.isSome_iff_exists.1 hso
  have hlt : (k : Int) < 4 := by omega
  have hat : (stL s)[k]? = some (.int .u32 (comp s k : Nat)) := by
    have e : k = 0 ∨ k = 1 ∨ k = 2 ∨ k = 3 := by omega
    rcases e with e | e | e | e <;> subst e <;> rfl
  simp [Instr.index, run_underlying Tryd.underlying81, asIntOf, run_sizeOf _ hii, hce, part, run_underlying Tryd.underlying62, hlt, hat]
  intro hge; omega
set_option maxRecDepth 100000 in
set_option maxHeartbeats 4000000 in
theorem words_any (s : St) (w : World) (hs : s.ok) : Calls Tryd.prog 48 #[.agg (stL s).toArray] w fun e w' => e = .returned (.string (strOf (told s))) ∧ Below w.heap.size w w' := by
  have hmk := make_cap (P := Tryd.prog) 64 5 (.int .u8 0) 1 Tryd.underlying64 info8 rfl 16 (by omega) (by omega) (by omega)
  have hsz1 : (w.alloc (.cells (stL s).toArray 81)).heap.size = w.heap.size + 1 := by simp
  have hm := made_owns (w.alloc (.cells (stL s).toArray 81)) (.int .u8 0) rfl 16 (by simp only [maxLen]; omega) 5
  rw [hsz1] at hm
  have HM := Aside0.mk hm
  have HBm := Aside0.mk ((Below.refl (w.heap.size + 1) (w.alloc (.cells (stL s).toArray 81))).alloc (by rw [hsz1]; exact Nat.le_refl _) (.cells (madeCells (Value.int .u8 0).cells 16) 5))
  have HB0 := Aside0.mk ((Below.refl w.heap.size w).alloc (Nat.le_refl _) (.cells (stL s).toArray 81))
  clear hm hsz1
  have HS := Aside0.mk hs
  clear hs
  have hrg : ((w.alloc (.cells (stL s).toArray 81)).alloc (.cells (madeCells (Value.int .u8 0).cells 16) 5)).rangeAt w.heap.size 0 (stL s) := by
    intro j v hv
    rw [Nat.zero_add, cell_of_row _ _ _ _ _ _ ((Go.heap_alloc_old _ _ (by simp)).trans (Go.heap_alloc_new w (.cells (stL s).toArray 81))), List.getElem?_toArray]; exact hv
  have hi81 : (Tryd.prog.info? 81).map (·.size) = some (stL s).length := by show _ = some 4; kernel_rfl
  go_enter Tryd.func48, Tryd.ntmps48
  go_wp2_with ((with_reducible refine gate_load (ty := 81) (x := .tmp 1) rfl ?_); refine wpList_load_mid rfl 81 (.tmp 1) rfl w.heap.size 0 rfl (stL s) _ hrg Tryd.underlying81 rfl hi81 ?_)
  clear hmk hrg hi81
  go_loopw [3, 8] (fun v i wr => ∃ k : Nat, k ≤ 4 ∧ i = .int .i64 k ∧ Aside0 (wr.ownsRow (w.heap.size + 1) 5 1 v (toldI s k).length (nums .u8 (toldI s k))) ∧ Aside0 (Below (w.heap.size + 1) (w.alloc (.cells (stL s).toArray 81)) wr)) (fun _ i _ => 4 - (intOf i).toNat)
  case atStart => exact ⟨0, Nat.zero_le _, rfl, HM, HBm⟩
  case round =>
    clear HM HBm
    obtain ⟨k, hk, rfl, HO, HB⟩ := hrel
    obtain ⟨wo, rfl⟩ : ∃ wo : World, wo = wr := ⟨_, rfl⟩
    by_cases hlt : k < 4
    · have hix := index_st s k wo hlt
      have hcl := comp_lt s HS.out k
      have HN := Lib.hid (show toldI s (k + 1) = toldI s k ++ b4 (comp s k) from rfl)
      have HL := Lib.hid (toldI_length s k)
      generalize comp s k = c at hix hcl HN
      have hnew := news wo [.int .u8 ((c : Int) % 256), .int .u8 ((c : Int) / 256 % 256), .int .u8 ((c : Int) / 65536 % 256), .int .u8 ((c : Int) / 16777216)] 5
      have hsz := HB.out.size
      have hsz2 : w.heap.size + 1 ≤ wo.heap.size := by simpa using hsz
      have HZ := Aside0.mk hsz2
      clear hsz hsz2
      have hb4 : nums .u8 (b4 c) = [.int .u8 ((c : Int) % 256), .int .u8 ((c : Int) / 256 % 256), .int .u8 ((c : Int) / 65536 % 256), .int .u8 ((c : Int) / 16777216)] := by
        unfold b4 nums
        simp only [List.map_cons, List.map_nil]
        rw [show ((c / 16777216 % 256 : Nat) : Int) = (c : Int) / 16777216 by omega]
        rfl
      have HB4 := Lib.hid hb4
      clear hb4
      go_wp2_with (at_builtin; go_loud (refine list_append_at (P := Tryd.prog) (w0 := w.alloc (.cells (stL s).toArray 81)) (w.heap.size + 1) rfl (.tmp 11) (.tmp 23) 64 5 (.int .u8 0) 1 rfl Tryd.underlying64 info8 rfl (by decide) _ (toldI s k).length (nums .u8 (toldI s k)) wo.heap.size 4 4 [.int .u8 ((c : Int) % 256), .int .u8 ((c : Int) / 256 % 256), .int .u8 ((c : Int) / 65536 % 256), .int .u8 ((c : Int) / 16777216)] rfl rfl rfl ?h1 ?hc (HO.out.alloc _) (HB.out.alloc HZ.out _) ?hs ?hl ?_); (case h1 => simp [Value.oneCell']); (case hc => exact hnew); (case hs => have := HZ.out; simp; omega); (case hl => rw [HL.out]; omega); intro v1 w1 HO1 HB1 _)
      go_roundw
      case rel => exact ⟨k + 1, by omega, by go_num, ⟨by rw [HN.out, nums_append, List.length_append, HB4.out]; exact HO1⟩, ⟨HB1⟩⟩
      case measure => simp [intOf]; omega
    · have hcv := own_string (P := Tryd.prog) Tryd.underlying64 Tryd.underlying5 Tryd.underlying9 HO.out
      obtain rfl : k = 4 := by omega
      rw [toldI_str] at hcv
      go_wp2
      go_ret
      exact ⟨rfl, HB0.out.trans (HB.out.mono (by omega))⟩
end Go.Proofs.YthnobhifepnakaaDoor.Words
