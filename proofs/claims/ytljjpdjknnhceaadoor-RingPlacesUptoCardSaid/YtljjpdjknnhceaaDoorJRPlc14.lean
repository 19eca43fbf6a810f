/- Joined texts of this claim: Steps, Mix, TakePure -/
import Derived.Test.YtljjpdjknnhceaaDoorJRPlc0
import Derived.Test.YtljjpdjknnhceaaDoorJRPlc13
import Derived.Deep.MidRow
import Derived.Deep.RegionWith
import Derived.Outline
import Derived.Test.YtljjpdjknnhceaaDoorJRPlc10
import Derived.Test.YtljjpdjknnhceaaDoorJRPlc12
set_option linter.unusedVariables false
set_option linter.unusedSimpArgs false
/- The document's CRCJoin: what its functions answer. -/
set_option linter.unusedVariables false
set_option linter.unusedSimpArgs false
namespace Go.Proofs.YtljjpdjknnhceaaDoor.StepsRef
open Go.RowKit Go.Proofs.YtljjpdjknnhceaaDoorW.PrintWords Go.Proofs.YtljjpdjknnhceaaDoorW.PrintLast Go.Proofs.YtljjpdjknnhceaaDoorW.PrintMore
open Go.Proofs.YtljjpdjknnhceaaDoor.Base Go.Proofs.YtljjpdjknnhceaaDoor.CrcPure
def pw (i : Nat) : Nat := 2 ^ i
theorem pw_pos (i : Nat) : 0 < pw i := Nat.two_pow_pos i
theorem pw_le (i : Nat) (h : i < 32) : pw i ≤ 2147483648 := Nat.pow_le_pow_right (n := 2) (by decide) (show i ≤ 31 by omega)
/-- the document's table of powers lies where it was laid -/
structure Pows (w : World) : Prop where mk :: (cell : ∀ i, i < 32 → w.cell? ⟨8, i, none⟩ = some (.int .i64 (pw i : Nat))) (lt : 8 < w.heap.size)
theorem Pows.below {w w1 : World} (h : Pows w) (hb : Below w.heap.size w w1) : Pows w1 :=
  ⟨fun i hi => (hb.cell (p := ⟨8, i, none⟩) h.lt).trans (h.cell i hi), Nat.lt_of_lt_of_le h.lt hb.size⟩
/-- 32 words, as the struct's cells -/
def tabL (T : Nat → Nat) : List Value := (List.range 32).map fun i => Value.int .i64 (T i : Nat)
theorem tabL_length (T : Nat → Nat) : (tabL T).length = 32 := by simp [tabL]
theorem tabA_size (T : Nat → Nat) : (tabL T).toArray.size = 32 := by simp [tabL]
theorem tabA_at (T : Nat → Nat) (i : Nat) (h : i < 32) : (tabL T).toArray[i]? = some (.int .i64 (T i : Nat)) := by simp [tabL, h]
theorem new_cell (w : World) (c : Array Value) (t : TypeId) (i : Nat) : (w.alloc (.cells c t)).cell? ⟨w.heap.size, i, none⟩ = c[i]? := cell_of_row _ _ _ _ _ _ (heap_alloc_new w _)
theorem ofTo_lt (T : Nat → Nat) (hT : ∀ i, i < 32 → T i < 4294967296) (x : Nat) (i : Nat) (h : i ≤ 32) : ofTo T x i < 4294967296 := by
  induction i with
  | zero => simp [ofTo]
  | succ i ih =>
    simp only [ofTo]
    split
    · exact Nat.xor_lt_two_pow (n := 32) (ih (by omega)) (hT i (by omega))
    · exact ih (by omega)
def cur (T U : Nat → Nat) (k i : Nat) : Value := .int .i64 ((if i < k then U i else 0 : Nat) : Int)
section
variable {P : Program} {ops : Array Oper} {o : Oper} {a : Act} {Q : Exit → Act → World → Prop} {K : Act → World → Prop} {E : Prop}
theorem step_load_row {W : World} (hw : Region.wanted o (yielded ops a.tmps) = true) (ty : TypeId) (x : Operand) (ho : o.op = .load ty x)
    (g : Nat) (hx : a.eval x = .pointer (some ⟨g, 0, none⟩)) (t : TypeId) (cs : Array Value) (fr : Nat × Nat) (d : TypeDesc) (hg : W.heap[g]? = some (.cells cs t fr))
    (hu : P.underlying ty = some d) (hd : (match d with | .struct _ | .array _ _ => true | _ => false) = true) (hi : (P.info? ty).map (·.size) = some cs.size)
    (h : K (a.put o.dst (.agg cs)) W) : if Region.wanted o (yielded ops a.tmps) = true then Oper.wp P o a W K Q else E := by
  rw [if_pos hw]
  exact wp_load_row ty x ho g hx t cs fr d hg hu hd hi h
end
theorem zero32 : (tabL fun _ => 0).toArray = #[.int .i64 0, .int .i64 0, .int .i64 0, .int .i64 0, .int .i64 0, .int .i64 0, .int .i64 0, .int .i64 0, .int .i64 0, .int .i64 0, .int .i64 0, .int .i64 0, .int .i64 0, .int .i64 0, .int .i64 0, .int .i64 0,
    .int .i64 0, .int .i64 0, .int .i64 0, .int .i64 0, .int .i64 0, .int .i64 0, .int .i64 0, .int .i64 0, .int .i64 0, .int .i64 0, .int .i64 0, .int .i64 0, .int .i64 0, .int .i64 0, .int .i64 0, .int .i64 0] := rfl
theorem rowIs_tab (w : World) (T : Nat → Nat) (t : TypeId) (b : Nat) (h : w.heap[b]? = some (.cells (tabL T).toArray t (0, 0))) : w.rowIs b t 32 (fun i => .int .i64 (T i : Nat)) :=
  ⟨_, h, tabA_size T, fun i hi => tabA_at T i hi⟩
theorem tab_of_rowIs {w : World} {T : Nat → Nat} {t : TypeId} {b : Nat} {f : Nat → Value} (h : w.rowIs b t 32 f) (hf : ∀ i, i < 32 → f i = .int .i64 (T i : Nat)) : w.heap[b]? = some (.cells (tabL T).toArray t (0, 0)) := by
  obtain ⟨c, h1, h2, h3⟩ := h
  rw [h1]
  congr 2
  apply Array.ext_getElem?
  intro i
  by_cases hi : i < 32
  · rw [h3 i hi, hf i hi, tabA_at T i hi]
  · rw [Array.getElem?_eq_none (by omega), Array.getElem?_eq_none (by rw [tabA_size]; omega)]
theorem range_tab {w : World} {T : Nat → Nat} {t : TypeId} {b : Nat} (h : w.heap[b]? = some (.cells (tabL T).toArray t (0, 0))) : w.rangeAt b 0 (tabL T) := by
  intro j v hv
  have := cell_of_row w b j _ _ _ h
  rw [Nat.zero_add, this]
  simpa using hv
theorem World_heap_old (w : World) (o : Obj) (i : Nat) (h : i < w.heap.size) : (w.alloc o).heap[i]? = w.heap[i]? := Go.heap_alloc_old w o h
theorem range3 {w w3 : World} {b o : Nat} {cs : List Value} (h : Below w.heap.size w w3) (hb : b < w.heap.size) (hr : w.rangeAt b o cs) : w3.rangeAt b o cs := fun j v hv => (h.cell (p := ⟨b, o + j, none⟩) hb).trans (hr j v hv)
theorem cur_next (T U : Nat → Nat) (k i : Nat) : (if i = k then Value.int .i64 ((U k : Nat) : Int) else cur T U k i) = cur T U (k + 1) i := by
  unfold cur
  by_cases h : i = k
  · subst h; rw [if_pos rfl, if_pos (by omega)]
  · rw [if_neg h]
    by_cases h2 : i < k
    · rw [if_pos h2, if_pos (by omega)]
    · rw [if_neg h2, if_neg (by omega)]
theorem there_tab {w : World} {T : Nat → Nat} {t : TypeId} {b : Nat} (h : w.heap[b]? = some (.cells (tabL T).toArray t (0, 0))) (n : Nat) (hn : n = 32) : w.there b 0 n := by
  intro j hj
  subst hn
  rw [Nat.zero_add]
  exact ⟨by rw [cell_of_row w b j _ _ _ h, tabA_at T j hj]; rfl, frozen_of_row w b j _ _ h⟩
theorem below_setCells {B : Nat} {w W : World} (h : Below B w W) {b : Nat} (hb : B ≤ b) : ∀ (vs : List Value) (o : Nat), Below B w (W.setCells b o vs)
  | vs, o => by
    induction vs generalizing W o with
    | nil => exact h
    | cons v r ih => exact ih (h.setCell hb v) _
theorem results_cell_mid {P : Program} {fn : Func} {p : Tmp} {ty : TypeId} (h : fn.results = #[.cell p ty]) (tmps : Array Value) (w : World) (b o : Nat) (cs : List Value) (d : TypeDesc)
    (hp : tmps.getD p undef = .pointer (some ⟨b, o, none⟩)) (hc : w.rangeAt b o cs) (hu : P.underlying ty = some d) (hd : d.isRow = true) (hi : (P.info? ty).map (·.size) = some cs.length) :
    (results fn tmps).run P w = .ok (.agg cs.toArray) w := by
  have hp' : tmps[p]?.getD undef = .pointer (some ⟨b, o, none⟩) := by simpa using hp
  simp [results, h, hp', asAddr, run_loadVar_mid w b o ty cs d hc hu hd hi]
theorem three (w : World) (A Z : Obj) : (((w.alloc A).alloc Z).alloc Z).heap[w.heap.size]? = some A ∧ (((w.alloc A).alloc Z).alloc Z).heap[w.heap.size + 1]? = some Z ∧ (((w.alloc A).alloc Z).alloc Z).heap[w.heap.size + 1 + 1]? = some Z ∧ (((w.alloc A).alloc Z).alloc Z).heap.size = w.heap.size + 3 := by
  refine ⟨?_, ?_, ?_, ?_⟩
  · rw [World_heap_old _ _ _ (by simp; omega), heap_alloc2_old]
  · rw [World_heap_old _ _ _ (by simp), heap_alloc2_new]
  · exact heap_alloc2_new (w.alloc A) Z Z |> (by simpa using ·)
  · simp
end Go.Proofs.YtljjpdjknnhceaaDoor.StepsRef

/- mix of the digest package: the words behind one more block. -/
set_option linter.unusedVariables false
set_option linter.unusedSimpArgs false
namespace Go.Proofs.YtljjpdjknnhceaaDoor.Mix
open Go.RowKit Go.Proofs.YtljjpdjknnhceaaDoorW.PrintWords Go.Proofs.YtljjpdjknnhceaaDoorW.PrintLast Go.Proofs.YtljjpdjknnhceaaDoorW.PrintMore
open Go.Proofs.YtljjpdjknnhceaaDoor.Base Go.Proofs.YtljjpdjknnhceaaDoor.PRingLocates Go.Proofs.YtljjpdjknnhceaaDoor.Crc
open Go.Proofs.YtljjpdjknnhceaaDoor.StepsRef (below_setCells results_cell_mid)
open Go.Proofs.YtljjpdjknnhceaaDoor.Md5Pure (St K R gG fF stepX mdStep mdSteps wordAt mdBlock plus)
/-- the program's tables lie where they were laid -/
structure Tabs (w : World) : Prop where mk ::
  (sine : ∀ i, i < 64 → w.cell? ⟨3, i, none⟩ = some (.int .u32 (K i : Nat)))
  (turn : ∀ i, i < 16 → w.cell? ⟨4, i, none⟩ = some (.int .i64 (Md5Pure.turns.getD i 0 : Nat)))
  (lt3 : 3 < w.heap.size) (lt4 : 4 < w.heap.size)
theorem Tabs.below {w w1 : World} (h : Tabs w) (hb : Below w.heap.size w w1) : Tabs w1 :=
  ⟨fun i hi => (hb.cell (p := ⟨3, i, none⟩) h.lt3).trans (h.sine i hi), fun i hi => (hb.cell (p := ⟨4, i, none⟩) h.lt4).trans (h.turn i hi), Nat.lt_of_lt_of_le h.lt3 hb.size, Nat.lt_of_lt_of_le h.lt4 hb.size⟩
def stV (s : St) : Array Value := #[.int .u32 (s.a : Nat), .int .u32 (s.b : Nat), .int .u32 (s.c : Nat), .int .u32 (s.d : Nat)]
def byteL (l : List UInt8) : List Value := l.map fun c => Value.int .u8 (c.toNat : Nat)
theorem byteL_length (l : List UInt8) : (byteL l).length = l.length := by simp [byteL]
theorem byteL_at (l : List UInt8) (i : Nat) (h : i < l.length) : (byteL l).toArray[i]? = some (.int .u8 ((l.getD i 0).toNat : Nat)) := by
  simp [byteL, List.getD_eq_getElem?_getD, List.getElem?_eq_getElem h]
theorem four (w : World) (A B C D : Obj) : ((((w.alloc A).alloc B).alloc C).alloc D).heap[w.heap.size]? = some A ∧ ((((w.alloc A).alloc B).alloc C).alloc D).heap[w.heap.size + 1]? = some B ∧
    ((((w.alloc A).alloc B).alloc C).alloc D).heap[w.heap.size + 1 + 1]? = some C ∧ ((((w.alloc A).alloc B).alloc C).alloc D).heap[w.heap.size + 1 + 1 + 1]? = some D := by
  refine ⟨?_, ?_, ?_, ?_⟩
  · rw [Go.heap_alloc_old _ _ (by simp <;> omega), Go.heap_alloc_old _ _ (by simp <;> omega), Go.heap_alloc_old _ _ (by simp), Go.heap_alloc_new]
  · rw [Go.heap_alloc_old _ _ (by simp <;> omega), Go.heap_alloc_old _ _ (by simp)]; exact Go.heap_alloc_new (w.alloc A) B |> (by simpa using ·)
  · rw [Go.heap_alloc_old _ _ (by simp)]; exact Go.heap_alloc_new ((w.alloc A).alloc B) C |> (by simpa using ·)
  · exact Go.heap_alloc_new (((w.alloc A).alloc B).alloc C) D |> (by simpa using ·)
/-- the first k words of the block -/
def curM (l : List UInt8) (k i : Nat) : Value := .int .u32 ((if i < k then wordAt l i else 0 : Nat) : Int)
def zero4 : Array Value := #[.int .u32 0, .int .u32 0, .int .u32 0, .int .u32 0]
def zero16 : Array Value := #[.int .u32 0, .int .u32 0, .int .u32 0, .int .u32 0, .int .u32 0, .int .u32 0, .int .u32 0, .int .u32 0, .int .u32 0, .int .u32 0, .int .u32 0, .int .u32 0, .int .u32 0, .int .u32 0, .int .u32 0, .int .u32 0]
theorem zero16_row (w : World) (b : Nat) (t : TypeId) (l : List UInt8) (h : w.heap[b]? = some (.cells zero16 t (0, 0))) : w.rowIs b t 16 (curM l 0) := by
  refine ⟨_, h, rfl, fun i hi => ?_⟩
  have : ∀ i, i < 16 → zero16[i]? = some (.int .u32 0) := by
    intro i hi
    have e : i = 0 ∨ i = 1 ∨ i = 2 ∨ i = 3 ∨ i = 4 ∨ i = 5 ∨ i = 6 ∨ i = 7 ∨ i = 8 ∨ i = 9 ∨ i = 10 ∨ i = 11 ∨ i = 12 ∨ i = 13 ∨ i = 14 ∨ i = 15 := by omega
    rcases e with e | e | e | e | e | e | e | e | e | e | e | e | e | e | e | e <;> subst e <;> rfl
  rw [this i hi]; rfl
/-- what the four blocks hold -/
structure Mem (w wr : World) (s : St) (l : List UInt8) (f : Nat → Value) : Prop where mk ::
  (st : wr.heap[w.heap.size]? = some (.cells (stV s) 154 (0, 0))) (bl : wr.heap[w.heap.size + 1]? = some (.cells (byteL l).toArray 155 (0, 0)))
  (re : wr.heap[w.heap.size + 1 + 1]? = some (.cells zero4 154 (0, 0))) (ms : wr.rowIs (w.heap.size + 1 + 1 + 1) 170 16 f) (be : Below w.heap.size w wr)
/-- four bytes from 4 k on -/
def nums4 (l : List UInt8) (k : Nat) : List Int := [((l.getD (4 * k) 0).toNat : Int), ((l.getD (4 * k + 1) 0).toNat : Int), ((l.getD (4 * k + 2) 0).toNat : Int), ((l.getD (4 * k + 3) 0).toNat : Int)]
theorem or4 (a b c d : Nat) (ha : a < 256) (hb : b < 256) (hc : c < 256) (hd : d < 256) : ((a ||| b * 256) ||| c * 65536) ||| d * 16777216 = a + 256 * b + 65536 * c + 16777216 * d := by
  have e1 := Nat.two_pow_add_eq_or_of_lt (i := 8) (b := a) ha b
  have e2 := Nat.two_pow_add_eq_or_of_lt (i := 16) (b := 2 ^ 8 * b + a) (by omega) c
  have e3 := Nat.two_pow_add_eq_or_of_lt (i := 24) (b := 2 ^ 16 * c + (2 ^ 8 * b + a)) (by omega) d
  have r1 : a ||| b * 256 = 2 ^ 8 * b + a := by rw [e1, Nat.or_comm, Nat.mul_comm b]
  rw [r1]
  have r2 : (2 ^ 8 * b + a) ||| c * 65536 = 2 ^ 16 * c + (2 ^ 8 * b + a) := by rw [e2, Nat.or_comm, Nat.mul_comm c]
  rw [r2]
  have r3 : (2 ^ 16 * c + (2 ^ 8 * b + a)) ||| d * 16777216 = 2 ^ 24 * d + (2 ^ 16 * c + (2 ^ 8 * b + a)) := by rw [e3, Nat.or_comm, Nat.mul_comm d]
  rw [r3]; omega
theorem little_eq (l : List UInt8) (k : Nat) : digest_little.f (strOfNums (nums4 l k)) = some ((wordAt l k : Nat) : Int) := by
  have hz : ((strOfNums (nums4 l k)).size : Int) = 4 := by rw [strOfNums_size]; rfl
  have hl (i : Nat) : (l.getD i 0).toNat < 256 := (l.getD i 0).toNat_lt
  have h0 := hl (4 * k); have h1 := hl (4 * k + 1); have h2 := hl (4 * k + 2); have h3 := hl (4 * k + 3)
  have b0 : bt (strOfNums (nums4 l k)) 0 = ((l.getD (4 * k) 0).toNat : Int) := bt_strOfNums (nums4 l k) 0 (by show 0 < 4; omega) (by show (0 : Int) ≤ ((l.getD (4 * k) 0).toNat : Int); omega) (by show ((l.getD (4 * k) 0).toNat : Int) ≤ 255; omega)
  have b1 : bt (strOfNums (nums4 l k)) 1 = ((l.getD (4 * k + 1) 0).toNat : Int) := bt_strOfNums (nums4 l k) 1 (by show 1 < 4; omega) (by show (0 : Int) ≤ ((l.getD (4 * k + 1) 0).toNat : Int); omega) (by show ((l.getD (4 * k + 1) 0).toNat : Int) ≤ 255; omega)
  have b2 : bt (strOfNums (nums4 l k)) 2 = ((l.getD (4 * k + 2) 0).toNat : Int) := bt_strOfNums (nums4 l k) 2 (by show 2 < 4; omega) (by show (0 : Int) ≤ ((l.getD (4 * k + 2) 0).toNat : Int); omega) (by show ((l.getD (4 * k + 2) 0).toNat : Int) ≤ 255; omega)
  have b3 : bt (strOfNums (nums4 l k)) 3 = ((l.getD (4 * k + 3) 0).toNat : Int) := bt_strOfNums (nums4 l k) 3 (by show 3 < 4; omega) (by show (0 : Int) ≤ ((l.getD (4 * k + 3) 0).toNat : Int); omega) (by show ((l.getD (4 * k + 3) 0).toNat : Int) ≤ 255; omega)
  unfold digest_little.f
  rw [hz, b0, b1, b2, b3, if_pos (by decide), if_pos (by decide), if_pos (by decide), if_pos (by decide)]
  unfold wordAt
  generalize (l.getD (4 * k) 0).toNat = a at h0 ⊢
  generalize (l.getD (4 * k + 1) 0).toNat = b at h1 ⊢
  generalize (l.getD (4 * k + 2) 0).toNat = c at h2 ⊢
  generalize (l.getD (4 * k + 3) 0).toNat = d at h3 ⊢
  have E := or4 a b c d h0 h1 h2 h3
  have t1 : ((a : Int) % 4294967296) = ((a : Nat) : Int) := by omega
  have t2 : ((b : Int) % 4294967296 * 256 % 4294967296) = ((b * 256 : Nat) : Int) := by omega
  have t3 : ((c : Int) % 4294967296 * 65536 % 4294967296) = ((c * 65536 : Nat) : Int) := by omega
  have t4 : ((d : Int) % 4294967296 * 16777216 % 4294967296) = ((d * 16777216 : Nat) : Int) := by omega
  rw [t1, t2, t3, t4, u32_or_nat _ _ (by omega) (by omega)]
  have l1 : a ||| b * 256 < 2 ^ 32 := Nat.or_lt_two_pow (by omega) (by omega)
  rw [u32_or_nat _ _ l1 (by omega)]
  have l2 : (a ||| b * 256) ||| c * 65536 < 2 ^ 32 := Nat.or_lt_two_pow l1 (by omega)
  rw [u32_or_nat _ _ l2 (by omega), E]
theorem rotl_lt (x s : Nat) (hx : x < 4294967296) (h0 : 0 < s) (h1 : s < 32) : Md5Pure.rotl x s < 4294967296 ∧ (x * 2 ^ s % 4294967296) ||| (x / 2 ^ (32 - s)) = Md5Pure.rotl x s := by
  have e : (4294967296 : Nat) = 2 ^ s * 2 ^ (32 - s) := by rw [← Nat.pow_add, show s + (32 - s) = 32 by omega]
  have m : x * 2 ^ s % 4294967296 = 2 ^ s * (x % 2 ^ (32 - s)) := by rw [e, Nat.mul_comm x, Nat.mul_mod_mul_left]
  have d : x / 2 ^ (32 - s) < 2 ^ s := by
    rw [Nat.div_lt_iff_lt_mul (Nat.two_pow_pos _), ← e]; exact hx
  have o := Nat.two_pow_add_eq_or_of_lt (i := s) (b := x / 2 ^ (32 - s)) d (x % 2 ^ (32 - s))
  unfold Md5Pure.rotl
  rw [m, ← o]
  refine ⟨?_, rfl⟩
  have h2 : x % 2 ^ (32 - s) + 1 ≤ 2 ^ (32 - s) := Nat.mod_lt _ (Nat.two_pow_pos _)
  have h3 := Nat.mul_le_mul_left (2 ^ s) h2
  rw [e]
  rw [Nat.mul_add] at h3
  omega
theorem rotl_eq (x s : Nat) (hx : x < 4294967296) (h0 : 0 < s) (h1 : s < 32) : bits_RotateLeft32.f (x : Int) (s : Int) = some ((Md5Pure.rotl x s : Nat) : Int) := by
  have w1 : IntKind.u64.wrap (s : Int) = ((s : Nat) : Int) := by rw [IntKind.wrap_u64]; omega
  have a1 : bits .and .u64 ((s : Nat) : Int) 31 = ((s : Nat) : Int) := by
    have g := (bits_gen .u64 s 31 (by show s < 2 ^ 64; omega) (by decide)).2.1
    have e : s &&& 31 = s := by rw [show (31 : Nat) = 2 ^ 5 - 1 from rfl, Nat.and_two_pow_sub_one_eq_mod]; omega
    rw [e] at g
    exact g.trans w1
  have w2 : IntKind.u64.wrap (32 - ((s : Nat) : Int)) = ((32 - s : Nat) : Int) := by rw [IntKind.wrap_u64]; omega
  unfold bits_RotateLeft32.f
  rw [w1, a1, w2, if_pos (by omega), if_pos (by omega)]
  have hs1 : shl .u32 (x : Int) ((s : Nat) : Int) = ((x * 2 ^ s % 4294967296 : Nat) : Int) := by
    unfold shl
    rw [Int.toNat_natCast, show min s IntKind.u32.bits = s from Nat.min_eq_left (by show s ≤ 32; omega), IntKind.wrap_u32]
    simp only [Int.natCast_emod, Int.natCast_mul, Int.natCast_pow]; rfl
  have hs2 : shr .u32 (x : Int) ((32 - s : Nat) : Int) = ((x / 2 ^ (32 - s) : Nat) : Int) := by
    unfold shr
    rw [Int.toNat_natCast, show min (32 - s) IntKind.u32.bits = 32 - s from Nat.min_eq_left (by show 32 - s ≤ 32; omega)]
    simp only [Int.natCast_ediv, Int.natCast_pow]; rfl
  rw [hs1, hs2, u32_or_nat _ _ (Nat.mod_lt _ (by decide)) (Nat.lt_of_le_of_lt (Nat.div_le_self _ _) hx), (rotl_lt x s hx h0 h1).2]
theorem curM_next (l : List UInt8) (k i : Nat) : (if i = k then Value.int .u32 ((wordAt l k : Nat) : Int) else curM l k i) = curM l (k + 1) i := by
  unfold curM
  by_cases h : i = k
  · subst h; rw [if_pos rfl, if_pos (by omega)]
  · rw [if_neg h]
    by_cases h2 : i < k
    · rw [if_pos h2, if_pos (by omega)]
    · rw [if_neg h2, if_neg (by omega)]
theorem Mem.after {w wr w3 : World} {s : St} {l : List UInt8} {f : Nat → Value} (h : Mem w wr s l f) (hb : Below wr.heap.size wr w3) : Mem w w3 s l f := by
  have hlt := h.ms.lt
  exact ⟨(hb.block _ (by omega)).trans h.st, (hb.block _ (by omega)).trans h.bl, (hb.block _ (by omega)).trans h.re, h.ms.of_block (hb.block _ hlt), below_then h.be h.be.size hb⟩
theorem Mem.store {w wr : World} {s : St} {l : List UInt8} {f : Nat → Value} (h : Mem w wr s l f) (k : Nat) (v : Value) : Mem w (wr.setCell ⟨w.heap.size + 1 + 1 + 1, k, none⟩ v) s l (fun i => if i = k then v else f i) := by
  refine ⟨?_, ?_, ?_, h.ms.set k v, h.be.setCell (by simp; omega) _⟩
  · rw [heap_setCell_other _ _ _ _ (by simp; omega)]; exact h.st
  · rw [heap_setCell_other _ _ _ _ (by simp)]; exact h.bl
  · rw [heap_setCell_other _ _ _ _ (by simp)]; exact h.re
theorem Mem.congr {w wr : World} {s : St} {l : List UInt8} {f g : Nat → Value} (h : Mem w wr s l f) (e : ∀ i, i < 16 → f i = g i) : Mem w wr s l g := ⟨h.st, h.bl, h.re, h.ms.congr e, h.be⟩
theorem stV_cell {w wr : World} {s : St} {l : List UInt8} {f : Nat → Value} (h : Mem w wr s l f) : wr.cell? ⟨w.heap.size, 0, none⟩ = some (.int .u32 (s.a : Nat)) ∧ wr.cell? ⟨w.heap.size, 1, none⟩ = some (.int .u32 (s.b : Nat)) ∧ wr.cell? ⟨w.heap.size, 2, none⟩ = some (.int .u32 (s.c : Nat)) ∧ wr.cell? ⟨w.heap.size, 3, none⟩ = some (.int .u32 (s.d : Nat)) :=
  ⟨cell_of_row _ _ _ _ _ _ h.st, cell_of_row _ _ _ _ _ _ h.st, cell_of_row _ _ _ _ _ _ h.st, cell_of_row _ _ _ _ _ _ h.st⟩
def sineL : List Value := (List.range 64).map fun i => Value.int .u32 (K i : Nat)
theorem sineL_length : sineL.length = 64 := by simp [sineL]
def sineA : Array Value := sineL.toArray
theorem sineA_at (i : Nat) (h : i < 64) : sineA[i]? = some (.int .u32 (K i : Nat)) := by simp [sineA, sineL, h]
theorem sine_range {w : World} (h : Tabs w) : w.rangeAt 3 0 sineL := by
  intro j v hv
  have hj : j < 64 := by
    rcases Nat.lt_or_ge j 64 with h | h
    · exact h
    · rw [List.getElem?_eq_none (by rw [sineL_length]; exact h)] at hv; simp at hv
  rw [Nat.zero_add, h.sine j hj]
  have := sineA_at j hj
  simp only [sineA, List.getElem?_toArray] at this
  rw [this] at hv; exact hv
theorem nsub (x : Nat) (h : x < 4294967296) : (4294967295 : Int) - (x : Int) = ((Md5Pure.M - x : Nat) : Int) := by unfold Md5Pure.M; omega
theorem fF_0 (b c d : Nat) (hb : b < 4294967296) (hc : c < 4294967296) (hd : d < 4294967296) :
    bits .or .u32 (bits .and .u32 (b : Int) (c : Int)) (bits .and .u32 (4294967295 - (b : Int)) (d : Int)) = ((fF 0 b c d : Nat) : Int) := by
  have h1 : b &&& c < 2 ^ 32 := Nat.and_lt_two_pow _ hc
  have h2 : (Md5Pure.M - b) &&& d < 2 ^ 32 := Nat.and_lt_two_pow _ hd
  rw [nsub b hb, u32_and_nat _ _ hb hc, u32_and_nat _ _ (by unfold Md5Pure.M; omega) hd, u32_or_nat _ _ h1 h2]; rfl
theorem fF_1 (b c d : Nat) (hb : b < 4294967296) (hc : c < 4294967296) (hd : d < 4294967296) :
    bits .or .u32 (bits .and .u32 (d : Int) (b : Int)) (bits .and .u32 (4294967295 - (d : Int)) (c : Int)) = ((fF 1 b c d : Nat) : Int) := by
  have h1 : d &&& b < 2 ^ 32 := Nat.and_lt_two_pow _ hb
  have h2 : (Md5Pure.M - d) &&& c < 2 ^ 32 := Nat.and_lt_two_pow _ hc
  rw [nsub d hd, u32_and_nat _ _ hd hb, u32_and_nat _ _ (by unfold Md5Pure.M; omega) hc, u32_or_nat _ _ h1 h2]; rfl
theorem fF_2 (b c d : Nat) (hb : b < 4294967296) (hc : c < 4294967296) (hd : d < 4294967296) :
    bits .xor .u32 (bits .xor .u32 (b : Int) (c : Int)) (d : Int) = ((fF 2 b c d : Nat) : Int) := by
  have h1 : b ^^^ c < 2 ^ 32 := Nat.xor_lt_two_pow hb hc
  rw [u32_xor_nat _ _ hb hc, u32_xor_nat _ _ h1 hd]; rfl
theorem fF_3 (b c d : Nat) (hb : b < 4294967296) (hc : c < 4294967296) (hd : d < 4294967296) :
    bits .xor .u32 (c : Int) (bits .or .u32 (b : Int) (4294967295 - (d : Int))) = ((fF 3 b c d : Nat) : Int) := by
  have h1 : b ||| (Md5Pure.M - d) < 2 ^ 32 := Nat.or_lt_two_pow hb (by unfold Md5Pure.M; omega)
  rw [nsub d hd, u32_or_nat _ _ hb (by unfold Md5Pure.M; omega), u32_xor_nat _ _ hc h1]; rfl
theorem rotl_sum (a f k m r : Nat) (h0 : 0 < r) (h1 : r < 32) :
    bits_RotateLeft32.f (IntKind.u32.wrap (IntKind.u32.wrap (IntKind.u32.wrap ((a : Int) + (f : Int)) + (k : Int)) + (m : Int))) (r : Int) = some ((Md5Pure.rotl ((a + f + k + m) % 4294967296) r : Nat) : Int) := by
  rw [← rotl_eq _ r (Nat.mod_lt _ (by decide)) h0 h1]
  congr 1
  simp only [IntKind.wrap_u32]
  omega
theorem next_b (b x y : Nat) (h : y = (b + x) % 4294967296) : Value.int .u32 (((b : Int) + (x : Int)) % 4294967296) = .int .u32 (y : Nat) := by subst h; rfl
theorem index_sine (k : Nat) (w : World) (h : k < 64) : (Instr.index 172 (.agg sineA) (.int .i64 (k : Int))).run Tryd.prog w = .ok (.int .u32 (Md5Pure.K k : Nat)) w := by
  have hso : (Tryd.prog.info? 153).isSome = true := by kernel_rfl
  have hce : Tryd.prog.cellsOf 153 = 1 := by kernel_rfl
  obtain ⟨ii, hii⟩ := Option.isSome_iff_exists.1 hso
  have hlt : (k : Int) < 64 := by omega
  have hat := sineA_at k h
  simp [Instr.index, run_underlying Tryd.underlying172, asIntOf, run_sizeOf _ hii, hce, part, run_underlying Tryd.underlying153, hlt, hat]
  intro hge; omega
theorem re_there {w wr : World} {s : St} {l : List UInt8} {f : Nat → Value} (h : Mem w wr s l f) : wr.there (w.heap.size + 1 + 1) 0 4 := by
  intro j hj
  rw [Nat.zero_add]
  refine ⟨?_, frozen_of_row _ _ j _ _ h.re⟩
  rw [cell_of_row _ _ j _ _ _ h.re]
  have e : j = 0 ∨ j = 1 ∨ j = 2 ∨ j = 3 := by omega
  rcases e with e | e | e | e <;> subst e <;> rfl
theorem last_eq (s r : St) : Ending.returned (.agg #[Value.int .u32 ((((s.a : Nat) : Int) + (r.a : Nat)) % 4294967296), .int .u32 ((((s.b : Nat) : Int) + (r.b : Nat)) % 4294967296), .int .u32 ((((s.c : Nat) : Int) + (r.c : Nat)) % 4294967296), .int .u32 ((((s.d : Nat) : Int) + (r.d : Nat)) % 4294967296)]) = .returned (.agg (stV (plus s r))) := rfl
set_option maxRecDepth 100000 in
set_option maxHeartbeats 4000000 in
theorem mix_any (s : St) (l : List UInt8) (w : World) (hs : s.ok) (hl : l.length = 64) (hT : Tabs w) :
    Calls Tryd.prog 86 #[.agg (stV s), .agg (byteL l).toArray] w fun e w' => e = .returned (.agg (stV (mdBlock s l))) ∧ Below w.heap.size w w' := by
  have HT := Aside0.mk hT
  have HL := Aside0.mk hl
  clear hT hl
  have h4 := four w (.cells (stV s) 154) (.cells (byteL l).toArray 155) (.cells zero4 154) (.cells zero16 170)
  have HM := Aside0.mk (Mem.mk h4.1 h4.2.1 h4.2.2.1 (zero16_row _ _ _ l h4.2.2.2) (((((Below.refl w.heap.size w).alloc (Nat.le_refl _) _).alloc (by simp) _).alloc (by simp; omega) _).alloc (by simp; omega) _))
  clear h4
  unfold zero4 zero16 at HM
  go_enter Tryd.func86, Tryd.ntmps86
  go_wp2
  go_loopw [6, 16] (fun _ i wr => ∃ k : Nat, k ≤ 16 ∧ i = .int .i64 k ∧ Aside0 (Mem w wr s l (curM l k))) (fun _ i _ => 16 - (intOf i).toNat)
  case atStart => exact ⟨0, Nat.zero_le _, rfl, HM⟩
  case round =>
    clear HM
    obtain ⟨k, hk, rfl, HM⟩ := hrel
    obtain ⟨wo, rfl⟩ : ∃ wo : World, wo = wr := ⟨_, rfl⟩
    by_cases hlt : k < 16
    · have hal : (Tryd.prog.arrayLen 155 : Int) = 64 := by kernel_rfl
      have hsl : ∀ W, (Instr.sliceAt 155 (.pointer (some ⟨w.heap.size + 1, 0, none⟩)) (some (.int .i64 (4 * (k : Int)))) (some (.int .i64 (4 * (k : Int) + 4))) none).run Tryd.prog W = .ok (.slice (some ⟨w.heap.size + 1, 4 * k, none⟩) 4 (64 - 4 * k)) W := fun W => by
        rw [run_sliceAt_array_lh W 155 ⟨w.heap.size + 1, 0, none⟩ (by kernel_rfl) .i64 .i64 (4 * (k : Int)) (4 * (k : Int) + 4) (by omega) (by omega) (by rw [hal]; omega)]
        have ha2 : Tryd.prog.arrayLen 155 = 64 := by kernel_rfl
        have hso : (Tryd.prog.info? (Tryd.prog.elem 155)).isSome = true := by kernel_rfl
        have hce : Tryd.prog.cellsOf (Tryd.prog.elem 155) = 1 := by kernel_rfl
        obtain ⟨ii, hii⟩ := Option.isSome_iff_exists.1 hso
        rw [run_sizeOf _ hii, hce, ha2]
        have e1 : (4 * (k : Int)).toNat = 4 * k := by omega
        have e2 : (4 * (k : Int) + 4).toNat = 4 * k + 4 := by omega
        rw [e1, e2]
        simp only [Result.andThen, slicedAt, Addr.add]
        rw [if_neg (by omega), show 4 * k + 4 - 4 * k = 4 by omega]
        split <;> simp_all
      have hcv : (convert 109 9 (.slice (some ⟨w.heap.size + 1, 4 * k, none⟩) 4 (64 - 4 * k))).run Tryd.prog wo = .ok (.string (strOfNums (nums4 l k))) wo := by
        refine run_convert_bytes_arg wo 109 5 (by kernel_rfl) (by kernel_rfl) (w.heap.size + 1) (4 * k) 4 (64 - 4 * k) (nums4 l k) rfl (fun i hi => ?_) 9 (by kernel_rfl)
        rw [cell_of_row _ _ _ _ _ _ HM.out.bl, byteL_at _ _ (by rw [HL.out]; omega)]
        have e : i = 0 ∨ i = 1 ∨ i = 2 ∨ i = 3 := by omega
        rcases e with e | e | e | e <;> subst e <;> rfl
      go_wp2_with fail
      refine (digest_little.calls (strOfNums (nums4 l k)) _ _ (little_eq l k)).mono ?_
      rintro e w3 ⟨rfl, hd3⟩
      have HM3 := Aside0.mk (HM.out.after hd3.below)
      clear HM hd3 hcv
      have hc3 := HM3.out.ms.cell hlt
      have hf3 := HM3.out.ms.frozen k
      go_wp2
      go_roundw
      case rel => exact ⟨k + 1, by omega, by go_num, ⟨(HM3.out.store k _).congr fun i hi => curM_next l k i⟩⟩
      case measure => simp [intOf]; omega
    · obtain rfl : k = 16 := by omega
      have hcs := stV_cell HM.out
      obtain ⟨hca, hcb, hcc, hcd⟩ := hcs
      go_wp2
      go_quiet (fail)
      have HMq := Aside0.mk (HM.out.after (Drawn0.below ((Drawn0.refl wo).step nq)))
      clear hca hcb hcc hcd HM
      generalize wo.drewN nq = wq at HMq ⊢
      have HTq := HT.out.below HMq.out.be
      have hsr := sine_range HTq
      have hsi : (Tryd.prog.info? 172).map (·.size) = some sineL.length := by rw [sineL_length]; kernel_rfl
      go_wp2_with ((with_reducible refine gate_load (ty := 172) (x := .global 3) rfl ?_); refine wpList_load_mid rfl 172 (.global 3) rfl 3 0 rfl sineL _ hsr Tryd.underlying172 rfl hsi ?_)
      rw [show sineL.toArray = sineA from rfl]
      have HMw := Aside0.mk (HMq.out.congr (g := fun i => .int .u32 (wordAt l i : Nat)) fun i hi => by unfold curM; rw [if_pos hi])
      clear HMq hsr hsi HTq
      go_loopw [7, 8, 9, 10, 39] (fun va vb vc vd i wr => ∃ k : Nat, k ≤ 64 ∧ i = .int .i64 k ∧ va = .int .u32 ((mdSteps (wordAt l) s k).a : Nat) ∧ vb = .int .u32 ((mdSteps (wordAt l) s k).b : Nat) ∧ vc = .int .u32 ((mdSteps (wordAt l) s k).c : Nat) ∧ vd = .int .u32 ((mdSteps (wordAt l) s k).d : Nat) ∧ Aside0 (Mem w wr s l (fun i => .int .u32 (wordAt l i : Nat)))) (fun va vb vc vd i _ => 64 - (intOf i).toNat)
      case atStart => exact ⟨0, Nat.zero_le _, rfl, rfl, rfl, rfl, rfl, HMw⟩
      case round =>
        clear HMw
        obtain ⟨k, hk, rfl, rfl, rfl, rfl, rfl, HM⟩ := hrel
        obtain ⟨wo, rfl⟩ : ∃ wo : World, wo = wr := ⟨_, rfl⟩
        have hok := Md5Pure.mdSteps_ok (wordAt l) s hs k
        have HN := Lib.hid (show mdSteps (wordAt l) s (k + 1) = mdStep (wordAt l) k (mdSteps (wordAt l) s k) from rfl)
        generalize hte : mdSteps (wordAt l) s k = t at hok HN ⊢
        have HE := Lib.hid hte
        clear hte
        obtain ⟨ta, tb, tc, td⟩ := t
        obtain ⟨ha, hb, hc, hd⟩ := hok
        by_cases hlt : k < 64
        · have hix := index_sine k wo hlt
          have hR := Md5Pure.R_range k hlt
          have hnb := u32_not tb hb
          have hnd := u32_not td hd
          by_cases h1 : k < 16
          · have hF0 := fF_0 tb tc td hb hc hd
            have hq : (k : Int) / 16 = 0 := by omega
            have hqn : k / 16 = 0 := by omega
            have HQ := Lib.hid hqn
            clear hqn
            obtain ⟨rv, hrv⟩ : ∃ rv : Nat, (k : Int) % 4 = (rv : Int) := ⟨k % 4, by omega⟩
            have hrv4 : rv < 4 := by omega
            have hrvt : (k : Int).tmod 4 = (rv : Int) := by rw [Int.tmod_eq_emod_of_nonneg (by omega)]; exact hrv
            have hrvl : ((rv : Int) < 4) = True := eq_true (by omega)
            have hw : wrap64 0 = 0 := w64 _ (by omega) (by omega)
            have hg16 : k < 16 := by omega
            have hgl : ((k : Int) < 16) = True := eq_true (by omega)
            have HG := Lib.hid (show gG k = k by have := HQ.out; unfold gG; rw [if_pos this])
            have hcr0 : Md5Pure.turns.getD (rv) 0 = R k := by have := HQ.out; unfold R; rw [this]; congr 1; omega
            have hcr : some (Value.int .i64 ((Md5Pure.turns.getD (rv) 0 : Nat) : Int)) = some (.int .i64 (R k : Nat)) := by rw [hcr0]
            have hcm : wo.cell? ⟨w.heap.size + 1 + 1 + 1, k, none⟩ = some (.int .u32 (wordAt l k : Nat)) := HM.out.ms.cell hg16
            have hct : wo.cell? ⟨4, rv, none⟩ = some (.int .i64 (R k : Nat)) := ((HT.out.below HM.out.be).turn (rv) (by omega)).trans hcr
            clear hcr0
            have HCR := Lib.hid hcr
            clear hcr
            have hf := hF0
            go_wp2
            refine start_ (n := 18) (S := fun w' => w'.cell? ⟨w.heap.size + 1 + 1 + 1, k, none⟩ = some (.int .u32 (wordAt l k : Nat)) ∧ w'.cell? ⟨4, rv, none⟩ = some (.int .i64 (R k : Nat))) (ds := []) #[false, false, false, false, false, false, false, false, false, false, false, false, false, false, false, false, false, false] (by kernel_rfl) rfl rfl ⟨hcm, hct⟩ (fun hHeld => ?_)
            refine pure_ (i := 0) (N := some 90) (v := ?_) (a' := ?_) #[true, false, false, false, false, false, false, false, false, false, false, false, false, false, false, false, false, false] rfl rfl (by kernel_rfl) (fun _ _ _ h => h) (Or.inl ⟨by rfl, ?_⟩) ?_ ?_
            rotate_left
            · intro w'
              go_simp
              with_reducible rfl
            rotate_left
            · simp only [Act.put, List.setIfInBounds_toArray, List.set_cons_zero, List.set_cons_succ, i64_w, i32_w]
              rfl
            refine pure_ (i := 1) (N := some 91) (v := ?_) (a' := ?_) #[true, true, false, false, false, false, false, false, false, false, false, false, false, false, false, false, false, false] rfl rfl (by kernel_rfl) (fun _ _ _ h => h) (Or.inl ⟨by rfl, ?_⟩) ?_ ?_
            rotate_left
            · intro w'
              go_simp
              with_reducible rfl
            rotate_left
            · simp only [Act.put, List.setIfInBounds_toArray, List.set_cons_zero, List.set_cons_succ, i64_w, i32_w]
              rfl
            refine pure_ (i := 2) (N := some 92) (v := ?_) (a' := ?_) #[true, true, true, false, false, false, false, false, false, false, false, false, false, false, false, false, false, false] rfl rfl (by kernel_rfl) (fun _ _ _ h => h) (Or.inl ⟨by rfl, ?_⟩) ?_ ?_
            rotate_left
            · intro w'
              go_simp
              with_reducible rfl
            rotate_left
            · simp only [Act.put, List.setIfInBounds_toArray, List.set_cons_zero, List.set_cons_succ, i64_w, i32_w]
              rfl
            refine pure_ (i := 3) (N := some 93) (v := ?_) (a' := ?_) #[true, true, true, true, false, false, false, false, false, false, false, false, false, false, false, false, false, false] rfl rfl (by kernel_rfl) (fun _ _ _ h => h) (Or.inl ⟨by rfl, ?_⟩) ?_ ?_
            rotate_left
            · intro w'
              go_simp
              with_reducible rfl
            rotate_left
            · simp only [Act.put, List.setIfInBounds_toArray, List.set_cons_zero, List.set_cons_succ, i64_w, i32_w]
              rfl
            refine pure_ (i := 4) (N := some 94) (v := ?_) (a' := ?_) #[true, true, true, true, true, false, false, false, false, false, false, false, false, false, false, false, false, false] rfl rfl (by kernel_rfl) (fun _ _ _ h => h) (Or.inl ⟨by rfl, ?_⟩) ?_ ?_
            rotate_left
            · intro w'
              go_simp
              with_reducible rfl
            rotate_left
            · simp only [Act.put, List.setIfInBounds_toArray, List.set_cons_zero, List.set_cons_succ, i64_w, i32_w]
              rfl
            refine pure_ (i := 5) (N := some 95) (v := ?_) (a' := ?_) #[true, true, true, true, true, true, false, false, false, false, false, false, false, false, false, false, false, false] rfl rfl (by kernel_rfl) (fun _ _ _ h => h) (Or.inl ⟨by rfl, ?_⟩) ?_ ?_
            rotate_left
            · intro w'
              go_simp
              with_reducible rfl
            rotate_left
            · simp only [Act.put, List.setIfInBounds_toArray, List.set_cons_zero, List.set_cons_succ, i64_w, i32_w]
              rfl
            refine pure_ (i := 6) (N := some 96) (v := ?_) (a' := ?_) #[true, true, true, true, true, true, true, false, false, false, false, false, false, false, false, false, false, false] rfl rfl (by kernel_rfl) (fun _ _ _ h => h) (Or.inl ⟨by rfl, ?_⟩) ?_ ?_
            rotate_left
            · intro w'
              go_simp
              with_reducible rfl
            rotate_left
            · simp only [Act.put, List.setIfInBounds_toArray, List.set_cons_zero, List.set_cons_succ, i64_w, i32_w]
              rfl
            refine pure_ (i := 9) (N := some 99) (v := ?_) (a' := ?_) #[true, true, true, true, true, true, true, false, false, true, false, false, false, false, false, false, false, false] rfl rfl (by kernel_rfl) (fun _ _ _ h => h) (Or.inl ⟨by rfl, ?_⟩) ?_ ?_
            rotate_left
            · intro w'
              go_simp
              with_reducible rfl
            rotate_left
            · simp only [Act.put, List.setIfInBounds_toArray, List.set_cons_zero, List.set_cons_succ, i64_w, i32_w]
              rfl
            refine pure_ (i := 10) (N := some 100) (v := ?_) (a' := ?_) #[true, true, true, true, true, true, true, false, false, true, true, false, false, false, false, false, false, false] rfl rfl (by kernel_rfl) (fun _ _ _ h => h) (Or.inl ⟨by rfl, ?_⟩) ?_ ?_
            rotate_left
            · intro w'
              go_simp
              with_reducible rfl
            rotate_left
            · simp only [Act.put, List.setIfInBounds_toArray, List.set_cons_zero, List.set_cons_succ, i64_w, i32_w]
              rfl
            refine pure_ (i := 11) (N := some 101) (v := ?_) (a' := ?_) #[true, true, true, true, true, true, true, false, false, true, true, true, false, false, false, false, false, false] rfl rfl (by kernel_rfl) (fun _ _ _ h => h) (Or.inl ⟨by rfl, ?_⟩) ?_ ?_
            rotate_left
            · intro w'
              go_simp
              with_reducible rfl
            rotate_left
            · simp only [Act.put, List.setIfInBounds_toArray, List.set_cons_zero, List.set_cons_succ, i64_w, i32_w]
              rfl
            refine pure_ (i := 12) (N := some 102) (v := ?_) (a' := ?_) #[true, true, true, true, true, true, true, false, false, true, true, true, true, false, false, false, false, false] rfl rfl (by kernel_rfl) (fun _ _ _ h => h) (Or.inl ⟨by rfl, ?_⟩) ?_ ?_
            rotate_left
            · intro w'
              go_simp
              with_reducible rfl
            rotate_left
            · simp only [Act.put, List.setIfInBounds_toArray, List.set_cons_zero, List.set_cons_succ, i64_w, i32_w]
              rfl
            refine pure_ (i := 13) (N := some 103) (v := ?_) (a' := ?_) #[true, true, true, true, true, true, true, false, false, true, true, true, true, true, false, false, false, false] rfl rfl (by kernel_rfl) (fun _ _ _ h => h) (Or.inl ⟨by rfl, ?_⟩) ?_ ?_
            rotate_left
            · intro w'
              go_simp
              with_reducible rfl
            rotate_left
            · simp only [Act.put, List.setIfInBounds_toArray, List.set_cons_zero, List.set_cons_succ, i64_w, i32_w]
              rfl
            refine pure_ (i := 14) (N := some 104) (v := ?_) (a' := ?_) #[true, true, true, true, true, true, true, false, false, true, true, true, true, true, true, false, false, false] rfl rfl (by kernel_rfl) (fun _ _ _ h => h) (Or.inl ⟨by rfl, ?_⟩) ?_ ?_
            rotate_left
            · intro w'
              go_simp
              with_reducible rfl
            rotate_left
            · simp only [Act.put, List.setIfInBounds_toArray, List.set_cons_zero, List.set_cons_succ, i64_w, i32_w]
              rfl
            refine take_ (i := 7) (N := some 97) (v := ?_) (a' := ?_) #[true, true, true, true, true, true, true, true, false, true, true, true, true, true, true, false, false, false] rfl rfl (by kernel_rfl) (fun _ _ _ h => h) (Or.inl ⟨by rfl, ?_⟩) hHeld ?_ ?_
            rotate_left
            · rintro w' ⟨s0, s1⟩
              go_simp
              with_reducible rfl
            rotate_left
            · simp only [Act.put, List.setIfInBounds_toArray, List.set_cons_zero, List.set_cons_succ, i64_w, i32_w]
              rfl
            refine pure_ (i := 8) (N := some 98) (v := ?_) (a' := ?_) #[true, true, true, true, true, true, true, true, true, true, true, true, true, true, true, false, false, false] rfl rfl (by kernel_rfl) (fun _ _ _ h => h) (Or.inl ⟨by rfl, ?_⟩) ?_ ?_
            rotate_left
            · intro w'
              go_simp
              with_reducible rfl
            rotate_left
            · simp only [Act.put, List.setIfInBounds_toArray, List.set_cons_zero, List.set_cons_succ, i64_w, i32_w]
              rfl
            refine take_ (i := 15) (N := some 105) (v := ?_) (a' := ?_) #[true, true, true, true, true, true, true, true, true, true, true, true, true, true, true, true, false, false] rfl rfl (by kernel_rfl) (fun _ _ _ h => h) (Or.inl ⟨by rfl, ?_⟩) hHeld ?_ ?_
            rotate_left
            · rintro w' ⟨s0, s1⟩
              go_simp
              with_reducible rfl
            rotate_left
            · simp only [Act.put, List.setIfInBounds_toArray, List.set_cons_zero, List.set_cons_succ, i64_w, i32_w]
              rfl
            refine one_ (i := 16) (N := some 106) #[true, true, true, true, true, true, true, true, true, true, true, true, true, true, true, true, true, false] rfl rfl (by kernel_rfl) (by decide) (fun K hK => ?_)
            refine goes_ Tryd.func122 (by kernel_rfl) rfl #[.int .u32 (IntKind.u32.wrap (IntKind.u32.wrap (IntKind.u32.wrap ((ta : Int) + (fF 0 tb tc td : Nat)) + (Md5Pure.K k : Nat)) + (wordAt l k : Nat))), .int .i64 (R k : Nat)] (by rfl) rfl rfl (by simp only [List.map_toArray, List.map_cons, List.map_nil]; rfl) ?_
            with_reducible refine (bits_RotateLeft32.calls _ _ _ _ (rotl_sum ta (fF 0 tb tc td) (Md5Pure.K k) (wordAt l k) (R k) hR.1 hR.2)).mono ?_
            rintro e w3 ⟨rfl, hd3⟩
            have HM3 := Aside0.mk (HM.out.after (below_drew_left hd3.below))
            refine ⟨_, rfl, ?_⟩
            refine hK.out _ _ ⟨(HM3.out.ms.cell hg16), ((HT.out.below HM3.out.be).turn (rv) (by omega)).trans HCR.out⟩ (fun hHeld => ?_)
            clear hK K
            refine norm_ (a' := ?_) ?_ ?_
            rotate_left
            · show Act.put _ (some 106) _ = _
              simp only [Act.put, List.setIfInBounds_toArray, List.set_cons_zero, List.set_cons_succ, i64_w, i32_w]
              rfl
            refine pure_ (i := 17) (N := some 15) (v := ?_) (a' := ?_) #[true, true, true, true, true, true, true, true, true, true, true, true, true, true, true, true, true, true] rfl rfl (by kernel_rfl) (fun _ _ _ h => h) (Or.inl ⟨by rfl, ?_⟩) ?_ ?_
            rotate_left
            · intro w'
              go_simp
              with_reducible rfl
            rotate_left
            · simp only [Act.put, List.setIfInBounds_toArray, List.set_cons_zero, List.set_cons_succ, i64_w, i32_w]
              rfl
            refine done_ (by kernel_rfl) ?_
            go_wp2
            go_roundw
            case rel =>
              refine ⟨k + 1, by omega, by go_num, by rw [HN.out]; rfl, ?_, by rw [HN.out]; rfl, by rw [HN.out]; rfl, HM3⟩
              rw [HN.out]
              exact next_b tb (Md5Pure.rotl ((ta + fF 0 tb tc td + K k + wordAt l k) % 4294967296) (R k)) _ (by unfold mdStep stepX; simp only []; rw [HQ.out, HG.out])
            case measure => simp [intOf]; omega
          · by_cases h2 : k < 32
            · have hF1 := fF_1 tb tc td hb hc hd
              have hq : (k : Int) / 16 = 1 := by omega
              have hqn : k / 16 = 1 := by omega
              have HQ := Lib.hid hqn
              clear hqn
              obtain ⟨gv, hgv⟩ : ∃ gv : Nat, (5 * (k : Int) + 1) % 16 = (gv : Int) := ⟨(5 * k + 1) % 16, by omega⟩
              obtain ⟨rv, hrv⟩ : ∃ rv : Nat, (k : Int) % 4 = (rv : Int) := ⟨k % 4, by omega⟩
              have hrv4 : rv < 4 := by omega
              have hrvt : (k : Int).tmod 4 = (rv : Int) := by rw [Int.tmod_eq_emod_of_nonneg (by omega)]; exact hrv
              have hrvl : ((rv : Int) < 4) = True := eq_true (by omega)
              have hw : wrap64 1 = 1 := w64 _ (by omega) (by omega)
              have hg16 : gv < 16 := by omega
              have hgl : ((gv : Int) < 16) = True := eq_true (by omega)
              have HG := Lib.hid (show gG k = gv by have := HQ.out; unfold gG; rw [if_neg (by omega), if_pos this]; omega)
              have hcr0 : Md5Pure.turns.getD (4 + rv) 0 = R k := by have := HQ.out; unfold R; rw [this]; congr 1; omega
              have hcr : some (Value.int .i64 ((Md5Pure.turns.getD (4 + rv) 0 : Nat) : Int)) = some (.int .i64 (R k : Nat)) := by rw [hcr0]
              have hcm : wo.cell? ⟨w.heap.size + 1 + 1 + 1, gv, none⟩ = some (.int .u32 (wordAt l gv : Nat)) := HM.out.ms.cell hg16
              have hct : wo.cell? ⟨4, 4 + rv, none⟩ = some (.int .i64 (R k : Nat)) := ((HT.out.below HM.out.be).turn (4 + rv) (by omega)).trans hcr
              clear hcr0
              have HCR := Lib.hid hcr
              clear hcr
              have hf := hF1
              go_wp2
              refine start_ (n := 18) (S := fun w' => w'.cell? ⟨w.heap.size + 1 + 1 + 1, gv, none⟩ = some (.int .u32 (wordAt l gv : Nat)) ∧ w'.cell? ⟨4, 4 + rv, none⟩ = some (.int .i64 (R k : Nat))) (ds := []) #[false, false, false, false, false, false, false, false, false, false, false, false, false, false, false, false, false, false] (by kernel_rfl) rfl rfl ⟨hcm, hct⟩ (fun hHeld => ?_)
              refine pure_ (i := 0) (N := some 90) (v := ?_) (a' := ?_) #[true, false, false, false, false, false, false, false, false, false, false, false, false, false, false, false, false, false] rfl rfl (by kernel_rfl) (fun _ _ _ h => h) (Or.inl ⟨by rfl, ?_⟩) ?_ ?_
              rotate_left
              · intro w'
                go_simp
                with_reducible rfl
              rotate_left
              · simp only [Act.put, List.setIfInBounds_toArray, List.set_cons_zero, List.set_cons_succ, i64_w, i32_w]
                rfl
              refine pure_ (i := 1) (N := some 91) (v := ?_) (a' := ?_) #[true, true, false, false, false, false, false, false, false, false, false, false, false, false, false, false, false, false] rfl rfl (by kernel_rfl) (fun _ _ _ h => h) (Or.inl ⟨by rfl, ?_⟩) ?_ ?_
              rotate_left
              · intro w'
                go_simp
                with_reducible rfl
              rotate_left
              · simp only [Act.put, List.setIfInBounds_toArray, List.set_cons_zero, List.set_cons_succ, i64_w, i32_w]
                rfl
              refine pure_ (i := 2) (N := some 92) (v := ?_) (a' := ?_) #[true, true, true, false, false, false, false, false, false, false, false, false, false, false, false, false, false, false] rfl rfl (by kernel_rfl) (fun _ _ _ h => h) (Or.inl ⟨by rfl, ?_⟩) ?_ ?_
              rotate_left
              · intro w'
                go_simp
                with_reducible rfl
              rotate_left
              · simp only [Act.put, List.setIfInBounds_toArray, List.set_cons_zero, List.set_cons_succ, i64_w, i32_w]
                rfl
              refine pure_ (i := 3) (N := some 93) (v := ?_) (a' := ?_) #[true, true, true, true, false, false, false, false, false, false, false, false, false, false, false, false, false, false] rfl rfl (by kernel_rfl) (fun _ _ _ h => h) (Or.inl ⟨by rfl, ?_⟩) ?_ ?_
              rotate_left
              · intro w'
                go_simp
                with_reducible rfl
              rotate_left
              · simp only [Act.put, List.setIfInBounds_toArray, List.set_cons_zero, List.set_cons_succ, i64_w, i32_w]
                rfl
              refine pure_ (i := 4) (N := some 94) (v := ?_) (a' := ?_) #[true, true, true, true, true, false, false, false, false, false, false, false, false, false, false, false, false, false] rfl rfl (by kernel_rfl) (fun _ _ _ h => h) (Or.inl ⟨by rfl, ?_⟩) ?_ ?_
              rotate_left
              · intro w'
                go_simp
                with_reducible rfl
              rotate_left
              · simp only [Act.put, List.setIfInBounds_toArray, List.set_cons_zero, List.set_cons_succ, i64_w, i32_w]
                rfl
              refine pure_ (i := 5) (N := some 95) (v := ?_) (a' := ?_) #[true, true, true, true, true, true, false, false, false, false, false, false, false, false, false, false, false, false] rfl rfl (by kernel_rfl) (fun _ _ _ h => h) (Or.inl ⟨by rfl, ?_⟩) ?_ ?_
              rotate_left
              · intro w'
                go_simp
                with_reducible rfl
              rotate_left
              · simp only [Act.put, List.setIfInBounds_toArray, List.set_cons_zero, List.set_cons_succ, i64_w, i32_w]
                rfl
              refine pure_ (i := 6) (N := some 96) (v := ?_) (a' := ?_) #[true, true, true, true, true, true, true, false, false, false, false, false, false, false, false, false, false, false] rfl rfl (by kernel_rfl) (fun _ _ _ h => h) (Or.inl ⟨by rfl, ?_⟩) ?_ ?_
              rotate_left
              · intro w'
                go_simp
                with_reducible rfl
              rotate_left
              · simp only [Act.put, List.setIfInBounds_toArray, List.set_cons_zero, List.set_cons_succ, i64_w, i32_w]
                rfl
              refine pure_ (i := 9) (N := some 99) (v := ?_) (a' := ?_) #[true, true, true, true, true, true, true, false, false, true, false, false, false, false, false, false, false, false] rfl rfl (by kernel_rfl) (fun _ _ _ h => h) (Or.inl ⟨by rfl, ?_⟩) ?_ ?_
              rotate_left
              · intro w'
                go_simp
                with_reducible rfl
              rotate_left
              · simp only [Act.put, List.setIfInBounds_toArray, List.set_cons_zero, List.set_cons_succ, i64_w, i32_w]
                rfl
              refine pure_ (i := 10) (N := some 100) (v := ?_) (a' := ?_) #[true, true, true, true, true, true, true, false, false, true, true, false, false, false, false, false, false, false] rfl rfl (by kernel_rfl) (fun _ _ _ h => h) (Or.inl ⟨by rfl, ?_⟩) ?_ ?_
              rotate_left
              · intro w'
                go_simp
                with_reducible rfl
              rotate_left
              · simp only [Act.put, List.setIfInBounds_toArray, List.set_cons_zero, List.set_cons_succ, i64_w, i32_w]
                rfl
              refine pure_ (i := 11) (N := some 101) (v := ?_) (a' := ?_) #[true, true, true, true, true, true, true, false, false, true, true, true, false, false, false, false, false, false] rfl rfl (by kernel_rfl) (fun _ _ _ h => h) (Or.inl ⟨by rfl, ?_⟩) ?_ ?_
              rotate_left
              · intro w'
                go_simp
                with_reducible rfl
              rotate_left
              · simp only [Act.put, List.setIfInBounds_toArray, List.set_cons_zero, List.set_cons_succ, i64_w, i32_w]
                rfl
              refine pure_ (i := 12) (N := some 102) (v := ?_) (a' := ?_) #[true, true, true, true, true, true, true, false, false, true, true, true, true, false, false, false, false, false] rfl rfl (by kernel_rfl) (fun _ _ _ h => h) (Or.inl ⟨by rfl, ?_⟩) ?_ ?_
              rotate_left
              · intro w'
                go_simp
                with_reducible rfl
              rotate_left
              · simp only [Act.put, List.setIfInBounds_toArray, List.set_cons_zero, List.set_cons_succ, i64_w, i32_w]
                rfl
              refine pure_ (i := 13) (N := some 103) (v := ?_) (a' := ?_) #[true, true, true, true, true, true, true, false, false, true, true, true, true, true, false, false, false, false] rfl rfl (by kernel_rfl) (fun _ _ _ h => h) (Or.inl ⟨by rfl, ?_⟩) ?_ ?_
              rotate_left
              · intro w'
                go_simp
                with_reducible rfl
              rotate_left
              · simp only [Act.put, List.setIfInBounds_toArray, List.set_cons_zero, List.set_cons_succ, i64_w, i32_w]
                rfl
              refine pure_ (i := 14) (N := some 104) (v := ?_) (a' := ?_) #[true, true, true, true, true, true, true, false, false, true, true, true, true, true, true, false, false, false] rfl rfl (by kernel_rfl) (fun _ _ _ h => h) (Or.inl ⟨by rfl, ?_⟩) ?_ ?_
              rotate_left
              · intro w'
                go_simp
                with_reducible rfl
              rotate_left
              · simp only [Act.put, List.setIfInBounds_toArray, List.set_cons_zero, List.set_cons_succ, i64_w, i32_w]
                rfl
              refine take_ (i := 7) (N := some 97) (v := ?_) (a' := ?_) #[true, true, true, true, true, true, true, true, false, true, true, true, true, true, true, false, false, false] rfl rfl (by kernel_rfl) (fun _ _ _ h => h) (Or.inl ⟨by rfl, ?_⟩) hHeld ?_ ?_
              rotate_left
              · rintro w' ⟨s0, s1⟩
                go_simp
                with_reducible rfl
              rotate_left
              · simp only [Act.put, List.setIfInBounds_toArray, List.set_cons_zero, List.set_cons_succ, i64_w, i32_w]
                rfl
              refine pure_ (i := 8) (N := some 98) (v := ?_) (a' := ?_) #[true, true, true, true, true, true, true, true, true, true, true, true, true, true, true, false, false, false] rfl rfl (by kernel_rfl) (fun _ _ _ h => h) (Or.inl ⟨by rfl, ?_⟩) ?_ ?_
              rotate_left
              · intro w'
                go_simp
                with_reducible rfl
              rotate_left
              · simp only [Act.put, List.setIfInBounds_toArray, List.set_cons_zero, List.set_cons_succ, i64_w, i32_w]
                rfl
              refine take_ (i := 15) (N := some 105) (v := ?_) (a' := ?_) #[true, true, true, true, true, true, true, true, true, true, true, true, true, true, true, true, false, false] rfl rfl (by kernel_rfl) (fun _ _ _ h => h) (Or.inl ⟨by rfl, ?_⟩) hHeld ?_ ?_
              rotate_left
              · rintro w' ⟨s0, s1⟩
                go_simp
                with_reducible rfl
              rotate_left
              · simp only [Act.put, List.setIfInBounds_toArray, List.set_cons_zero, List.set_cons_succ, i64_w, i32_w]
                rfl
              refine one_ (i := 16) (N := some 106) #[true, true, true, true, true, true, true, true, true, true, true, true, true, true, true, true, true, false] rfl rfl (by kernel_rfl) (by decide) (fun K hK => ?_)
              refine goes_ Tryd.func122 (by kernel_rfl) rfl #[.int .u32 (IntKind.u32.wrap (IntKind.u32.wrap (IntKind.u32.wrap ((ta : Int) + (fF 1 tb tc td : Nat)) + (Md5Pure.K k : Nat)) + (wordAt l gv : Nat))), .int .i64 (R k : Nat)] (by rfl) rfl rfl (by simp only [List.map_toArray, List.map_cons, List.map_nil]; rfl) ?_
              with_reducible refine (bits_RotateLeft32.calls _ _ _ _ (rotl_sum ta (fF 1 tb tc td) (Md5Pure.K k) (wordAt l gv) (R k) hR.1 hR.2)).mono ?_
              rintro e w3 ⟨rfl, hd3⟩
              have HM3 := Aside0.mk (HM.out.after (below_drew_left hd3.below))
              refine ⟨_, rfl, ?_⟩
              refine hK.out _ _ ⟨(HM3.out.ms.cell hg16), ((HT.out.below HM3.out.be).turn (4 + rv) (by omega)).trans HCR.out⟩ (fun hHeld => ?_)
              clear hK K
              refine norm_ (a' := ?_) ?_ ?_
              rotate_left
              · show Act.put _ (some 106) _ = _
                simp only [Act.put, List.setIfInBounds_toArray, List.set_cons_zero, List.set_cons_succ, i64_w, i32_w]
                rfl
              refine pure_ (i := 17) (N := some 15) (v := ?_) (a' := ?_) #[true, true, true, true, true, true, true, true, true, true, true, true, true, true, true, true, true, true] rfl rfl (by kernel_rfl) (fun _ _ _ h => h) (Or.inl ⟨by rfl, ?_⟩) ?_ ?_
              rotate_left
              · intro w'
                go_simp
                with_reducible rfl
              rotate_left
              · simp only [Act.put, List.setIfInBounds_toArray, List.set_cons_zero, List.set_cons_succ, i64_w, i32_w]
                rfl
              refine done_ (by kernel_rfl) ?_
              go_wp2
              go_roundw
              case rel =>
                refine ⟨k + 1, by omega, by go_num, by rw [HN.out]; rfl, ?_, by rw [HN.out]; rfl, by rw [HN.out]; rfl, HM3⟩
                rw [HN.out]
                exact next_b tb (Md5Pure.rotl ((ta + fF 1 tb tc td + K k + wordAt l gv) % 4294967296) (R k)) _ (by unfold mdStep stepX; simp only []; rw [HQ.out, HG.out])
              case measure => simp [intOf]; omega
            · by_cases h3 : k < 48
              · have hF2 := fF_2 tb tc td hb hc hd
                have hq : (k : Int) / 16 = 2 := by omega
                have hqn : k / 16 = 2 := by omega
                have HQ := Lib.hid hqn
                clear hqn
                obtain ⟨gv, hgv⟩ : ∃ gv : Nat, (3 * (k : Int) + 5) % 16 = (gv : Int) := ⟨(3 * k + 5) % 16, by omega⟩
                obtain ⟨rv, hrv⟩ : ∃ rv : Nat, (k : Int) % 4 = (rv : Int) := ⟨k % 4, by omega⟩
                have hrv4 : rv < 4 := by omega
                have hrvt : (k : Int).tmod 4 = (rv : Int) := by rw [Int.tmod_eq_emod_of_nonneg (by omega)]; exact hrv
                have hrvl : ((rv : Int) < 4) = True := eq_true (by omega)
                have hw : wrap64 2 = 2 := w64 _ (by omega) (by omega)
                have hg16 : gv < 16 := by omega
                have hgl : ((gv : Int) < 16) = True := eq_true (by omega)
                have HG := Lib.hid (show gG k = gv by have := HQ.out; unfold gG; rw [if_neg (by omega), if_neg (by omega), if_pos this]; omega)
                have hcr0 : Md5Pure.turns.getD (8 + rv) 0 = R k := by have := HQ.out; unfold R; rw [this]; congr 1; omega
                have hcr : some (Value.int .i64 ((Md5Pure.turns.getD (8 + rv) 0 : Nat) : Int)) = some (.int .i64 (R k : Nat)) := by rw [hcr0]
                have hcm : wo.cell? ⟨w.heap.size + 1 + 1 + 1, gv, none⟩ = some (.int .u32 (wordAt l gv : Nat)) := HM.out.ms.cell hg16
                have hct : wo.cell? ⟨4, 8 + rv, none⟩ = some (.int .i64 (R k : Nat)) := ((HT.out.below HM.out.be).turn (8 + rv) (by omega)).trans hcr
                clear hcr0
                have HCR := Lib.hid hcr
                clear hcr
                have hf := hF2
                go_wp2
                refine start_ (n := 18) (S := fun w' => w'.cell? ⟨w.heap.size + 1 + 1 + 1, gv, none⟩ = some (.int .u32 (wordAt l gv : Nat)) ∧ w'.cell? ⟨4, 8 + rv, none⟩ = some (.int .i64 (R k : Nat))) (ds := []) #[false, false, false, false, false, false, false, false, false, false, false, false, false, false, false, false, false, false] (by kernel_rfl) rfl rfl ⟨hcm, hct⟩ (fun hHeld => ?_)
                refine pure_ (i := 0) (N := some 90) (v := ?_) (a' := ?_) #[true, false, false, false, false, false, false, false, false, false, false, false, false, false, false, false, false, false] rfl rfl (by kernel_rfl) (fun _ _ _ h => h) (Or.inl ⟨by rfl, ?_⟩) ?_ ?_
                rotate_left
                · intro w'
                  go_simp
                  with_reducible rfl
                rotate_left
                · simp only [Act.put, List.setIfInBounds_toArray, List.set_cons_zero, List.set_cons_succ, i64_w, i32_w]
                  rfl
                refine pure_ (i := 1) (N := some 91) (v := ?_) (a' := ?_) #[true, true, false, false, false, false, false, false, false, false, false, false, false, false, false, false, false, false] rfl rfl (by kernel_rfl) (fun _ _ _ h => h) (Or.inl ⟨by rfl, ?_⟩) ?_ ?_
                rotate_left
                · intro w'
                  go_simp
                  with_reducible rfl
                rotate_left
                · simp only [Act.put, List.setIfInBounds_toArray, List.set_cons_zero, List.set_cons_succ, i64_w, i32_w]
                  rfl
                refine pure_ (i := 2) (N := some 92) (v := ?_) (a' := ?_) #[true, true, true, false, false, false, false, false, false, false, false, false, false, false, false, false, false, false] rfl rfl (by kernel_rfl) (fun _ _ _ h => h) (Or.inl ⟨by rfl, ?_⟩) ?_ ?_
                rotate_left
                · intro w'
                  go_simp
                  with_reducible rfl
                rotate_left
                · simp only [Act.put, List.setIfInBounds_toArray, List.set_cons_zero, List.set_cons_succ, i64_w, i32_w]
                  rfl
                refine pure_ (i := 3) (N := some 93) (v := ?_) (a' := ?_) #[true, true, true, true, false, false, false, false, false, false, false, false, false, false, false, false, false, false] rfl rfl (by kernel_rfl) (fun _ _ _ h => h) (Or.inl ⟨by rfl, ?_⟩) ?_ ?_
                rotate_left
                · intro w'
                  go_simp
                  with_reducible rfl
                rotate_left
                · simp only [Act.put, List.setIfInBounds_toArray, List.set_cons_zero, List.set_cons_succ, i64_w, i32_w]
                  rfl
                refine pure_ (i := 4) (N := some 94) (v := ?_) (a' := ?_) #[true, true, true, true, true, false, false, false, false, false, false, false, false, false, false, false, false, false] rfl rfl (by kernel_rfl) (fun _ _ _ h => h) (Or.inl ⟨by rfl, ?_⟩) ?_ ?_
                rotate_left
                · intro w'
                  go_simp
                  with_reducible rfl
                rotate_left
                · simp only [Act.put, List.setIfInBounds_toArray, List.set_cons_zero, List.set_cons_succ, i64_w, i32_w]
                  rfl
                refine pure_ (i := 5) (N := some 95) (v := ?_) (a' := ?_) #[true, true, true, true, true, true, false, false, false, false, false, false, false, false, false, false, false, false] rfl rfl (by kernel_rfl) (fun _ _ _ h => h) (Or.inl ⟨by rfl, ?_⟩) ?_ ?_
                rotate_left
                · intro w'
                  go_simp
                  with_reducible rfl
                rotate_left
                · simp only [Act.put, List.setIfInBounds_toArray, List.set_cons_zero, List.set_cons_succ, i64_w, i32_w]
                  rfl
                refine pure_ (i := 6) (N := some 96) (v := ?_) (a' := ?_) #[true, true, true, true, true, true, true, false, false, false, false, false, false, false, false, false, false, false] rfl rfl (by kernel_rfl) (fun _ _ _ h => h) (Or.inl ⟨by rfl, ?_⟩) ?_ ?_
                rotate_left
                · intro w'
                  go_simp
                  with_reducible rfl
                rotate_left
                · simp only [Act.put, List.setIfInBounds_toArray, List.set_cons_zero, List.set_cons_succ, i64_w, i32_w]
                  rfl
                refine pure_ (i := 9) (N := some 99) (v := ?_) (a' := ?_) #[true, true, true, true, true, true, true, false, false, true, false, false, false, false, false, false, false, false] rfl rfl (by kernel_rfl) (fun _ _ _ h => h) (Or.inl ⟨by rfl, ?_⟩) ?_ ?_
                rotate_left
                · intro w'
                  go_simp
                  with_reducible rfl
                rotate_left
                · simp only [Act.put, List.setIfInBounds_toArray, List.set_cons_zero, List.set_cons_succ, i64_w, i32_w]
                  rfl
                refine pure_ (i := 10) (N := some 100) (v := ?_) (a' := ?_) #[true, true, true, true, true, true, true, false, false, true, true, false, false, false, false, false, false, false] rfl rfl (by kernel_rfl) (fun _ _ _ h => h) (Or.inl ⟨by rfl, ?_⟩) ?_ ?_
                rotate_left
                · intro w'
                  go_simp
                  with_reducible rfl
                rotate_left
                · simp only [Act.put, List.setIfInBounds_toArray, List.set_cons_zero, List.set_cons_succ, i64_w, i32_w]
                  rfl
                refine pure_ (i := 11) (N := some 101) (v := ?_) (a' := ?_) #[true, true, true, true, true, true, true, false, false, true, true, true, false, false, false, false, false, false] rfl rfl (by kernel_rfl) (fun _ _ _ h => h) (Or.inl ⟨by rfl, ?_⟩) ?_ ?_
                rotate_left
                · intro w'
                  go_simp
                  with_reducible rfl
                rotate_left
                · simp only [Act.put, List.setIfInBounds_toArray, List.set_cons_zero, List.set_cons_succ, i64_w, i32_w]
                  rfl
                refine pure_ (i := 12) (N := some 102) (v := ?_) (a' := ?_) #[true, true, true, true, true, true, true, false, false, true, true, true, true, false, false, false, false, false] rfl rfl (by kernel_rfl) (fun _ _ _ h => h) (Or.inl ⟨by rfl, ?_⟩) ?_ ?_
                rotate_left
                · intro w'
                  go_simp
                  with_reducible rfl
                rotate_left
                · simp only [Act.put, List.setIfInBounds_toArray, List.set_cons_zero, List.set_cons_succ, i64_w, i32_w]
                  rfl
                refine pure_ (i := 13) (N := some 103) (v := ?_) (a' := ?_) #[true, true, true, true, true, true, true, false, false, true, true, true, true, true, false, false, false, false] rfl rfl (by kernel_rfl) (fun _ _ _ h => h) (Or.inl ⟨by rfl, ?_⟩) ?_ ?_
                rotate_left
                · intro w'
                  go_simp
                  with_reducible rfl
                rotate_left
                · simp only [Act.put, List.setIfInBounds_toArray, List.set_cons_zero, List.set_cons_succ, i64_w, i32_w]
                  rfl
                refine pure_ (i := 14) (N := some 104) (v := ?_) (a' := ?_) #[true, true, true, true, true, true, true, false, false, true, true, true, true, true, true, false, false, false] rfl rfl (by kernel_rfl) (fun _ _ _ h => h) (Or.inl ⟨by rfl, ?_⟩) ?_ ?_
                rotate_left
                · intro w'
                  go_simp
                  with_reducible rfl
                rotate_left
                · simp only [Act.put, List.setIfInBounds_toArray, List.set_cons_zero, List.set_cons_succ, i64_w, i32_w]
                  rfl
                refine take_ (i := 7) (N := some 97) (v := ?_) (a' := ?_) #[true, true, true, true, true, true, true, true, false, true, true, true, true, true, true, false, false, false] rfl rfl (by kernel_rfl) (fun _ _ _ h => h) (Or.inl ⟨by rfl, ?_⟩) hHeld ?_ ?_
                rotate_left
                · rintro w' ⟨s0, s1⟩
                  go_simp
                  with_reducible rfl
                rotate_left
                · simp only [Act.put, List.setIfInBounds_toArray, List.set_cons_zero, List.set_cons_succ, i64_w, i32_w]
                  rfl
                refine pure_ (i := 8) (N := some 98) (v := ?_) (a' := ?_) #[true, true, true, true, true, true, true, true, true, true, true, true, true, true, true, false, false, false] rfl rfl (by kernel_rfl) (fun _ _ _ h => h) (Or.inl ⟨by rfl, ?_⟩) ?_ ?_
                rotate_left
                · intro w'
                  go_simp
                  with_reducible rfl
                rotate_left
                · simp only [Act.put, List.setIfInBounds_toArray, List.set_cons_zero, List.set_cons_succ, i64_w, i32_w]
                  rfl
                refine take_ (i := 15) (N := some 105) (v := ?_) (a' := ?_) #[true, true, true, true, true, true, true, true, true, true, true, true, true, true, true, true, false, false] rfl rfl (by kernel_rfl) (fun _ _ _ h => h) (Or.inl ⟨by rfl, ?_⟩) hHeld ?_ ?_
                rotate_left
                · rintro w' ⟨s0, s1⟩
                  go_simp
                  with_reducible rfl
                rotate_left
                · simp only [Act.put, List.setIfInBounds_toArray, List.set_cons_zero, List.set_cons_succ, i64_w, i32_w]
                  rfl
                refine one_ (i := 16) (N := some 106) #[true, true, true, true, true, true, true, true, true, true, true, true, true, true, true, true, true, false] rfl rfl (by kernel_rfl) (by decide) (fun K hK => ?_)
                refine goes_ Tryd.func122 (by kernel_rfl) rfl #[.int .u32 (IntKind.u32.wrap (IntKind.u32.wrap (IntKind.u32.wrap ((ta : Int) + (fF 2 tb tc td : Nat)) + (Md5Pure.K k : Nat)) + (wordAt l gv : Nat))), .int .i64 (R k : Nat)] (by rfl) rfl rfl (by simp only [List.map_toArray, List.map_cons, List.map_nil]; rfl) ?_
                with_reducible refine (bits_RotateLeft32.calls _ _ _ _ (rotl_sum ta (fF 2 tb tc td) (Md5Pure.K k) (wordAt l gv) (R k) hR.1 hR.2)).mono ?_
                rintro e w3 ⟨rfl, hd3⟩
                have HM3 := Aside0.mk (HM.out.after (below_drew_left hd3.below))
                refine ⟨_, rfl, ?_⟩
                refine hK.out _ _ ⟨(HM3.out.ms.cell hg16), ((HT.out.below HM3.out.be).turn (8 + rv) (by omega)).trans HCR.out⟩ (fun hHeld => ?_)
                clear hK K
                refine norm_ (a' := ?_) ?_ ?_
                rotate_left
                · show Act.put _ (some 106) _ = _
                  simp only [Act.put, List.setIfInBounds_toArray, List.set_cons_zero, List.set_cons_succ, i64_w, i32_w]
                  rfl
                refine pure_ (i := 17) (N := some 15) (v := ?_) (a' := ?_) #[true, true, true, true, true, true, true, true, true, true, true, true, true, true, true, true, true, true] rfl rfl (by kernel_rfl) (fun _ _ _ h => h) (Or.inl ⟨by rfl, ?_⟩) ?_ ?_
                rotate_left
                · intro w'
                  go_simp
                  with_reducible rfl
                rotate_left
                · simp only [Act.put, List.setIfInBounds_toArray, List.set_cons_zero, List.set_cons_succ, i64_w, i32_w]
                  rfl
                refine done_ (by kernel_rfl) ?_
                go_wp2
                go_roundw
                case rel =>
                  refine ⟨k + 1, by omega, by go_num, by rw [HN.out]; rfl, ?_, by rw [HN.out]; rfl, by rw [HN.out]; rfl, HM3⟩
                  rw [HN.out]
                  exact next_b tb (Md5Pure.rotl ((ta + fF 2 tb tc td + K k + wordAt l gv) % 4294967296) (R k)) _ (by unfold mdStep stepX; simp only []; rw [HQ.out, HG.out])
                case measure => simp [intOf]; omega
              · have hF3 := fF_3 tb tc td hb hc hd
                have hq : (k : Int) / 16 = 3 := by omega
                have hqn : k / 16 = 3 := by omega
                have HQ := Lib.hid hqn
                clear hqn
                obtain ⟨gv, hgv⟩ : ∃ gv : Nat, 7 * (k : Int) % 16 = (gv : Int) := ⟨7 * k % 16, by omega⟩
                obtain ⟨rv, hrv⟩ : ∃ rv : Nat, (k : Int) % 4 = (rv : Int) := ⟨k % 4, by omega⟩
                have hrv4 : rv < 4 := by omega
                have hrvt : (k : Int).tmod 4 = (rv : Int) := by rw [Int.tmod_eq_emod_of_nonneg (by omega)]; exact hrv
                have hrvl : ((rv : Int) < 4) = True := eq_true (by omega)
                have hw : wrap64 3 = 3 := w64 _ (by omega) (by omega)
                have hg16 : gv < 16 := by omega
                have hgl : ((gv : Int) < 16) = True := eq_true (by omega)
                have HG := Lib.hid (show gG k = gv by have := HQ.out; unfold gG; rw [if_neg (by omega), if_neg (by omega), if_neg (by omega)]; omega)
                have hcr0 : Md5Pure.turns.getD (12 + rv) 0 = R k := by have := HQ.out; unfold R; rw [this]; congr 1; omega
                have hcr : some (Value.int .i64 ((Md5Pure.turns.getD (12 + rv) 0 : Nat) : Int)) = some (.int .i64 (R k : Nat)) := by rw [hcr0]
                have hcm : wo.cell? ⟨w.heap.size + 1 + 1 + 1, gv, none⟩ = some (.int .u32 (wordAt l gv : Nat)) := HM.out.ms.cell hg16
                have hct : wo.cell? ⟨4, 12 + rv, none⟩ = some (.int .i64 (R k : Nat)) := ((HT.out.below HM.out.be).turn (12 + rv) (by omega)).trans hcr
                clear hcr0
                have HCR := Lib.hid hcr
                clear hcr
                have hf := hF3
                go_wp2
                refine start_ (n := 18) (S := fun w' => w'.cell? ⟨w.heap.size + 1 + 1 + 1, gv, none⟩ = some (.int .u32 (wordAt l gv : Nat)) ∧ w'.cell? ⟨4, 12 + rv, none⟩ = some (.int .i64 (R k : Nat))) (ds := []) #[false, false, false, false, false, false, false, false, false, false, false, false, false, false, false, false, false, false] (by kernel_rfl) rfl rfl ⟨hcm, hct⟩ (fun hHeld => ?_)
                refine pure_ (i := 0) (N := some 90) (v := ?_) (a' := ?_) #[true, false, false, false, false, false, false, false, false, false, false, false, false, false, false, false, false, false] rfl rfl (by kernel_rfl) (fun _ _ _ h => h) (Or.inl ⟨by rfl, ?_⟩) ?_ ?_
                rotate_left
                · intro w'
                  go_simp
                  with_reducible rfl
                rotate_left
                · simp only [Act.put, List.setIfInBounds_toArray, List.set_cons_zero, List.set_cons_succ, i64_w, i32_w]
                  rfl
                refine pure_ (i := 1) (N := some 91) (v := ?_) (a' := ?_) #[true, true, false, false, false, false, false, false, false, false, false, false, false, false, false, false, false, false] rfl rfl (by kernel_rfl) (fun _ _ _ h => h) (Or.inl ⟨by rfl, ?_⟩) ?_ ?_
                rotate_left
                · intro w'
                  go_simp
                  with_reducible rfl
                rotate_left
                · simp only [Act.put, List.setIfInBounds_toArray, List.set_cons_zero, List.set_cons_succ, i64_w, i32_w]
                  rfl
                refine pure_ (i := 2) (N := some 92) (v := ?_) (a' := ?_) #[true, true, true, false, false, false, false, false, false, false, false, false, false, false, false, false, false, false] rfl rfl (by kernel_rfl) (fun _ _ _ h => h) (Or.inl ⟨by rfl, ?_⟩) ?_ ?_
                rotate_left
                · intro w'
                  go_simp
                  with_reducible rfl
                rotate_left
                · simp only [Act.put, List.setIfInBounds_toArray, List.set_cons_zero, List.set_cons_succ, i64_w, i32_w]
                  rfl
                refine pure_ (i := 3) (N := some 93) (v := ?_) (a' := ?_) #[true, true, true, true, false, false, false, false, false, false, false, false, false, false, false, false, false, false] rfl rfl (by kernel_rfl) (fun _ _ _ h => h) (Or.inl ⟨by rfl, ?_⟩) ?_ ?_
                rotate_left
                · intro w'
                  go_simp
                  with_reducible rfl
                rotate_left
                · simp only [Act.put, List.setIfInBounds_toArray, List.set_cons_zero, List.set_cons_succ, i64_w, i32_w]
                  rfl
                refine pure_ (i := 4) (N := some 94) (v := ?_) (a' := ?_) #[true, true, true, true, true, false, false, false, false, false, false, false, false, false, false, false, false, false] rfl rfl (by kernel_rfl) (fun _ _ _ h => h) (Or.inl ⟨by rfl, ?_⟩) ?_ ?_
                rotate_left
                · intro w'
                  go_simp
                  with_reducible rfl
                rotate_left
                · simp only [Act.put, List.setIfInBounds_toArray, List.set_cons_zero, List.set_cons_succ, i64_w, i32_w]
                  rfl
                refine pure_ (i := 5) (N := some 95) (v := ?_) (a' := ?_) #[true, true, true, true, true, true, false, false, false, false, false, false, false, false, false, false, false, false] rfl rfl (by kernel_rfl) (fun _ _ _ h => h) (Or.inl ⟨by rfl, ?_⟩) ?_ ?_
                rotate_left
                · intro w'
                  go_simp
                  with_reducible rfl
                rotate_left
                · simp only [Act.put, List.setIfInBounds_toArray, List.set_cons_zero, List.set_cons_succ, i64_w, i32_w]
                  rfl
                refine pure_ (i := 6) (N := some 96) (v := ?_) (a' := ?_) #[true, true, true, true, true, true, true, false, false, false, false, false, false, false, false, false, false, false] rfl rfl (by kernel_rfl) (fun _ _ _ h => h) (Or.inl ⟨by rfl, ?_⟩) ?_ ?_
                rotate_left
                · intro w'
                  go_simp
                  with_reducible rfl
                rotate_left
                · simp only [Act.put, List.setIfInBounds_toArray, List.set_cons_zero, List.set_cons_succ, i64_w, i32_w]
                  rfl
                refine pure_ (i := 9) (N := some 99) (v := ?_) (a' := ?_) #[true, true, true, true, true, true, true, false, false, true, false, false, false, false, false, false, false, false] rfl rfl (by kernel_rfl) (fun _ _ _ h => h) (Or.inl ⟨by rfl, ?_⟩) ?_ ?_
                rotate_left
                · intro w'
                  go_simp
                  with_reducible rfl
                rotate_left
                · simp only [Act.put, List.setIfInBounds_toArray, List.set_cons_zero, List.set_cons_succ, i64_w, i32_w]
                  rfl
                refine pure_ (i := 10) (N := some 100) (v := ?_) (a' := ?_) #[true, true, true, true, true, true, true, false, false, true, true, false, false, false, false, false, false, false] rfl rfl (by kernel_rfl) (fun _ _ _ h => h) (Or.inl ⟨by rfl, ?_⟩) ?_ ?_
                rotate_left
                · intro w'
                  go_simp
                  with_reducible rfl
                rotate_left
                · simp only [Act.put, List.setIfInBounds_toArray, List.set_cons_zero, List.set_cons_succ, i64_w, i32_w]
                  rfl
                refine pure_ (i := 11) (N := some 101) (v := ?_) (a' := ?_) #[true, true, true, true, true, true, true, false, false, true, true, true, false, false, false, false, false, false] rfl rfl (by kernel_rfl) (fun _ _ _ h => h) (Or.inl ⟨by rfl, ?_⟩) ?_ ?_
                rotate_left
                · intro w'
                  go_simp
                  with_reducible rfl
                rotate_left
                · simp only [Act.put, List.setIfInBounds_toArray, List.set_cons_zero, List.set_cons_succ, i64_w, i32_w]
                  rfl
                refine pure_ (i := 12) (N := some 102) (v := ?_) (a' := ?_) #[true, true, true, true, true, true, true, false, false, true, true, true, true, false, false, false, false, false] rfl rfl (by kernel_rfl) (fun _ _ _ h => h) (Or.inl ⟨by rfl, ?_⟩) ?_ ?_
                rotate_left
                · intro w'
                  go_simp
                  with_reducible rfl
                rotate_left
                · simp only [Act.put, List.setIfInBounds_toArray, List.set_cons_zero, List.set_cons_succ, i64_w, i32_w]
                  rfl
                refine pure_ (i := 13) (N := some 103) (v := ?_) (a' := ?_) #[true, true, true, true, true, true, true, false, false, true, true, true, true, true, false, false, false, false] rfl rfl (by kernel_rfl) (fun _ _ _ h => h) (Or.inl ⟨by rfl, ?_⟩) ?_ ?_
                rotate_left
                · intro w'
                  go_simp
                  with_reducible rfl
                rotate_left
                · simp only [Act.put, List.setIfInBounds_toArray, List.set_cons_zero, List.set_cons_succ, i64_w, i32_w]
                  rfl
                refine pure_ (i := 14) (N := some 104) (v := ?_) (a' := ?_) #[true, true, true, true, true, true, true, false, false, true, true, true, true, true, true, false, false, false] rfl rfl (by kernel_rfl) (fun _ _ _ h => h) (Or.inl ⟨by rfl, ?_⟩) ?_ ?_
                rotate_left
                · intro w'
                  go_simp
                  with_reducible rfl
                rotate_left
                · simp only [Act.put, List.setIfInBounds_toArray, List.set_cons_zero, List.set_cons_succ, i64_w, i32_w]
                  rfl
                refine take_ (i := 7) (N := some 97) (v := ?_) (a' := ?_) #[true, true, true, true, true, true, true, true, false, true, true, true, true, true, true, false, false, false] rfl rfl (by kernel_rfl) (fun _ _ _ h => h) (Or.inl ⟨by rfl, ?_⟩) hHeld ?_ ?_
                rotate_left
                · rintro w' ⟨s0, s1⟩
                  go_simp
                  with_reducible rfl
                rotate_left
                · simp only [Act.put, List.setIfInBounds_toArray, List.set_cons_zero, List.set_cons_succ, i64_w, i32_w]
                  rfl
                refine pure_ (i := 8) (N := some 98) (v := ?_) (a' := ?_) #[true, true, true, true, true, true, true, true, true, true, true, true, true, true, true, false, false, false] rfl rfl (by kernel_rfl) (fun _ _ _ h => h) (Or.inl ⟨by rfl, ?_⟩) ?_ ?_
                rotate_left
                · intro w'
                  go_simp
                  with_reducible rfl
                rotate_left
                · simp only [Act.put, List.setIfInBounds_toArray, List.set_cons_zero, List.set_cons_succ, i64_w, i32_w]
                  rfl
                refine take_ (i := 15) (N := some 105) (v := ?_) (a' := ?_) #[true, true, true, true, true, true, true, true, true, true, true, true, true, true, true, true, false, false] rfl rfl (by kernel_rfl) (fun _ _ _ h => h) (Or.inl ⟨by rfl, ?_⟩) hHeld ?_ ?_
                rotate_left
                · rintro w' ⟨s0, s1⟩
                  go_simp
                  with_reducible rfl
                rotate_left
                · simp only [Act.put, List.setIfInBounds_toArray, List.set_cons_zero, List.set_cons_succ, i64_w, i32_w]
                  rfl
                refine one_ (i := 16) (N := some 106) #[true, true, true, true, true, true, true, true, true, true, true, true, true, true, true, true, true, false] rfl rfl (by kernel_rfl) (by decide) (fun K hK => ?_)
                refine goes_ Tryd.func122 (by kernel_rfl) rfl #[.int .u32 (IntKind.u32.wrap (IntKind.u32.wrap (IntKind.u32.wrap ((ta : Int) + (fF 3 tb tc td : Nat)) + (Md5Pure.K k : Nat)) + (wordAt l gv : Nat))), .int .i64 (R k : Nat)] (by rfl) rfl rfl (by simp only [List.map_toArray, List.map_cons, List.map_nil]; rfl) ?_
                with_reducible refine (bits_RotateLeft32.calls _ _ _ _ (rotl_sum ta (fF 3 tb tc td) (Md5Pure.K k) (wordAt l gv) (R k) hR.1 hR.2)).mono ?_
                rintro e w3 ⟨rfl, hd3⟩
                have HM3 := Aside0.mk (HM.out.after (below_drew_left hd3.below))
                refine ⟨_, rfl, ?_⟩
                refine hK.out _ _ ⟨(HM3.out.ms.cell hg16), ((HT.out.below HM3.out.be).turn (12 + rv) (by omega)).trans HCR.out⟩ (fun hHeld => ?_)
                clear hK K
                refine norm_ (a' := ?_) ?_ ?_
                rotate_left
                · show Act.put _ (some 106) _ = _
                  simp only [Act.put, List.setIfInBounds_toArray, List.set_cons_zero, List.set_cons_succ, i64_w, i32_w]
                  rfl
                refine pure_ (i := 17) (N := some 15) (v := ?_) (a' := ?_) #[true, true, true, true, true, true, true, true, true, true, true, true, true, true, true, true, true, true] rfl rfl (by kernel_rfl) (fun _ _ _ h => h) (Or.inl ⟨by rfl, ?_⟩) ?_ ?_
                rotate_left
                · intro w'
                  go_simp
                  with_reducible rfl
                rotate_left
                · simp only [Act.put, List.setIfInBounds_toArray, List.set_cons_zero, List.set_cons_succ, i64_w, i32_w]
                  rfl
                refine done_ (by kernel_rfl) ?_
                go_wp2
                go_roundw
                case rel =>
                  refine ⟨k + 1, by omega, by go_num, by rw [HN.out]; rfl, ?_, by rw [HN.out]; rfl, by rw [HN.out]; rfl, HM3⟩
                  rw [HN.out]
                  exact next_b tb (Md5Pure.rotl ((ta + fF 3 tb tc td + K k + wordAt l gv) % 4294967296) (R k)) _ (by unfold mdStep stepX; simp only []; rw [HQ.out, HG.out])
                case measure => simp [intOf]; omega
        · obtain rfl : k = 64 := by omega
          have hcs := stV_cell HM.out
          obtain ⟨hca, hcb, hcc, hcd⟩ := hcs
          have hth := re_there HM.out
          have hi1 : (Tryd.prog.info? 154).map (·.size) = some 4 := by kernel_rfl
          have h1c : (List.toArray [Value.int .u32 ((((s.a : Nat) : Int) + (ta : Nat)) % 4294967296), .int .u32 ((((s.b : Nat) : Int) + (tb : Nat)) % 4294967296), .int .u32 ((((s.c : Nat) : Int) + (tc : Nat)) % 4294967296), .int .u32 ((((s.d : Nat) : Int) + (td : Nat)) % 4294967296)]).all (·.oneCell') = true := all_oneCell_toArray (by simp [Value.oneCell'])
          go_wp2_with ((with_reducible refine gate_store (ty := 154) (x := .tmp 4) (y := .tmp 130) rfl ?_); refine wpList_store_mid rfl 154 (.tmp 4) (.tmp 130) rfl (w.heap.size + 1 + 1) 0 (List.toArray [.int .u32 ((((s.a : Nat) : Int) + (ta : Nat)) % 4294967296), .int .u32 ((((s.b : Nat) : Int) + (tb : Nat)) % 4294967296), .int .u32 ((((s.c : Nat) : Int) + (tc : Nat)) % 4294967296), .int .u32 ((((s.d : Nat) : Int) + (td : Nat)) % 4294967296)]) rfl rfl hth hi1 h1c ?_)
          refine bodyPost_ret (v := .agg (stV (mdBlock s l))) ?_ rfl ⟨rfl, below_setCells HM.out.be (by omega) _ _⟩
          unfold mdBlock
          rw [HE.out]
          exact results_cell_mid (by rfl) _ _ (w.heap.size + 1 + 1) 0 [.int .u32 ((((s.a : Nat) : Int) + (ta : Nat)) % 4294967296), .int .u32 ((((s.b : Nat) : Int) + (tb : Nat)) % 4294967296), .int .u32 ((((s.c : Nat) : Int) + (tc : Nat)) % 4294967296), .int .u32 ((((s.d : Nat) : Int) + (td : Nat)) % 4294967296)] _ (by rfl) (World.rangeAt_setCells_same _ _ _ _ (by simpa using hth)) Tryd.underlying154 rfl hi1
end Go.Proofs.YtljjpdjknnhceaaDoor.Mix

/- What a Hasher holds of the bytes that came. -/
namespace Go.Proofs.YtljjpdjknnhceaaDoor.Md5Pure
structure Abs (st : St) (tl L : List UInt8) : Prop where mk ::
  (state : st = blkN first L (L.length / 64)) (len : tl.length = 64) (head : tl.take (L.length % 64) = L.drop (64 * (L.length / 64)))
def spl (tl : List UInt8) (h : Nat) (x : List UInt8) : List UInt8 := tl.take h ++ x ++ tl.drop (h + x.length)
theorem spl_length (tl : List UInt8) (h : Nat) (x : List UInt8) (hh : h + x.length ≤ tl.length) : (spl tl h x).length = tl.length := by
  simp [spl]; omega
theorem Abs.ok {st : St} {tl L : List UInt8} (h : Abs st tl L) : st.ok := by rw [h.state]; exact blkN_ok _ first_ok _ _
theorem Abs.part {st : St} {tl L : List UInt8} (h : Abs st tl L) (x : List UInt8) (hx : L.length % 64 + x.length < 64) : Abs st (spl tl (L.length % 64) x) (L ++ x) := by
  have e1 : (L ++ x).length / 64 = L.length / 64 := by rw [List.length_append]; omega
  have e2 : (L ++ x).length % 64 = L.length % 64 + x.length := by rw [List.length_append]; omega
  have hl := h.len
  refine ⟨?_, ?_, ?_⟩
  · rw [e1, blkN_append _ _ _ _ (by omega)]; exact h.state
  · rw [spl_length _ _ _ (by omega)]; exact hl
  · rw [e1, e2, List.drop_append_of_le_length (by omega), ← h.head]
    unfold spl
    rw [List.take_append_of_le_length (by simp; omega), List.take_of_length_le (l := tl.take (L.length % 64) ++ x) (by simp; omega)]
theorem Abs.full {st : St} {tl L : List UInt8} (h : Abs st tl L) (x : List UInt8) (hx : L.length % 64 + x.length = 64) : Abs (mdBlock st (spl tl (L.length % 64) x)) (spl tl (L.length % 64) x) (L ++ x) := by
  have e1 : (L ++ x).length / 64 = L.length / 64 + 1 := by rw [List.length_append]; omega
  have e2 : (L ++ x).length % 64 = 0 := by rw [List.length_append]; omega
  have hl := h.len
  refine ⟨?_, ?_, ?_⟩
  · rw [e1]
    unfold blkN
    rw [blkN_append _ _ _ _ (by omega), ← h.state, List.drop_append_of_le_length (by omega), ← h.head]
    unfold spl
    rw [List.drop_of_length_le (by omega), List.append_nil, List.take_of_length_le (l := tl.take (L.length % 64) ++ x) (by simp; omega)]
  · rw [spl_length _ _ _ (by omega)]; exact hl
  · rw [e2, List.take_zero, e1, List.drop_of_length_le (by rw [List.length_append]; omega)]
theorem Abs.start : Abs first (List.replicate 64 0) [] := ⟨rfl, rfl, rfl⟩
theorem Abs.sum {st : St} {tl L : List UInt8} (h : Abs st tl (L ++ tail L.length)) : told st = md5 L := by
  unfold md5; rw [h.state]
end Go.Proofs.YtljjpdjknnhceaaDoor.Md5Pure
