/- Hex of the digest package: what it answers. -/
import Derived.Test.YthnobhifepnakaaPDigestHexesx1
import Derived.StillTailTactics
import Derived.Deep.RegionLawGrows
import Derived.Lib.Hide
set_option linter.unusedVariables false
set_option linter.unusedSimpArgs false
namespace Go.Proofs.Ythnobhifepnakaa.Hexes
open Go.RowKit Go.Proofs.YthnobhifepnakaaW.PrintWords Go.Proofs.YthnobhifepnakaaW.PrintLast Go.Proofs.YthnobhifepnakaaW.PrintMore
open Go.Proofs.Ythnobhifepnakaa.PDigestHexes
def hexD (n : Int) : Int := if n < 10 then 48 + n else 87 + n
def hexI (c : Int) : List Int := [hexD (c / 16), hexD (c % 16)]
def hexTo (s : ByteArray) : Nat → List Int
  | 0 => []
  | k + 1 => hexTo s k ++ hexI (bt s k)
theorem make_cap {P : Program} (t e : TypeId) (z : Value) (bytes : Nat) (ht : P.underlying t = some (.slice e)) (hinfo : (P.info? e).map (fun i => (i.zero, i.size, i.bytes)) = some (some z, 1, bytes)) (hz : z.cells.size = 1)
    (c : Int) (h0 : 0 ≤ c) (hbytes : (bytes : Int) * c ≤ 281474976710656) (h63 : c ≤ 9223372036854775807) (w : World) :
    (Instr.makeSlice t (.int .i64 0) (.int .i64 c)).run P w = .ok (.slice (some ⟨w.heap.size, 0, none⟩) 0 c.toNat) (w.alloc (.cells (madeCells z.cells c.toNat) e)) := by
  obtain ⟨i0, hi, hzz⟩ := Option.map_eq_some_iff.1 hinfo
  simp only [Prod.mk.injEq] at hzz
  obtain ⟨hz0, hz1, hz2⟩ := hzz
  have := run_make (P := P) w t e i0 z ht hi hz0 .i64 .i64 0 c (Int.le_refl _) h0 (by rw [hz2]; exact hbytes) h63
  rw [hz1, Nat.mul_one] at this
  exact this
theorem made_owns (w : World) (z : Value) (hz : z.cells.size = 1) (c : Nat) (h : c ≤ maxLen) (e : TypeId) : (w.alloc (.cells (madeCells z.cells c) e)).ownsRow w.heap.size e 1 (.slice (some ⟨w.heap.size, 0, none⟩) 0 c) 0 [] := by
  exact World.ownsRow_made w _ c (Nat.le_refl _) h (by rw [size_madeCells, Nat.mul_one])
theorem hexTo_length (s : ByteArray) (k : Nat) : (hexTo s k).length = 2 * k := by
  induction k with
  | zero => rfl
  | succ k ih => simp [hexTo, hexI, ih]; omega
theorem hexD_tab : ∀ n : Nat, n < 16 → bt ⟨#[48, 49, 50, 51, 52, 53, 54, 55, 56, 57, 97, 98, 99, 100, 101, 102]⟩ n = hexD n := by decide
theorem hexD_at (i : Int) (h0 : 0 ≤ i) (h1 : i < 16) : ∀ h : i.toNat < (⟨#[48, 49, 50, 51, 52, 53, 54, 55, 56, 57, 97, 98, 99, 100, 101, 102]⟩ : ByteArray).size,
    (((⟨#[48, 49, 50, 51, 52, 53, 54, 55, 56, 57, 97, 98, 99, 100, 101, 102]⟩ : ByteArray)[i.toNat]'h).toNat : Int) = hexD i := by
  intro h
  rw [bt_at]
  obtain ⟨n, rfl⟩ := Int.eq_ofNat_of_zero_le h0
  exact hexD_tab n (by omega)
theorem two_new (w : World) (y1 y2 : Value) (e : TypeId) : ∀ j u, [y1, y2][j]? = some u → ((w.alloc (.cells #[y1, y2] e)).drew).cell? ⟨w.heap.size, j, none⟩ = some u := by
  intro j u hj
  have := World.news_of_block (cs := #[y1, y2]) (t := e) (fr := (0, 0)) (heap_alloc_new w (.cells #[y1, y2] e)) j u (by simpa using hj)
  have e1 : (⟨w.heap.size, 0, none⟩ : Addr).add j = ⟨w.heap.size, j, none⟩ := by unfold Addr.add; split <;> simp_all
  rw [e1] at this
  exact this
section
variable {P : Program} {ops : Array Oper} {o : Oper} {a : Act} {Q : Exit → Act → World → Prop} {K : Act → World → Prop}
theorem step_append_at {w0 W : World} (base : Nat) (hw : Region.wanted o (yielded ops a.tmps) = true) (s x : Operand) (t e : TypeId) (z : Value) (bytes : Nat)
    (ho : o.op = .call { callee := .builtin .append, args := #[s, x], argTypes := #[t, t] })
    (ht : P.underlying t = some (.slice e)) (hinfo : (P.info? e).map (fun i => (i.zero, i.size, i.bytes)) = some (some z, 1, bytes)) (hz : z.cells.size = 1) (hb0 : 0 < bytes)
    (v : Value) (n : Nat) (xs : List Value) (b m c : Nat) (ys : List Value) (hs : a.eval s = v) (hx : a.eval x = .slice (some ⟨b, 0, none⟩) m c) (hm : ys.length = m) (h1 : ∀ u ∈ ys, u.oneCell' = true)
    (hc : ∀ j u, ys[j]? = some u → W.cell? ⟨b, j, none⟩ = some u)
    (HO : W.ownsRow base e 1 v n xs) (HB : Below base w0 W) (hbase : base ≤ W.heap.size) (hl : (n + m) * bytes ≤ 140737488355328)
    (h : ∀ v1 w1, w1.ownsRow base e 1 v1 (n + m) (xs ++ ys) → Below base w0 w1 → W.grownBy w1 v.ownBlock → K (a.put o.dst v1) w1) :
    if Region.wanted o (yielded ops a.tmps) = true then Oper.wp P o a W K Q else K (a.put o.dst undef) W := by
  obtain ⟨i0, hi, hzz⟩ := Option.map_eq_some_iff.1 hinfo
  simp only [Prod.mk.injEq] at hzz
  obtain ⟨hz0, hz1, hz2⟩ := hzz
  have hlen : n + m ≤ 140737488355328 := Nat.le_trans (Nat.le_mul_of_pos_right _ hb0) hl
  rw [if_pos hw]
  obtain ⟨v1, w1, hr, hown, hg, _⟩ := run_append_own (P := P) W base t o.type e i0 z 1 bytes ht hi hz0 hz1 hz2 hz (by decide) v n xs HO ⟨b, 0, none⟩ m c ys (by rw [hm, Nat.mul_one])
    (by intro j u hj; have := hc j u hj; have e : (⟨b, 0, none⟩ : Addr).add j = ⟨b, j, none⟩ := by unfold Addr.add; split <;> simp_all
        rw [e]; exact this) h1 (by simp only [maxLen]; omega) hl hbase
  unfold Oper.wp execOp
  simp only [ho, resolve, invoke, builtin, Sem.run_bind, Sem.run_pure, Result.andThen_ok, List.map_toArray, List.map_cons, List.map_nil, hs, hx, hr]
  exact h v1 w1 hown (HB.grown hg hbase (own_base HO)) hg
end
theorem hexTo_next (s : ByteArray) (k : Nat) (h : k < s.size) : hexTo s (k + 1) = hexTo s k ++ [hexD ((s[k].toNat : Int) / 16), hexD ((s[k].toNat : Int) % 16)] := by
  have : bt s (k : Int) = (s[k].toNat : Int) := by simp [bt, h]
  simp only [hexTo, hexI, this]
set_option maxHeartbeats 1000000 in
theorem Hex_calls (s : ByteArray) (w : World) (hs : s.size ≤ 1073741824) :
    Calls Try.prog 4 #[.string s] w fun e w' => e = .returned (.string (strOfNums (hexTo s s.size))) ∧ Below w.heap.size w w' := by
  have hmk := make_cap (P := Try.prog) 30 5 (.int .u8 0) 1 Try.underlying30 info5 rfl (2 * (s.size : Int)) (by omega) (by omega) (by omega)
  have HM := Lib.hid (made_owns w (.int .u8 0) rfl (2 * s.size) (by simp only [maxLen]; omega) 5)
  go_enter Try.func4, Try.ntmps4
  go_wp2
  clear hmk
  go_loopw [3, 4] (fun v i wr => ∃ k : Nat, k ≤ s.size ∧ i = .int .i64 k ∧ Aside0 (wr.ownsRow w.heap.size 5 1 v (hexTo s k).length (nums .u8 (hexTo s k))) ∧ Aside0 (Below w.heap.size w wr)) (fun _ i _ => s.size - (intOf i).toNat)
  case atStart => exact ⟨0, Nat.zero_le _, rfl, ⟨HM.out⟩, ⟨(Below.refl _ _).alloc (Nat.le_refl _) _⟩⟩
  case round =>
    clear HM
    obtain ⟨k, hk, rfl, HO, HB⟩ := hrel
    by_cases hlt : k < s.size
    · have hc := s[k].toNat_lt
      have q1 : (0 ≤ (s[k].toNat : Int) / 16 ∧ (s[k].toNat : Int) / 16 < 16) = True := eq_true (by omega)
      have q2 : (0 ≤ (s[k].toNat : Int) % 16 ∧ (s[k].toNat : Int) % 16 < 16) = True := eq_true (by omega)
      have q3 := hexD_at ((s[k].toNat : Int) / 16) (by omega) (by omega)
      have q4 := hexD_at ((s[k].toNat : Int) % 16) (by omega) (by omega)
      have q5 := u8_and15 (s[k].toNat : Int) (by omega) (by omega)
      have hl2 := hexTo_length s k
      have HL := Lib.hid hl2
      clear hl2
      have hsz := HB.out.size
      have hcell := two_new wr (.int .u8 (hexD ((s[k].toNat : Int) / 16))) (.int .u8 (hexD ((s[k].toNat : Int) % 16))) 5
      go_wp2
      go_region_law (refine step_append_at (P := Try.prog) (w0 := w) w.heap.size ?hw (.tmp 15) (.tmp 26) 30 5 (.int .u8 0) 1 rfl Try.underlying30 info5 rfl (by decide) u3 (hexTo s k).length (nums .u8 (hexTo s k)) wr.heap.size 2 2 [.int .u8 (hexD ((s[k].toNat : Int) / 16)), .int .u8 (hexD ((s[k].toNat : Int) % 16))] rfl rfl rfl ?h1 ?hc ?ho ?hb ?hs ?hl ?_; (case hw => simp [Region.wanted]); (case h1 => simp [Value.oneCell']); (case hc => exact hcell); (case ho => exact HO.out.alloc _); (case hb => exact below_drew (below_alloc HB.out _)); (case hs => simp; omega); (case hl => rw [HL.out]; omega); intro v1 w1 HO1 HB1 _)
      all_goals
        go_wp2
        go_roundw
        case rel => exact ⟨k + 1, by omega, by go_num, ⟨by rw [hexTo_next s k hlt, nums_append, List.length_append]; exact HO1⟩, ⟨HB1⟩⟩
        case measure => simp [intOf]; omega
    · have hcv := own_string (P := Try.prog) Try.underlying30 Try.underlying5 Try.underlying9 HO.out
      obtain rfl : k = s.size := by omega
      go_wp2
      go_ret
      exact ⟨rfl, HB.out⟩
end Go.Proofs.Ythnobhifepnakaa.Hexes
