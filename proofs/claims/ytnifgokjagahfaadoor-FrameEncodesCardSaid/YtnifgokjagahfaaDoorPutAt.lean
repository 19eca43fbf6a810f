/- put of the frame package, where there is room: written in place. -/
import Derived.Test.YtnifgokjagahfaaDoorPut
import Derived.ArgAppend
set_option linter.unusedVariables false
set_option linter.unusedSimpArgs false
namespace Go.Proofs.YtnifgokjagahfaaDoor.Put
open Go.RowKit Go.Proofs.YtnifgokjagahfaaDoorW.PrintWords Go.Proofs.YtnifgokjagahfaaDoorW.PrintLast Go.Proofs.YtnifgokjagahfaaDoorW.PrintMore
open Go.Proofs.YtnifgokjagahfaaDoor.Base Go.Proofs.YtnifgokjagahfaaDoor.App
/-- xs with ys written from k on -/
def setTo (xs : List Value) (k : Nat) (ys : List Value) : List Value := xs.take k ++ ys ++ xs.drop (k + ys.length)
theorem setTo_nil (xs : List Value) (k : Nat) : setTo xs k [] = xs := by simp [setTo]
theorem setTo_next (xs ys : List Value) (k : Nat) (y : Value) (h : k + ys.length < xs.length) : (setTo xs k ys).set (k + ys.length) y = setTo xs k (ys ++ [y]) := by
  unfold setTo
  have hl : (xs.take k ++ ys).length = k + ys.length := by simp; omega
  rw [List.set_append_right _ _ (by omega), hl, Nat.sub_self, List.length_append]
  have hd : xs.drop (k + ys.length) = xs[k + ys.length] :: xs.drop (k + ys.length + 1) := (List.drop_eq_getElem_cons h)
  rw [hd, List.set_cons_zero]
  simp [Nat.add_assoc]
theorem own_set {w : World} {base g n cap : Nat} {e : TypeId} {xs : List Value} (h : w.ownsRow base e 1 (.slice (some ⟨g, 0, none⟩) n cap) n xs) (i : Nat) (hi : i < n) (v : Value) : (w.setCell ⟨g, i, none⟩ v).ownsRow base e 1 (.slice (some ⟨g, 0, none⟩) n cap) n (xs.set i v) := by
  rcases h with ⟨hl, h | ⟨g', cap', cs, hv, hb, hg, hn, hm, hs, ht⟩⟩
  · cases h.1
  · cases hv
    refine ⟨by simpa using hl, .inr ⟨g, cap, _, rfl, hb, heap_setCell_same _ _ _ _ _ _ hg, hn, hm, by simpa using hs, ?_⟩⟩
    rw [← ht, Array.toList_setIfInBounds, List.take_set]
theorem own_cell {w : World} {base g n cap : Nat} {e : TypeId} {xs : List Value} (h : w.ownsRow base e 1 (.slice (some ⟨g, 0, none⟩) n cap) n xs) (i : Nat) (hi : i < n) : (w.cell? ⟨g, i, none⟩).isSome = true ∧ w.frozen? ⟨g, i, none⟩ = false ∧ base ≤ g := by
  rcases h with ⟨hl, h | ⟨g', cap', cs, hv, hb, hg, hn, hm, hs, ht⟩⟩
  · cases h.1
  · cases hv
    refine ⟨?_, frozen_of_row _ _ i _ _ hg, hb⟩
    rw [cell_of_row _ _ _ _ _ _ hg]
    simp; omega
section
variable {P : Program} {ops : Array Oper} {rest : List Oper} {o : Oper} {a : Act} {Q : Exit → Act → World → Prop}
/-- append of one cell, where there is room -/
theorem wp_append_room {W : World} (hgd : o.guard = none) (s x : Operand) (t e : TypeId) (ho : o.op = .call { callee := .builtin .append, args := #[s, x], argTypes := #[t, t] })
    (ht : P.underlying t = some (.slice e)) (i : TypeInfo) (hi : P.info? e = some i) (hi1 : i.size = 1) (g n cap b c : Nat) (y : Value) (hs : a.eval s = .slice (some ⟨g, 0, none⟩) n cap) (hx : a.eval x = .slice (some ⟨b, 0, none⟩) 1 c)
    (hy : W.cell? ⟨b, 0, none⟩ = some y) (h1 : y.oneCell' = true) (hroom : n + 1 ≤ cap) (hcell : (W.cell? ⟨g, n, none⟩).isSome = true) (hfr : W.frozen? ⟨g, n, none⟩ = false)
    (h : wpList P ops Q rest (a.put o.dst (.slice (some ⟨g, 0, none⟩) (n + 1) cap)) (W.setCell ⟨g, n, none⟩ y)) : wpList P ops Q (o :: rest) a W := by
  have c1 : ∀ j u, [y][j]? = some u → W.cell? ((⟨b, 0, none⟩ : Addr).add j) = some u := by
    intro j u hj
    cases j with
    | zero => simpa [Addr.add] using hy.trans (by simpa using hj)
    | succ j => simp at hj
  have c2 : ∀ u ∈ [y], u.oneCell' = true := by
    intro u hu
    simp at hu
    subst hu
    exact h1
  have c3 : ∀ j, j < [y].length → (W.cell? ⟨g, 0 + n * i.size + j, none⟩).isSome = true := by
    intro j hj
    have hj0 : j = 0 := by simpa using hj
    subst hj0
    simpa [hi1] using hcell
  have c4 : ∀ j, j < [y].length → W.frozen? ⟨g, 0 + n * i.size + j, none⟩ = false := by
    intro j hj
    have hj0 : j = 0 := by simpa using hj
    subst hj0
    simpa [hi1] using hfr
  have hr := run_append_room_cells (P := P) W t o.type e i ht hi g 0 n cap ⟨b, 0, none⟩ 1 c [y] (by rw [hi1]; rfl) c1 c2 hroom c3 c4
  have e1 : W.setCells g (0 + n * i.size) [y] = W.setCell ⟨g, n, none⟩ y := by rw [hi1]; simp [World.setCells]
  rw [e1] at hr
  refine wpList_plain hgd fun K hK => ?_
  unfold Oper.wp execOp
  simp only [ho, resolve, invoke, builtin, Sem.run_bind, Sem.run_pure, Result.andThen_ok, List.map_toArray, List.map_cons, List.map_nil, hs, hx, hr]
  exact hK _ _ h
end
set_option maxRecDepth 100000 in
set_option maxHeartbeats 4000000 in
theorem put_at (base g n cap k0 : Nat) (xs : List Value) (N : Int) (wd : Nat) (w : World) (hO : w.ownsRow base 5 1 (.slice (some ⟨g, 0, none⟩) n cap) n xs) (hb : base ≤ w.heap.size) (hN0 : 0 ≤ N) (hN : N ≤ 9223372036854775807) (hw0 : 1 ≤ wd) (hw1 : wd ≤ 8) (hk0 : k0 + wd ≤ n) (hnc : n ≤ cap) (hn : n ≤ 1000000) :
    Calls Tryd.prog 36 #[.slice (some ⟨g, 0, none⟩) k0 cap, .int .i64 N, .int .i64 (wd : Int)] w fun e w' => ∃ v', e = .returned v' ∧ w'.ownsRow base 5 1 (.slice (some ⟨g, 0, none⟩) n cap) n (setTo xs k0 (nums .u8 (be N wd))) ∧ Below base w w' := by
  have HO := Aside0.mk hO
  have HB := Aside0.mk (Below.refl base w)
  have hxl : xs.length = n := by have := hO.1; simpa using this
  have HXL := Aside0.mk hxl
  clear hO hxl
  obtain ⟨i0, hi0, hzz⟩ := Option.map_eq_some_iff.1 info8
  have hi1 : i0.size = 1 := by simp only [Prod.mk.injEq] at hzz; exact hzz.2.1
  clear hzz
  go_enter Tryd.func36, Tryd.ntmps36
  go_wp2
  go_loopw [0, 7] (fun sv iv wr => ∃ k : Nat, k ≤ wd ∧ iv = .int .i64 ((wd : Int) - 1 - (k : Int)) ∧ sv = .slice (some ⟨g, 0, none⟩) (k0 + k) cap ∧ Aside0 (wr.ownsRow base 5 1 (.slice (some ⟨g, 0, none⟩) n cap) n (setTo xs k0 (nums .u8 (beTo N wd k)))) ∧ Aside0 (Below base w wr)) (fun _ iv _ => (intOf iv + 1).toNat)
  case atStart => exact ⟨0, Nat.zero_le _, by simp, rfl, ⟨by simpa [beTo, nums, setTo_nil] using HO.out⟩, HB⟩
  case round =>
    clear HO HB
    obtain ⟨k, hk, rfl, rfl, HO, HB⟩ := hrel
    obtain ⟨wo, rfl⟩ : ∃ wo : World, wo = wr := ⟨_, rfl⟩
    by_cases hlt : k < wd
    · have hsz := HB.out.size
      have HZ : Aside0 (base ≤ wo.heap.size) := ⟨by omega⟩
      have HN := Lib.hid (beTo_next N wd k)
      obtain ⟨i, hi⟩ : ∃ i : Nat, (wd : Int) - 1 - (k : Int) = (i : Int) ∧ i = wd - 1 - k := ⟨wd - 1 - k, by omega, rfl⟩
      rw [← hi.2] at HN
      have hi7 : i ≤ 7 := by omega
      have hie := hi.1
      have HI := Aside0.mk hi
      clear hsz hi
      rw [hie]
      clear hie
      have hnew := news wo [.int .u8 (N / 2 ^ (8 * i) % 256)] 5 0 _ rfl
      have HOA := Aside0.mk (HO.out.alloc (.cells [Value.int .u8 (N / 2 ^ (8 * i) % 256)].toArray 5))
      obtain ⟨hcell, hfr, _⟩ := own_cell HOA.out (k0 + k) (by omega)
      go_wp2_with (at_builtin; go_loud (refine wp_append_room (P := Tryd.prog) rfl (.tmp 14) (.tmp 20) 82 5 rfl Tryd.underlying82 i0 hi0 hi1 g (k0 + k) cap wo.heap.size 1 (.int .u8 (N / 2 ^ (8 * i) % 256)) rfl rfl hnew rfl (by omega) hcell hfr ?_))
      go_roundw
      case rel =>
        have hnl : (nums .u8 (beTo N wd k)).length = k := by rw [nums, List.length_map, beTo_length]
        have h2 := own_set HOA.out (k0 + k) (by omega) (.int .u8 (N / 2 ^ (8 * i) % 256))
        have h3 := setTo_next xs (nums .u8 (beTo N wd k)) k0 (.int .u8 (N / 2 ^ (8 * i) % 256)) (by rw [hnl, HXL.out]; omega)
        rw [hnl] at h3
        rw [h3] at h2
        refine ⟨k + 1, by omega, ?_, rfl, ⟨?_⟩, ⟨(HB.out.alloc HZ.out _).setCell (own_cell HOA.out (k0 + k) (by omega)).2.2 _⟩⟩
        · have := HI.out.1
          congr 1; omega
        · rw [HN.out, nums_append]
          exact h2
      case measure => have := HI.out; simp [intOf]
    · obtain rfl : k = wd := by omega
      have hneg : (k : Int) - 1 - (k : Int) = -1 := by omega
      rw [hneg]
      go_wp2
      go_ret
      exact ⟨_, rfl, HO.out, HB.out⟩
end Go.Proofs.YtnifgokjagahfaaDoor.Put
