/- Joined texts of this claim: Close, PutAt, Enc, EncAny, EqM, Bulk, Open, CutsF -/
import Derived.Test.YtnifgokjagahfaaDoorJFCut3
import Derived.Test.YtnifgokjagahfaaDoorJFCut0
import Derived.ArgAppend
import Derived.Test.YtnifgokjagahfaaDoorJFCut1
import Derived.Lib.AppendStr
import Derived.Lib.SlBytesConst
import Derived.Deep.DeepCutAuto
import Derived.Test.YtnifgokjagahfaaDoorWEqStruct
import Derived.Test.YtnifgokjagahfaaDoorRows
import Derived.ProofKit
import Derived.SliceStrings
import Derived.Test.YtnifgokjagahfaaDoorJFCut2
/- (*frame.Reader).Close walked. -/
set_option linter.unusedVariables false
set_option linter.unusedSimpArgs false
namespace Go.Proofs.YtnifgokjagahfaaDoor.Close
open Go.RowKit Go.Shelf Go.Proofs.YtnifgokjagahfaaDoorW.PrintWords Go.Proofs.YtnifgokjagahfaaDoorW.PrintLast Go.Proofs.YtnifgokjagahfaaDoorW.PrintMore
open Go.Proofs.YtnifgokjagahfaaDoor.Base Go.Proofs.YtnifgokjagahfaaDoor.App Go.Proofs.YtnifgokjagahfaaDoor.Layouts Go.Proofs.YtnifgokjagahfaaDoor.Msg Go.Proofs.YtnifgokjagahfaaDoor.Mids Go.Proofs.YtnifgokjagahfaaDoor.SplitPure Go.Proofs.YtnifgokjagahfaaDoor.Pcs Go.Proofs.YtnifgokjagahfaaDoor.PcsIn Go.Proofs.YtnifgokjagahfaaDoor.Pieces Go.Proofs.YtnifgokjagahfaaDoor.Reader Go.Proofs.YtnifgokjagahfaaDoor.ReadPure Go.Proofs.YtnifgokjagahfaaDoor.ReadStream Go.Proofs.YtnifgokjagahfaaDoor.InRegion Go.Proofs.YtnifgokjagahfaaDoor.Split
open Go.Proofs.YtnifgokjagahfaaDoor.Dec (mL_one infoM)
open Go.Proofs.YtnifgokjagahfaaDoor.Crc (Nibs)
attribute [local go_sem] Oper.semAt_some
theorem ownFrom_but {β : Type} {b B : Nat} {w₀ : World} (hB : w₀.heap.size ≤ B) : OwnFrom B (fun (_ : β) W => But b w₀ W) :=
  fun _ _ _ _ hs hg hr => ⟨hg.os.trans hs.os, hg.tape.trans hs.tape, hg.output.trans hs.output, Nat.le_trans hs.size hg.size, fun k hk hne =>
    (hg.block k (Nat.lt_of_lt_of_le hk hs.size) (fun e => by have := (hr k e.symm).1; omega)).trans (hs.block k hk hne)⟩
theorem blk_ownf {β : Type} (B : Nat) (t : TypeId) (cs : β → Array Value) : Own (fun (x : β) W => W.heap[B]? = some (.cells (cs x) t (0, 0))) := fun s X Y row hs hg hrow =>
  (hg.block B (Array.getElem?_eq_some_iff.1 hs).1 (fun e => by obtain ⟨o, ho, hc⟩ := hrow B e.symm; rw [hs] at ho; cases ho; cases hc)).trans hs
theorem nibs_but {b : Nat} {w w' : World} (h : Nibs w) (hb : But b w w') (hne : b ≠ 2) : Nibs w' :=
  ⟨fun j hj => (World.cell?_of_block (a := ⟨2, j, none⟩) (hb.block _ h.lt (fun e => hne (by cases e; rfl)))).trans (h.cell j hj), Nat.lt_of_lt_of_le h.lt hb.size⟩
theorem keeps_drew (W : World) : KeepsOthers W W.drew := ⟨Nat.le_refl _, fun _ _ h _ => h⟩
/-- the count behind the loop's rounds -/
def vf (c : Int) (pre : List Pc) : Int := pre.foldl (fun a p => IntKind.i64.wrap (a - (p.2.1 : Nat))) c
theorem vf_snoc (c : Int) (pre : List Pc) (x : Pc) : vf c (pre ++ [x]) = IntKind.i64.wrap (vf c pre - (x.2.1 : Nat)) := by simp [vf]
theorem vf_all : ∀ (l : List Pc) (c : Int), (szs l : Int) ≤ c → c ≤ 2199023255552 → vf c l = c - (szs l : Nat) := by
  intro l
  induction l with
  | nil => intro c _ _; simp [vf, szs]
  | cons p l ih =>
    intro c h1 h2
    rw [szs_cons] at h1 ⊢
    have hw : IntKind.i64.wrap (c - (p.2.1 : Nat)) = c - (p.2.1 : Nat) := by rw [IntKind.wrap_i64]; omega
    show vf (IntKind.i64.wrap (c - (p.2.1 : Nat))) l = _
    rw [hw, ih _ (by omega) (by omega)]
    omega
theorem row_ne {W : World} {B base : Nat} {e t : TypeId} {size n : Nat} {v : Value} {xs : List Value} {cs : Array Value} (hr : W.ownsRow base e size v n xs) (hb : W.heap[B]? = some (.cells cs t (0, 0))) (hte : t ≠ e) : some B ≠ v.ownBlock := by
  intro he
  obtain ⟨cells, hc⟩ := own_typed hr B he.symm
  rw [hb] at hc
  simp only [Option.some.injEq, Obj.cells.injEq] at hc
  exact hte hc.2.1
theorem listIn_oneM {F : Fence} {n : Nat} {ops : Array Oper} {rest : List Oper} {o : Oper} {act : Act} {Q : Exit → Act → World → Prop} {w : World} (hg : o.guard = none) (x : Tmp) (ho : o.op = .buildSlice 67 1 #[(0, .tmp x)]) (m : M) (hx : act.eval (.tmp x) = .agg (mL m).toArray)
    (h : wpListIn F n Tryd.prog ops Q rest (act.put o.dst (.slice (some ⟨w.heap.size, 0, none⟩) 1 1)) (w.alloc (.cells (mL m).toArray 24))) : wpListIn F n Tryd.prog ops Q (o :: rest) act w := by
  refine listIn_exec hg (by rw [ho]; intro c hc'; cases hc') (by simp [Oper.about, ho]) ?_ h
  unfold execOp
  simp only [ho, List.map_toArray, List.map_cons, List.map_nil, hx, Sem.run_bind, run_oneM, Result.andThen_ok]
  rfl
set_option maxRecDepth 100000 in
set_option maxHeartbeats 8000000 in
theorem close_any (w : World) (b : Nat) (h : ByteArray) (k : Int) (r : RBox w b h k) (hsz : h.size ≤ 4194304) (hk0 : 0 ≤ k) (hk1 : k ≤ 1099511627776) (hN : Nibs w) (hb2 : 2 < b) :
    Calls Tryd.prog 30 #[.pointer (some ⟨b, 0, none⟩)] w fun e w' => ∃ v, e = .returned v ∧ w'.ownsRow w.heap.size 24 11 v (pcs h 0).length (msL (msgs (pcs h 0))) ∧
      RBox w' b ByteArray.empty (k + ((h.size - szs (pcs h 0) : Nat) : Int)) ∧ But b w w' := by
  have hlt := r.lt
  have HN := Aside0.mk hN
  have bR := (Boxed.new w 53 (.pointer (some ⟨b, 0, none⟩))).alloc (.cells #[.slice none 0 0] 67)
  have bO := Boxed.new (w.alloc (.cells #[.pointer (some ⟨b, 0, none⟩)] 53)) 67 (.slice none 0 0)
  rw [World.size_alloc] at bO
  have hB0 : Below w.heap.size w ((w.alloc (.cells #[.pointer (some ⟨b, 0, none⟩)] 53)).alloc (.cells #[.slice none 0 0] 67)) := ((Below.refl _ w).alloc (Nat.le_refl _) _).alloc (by simp) _
  have hsz0 : ((w.alloc (.cells #[.pointer (some ⟨b, 0, none⟩)] 53)).alloc (.cells #[.slice none 0 0] 67)).heap.size = w.heap.size + 2 := by simp
  have hr0 := r.later hB0
  clear r hN
  refine (callsIn_wide (n := 6)).1 ?_
  refine callsIn_of_wp_marks Tryd.func30 rfl trivial ?_ rfl
  simp only [Tryd.ntmps30, List.size_toArray, List.length_cons, List.length_nil, Nat.reduceAdd, Nat.reduceSub, Array.replicate_succ, Array.replicate_zero, List.push_toArray, List.append_toArray, List.nil_append, List.cons_append]
  gi_wp2_with fail
  generalize (w.alloc (.cells #[.pointer (some ⟨b, 0, none⟩)] 53)).alloc (.cells #[.slice none 0 0] 67) = W0 at bR bO hB0 hsz0 hr0 ⊢
  have cR := bR.cell
  have hc0 := hr0.c0
  have hc1 := hr0.c1
  have hf1 := hr0.f1
  have HB0 := Aside0.mk hB0
  have HS0 := Aside0.mk hsz0
  have HBO := Aside0.mk bO
  have HBR := Aside0.mk bR
  have HR0 := Aside0.mk hr0
  have hw1 : wrap64 (k + (h.size : Int)) = k + (h.size : Int) := w64 _ (by omega) (by omega)
  clear hB0 hsz0 bO bR hr0
  refine wpIn_wide.2 ?_
  refine wp_region_still_tail 12 (by kernel_rfl) (by kernel_rfl) ?_
  simp only [List.take_succ_cons, List.take_zero, List.drop_succ_cons, List.drop_zero]
  iterate 12 still_step
  with_reducible refine wpStill_nil ?_
  have HB1 : Aside0 (But b w (W0.setCell ⟨b, 1, none⟩ (.int .i64 (k + (h.size : Int)))).drew) := ⟨(But.of_below HB0.out).set _ |>.then (Below.refl w.heap.size _).drew (Nat.le_refl _)⟩
  have HR1 : Aside0 (RBox ((W0.setCell ⟨b, 1, none⟩ (.int .i64 (k + (h.size : Int)))).drew) b h (k + (h.size : Int))) := ⟨RBox.set1 HR0.out _⟩
  have HBO1 : Aside0 (Boxed ((W0.setCell ⟨b, 1, none⟩ (.int .i64 (k + (h.size : Int)))).drew) (w.heap.size + 1) 67 (.slice none 0 0)) := ⟨(Below.heap_setCell _ _ _ _ (by simp only; omega)).trans HBO.out⟩
  have HBR1 : Aside0 (Boxed ((W0.setCell ⟨b, 1, none⟩ (.int .i64 (k + (h.size : Int)))).drew) w.heap.size 53 (.pointer (some ⟨b, 0, none⟩))) := ⟨(Below.heap_setCell _ _ _ _ (by simp only; omega)).trans HBR.out⟩
  have HS1 : Aside0 (((W0.setCell ⟨b, 1, none⟩ (.int .i64 (k + (h.size : Int)))).drew).heap.size = w.heap.size + 2) := ⟨by have := HS0.out; simpa [World.setCell, World.drew] using this⟩
  rw [show IntKind.i64.wrap (k + (h.size : Int)) = k + (h.size : Int) from (Go.Proofs.YtnifgokjagahfaaDoorW.PrintLast.i64_w _).trans hw1]
  clear cR hc0
  rename_i KK hKK
  have HKK := Aside0.mk hKK
  clear hKK
  go_wp2_with fail
  generalize (W0.setCell ⟨b, 1, none⟩ (.int .i64 (k + (h.size : Int)))).drew = W1 at HB1 HR1 HBO1 HBR1 HS1 ⊢
  clear hc1 hf1 hw1 HB0 HS0 HBO HBR HR0
  have cR := HBR1.out.cell
  have hc0 := HR1.out.c0
  refine HKK.out _ _ ?_
  gi_wp2_with fail
  refine ⟨trivial, (callsIn_wide.2 (pieces_any h _)).mono ?_⟩
  rintro e w' ⟨rfl, rfl⟩
  gi_wp2_with fail
  have hb2' : Below W1.heap.size W1 (W1.alloc (.cells #[.string h] 9)) := (Below.refl _ _).alloc (Nat.le_refl _) _
  have HB2 := Aside0.mk (HB1.out.trans (But.of_below hb2'))
  have HR2 := Aside0.mk (HR1.out.later hb2')
  have HBO2 := Aside0.mk (HBO1.out.alloc (.cells #[.string h] 9))
  have HBR2 := Aside0.mk (HBR1.out.alloc (.cells #[.string h] 9))
  have hbs := Boxed.new W1 9 (.string h)
  rw [HS1.out] at hbs
  have HBS2 := Aside0.mk hbs
  have hs2 : (W1.alloc (.cells #[.string h] 9)).heap.size = w.heap.size + 3 := by have := HS1.out; simp; omega
  have hcs := HBS2.out.cell
  rw [HS1.out]
  clear hb2' HB1 HR1 HBO1 HBR1 cR hc0 hbs
  clear HS1
  generalize W1.alloc (.cells #[.string h] 9) = W2 at HB2 HR2 HBO2 HBR2 HBS2 hs2 hcs ⊢
  have HN2 := nibs_but HN.out HB2.out (by omega)
  refine wpIn_rangeFunc_ownH rfl (by decide) (gf := 75) (lb := #[.pointer (some ⟨w.heap.size + 2, 0, none⟩)]) rfl trivial (enters_of Tryd.func75 (by kernel_rfl) rfl)
    (pieces_stops 5 (w.heap.size + 2) b h (by omega) W2 (by omega) (by omega) hcs HN2 hb2) KB.trans (KB.put (by omega) (by omega)) (Below.refl _ _) (fun _ => rfl)
    (fun pre W => (∃ v, Boxed W (w.heap.size + 1) 67 v ∧ W.ownsRow w.heap.size 24 11 v pre.length (msL (msgs pre)) ∧ True) ∧ (But b w W ∧ (Boxed W (w.heap.size + 2) 9 (.string h) ∧ (Boxed W w.heap.size 53 (.pointer (some ⟨b, 0, none⟩)) ∧ RBox W b h (vf (k + (h.size : Int)) pre)))))
    (fun _ _ _ => False)
    (OwnFrom.and (Own.from (holdsRow_own w.heap.size (w.heap.size + 1) 67 24 11 (fun pre => pre.length) (fun pre => msL (msgs pre)) (fun _ _ => True)) _) (OwnFrom.and (ownFrom_but (by omega)) (OwnFrom.and (Own.from (boxed_own (w.heap.size + 2) 9 (fun _ => .string h)) _) (OwnFrom.and (Own.from (boxed_own w.heap.size 53 (fun _ => .pointer (some ⟨b, 0, none⟩))) _) (Own.from (blk_ownf b 116 (fun pre => #[.string h, .int .i64 (vf (k + (h.size : Int)) pre)])) _)))))
    (fun _ _ _ _ _ hs _ _ => hs)
    ⟨⟨_, HBO2.out, World.ownsRow_nil _ _ _ _, trivial⟩, HB2.out, HBS2.out, HBR2.out, HR2.out⟩
    (fun x a' W => ∃ Bx, w.heap.size + 2 < Bx ∧ W.heap[Bx]? = some (.cells (pV (x.1 : Nat) (x.2.1 : Nat) x.2.2) 44 (0, 0)) ∧ a' = { tmps := #[.pointer (some ⟨b, 0, none⟩), .pointer (some ⟨w.heap.size, 0, none⟩), .slice none 0 0, .pointer (some ⟨w.heap.size + 1, 0, none⟩), .pointer (some ⟨Bx, 0, none⟩), .pointer (some ⟨b, 0, none⟩), .bool false, .pointer (some ⟨b, 0, none⟩), .pointer (some ⟨b, 0, none⟩), .pointer (some ⟨b, 1, none⟩), .int .i64 k, .pointer (some ⟨b, 0, none⟩), .pointer (some ⟨b, 0, none⟩), .pointer (some ⟨b, 0, none⟩), .string h, .int .i64 (h.size : Int), .int .i64 (k + (h.size : Int)), .pointer (some ⟨b, 0, none⟩), .pointer (some ⟨b, 1, none⟩), .pointer (some ⟨b, 0, none⟩), .pointer (some ⟨b, 0, none⟩), .pointer (some ⟨b, 0, none⟩), .string h, .func (.func 75) #[] #[.pointer (some ⟨w.heap.size + 2, 0, none⟩)], .agg (pV (x.1 : Nat) (x.2.1 : Nat) x.2.2), undef, undef, undef, undef, undef, undef, undef, undef, undef, undef, undef, undef, undef, undef, undef, undef, undef, undef], defers := [] })
    (fun x a' _ X Y row hs hg hr => by obtain ⟨Bx, h1, h2, h3⟩ := hs; exact ⟨Bx, h1, blk_own Bx 44 (pV (x.1 : Nat) (x.2.1 : Nat) x.2.2) () X Y row h2 hg (fun r e => (hr r e).2), h3⟩)
    ?assign ?body ?done ?stop
  case assign =>
    rintro l pre x W K ⟨⟨v, hv, hrow, _⟩, hB, hbs, hbr, hr⟩ hK
    have hS := hbs.lt
    have hth : (W.alloc (.cells #[.int .i64 0, .int .i64 0, .int .i64 0, .int .i64 0, .int .i64 0, .int .i64 0, .int .i64 0, .int .i64 0, .int .i64 0, .int .i64 0, .int .i64 0, .string { data := #[] }, .string { data := #[] }] 44)).there W.heap.size 0 13 := blk_there (cs := [.int .i64 0, .int .i64 0, .int .i64 0, .int .i64 0, .int .i64 0, .int .i64 0, .int .i64 0, .int .i64 0, .int .i64 0, .int .i64 0, .int .i64 0, .string { data := #[] }, .string { data := #[] }]) (Go.heap_alloc_new W _)
    have hb : Below W.heap.size W ((W.alloc (.cells #[.int .i64 0, .int .i64 0, .int .i64 0, .int .i64 0, .int .i64 0, .int .i64 0, .int .i64 0, .int .i64 0, .int .i64 0, .int .i64 0, .int .i64 0, .string { data := #[] }, .string { data := #[] }] 44)).setCells W.heap.size 0 (pV (x.1 : Nat) (x.2.1 : Nat) x.2.2).toList) := below_setCells ((Below.refl _ _).alloc (Nat.le_refl _) _) (Nat.le_refl _) _ _
    have hko := (KeepsOthers.alloc W (.cells #[.int .i64 0, .int .i64 0, .int .i64 0, .int .i64 0, .int .i64 0, .int .i64 0, .int .i64 0, .int .i64 0, .int .i64 0, .int .i64 0, .int .i64 0, .string { data := #[] }, .string { data := #[] }] 44)).trans (keeps_cells _ W.heap.size (pV (x.1 : Nat) (x.2.1 : Nat) x.2.2).toList 0)
    have hnew := setCells_whole (vs := (pV (x.1 : Nat) (x.2.1 : Nat) x.2.2).toList) (Go.heap_alloc_new W (.cells #[.int .i64 0, .int .i64 0, .int .i64 0, .int .i64 0, .int .i64 0, .int .i64 0, .int .i64 0, .int .i64 0, .int .i64 0, .int .i64 0, .int .i64 0, .string { data := #[] }, .string { data := #[] }] 44)) rfl
    have HK := Aside0.mk hK
    have HB := Aside0.mk hb
    have HKO := Aside0.mk hko
    have HNW := Aside0.mk hnew
    have HV := Aside0.mk hv
    have HR := Aside0.mk hrow
    have HB1 := Aside0.mk hB
    have HBS := Aside0.mk hbs
    have HBR := Aside0.mk hbr
    have HRD := Aside0.mk hr
    clear hK hb hv hrow hko hnew hB hbs hbr hr
    gi_wp2_with ((with_reducible refine gateIn_store (ty := 44) (x := .tmp 4) (y := .tmp 24) rfl ?_); refine listIn_store_mid rfl 44 (.tmp 4) (.tmp 24) rfl W.heap.size 0 (pV (x.1 : Nat) (x.2.1 : Nat) x.2.2) rfl rfl hth infoP13 (pL_all x) ?_)
    refine HK.out _ _ (HKO.out.from _) (KB.of_below HB.out (by omega) (by omega)) ⟨⟨v, (HB.out.block _ HV.out.lt).trans HV.out, own_later HR.out HB.out, trivial⟩, HB1.out.trans (But.of_below HB.out), (HB.out.block _ HBS.out.lt).trans HBS.out, (HB.out.block _ HBR.out.lt).trans HBR.out, HRD.out.later HB.out⟩ ⟨W.heap.size, by omega, HNW.out, rfl⟩
  case body =>
    rintro l pre x a' W hl hr0 ⟨⟨v, hv, hrow, _⟩, hB, hbs, hbr, hr⟩ ⟨Bx, hBx, hbx, rfl⟩ hlen0
    have hc := hv.cell
    have hf := hv.frozen
    have hrg2 : W.rangeAt Bx 2 (mL x.2.2) := fun j u hu => by
      rw [blk_cell hbx (2 + j), show 2 + j = j + 1 + 1 by omega]
      unfold pV
      rw [List.getElem?_toArray]
      exact hu
    have hS := hbs.lt
    have HV := Aside0.mk hv
    have HR := Aside0.mk hrow
    have HB1 := Aside0.mk hB
    have HBS := Aside0.mk hbs
    have HBR := Aside0.mk hbr
    have HRD := Aside0.mk hr
    have hlen : 24 * (pre.length + 1) ≤ h.size := by have := pcs_bytes h 0; omega
    have HLEN := Aside0.mk hlen
    have HNEW := Aside0.mk (news W (mL x.2.2) 24)
    obtain ⟨i0, hi, hz0, hz1, hz2⟩ := info_parts infoMs
    have HBX := Aside0.mk hbx
    clear hv hrow hB hbs hbr hr hlen hr0 hl hbx
    gi_wp2_with (first | ((with_reducible refine gateIn_load (ty := 24) (x := .tmp 26) rfl ?_); refine listIn_load_mid rfl 24 (.tmp 26) rfl Bx 2 rfl _ _ hrg2 Tryd.underlying24 rfl infoM ?_) | ((with_reducible refine gateIn_buildSlice (t := 67) (k := 1) (parts := #[(0, .tmp 27)]) rfl ?_); go_loud (refine listIn_oneM rfl 27 rfl x.2.2 rfl ?_)) | ((with_reducible refine gateIn_call (args := #[.tmp 25, .tmp 28]) rfl ?_); go_loud (refine wpListIn_append_own _ rfl (.tmp 25) (.tmp 28) 67 rfl w.heap.size 24 i0 _ 11 104 Tryd.underlying67 hi hz0 hz1 hz2 rfl (by decide) v pre.length (msL (msgs pre)) rfl (HR.out.alloc _) ⟨W.heap.size, 0, none⟩ 1 1 (mL x.2.2) rfl rfl ?ac (mL_ones _) ?a1 ?a2 ?a3 ?_); (case ac => intro j u hj; have := HNEW.out j u hj; have e : (⟨W.heap.size, 0, none⟩ : Addr).add j = ⟨W.heap.size, j, none⟩ := (by unfold Addr.add; split <;> simp_all); rw [e]; exact this); (case a1 => have := HLEN.out; simp only [maxLen]; omega); (case a2 => have := HLEN.out; omega); (case a3 => simp; omega); intro v' w1 hown' hgrow _; obtain ⟨g', cap', rfl⟩ := ownsRow_succ hown'; obtain ⟨hv1, hv2, hr2, hk2, hb2⟩ := HV.out.appended (by decide) HR.out (by omega) (Nat.le_succ _) hown' hgrow; have hc1 := hv1.cell; have hf1 := hv1.frozen; have HV2 := Aside0.mk hv2; have HR2 := Aside0.mk hr2; have HK2 := Aside0.mk hk2; have HBB2 := Aside0.mk hb2; have HG2 := Aside0.mk (((HBS.out.alloc _).kept hgrow (HBS.out.not_row (by decide) HR.out)).other (show w.heap.size + 2 ≠ w.heap.size + 1 by omega) (.slice (some ⟨g', 0, none⟩) (pre.length + 1) cap')); have HP2 := Aside0.mk (((HBR.out.alloc _).kept hgrow (HBR.out.not_row (by decide) HR.out)).other (show w.heap.size ≠ w.heap.size + 1 by omega) (.slice (some ⟨g', 0, none⟩) (pre.length + 1) cap')); have HX2 := Aside0.mk ((Below.heap_setCell w1 ⟨w.heap.size + 1, 0, none⟩ (.slice (some ⟨g', 0, none⟩) (pre.length + 1) cap') Bx (by simp only; omega)).trans ((hgrow.block Bx (by have := (Array.getElem?_eq_some_iff.1 HBX.out).1; simp; omega) (row_ne HR.out HBX.out (by decide))).trans ((Below.heap_alloc W _ Bx (Array.getElem?_eq_some_iff.1 HBX.out).1).trans HBX.out))); clear hv1 hv2 hr2 hk2 hb2 hgrow hown'))
    have hc0 := HP2.out.cell
    have hrb := HRD.out.below HBB2.out hlt
    have hrc1 := hrb.c1
    have hrf1 := hrb.f1
    have hx1 : (w1.setCell ⟨w.heap.size + 1, 0, none⟩ (.slice (some ⟨g', 0, none⟩) (pre.length + 1) cap')).cell? ⟨Bx, 1, none⟩ = some (.int .i64 (x.2.1 : Nat)) := by rw [blk_cell HX2.out 1]; rfl
    have HRB := Aside0.mk hrb
    clear hrb hc hf hc1 hf1
    generalize w1.setCell ⟨w.heap.size + 1, 0, none⟩ (.slice (some ⟨g', 0, none⟩) (pre.length + 1) cap') = W3 at HV2 HR2 HK2 HBB2 HG2 HP2 HX2 hc0 hrc1 hrf1 hx1 HRB ⊢
    refine region_in_still_tail 9 (by rintro ⟨a, w, h⟩; exact h) rfl (by kernel_rfl) (by kernel_rfl) ?_
    simp only [List.take_succ_cons, List.take_zero, List.drop_succ_cons, List.drop_zero]
    iterate 9 still_step
    with_reducible refine wpStill_nil ?_
    rw [← vf_snoc (k + (h.size : Int)) pre x]
    generalize hV : vf (k + (h.size : Int)) (pre ++ [x]) = V
    have HVV := Aside0.mk hV
    clear hV
    go_wp2_with fail
    have hne : ∀ B, w.heap.size ≤ B → ((W3.setCell ⟨b, 1, none⟩ (.int .i64 V)).drew).heap[B]? = W3.heap[B]? := fun B hB => Below.heap_setCell W3 ⟨b, 1, none⟩ (.int .i64 V) B (show B ≠ b by omega)
    have hBB : Below b W ((W3.setCell ⟨b, 1, none⟩ (.int .i64 V)).drew) := ((HBB2.out.mono (B' := b) (by omega)).setCell (p := ⟨b, 1, none⟩) (Nat.le_refl _) _).drew
    have hBut : But b w ((W3.setCell ⟨b, 1, none⟩ (.int .i64 V)).drew) := ((HB1.out.then HBB2.out (Nat.le_refl _)).set (.int .i64 V)).then (Below.refl w.heap.size _).drew (Nat.le_refl _)
    have hB3 : But b W3 ((W3.setCell ⟨b, 1, none⟩ (.int .i64 V)).drew) := (But.set (o := 1) (But.of_below (b := b) (Below.refl _ W3)) (.int .i64 V)).then (Below.refl W3.heap.size _).drew (Nat.le_refl _)
    refine ⟨((HK2.out.trans (KeepsOthers.setCell W3 ⟨b, 1, none⟩ (.int .i64 V))).trans (keeps_drew _)).from _, ⟨hBB, (hne _ (by omega)).trans (HG2.out.trans HBS.out.symm)⟩, ⟨_, (hne _ (by omega)).trans HV2.out, ?_, trivial⟩, hBut, (hne _ (by omega)).trans HG2.out, (hne _ (by omega)).trans HP2.out, ?_⟩
    · have hmn : msL (msgs (pre ++ [x])) = msL (msgs pre) ++ mL x.2.2 := by rw [msgs_append, msL_append]; simp [msgs, msL]
      rw [hmn, List.length_append]
      exact own_but HR2.out hB3 hlt
    · rw [HVV.out]
      exact RBox.set1 HRB.out V
  case done =>
    rintro D ys W hD rfl ⟨⟨v, hv, hrow, _⟩, hB, hbs, hbr, hr⟩ hK
    have hc := hv.cell
    have hcr := hbr.cell
    have hrc0 := hr.c0
    have hrf0 := hr.f0
    have hsz1 := pcs_szs h _ 0 (Nat.le_refl _)
    have hvf := vf_all (pcs h 0) (k + (h.size : Int)) (by omega) (by omega)
    have hK2 := (KeepsOthers.setCell W ⟨b, 0, none⟩ (.string { data := #[] })).same D _ hK rfl
    have hc2 : (W.setCell ⟨b, 0, none⟩ (.string { data := #[] })).cell? ⟨w.heap.size + 1, 0, none⟩ = some v := (World.cell?_of_block (a := ⟨w.heap.size + 1, 0, none⟩) (Below.heap_setCell W ⟨b, 0, none⟩ _ _ (show w.heap.size + 1 ≠ b by omega))).trans hc
    have HR := Aside0.mk hrow
    have HB1 := Aside0.mk hB
    have HKD := Aside0.mk hK2
    have HRD := Aside0.mk hr
    have HVF := Aside0.mk hvf
    have HSZ := Aside0.mk hsz1
    clear hrow hB hK hK2 hr hvf hsz1 hv hbr hbs
    gi_wp2
    refine ⟨by simp, .inl ⟨_, _, rfl, run_takeDeferred HKD.out, ?_⟩⟩
    refine ⟨_, results_tmp rfl _ _ _, _, rfl, ownsRow_putObj (own_but HR.out (But.set (o := 0) (But.of_below (b := b) (Below.refl _ W)) _) hlt) _ HKD.out rfl, ?_, (HB1.out.set _).then (belowK_b (w := w) (Nat.le_refl _) _ D _ _ (by omega) HKD.out rfl rfl) (Nat.le_refl _)⟩
    have h1 := HRD.out.set0 ByteArray.empty
    rw [HVF.out, show k + (h.size : Int) - (szs (pcs h 0) : Nat) = k + ((h.size - szs (pcs h 0) : Nat) : Int) by have := HSZ.out; omega] at h1
    exact (World.putObj_heap_other (by omega)).trans h1
  case stop =>
    rintro D c pre W _ _ h _
    exact h.elim
end Go.Proofs.YtnifgokjagahfaaDoor.Close

/- put of the frame package, where there is room: written in place. -/
set_option linter.unusedVariables false
set_option linter.unusedSimpArgs false
namespace Go.Proofs.YtnifgokjagahfaaDoor.Put
open Go.RowKit Go.Proofs.YtnifgokjagahfaaDoorW.PrintWords Go.Proofs.YtnifgokjagahfaaDoorW.PrintLast Go.Proofs.YtnifgokjagahfaaDoorW.PrintMore
open Go.Proofs.YtnifgokjagahfaaDoor.Base Go.Proofs.YtnifgokjagahfaaDoor.App
/-- xs with ys written from k on -/
def setTo (xs : List Value) (k : Nat) (ys : List Value) : List Value := xs.take k ++ ys ++ xs.drop (k + ys.length)
theorem setTo_nil (xs : List Value) (k : Nat) : setTo xs k [] = xs := by simp [setTo]
theorem setTo_next (xs ys : List Value) (k : Nat) (y : Value) (h : k + ys.length < xs.length) : (setTo xs k ys).set (k + ys.length) y = setTo xs k (ys ++ [y]) := by
  unfold setTo
  have hl : (xs.take k ++ ys).length = k + ys.length := by simp; omega
  rw [List.set_append_right _ _ (by omega), hl, Nat.sub_self, List.length_append]
  have hd : xs.drop (k + ys.length) = xs[k + ys.length] :: xs.drop (k + ys.length + 1) := (List.drop_eq_getElem_cons h)
  rw [hd, List.set_cons_zero]
  simp [Nat.add_assoc]
theorem own_set {w : World} {base g n cap : Nat} {e : TypeId} {xs : List Value} (h : w.ownsRow base e 1 (.slice (some ⟨g, 0, none⟩) n cap) n xs) (i : Nat) (hi : i < n) (v : Value) : (w.setCell ⟨g, i, none⟩ v).ownsRow base e 1 (.slice (some ⟨g, 0, none⟩) n cap) n (xs.set i v) := by
  rcases h with ⟨hl, h | ⟨g', cap', cs, hv, hb, hg, hn, hm, hs, ht⟩⟩
  · cases h.1
  · cases hv
    refine ⟨by simpa using hl, .inr ⟨g, cap, _, rfl, hb, heap_setCell_same _ _ _ _ _ _ hg, hn, hm, by simpa using hs, ?_⟩⟩
    rw [← ht, Array.toList_setIfInBounds, List.take_set]
theorem own_cell {w : World} {base g n cap : Nat} {e : TypeId} {xs : List Value} (h : w.ownsRow base e 1 (.slice (some ⟨g, 0, none⟩) n cap) n xs) (i : Nat) (hi : i < n) : (w.cell? ⟨g, i, none⟩).isSome = true ∧ w.frozen? ⟨g, i, none⟩ = false ∧ base ≤ g := by
  rcases h with ⟨hl, h | ⟨g', cap', cs, hv, hb, hg, hn, hm, hs, ht⟩⟩
  · cases h.1
  · cases hv
    refine ⟨?_, frozen_of_row _ _ i _ _ hg, hb⟩
    rw [cell_of_row _ _ _ _ _ _ hg]
    simp; omega
section
variable {P : Program} {ops : Array Oper} {rest : List Oper} {o : Oper} {a : Act} {Q : Exit → Act → World → Prop}
/-- append of one cell, where there is room -/
theorem wp_append_room {W : World} (hgd : o.guard = none) (s x : Operand) (t e : TypeId) (ho : o.op = .call { callee := .builtin .append, args := #[s, x], argTypes := #[t, t] })
    (ht : P.underlying t = some (.slice e)) (i : TypeInfo) (hi : P.info? e = some i) (hi1 : i.size = 1) (g n cap b c : Nat) (y : Value) (hs : a.eval s = .slice (some ⟨g, 0, none⟩) n cap) (hx : a.eval x = .slice (some ⟨b, 0, none⟩) 1 c)
    (hy : W.cell? ⟨b, 0, none⟩ = some y) (h1 : y.oneCell' = true) (hroom : n + 1 ≤ cap) (hcell : (W.cell? ⟨g, n, none⟩).isSome = true) (hfr : W.frozen? ⟨g, n, none⟩ = false)
    (h : wpList P ops Q rest (a.put o.dst (.slice (some ⟨g, 0, none⟩) (n + 1) cap)) (W.setCell ⟨g, n, none⟩ y)) : wpList P ops Q (o :: rest) a W := by
  have c1 : ∀ j u, [y][j]? = some u → W.cell? ((⟨b, 0, none⟩ : Addr).add j) = some u := by
    intro j u hj
    cases j with
    | zero => simpa [Addr.add] using hy.trans (by simpa using hj)
    | succ j => simp at hj
  have c2 : ∀ u ∈ [y], u.oneCell' = true := by
    intro u hu
    simp at hu
    subst hu
    exact h1
  have c3 : ∀ j, j < [y].length → (W.cell? ⟨g, 0 + n * i.size + j, none⟩).isSome = true := by
    intro j hj
    have hj0 : j = 0 := by simpa using hj
    subst hj0
    simpa [hi1] using hcell
  have c4 : ∀ j, j < [y].length → W.frozen? ⟨g, 0 + n * i.size + j, none⟩ = false := by
    intro j hj
    have hj0 : j = 0 := by simpa using hj
    subst hj0
    simpa [hi1] using hfr
  have hr := run_append_room_cells (P := P) W t o.type e i ht hi g 0 n cap ⟨b, 0, none⟩ 1 c [y] (by rw [hi1]; rfl) c1 c2 hroom c3 c4
  have e1 : W.setCells g (0 + n * i.size) [y] = W.setCell ⟨g, n, none⟩ y := by rw [hi1]; simp [World.setCells]
  rw [e1] at hr
  refine wpList_plain hgd fun K hK => ?_
  unfold Oper.wp execOp
  simp only [ho, resolve, invoke, builtin, Sem.run_bind, Sem.run_pure, Result.andThen_ok, List.map_toArray, List.map_cons, List.map_nil, hs, hx, hr]
  exact hK _ _ h
end
set_option maxRecDepth 100000 in
set_option maxHeartbeats 4000000 in
theorem put_at (base g n cap k0 : Nat) (xs : List Value) (N : Int) (wd : Nat) (w : World) (hO : w.ownsRow base 5 1 (.slice (some ⟨g, 0, none⟩) n cap) n xs) (hb : base ≤ w.heap.size) (hN0 : 0 ≤ N) (hN : N ≤ 9223372036854775807) (hw0 : 1 ≤ wd) (hw1 : wd ≤ 8) (hk0 : k0 + wd ≤ n) (hnc : n ≤ cap) (hn : n ≤ 1000000) :
    Calls Tryd.prog 36 #[.slice (some ⟨g, 0, none⟩) k0 cap, .int .i64 N, .int .i64 (wd : Int)] w fun e w' => ∃ v', e = .returned v' ∧ w'.ownsRow base 5 1 (.slice (some ⟨g, 0, none⟩) n cap) n (setTo xs k0 (nums .u8 (be N wd))) ∧ Below base w w' := by
  have HO := Aside0.mk hO
  have HB := Aside0.mk (Below.refl base w)
  have hxl : xs.length = n := by have := hO.1; simpa using this
  have HXL := Aside0.mk hxl
  clear hO hxl
  obtain ⟨i0, hi0, hzz⟩ := Option.map_eq_some_iff.1 info8
  have hi1 : i0.size = 1 := by simp only [Prod.mk.injEq] at hzz; exact hzz.2.1
  clear hzz
  go_enter Tryd.func36, Tryd.ntmps36
  go_wp2
  go_loopw [0, 7] (fun sv iv wr => ∃ k : Nat, k ≤ wd ∧ iv = .int .i64 ((wd : Int) - 1 - (k : Int)) ∧ sv = .slice (some ⟨g, 0, none⟩) (k0 + k) cap ∧ Aside0 (wr.ownsRow base 5 1 (.slice (some ⟨g, 0, none⟩) n cap) n (setTo xs k0 (nums .u8 (beTo N wd k)))) ∧ Aside0 (Below base w wr)) (fun _ iv _ => (intOf iv + 1).toNat)
  case atStart => exact ⟨0, Nat.zero_le _, by simp, rfl, ⟨by simpa [beTo, nums, setTo_nil] using HO.out⟩, HB⟩
  case round =>
    clear HO HB
    obtain ⟨k, hk, rfl, rfl, HO, HB⟩ := hrel
    obtain ⟨wo, rfl⟩ : ∃ wo : World, wo = wr := ⟨_, rfl⟩
    by_cases hlt : k < wd
    · have hsz := HB.out.size
      have HZ : Aside0 (base ≤ wo.heap.size) := ⟨by omega⟩
      have HN := Lib.hid (beTo_next N wd k)
      obtain ⟨i, hi⟩ : ∃ i : Nat, (wd : Int) - 1 - (k : Int) = (i : Int) ∧ i = wd - 1 - k := ⟨wd - 1 - k, by omega, rfl⟩
      rw [← hi.2] at HN
      have hi7 : i ≤ 7 := by omega
      have hie := hi.1
      have HI := Aside0.mk hi
      clear hsz hi
      rw [hie]
      clear hie
      have hnew := news wo [.int .u8 (N / 2 ^ (8 * i) % 256)] 5 0 _ rfl
      have HOA := Aside0.mk (HO.out.alloc (.cells [Value.int .u8 (N / 2 ^ (8 * i) % 256)].toArray 5))
      obtain ⟨hcell, hfr, _⟩ := own_cell HOA.out (k0 + k) (by omega)
      go_wp2_with (at_builtin; go_loud (refine wp_append_room (P := Tryd.prog) rfl (.tmp 14) (.tmp 20) 82 5 rfl Tryd.underlying82 i0 hi0 hi1 g (k0 + k) cap wo.heap.size 1 (.int .u8 (N / 2 ^ (8 * i) % 256)) rfl rfl hnew rfl (by omega) hcell hfr ?_))
      go_roundw
      case rel =>
        have hnl : (nums .u8 (beTo N wd k)).length = k := by rw [nums, List.length_map, beTo_length]
        have h2 := own_set HOA.out (k0 + k) (by omega) (.int .u8 (N / 2 ^ (8 * i) % 256))
        have h3 := setTo_next xs (nums .u8 (beTo N wd k)) k0 (.int .u8 (N / 2 ^ (8 * i) % 256)) (by rw [hnl, HXL.out]; omega)
        rw [hnl] at h3
        rw [h3] at h2
        refine ⟨k + 1, by omega, ?_, rfl, ⟨?_⟩, ⟨(HB.out.alloc HZ.out _).setCell (own_cell HOA.out (k0 + k) (by omega)).2.2 _⟩⟩
        · have := HI.out.1
          congr 1; omega
        · rw [HN.out, nums_append]
          exact h2
      case measure => have := HI.out; simp [intOf]
    · obtain rfl : k = wd := by omega
      have hneg : (k : Int) - 1 - (k : Int) = -1 := by omega
      rw [hneg]
      go_wp2
      go_ret
      exact ⟨_, rfl, HO.out, HB.out⟩
end Go.Proofs.YtnifgokjagahfaaDoor.Put

/- Encode of the frame package. -/
set_option linter.unusedVariables false
set_option linter.unusedSimpArgs false
namespace Go.Proofs.YtnifgokjagahfaaDoor.Enc
open Go.RowKit Go.Proofs.YtnifgokjagahfaaDoorW.PrintWords Go.Proofs.YtnifgokjagahfaaDoorW.PrintLast Go.Proofs.YtnifgokjagahfaaDoorW.PrintMore
open Go.Proofs.YtnifgokjagahfaaDoor.Base Go.Proofs.YtnifgokjagahfaaDoor.App Go.Proofs.YtnifgokjagahfaaDoor.Layouts Go.Proofs.YtnifgokjagahfaaDoor.Msg Go.Proofs.YtnifgokjagahfaaDoor.Put Go.Proofs.YtnifgokjagahfaaDoor.EncPure Go.Proofs.YtnifgokjagahfaaDoor.DecPure
section
variable {P : Program} {ops : Array Oper} {rest : List Oper} {o : Oper} {a : Act} {Q : Exit → Act → World → Prop}
/-- append to a full row that is only read: it grows -/
theorem list_append_full {w0 W : World} (base : Nat) (hgd : o.guard = none) (s x : Operand) (t e : TypeId) (z : Value) (bytes : Nat)
    (ho : o.op = .call { callee := .builtin .append, args := #[s, x], argTypes := #[t, t] })
    (ht : P.underlying t = some (.slice e)) (hinfo : (P.info? e).map (fun i => (i.zero, i.size, i.bytes)) = some (some z, 1, bytes)) (hz : z.cells.size = 1) (hb0 : 0 < bytes)
    (b0 n : Nat) (xs : List Value) (b m c : Nat) (ys : List Value) (hs : a.eval s = .slice (some ⟨b0, 0, none⟩) n n) (hxl : xs.length = n) (hcx : ∀ j u, xs[j]? = some u → W.cell? ⟨b0, j, none⟩ = some u)
    (hx : a.eval x = .slice (some ⟨b, 0, none⟩) m c) (hm : ys.length = m) (hm0 : 0 < m)
    (hc : ∀ j u, ys[j]? = some u → W.cell? ⟨b, j, none⟩ = some u)
    (HB : Below base w0 W) (hbase : base ≤ W.heap.size) (hl : (n + m) * bytes ≤ 140737488355328)
    (h : ∀ v1 w1, w1.ownsRow base e 1 v1 (n + m) (xs ++ ys) → Below base w0 w1 → w1.heap.size = W.heap.size + 1 → wpList P ops Q rest (a.put o.dst v1) w1) :
    wpList P ops Q (o :: rest) a W := by
  obtain ⟨i0, hi, hzz⟩ := Option.map_eq_some_iff.1 hinfo
  simp only [Prod.mk.injEq] at hzz
  obtain ⟨hz0, hz1, hz2⟩ := hzz
  have hlen : n + m ≤ 140737488355328 := Nat.le_trans (Nat.le_mul_of_pos_right _ hb0) hl
  have add : ∀ b j : Nat, (⟨b, 0, none⟩ : Addr).add j = ⟨b, j, none⟩ := by
    intro b j; unfold Addr.add; split <;> simp_all
  have hr := run_append_grow (P := P) W t o.type e i0 z ht hi hz0 ⟨b0, 0, none⟩ n n xs (by rw [hz1, Nat.mul_one]; exact hxl) (by intro j v hj; rw [add]; exact hcx j v hj) ⟨b, 0, none⟩ m c ys (by rw [hz1, Nat.mul_one]; exact hm) (by intro j v hj; rw [add]; exact hc j v hj) (by omega) (by omega) (growslice_fits (by omega) (by rw [hz2]; exact hl))
  have hge := grownCap_ge W (n + m) n e
  have hcm : grownCap W (n + m) n e ≤ maxLen := grownCap_le_maxLen W (n + m) n e (by simp only [maxLen]; omega)
  have hxy : (xs ++ ys).length = (n + m) * 1 := by rw [List.length_append, hxl, hm, Nat.mul_one]
  refine wpList_plain hgd fun K hK => ?_
  unfold Oper.wp execOp
  simp only [ho, resolve, invoke, builtin, Sem.run_bind, Sem.run_pure, Result.andThen_ok, List.map_toArray, List.map_cons, List.map_nil, hs, hx, hr]
  refine hK _ _ (h _ _ ⟨hxy, .inr ⟨W.heap.size, _, _, rfl, hbase, heap_alloc_new W.drew _, hge, hcm, ?_, ?_⟩⟩ ((HB.trans (Below.drew (Below.refl _ W) |>.mono hbase)).alloc hbase _) (by simp))
  · simp only [Array.size_append, List.size_toArray, size_zeroCells, hz, hxl, hm]; omega
  · simp only [Array.toList_append, List.append_assoc]
    rw [← List.append_assoc, ← hxy]
    exact List.take_left
end
/-- layouts, its rows told as blocks -/
theorem layouts_rows (w : World) : Calls Tryd.prog 37 #[] w fun e w' => e = .returned (.slice (some ⟨w.heap.size + 16, 0, none⟩) 17 17) ∧ Lay w' w.heap.size ∧ Below w.heap.size w w' ∧ w.heap.size + 17 ≤ w'.heap.size ∧ ∀ k, k < 16 → w'.heap[w.heap.size + k]? = some (rowOf (fieldsOf (k + 1))) := by
  refine (layouts_any w).mono ?_
  rintro e w' ⟨rfl, rfl⟩
  exact ⟨rfl, lay_of w, allocs_below _ _, by rw [allocs_size, objs_length]; exact Nat.le_refl _, fun k hk => by rw [allocs_new _ _ _ (by rw [objs_length]; omega), objs_row _ _ hk]⟩
/-- the state of Encode's loop -/
structure EInv (w w2 wr : World) (m : M) (q : Nat) (fs : List Nat) (bv : Value) (j : Nat) : Prop where mk ::
  (own : wr.ownsRow w2.heap.size 5 1 bv (20 + (bodyB m (fs.take j)).length) (nums .u8 (headB m ++ be 0 4 ++ bodyB m (fs.take j))))
  (msg : MBox wr w.heap.size m) (row : wr.heap[q]? = some (rowOf fs)) (bel : Below w2.heap.size w2 wr)
theorem rowOf_cell {w : World} {q : Nat} {fs : List Nat} (h : w.heap[q]? = some (rowOf fs)) (j n : Nat) (hj : fs[j]? = some n) : w.cell? ⟨q, j, none⟩ = some (.int .u8 (n : Nat)) := by
  rw [blk_cell h j, List.getElem?_toArray, List.getElem?_map, hj]; rfl
theorem keep_row {w w1 : World} {q : Nat} {fs : List Nat} (h : w.heap[q]? = some (rowOf fs)) (hk : KeepTy 5 w w1) : w1.heap[q]? = some (rowOf fs) := hk.2 _ _ _ _ (by decide) h
theorem keep_msg {w w1 : World} {g : Nat} {m : M} (h : MBox w g m) (hk : KeepTy 5 w w1) : MBox w1 g m := ⟨hk.2 _ _ _ _ (by decide) h.row, Nat.lt_of_lt_of_le h.lt hk.1⟩
theorem body_snoc (m : M) (fs : List Nat) (j n : Nat) (h : fs[j]? = some n) : bodyB m (fs.take (j + 1)) = bodyB m (fs.take j) ++ fieldB m n := by
  rw [List.take_add_one, h]; simp [bodyB]
theorem strCells_nums (s : ByteArray) : Lib.strCells s = nums .u8 (bytesOf s) := by
  unfold Lib.strCells nums bytesOf
  rw [List.map_map]; rfl
theorem body_take_le (m : M) (fs : List Nat) (j : Nat) : (bodyB m (fs.take j)).length ≤ (bodyB m fs).length := by
  have e : bodyB m fs = bodyB m (fs.take j) ++ bodyB m (fs.drop j) := by
    unfold bodyB
    rw [← List.flatMap_append, List.take_append_drop]
  rw [e, List.length_append]
  omega
theorem EInv.next {w w2 wr w1 : World} {m : M} {q : Nat} {fs : List Nat} {bv v1 : Value} {j n : Nat} (h : EInv w w2 wr m q fs bv j) (hs : bodyB m (fs.take (j + 1)) = bodyB m (fs.take j) ++ fieldB m n)
    (hO : w1.ownsRow w2.heap.size 5 1 v1 (20 + (bodyB m (fs.take j)).length + (fieldB m n).length) (nums .u8 (headB m ++ be 0 4 ++ bodyB m (fs.take j) ++ fieldB m n)))
    (hm : MBox w1 w.heap.size m) (hr : w1.heap[q]? = some (rowOf fs)) (hb : Below w2.heap.size w2 w1) : EInv w w2 w1 m q fs v1 (j + 1) := by
  refine ⟨?_, hm, hr, hb⟩
  rw [hs, List.length_append, ← Nat.add_assoc, ← List.append_assoc]
  exact hO
theorem setTo_head (H a b : List Int) (k : Nat) (hH : H.length = k) (c : List Int) (hc : c.length = a.length) : setTo (nums .u8 (H ++ a ++ b)) k (nums .u8 c) = nums .u8 (H ++ c ++ b) := by
  unfold setTo
  have h1 : (nums .u8 (H ++ a ++ b)).take k = nums .u8 H := by
    rw [nums_append, nums_append, List.append_assoc]
    exact List.take_left' (by rw [nums_length]; exact hH)
  have h2 : (nums .u8 (H ++ a ++ b)).drop (k + (nums .u8 c).length) = nums .u8 b := by
    rw [nums_append]
    exact List.drop_left' (by rw [nums_length, nums_length, List.length_append]; omega)
  rw [h1, h2, nums_append, nums_append]
/-- what a field lays behind the row -/
theorem field_step {w1 : World} {b0 : Nat} {m : M} {n L : Nat} {v1 : Value} {X : List Int} (ht : textOf m n = [])
    (h : w1.ownsRow b0 5 1 v1 (L + wN n) (nums .u8 X ++ nums .u8 (be (numOf m n) (wN n)))) : w1.ownsRow b0 5 1 v1 (L + (fieldB m n).length) (nums .u8 (X ++ fieldB m n)) := by
  have e : fieldB m n = be (numOf m n) (wN n) := by unfold fieldB; rw [ht, List.append_nil]
  rw [e, be_length, nums_append]
  exact h
theorem field_step_text {w1 : World} {b0 : Nat} {m : M} {n L : Nat} {v1 : Value} {X : List Int} {t : ByteArray} (ht : textOf m n = bytesOf t)
    (h : w1.ownsRow b0 5 1 v1 (L + wN n + t.size) (nums .u8 X ++ nums .u8 (be (numOf m n) (wN n)) ++ Lib.strCells t)) : w1.ownsRow b0 5 1 v1 (L + (fieldB m n).length) (nums .u8 (X ++ fieldB m n)) := by
  have e : fieldB m n = be (numOf m n) (wN n) ++ bytesOf t := by unfold fieldB; rw [ht]
  rw [e, List.length_append, be_length, bytesOf_length, nums_append, nums_append, ← strCells_nums, ← Nat.add_assoc, ← List.append_assoc]
  exact h
set_option maxRecDepth 100000 in
set_option maxHeartbeats 8000000 in
theorem enc_good (m : M) (w : World) (hk : 1 ≤ m.kind ∧ m.kind < 17) (hv : vB m = true) (hN : Crc.Nibs w) :
    Calls Tryd.prog 13 #[.agg (mL m).toArray] w fun e w' => e = .returned (.tuple #[.string (strOfNums (frameB m) ++ sumS (strOfNums (frameB m))), .int .i64 0]) ∧ Below w.heap.size w w' := by
  have HB0 := Aside0.mk ((Below.refl w.heap.size w).alloc (Nat.le_refl _) (.cells (mL m).toArray 24))
  have HM0 : Aside0 (MBox (w.alloc (.cells (mL m).toArray 24)) w.heap.size m) := ⟨⟨Go.heap_alloc_new w _, by simp⟩⟩
  have HV := Aside0.mk hv
  have HK := Aside0.mk hk
  have HN := Aside0.mk hN
  have hc0 : (w.alloc (.cells (mL m).toArray 24)).cell? ⟨w.heap.size, 0, none⟩ = some (.int .i64 m.kind) := HM0.out.c 0
  clear hv hN
  go_enter Tryd.func13, Tryd.ntmps13
  go_wp2_with fail
  refine (known_yes m.kind _ hk).mono ?_
  rintro e w1 ⟨rfl, hb⟩
  have HM1 := Aside0.mk (HM0.out.below hb (by simp))
  have HB1 := Aside0.mk (HB0.out.trans (hb.mono HB0.out.size))
  clear hb hc0 HM0 HB0
  go_wp2_with fail
  refine (valid_any w.heap.size m w1 HM1.out hk).mono ?_
  rintro e w2 ⟨rfl, hb⟩
  have HM2 := Aside0.mk (HM1.out.below hb HM1.out.lt)
  have HB2 := Aside0.mk (HB1.out.trans (hb.mono HB1.out.size))
  clear hb HM1 HB1
  rw [HV.out]
  have hc0 : w2.cell? ⟨w.heap.size, 0, none⟩ = some (.int .i64 m.kind) := HM2.out.c 0
  have HZ2 := Aside0.mk HM2.out.lt
  have hcvt := Lib.run_convert_bytes_const (P := Tryd.prog) w2 82 5 [Value.int .u8 71, .int .u8 82, .int .u8 1].toArray 3 3 Tryd.underlying82 Tryd.underlying5
  have hs1 : (w2.alloc (.cells [Value.int .u8 71, .int .u8 82, .int .u8 1].toArray 5 (3, 4))).heap.size = w2.heap.size + 1 := by simp
  have hg71 : ∀ j u, [Value.int .u8 71, .int .u8 82, .int .u8 1][j]? = some u → (w2.alloc (.cells [Value.int .u8 71, .int .u8 82, .int .u8 1].toArray 5 (3, 4))).cell? ⟨w2.heap.size, j, none⟩ = some u := by
    intro j u hj
    rw [World.cell?_alloc_mark]; simpa using hj
  generalize hwa : (w2.alloc (.cells [Value.int .u8 71, .int .u8 82, .int .u8 1].toArray 5 (3, 4))) = wa at hcvt hs1 hg71
  have hnew := news wa [.int .u8 m.kind] 5
  have hold : ∀ j u, [Value.int .u8 71, .int .u8 82, .int .u8 1][j]? = some u → (wa.alloc (.cells [Value.int .u8 m.kind].toArray 5)).cell? ⟨w2.heap.size, j, none⟩ = some u := fun j u hj => (Lib.cell?_alloc_marked _ (hg71 j u hj))
  have HHS := Aside0.mk hs1
  have HWA : Aside0 (Below w2.heap.size w2 wa) := ⟨by rw [← hwa]; exact (Below.refl _ w2).alloc (Nat.le_refl _) _⟩
  have hcell1 : wa.cell? ⟨w.heap.size, 0, none⟩ = some (.int .i64 m.kind) := (World.cell?_of_block (HWA.out.block _ HM2.out.lt)).trans hc0
  have HNEW := Aside0.mk hnew
  have HOLD := Aside0.mk hold
  have hk2 := hk.2
  have hk1 := hk.1
  clear hs1 hg71 hwa hnew hold
  go_wp2_with (at_builtin; go_loud (refine list_append_full (P := Tryd.prog) (w0 := w2) w2.heap.size rfl (.tmp 19) (.tmp 23) 82 5 (.int .u8 0) 1 rfl Tryd.underlying82 info8 rfl (by decide) w2.heap.size 3 [.int .u8 71, .int .u8 82, .int .u8 1] wa.heap.size 1 1 [.int .u8 m.kind] rfl rfl HOLD.out rfl rfl (by decide) HNEW.out (HWA.out.alloc HWA.out.size _) ?hs ?hl ?_); (case hs => have := HHS.out; simp; omega); (case hl => decide); intro v1 w3 HO1 HB3 _; have HM3 := Aside0.mk (HM2.out.below HB3 HM2.out.lt); have hc1 : w3.cell? ⟨w.heap.size, 1, none⟩ = some (.int .i64 m.from_) := HM3.out.c 1; have HO3 := Aside0.mk HO1; have HBB3 := Aside0.mk HB3; clear HO1 HB3)
  clear hcvt hcell1 HNEW HOLD HWA hc0 HHS hk1 hk2 hk HM2
  have HF := Aside0.mk (vB_facts m HV.out)
  refine (put_own w2.heap.size v1 4 _ m.from_ 2 w3 HO3.out HBB3.out.size HF.out.1.1 (by have := HF.out.1.2; omega) (by decide) (by decide) (by decide)).mono ?_
  rintro e w4 ⟨v4, rfl, hO, hb, hk⟩
  have HO4 := Aside0.mk hO
  have HB4 := Aside0.mk (HBB3.out.trans hb)
  have HM4 := Aside0.mk (keep_msg HM3.out hk)
  have hc2 : w4.cell? ⟨w.heap.size, 2, none⟩ = some (.int .i64 m.to_) := HM4.out.c 2
  clear hO hb hk HO3 HBB3 HM3 hc1
  go_wp2_with fail
  refine (put_own w2.heap.size v4 _ _ m.to_ 2 w4 HO4.out HB4.out.size HF.out.2.1.1 (by have := HF.out.2.1.2; omega) (by decide) (by decide) (by decide)).mono ?_
  rintro e w5 ⟨v5, rfl, hO, hb, hk⟩
  have HO5 := Aside0.mk hO
  have HB5 := Aside0.mk (HB4.out.trans hb)
  have HM5 := Aside0.mk (keep_msg HM4.out hk)
  have hc3 : w5.cell? ⟨w.heap.size, 3, none⟩ = some (.int .i64 m.id) := HM5.out.c 3
  clear hO hb hk HO4 HB4 HM4 hc2
  go_wp2_with fail
  refine (put_own w2.heap.size v5 _ _ m.id 8 w5 HO5.out HB5.out.size HF.out.2.2.1.1 (by have := HF.out.2.2.1.2; omega) (by decide) (by decide) (by decide)).mono ?_
  rintro e w6 ⟨v6, rfl, hO, hb, hk⟩
  obtain ⟨g6, cap6, rfl⟩ := own_slice hO (by decide)
  have HO6 := Aside0.mk hO
  have HB6 := Aside0.mk (HB5.out.trans hb)
  have HM6 := Aside0.mk (keep_msg HM5.out hk)
  clear hO hb hk HO5 HB5 HM5 hc3
  go_wp2_with fail
  refine (put_own w2.heap.size _ _ _ 0 4 w6 HO6.out HB6.out.size (by decide) (by decide) (by decide) (by decide) (by decide)).mono ?_
  rintro e w7 ⟨v7, rfl, hO, hb, hk⟩
  have HO7 : Aside0 (w7.ownsRow w2.heap.size 5 1 v7 20 (nums .u8 (headB m ++ be 0 4))) := ⟨by
    unfold headB
    simp only [nums_append]
    exact hO⟩
  have HB7 := Aside0.mk (HB6.out.trans hb)
  have HM7 := Aside0.mk (keep_msg HM6.out hk)
  clear hO hb hk HO6 HB6 HM6
  obtain ⟨kk, hkk⟩ : ∃ kk : Nat, m.kind = (kk : Int) := ⟨m.kind.toNat, by have := HK.out; omega⟩
  have hk1 : 1 ≤ (kk : Int) := by have := HK.out.1; omega
  have hk2 : (kk : Int) < 17 := by have := HK.out.2; omega
  have hkl : kk < 17 := by omega
  have hk0 : kk ≠ 0 := by omega
  have HKK := Lib.hid hkk
  have hc0 : w7.cell? ⟨w.heap.size, 0, none⟩ = some (.int .i64 (kk : Int)) := by rw [← hkk]; exact HM7.out.c 0
  clear hkk
  go_upto_region 11 with fail
  go_cut [45, 46, 47] (fun v45 v46 v47 wx => ∃ q : Nat, v45 = .slice (some ⟨q, 0, none⟩) (fieldsOf kk).length (fieldsOf kk).length ∧ v46 = .int .i64 ((fieldsOf kk).length : Int) ∧ v47 = .int .i64 0 ∧ Aside0 (wx.heap[q]? = some (rowOf (fieldsOf kk))) ∧ Aside0 (Below w7.heap.size w7 wx))
  case first =>
    have hgl := HM7.out.lt
    have hidx0 : (0 : Int) ≤ (kk : Int) := by omega
    have HSL := Aside0.mk (show ∀ b, slOf b kk = .slice (some ⟨b + (kk - 1), 0, none⟩) (fieldsOf kk).length (fieldsOf kk).length from fun b => if_neg hk0)
    go_region_with ((go_at_call 37; refine (layouts_rows _).mono ?_; rintro e w8 ⟨rfl, hL, hb, hsz, hrw⟩; have hS3 := (hb.cell (p := ⟨w.heap.size, 0, none⟩) hgl).trans hc0; have ho3 : w8.cell? ⟨w7.heap.size + 16, kk, none⟩ = some (.slice (some ⟨w7.heap.size + (kk - 1), 0, none⟩) (fieldsOf kk).length (fieldsOf kk).length) := (hL.out kk hkl).trans (congrArg some (HSL.out _)); have HL3 := Aside0.mk hrw; have HB3 := Aside0.mk hb; clear hL hb hsz hrw))
    all_goals
      go_wp2_with fail
      go_meet
      refine ⟨w7.heap.size + (kk - 1), rfl, rfl, rfl, ⟨?_⟩, ⟨⟨HB3.out.os, HB3.out.tape, HB3.out.output, HB3.out.size, HB3.out.block⟩⟩⟩
      have := HL3.out (kk - 1) (by omega)
      rw [Nat.sub_add_cancel (by omega)] at this
      exact this
  case rest =>
    obtain ⟨q, rfl, rfl, rfl, HR, HBC⟩ := hcut
    have hEI : EInv w w2 wc m q (fieldsOf kk) v7 0 := by
      have hO8 := pw_own_below HO7.out HBC.out
      refine ⟨?_, HM7.out.below HBC.out HM7.out.lt, HR.out, HB7.out.trans (HBC.out.mono HB7.out.size)⟩
      have e0 : bodyB m ((fieldsOf kk).take 0) = [] := rfl
      rw [e0, List.append_nil]
      exact hO8
    have HEI := Aside0.mk hEI
    have hfl := fields_len kk hkl
    have HFL := Aside0.mk (fields_lt kk hkl)
    have HFS : Aside0 (fieldsOf kk = fieldsOf m.kind.toNat) := ⟨by rw [HKK.out, Int.toNat_natCast]⟩
    generalize hfs : fieldsOf kk = fs at HEI hfl HFL HFS ⊢
    clear hEI HR HBC HO7 HM7 HB7 hfs hc0
    obtain ⟨i0, hi0, hzz⟩ := Option.map_eq_some_iff.1 info8
    simp only [Prod.mk.injEq] at hzz
    have HZ := Aside0.mk hzz
    clear hzz
    go_wp2
    go_loopw [4, 7, 8, 9, 10, 47] (fun bv _ _ _ _ iv wr => ∃ j : Nat, j ≤ fs.length ∧ iv = .int .i64 (j : Int) ∧ Aside0 (EInv w w2 wr m q fs bv j)) (fun _ _ _ _ _ iv _ => 7 - (intOf iv).toNat)
    case atStart => exact ⟨0, Nat.zero_le _, rfl, HEI⟩
    case round =>
      clear HEI
      obtain ⟨j, hj, rfl, HEI⟩ := hrel
      obtain ⟨wo, rfl⟩ : ∃ wo : World, wo = wr := ⟨_, rfl⟩
      by_cases hlt : j < fs.length
      · obtain ⟨n, hn⟩ : ∃ n, fs[j]? = some n := ⟨_, List.getElem?_eq_getElem hlt⟩
        have hn7 := HFL.out j n hn
        have hci := rowOf_cell HEI.out.row j n hn
        have HSN := Lib.hid (body_snoc m fs j n hn)
        have hnm := HF.out.2.2.2 n hn7
        have hwd := wN_range n hn7
        have KW := whole_any w.heap.size m n wo hn7 HEI.out.msg
        rw [wN_eq n hn7] at KW
        have hbl : 20 + (bodyB m (fs.take j)).length + 8 ≤ 5000 := by
          have h1 := body_take_le m fs j
          have h2 := body_length_le m HV.out HK.out
          rw [← HFS.out] at h2
          omega
        have hmx : mostOf n ≤ 9007199254740992 := by
          have : ∀ n, n < 7 → mostOf n ≤ 9007199254740992 := by decide
          exact this n hn7
        have KP := fun (h : (1 : Nat) ≤ 1) => Lib.hid (put_own w2.heap.size _ _ _ (numOf m n) (wN n) wo HEI.out.own HEI.out.bel.size hnm.1 (by omega) hwd.1 hwd.2 (by omega))
        replace KP := KP (Nat.le_refl _)
        have KW' := Lib.hid KW
        have htx : textOf m n = if n = 5 then bytesOf m.key else if n = 6 then bytesOf m.value else [] := rfl
        have hsz5 : n = 5 → (m.key.size : Int) ≤ 255 := by rintro rfl; have := hnm.2; exact this
        have hsz6 : n = 6 → (m.value.size : Int) ≤ 4096 := by rintro rfl; have := hnm.2; exact this
        have HTX := Lib.hid htx
        have HS5 := Aside0.mk hsz5
        have HS6 := Aside0.mk hsz6
        have HNM := Aside0.mk hnm
        have HWD := Aside0.mk hwd
        have HBL := Aside0.mk hbl
        clear hn hnm hwd KW htx hsz5 hsz6 hbl hmx
        go_wp2_with fail
        refine KW'.out.mono ?_
        rintro e w' ⟨rfl, rfl⟩
        go_wp2_with fail
        refine KP.out.mono ?_
        rintro e w9 ⟨v9, rfl, hO, hb, hk⟩
        have HO9 := Aside0.mk hO
        have HM9 := Aside0.mk (keep_msg HEI.out.msg hk)
        have HR9 := Aside0.mk (keep_row HEI.out.row hk)
        have HB9 := Aside0.mk (HEI.out.bel.trans hb)
        clear hO hb hk KP KW'
        by_cases h5 : n = 5
        · subst h5
          have hc9 : w9.cell? ⟨w.heap.size, 9, none⟩ = some (.string m.key) := HM9.out.c 9
          have hle := HS5.out rfl
          go_wp2_with (at_builtin; go_loud (refine Lib.wpList_append_own_string _ rfl (.tmp 64) (.tmp 66) 82 9 rfl w2.heap.size 5 i0 Tryd.underlying82 Tryd.underlying9 hi0 HZ.out.1 HZ.out.2.1 HZ.out.2.2 v9 _ _ rfl HO9.out m.key rfl ?h1 ?h2 HB9.out.size ?_); (case h1 => have := HBL.out; have := HWD.out; unfold maxLen; omega); (case h2 => have := HBL.out; have := HWD.out; omega); intro v1 w1 hO1 hg1 _; have HO1 := Aside0.mk (field_step_text (m := m) (n := 5) (by rw [HTX.out]; rfl) hO1); have HT1 := Aside0.mk ((KeepTy.refl 5 w9).grown HO9.out hg1); have HB1 := Aside0.mk (HB9.out.grown hg1 HB9.out.size (own_base HO9.out)); clear hO1 hg1)
          go_roundw
          case rel => exact ⟨j + 1, by omega, by go_num, ⟨HEI.out.next HSN.out HO1.out (keep_msg HM9.out HT1.out) (keep_row HR9.out HT1.out) HB1.out⟩⟩
          case measure => simp [intOf]; omega
        · by_cases h6 : n = 6
          · subst h6
            have hc9 : w9.cell? ⟨w.heap.size, 10, none⟩ = some (.string m.value) := HM9.out.c 10
            have hle := HS6.out rfl
            go_wp2_with (at_builtin; go_loud (refine Lib.wpList_append_own_string _ rfl (.tmp 70) (.tmp 72) 82 9 rfl w2.heap.size 5 i0 Tryd.underlying82 Tryd.underlying9 hi0 HZ.out.1 HZ.out.2.1 HZ.out.2.2 v9 _ _ rfl HO9.out m.value rfl ?h1 ?h2 HB9.out.size ?_); (case h1 => have := HBL.out; have := HWD.out; unfold maxLen; omega); (case h2 => have := HBL.out; have := HWD.out; omega); intro v1 w1 hO1 hg1 _; have HO1 := Aside0.mk (field_step_text (m := m) (n := 6) (by rw [HTX.out]; rfl) hO1); have HT1 := Aside0.mk ((KeepTy.refl 5 w9).grown HO9.out hg1); have HB1 := Aside0.mk (HB9.out.grown hg1 HB9.out.size (own_base HO9.out)); clear hO1 hg1)
            go_roundw
            case rel => exact ⟨j + 1, by omega, by go_num, ⟨HEI.out.next HSN.out HO1.out (keep_msg HM9.out HT1.out) (keep_row HR9.out HT1.out) HB1.out⟩⟩
            case measure => simp [intOf]; omega
          · have q5 : ((n : Int) == 5) = false := beq_eq_false_iff_ne.2 (by omega)
            have q6 : ((n : Int) == 6) = false := beq_eq_false_iff_ne.2 (by omega)
            have r5 : ¬ (n : Int) = 5 := by omega
            have r6 : ¬ (n : Int) = 6 := by omega
            have HO1 := Aside0.mk (field_step (m := m) (n := n) (by rw [HTX.out, if_neg h5, if_neg h6]) HO9.out)
            clear h5 h6
            go_wp2
            go_roundw
            case rel => exact ⟨j + 1, by omega, by go_num, ⟨HEI.out.next HSN.out HO1.out HM9.out HR9.out HB9.out⟩⟩
            case measure => simp [intOf]; omega
      · obtain rfl : j = fs.length := by omega
        have hO := HEI.out.own
        rw [List.take_length] at hO
        have hbl : (bodyB m fs).length ≤ 4383 := by
          have h2 := body_length_le m HV.out HK.out
          rw [← HFS.out] at h2
          exact h2
        obtain ⟨g, cap, rfl⟩ := own_slice hO (by omega)
        have HBW := Aside0.mk HEI.out.bel
        have hcap := own_le hO
        have hfr : frameB m = headB m ++ be (bodyB m fs).length 4 ++ bodyB m fs := by unfold frameB; rw [HFS.out]
        have HFR := Lib.hid hfr
        obtain ⟨n, hn⟩ : ∃ n, n = 20 + (bodyB m fs).length := ⟨_, rfl⟩
        rw [← hn] at hO hcap ⊢
        have hN : ((n : Int) - 20) = ((bodyB m fs).length : Int) := by omega
        have KP := put_at w2.heap.size g n cap 16 _ ((n : Int) - 20) 4 wo hO HBW.out.size (by omega) (by omega) (by decide) (by decide) (by omega) hcap (by omega)
        rw [hN, setTo_head (headB m) (be 0 4) (bodyB m fs) 16 (headB_length m) (be (bodyB m fs).length 4) (by rw [be_length, be_length]), ← hfr, ← hN] at KP
        have KP' := Lib.hid KP
        have hfl2 : (frameB m).length = n := by rw [frame_length, hn, HFS.out]
        have KSM := fun (w : World) (hN : Crc.Nibs w) => sum_any (strOfNums (frameB m)) w (by rw [strOfNums_size, hfl2]; omega) hN
        have KSM' := fun w h => Lib.hid (KSM w h)
        have n1 : (20 : Int) ≤ (n : Int) := by omega
        have n2 : (n : Int) ≤ 5000 := by omega
        have n3 : (16 : Int) ≤ (cap : Int) := by omega
        have n4 : (cap : Int) ≤ 9223372036854775807 := by
          have h := hO.2
          rcases h with h | ⟨g', c', cs, hv, _, _, _, hm, _⟩
          · cases h.1
          · cases hv; unfold maxLen at hm; omega
        have z1 : (strOfNums (frameB m)).size ≤ 5000 := by rw [strOfNums_size, hfl2]; omega
        have z2 : (sumS (strOfNums (frameB m))).size ≤ 4 := by rw [sumS_eq, strOfNums_size]; exact Nat.le_refl _
        clear hO hn KP hfr hN hbl hfl2 KSM HEI hcap
        go_wp2_with fail
        refine KP'.out.mono ?_
        rintro e w10 ⟨v10, rfl, hO10, hb10⟩
        have hcv := own_string (P := Tryd.prog) (e := 5) Tryd.underlying82 Tryd.underlying5 Tryd.underlying9 hO10
        have HB10 := Aside0.mk (HBW.out.trans hb10)
        have HBE := Aside0.mk (HB2.out.trans (HB10.out.mono HB2.out.size))
        have HN10 := Aside0.mk (HN.out.below HBE.out)
        clear hO10 hb10 KP'
        go_wp2_with fail
        refine (KSM' _ HN10.out).out.mono ?_
        rintro e w11 ⟨rfl, hb⟩
        have HB11 := Aside0.mk (HBE.out.trans (hb.mono HBE.out.size))
        clear hb
        go_wp2
        go_ret2
        exact ⟨rfl, HB11.out⟩
end Go.Proofs.YtnifgokjagahfaaDoor.Enc

/- Encode answers as encP says. -/
set_option linter.unusedVariables false
set_option linter.unusedSimpArgs false
namespace Go.Proofs.YtnifgokjagahfaaDoor.Enc
open Go.RowKit Go.Proofs.YtnifgokjagahfaaDoorW.PrintWords Go.Proofs.YtnifgokjagahfaaDoorW.PrintLast Go.Proofs.YtnifgokjagahfaaDoorW.PrintMore
open Go.Proofs.YtnifgokjagahfaaDoor.Base Go.Proofs.YtnifgokjagahfaaDoor.App Go.Proofs.YtnifgokjagahfaaDoor.Layouts Go.Proofs.YtnifgokjagahfaaDoor.Msg Go.Proofs.YtnifgokjagahfaaDoor.Put Go.Proofs.YtnifgokjagahfaaDoor.EncPure Go.Proofs.YtnifgokjagahfaaDoor.DecPure
def kB (m : M) : Bool := decide (1 ≤ m.kind ∧ m.kind < 17)
def encP (m : M) : ByteArray × Int := if kB m = true then (if vB m = true then (strOfNums (whole m), 0) else (ByteArray.empty, 50)) else (ByteArray.empty, 53)
theorem strOfNums_append (a b : List Int) : strOfNums (a ++ b) = strOfNums a ++ strOfNums b := by
  apply ByteArray.ext
  unfold strOfNums
  rw [List.map_append]
  simp [ByteArray.data_append]
set_option maxRecDepth 100000 in
set_option maxHeartbeats 4000000 in
theorem enc_kind (m : M) (w : World) (hk : ¬ (1 ≤ m.kind ∧ m.kind < 17)) : Calls Tryd.prog 13 #[.agg (mL m).toArray] w fun e w' => e = .returned (.tuple #[.string ByteArray.empty, .int .i64 53]) ∧ Below w.heap.size w w' := by
  have HB0 := Aside0.mk ((Below.refl w.heap.size w).alloc (Nat.le_refl _) (.cells (mL m).toArray 24))
  have HM0 : Aside0 (MBox (w.alloc (.cells (mL m).toArray 24)) w.heap.size m) := ⟨⟨Go.heap_alloc_new w _, by simp⟩⟩
  have hc0 : (w.alloc (.cells (mL m).toArray 24)).cell? ⟨w.heap.size, 0, none⟩ = some (.int .i64 m.kind) := HM0.out.c 0
  have K := fun w => Lib.hid (known_no m.kind w hk)
  clear hk
  go_enter Tryd.func13, Tryd.ntmps13
  go_wp2_with fail
  refine (K _).out.mono ?_
  rintro e w1 ⟨rfl, hb⟩
  have HB1 := Aside0.mk (HB0.out.trans (hb.mono HB0.out.size))
  clear hb hc0 HB0 K
  go_wp2
  go_ret2
  exact ⟨rfl, HB1.out⟩
set_option maxRecDepth 100000 in
set_option maxHeartbeats 4000000 in
theorem enc_field (m : M) (w : World) (hk : 1 ≤ m.kind ∧ m.kind < 17) (hv : vB m = false) : Calls Tryd.prog 13 #[.agg (mL m).toArray] w fun e w' => e = .returned (.tuple #[.string ByteArray.empty, .int .i64 50]) ∧ Below w.heap.size w w' := by
  have HB0 := Aside0.mk ((Below.refl w.heap.size w).alloc (Nat.le_refl _) (.cells (mL m).toArray 24))
  have HM0 : Aside0 (MBox (w.alloc (.cells (mL m).toArray 24)) w.heap.size m) := ⟨⟨Go.heap_alloc_new w _, by simp⟩⟩
  have hc0 : (w.alloc (.cells (mL m).toArray 24)).cell? ⟨w.heap.size, 0, none⟩ = some (.int .i64 m.kind) := HM0.out.c 0
  have K := fun w => Lib.hid (known_yes m.kind w hk)
  have HK := Aside0.mk hk
  have HV := Aside0.mk hv
  clear hk hv
  go_enter Tryd.func13, Tryd.ntmps13
  go_wp2_with fail
  refine (K _).out.mono ?_
  rintro e w1 ⟨rfl, hb⟩
  have HM1 := Aside0.mk (HM0.out.below hb (by simp))
  have HB1 := Aside0.mk (HB0.out.trans (hb.mono HB0.out.size))
  clear hb hc0 HB0 K
  go_wp2_with fail
  refine (valid_any w.heap.size m w1 HM1.out HK.out).mono ?_
  rintro e w2 ⟨rfl, hb⟩
  have HB2 := Aside0.mk (HB1.out.trans (hb.mono HB1.out.size))
  clear hb HM1 HB1
  rw [HV.out]
  go_wp2
  go_ret2
  exact ⟨rfl, HB2.out⟩
theorem enc_any (m : M) (w : World) (hN : Crc.Nibs w) : Calls Tryd.prog 13 #[.agg (mL m).toArray] w fun e w' => e = .returned (.tuple #[.string (encP m).1, .int .i64 (encP m).2]) ∧ Below w.heap.size w w' := by
  unfold encP kB
  by_cases hk : 1 ≤ m.kind ∧ m.kind < 17
  · rw [if_pos (decide_eq_true hk)]
    cases hv : vB m
    · rw [if_neg (by decide)]; exact enc_field m w hk hv
    · rw [if_pos rfl]
      have e : strOfNums (whole m) = strOfNums (frameB m) ++ sumS (strOfNums (frameB m)) := by
        unfold whole
        rw [strOfNums_append, sumS_eq, bytesOf_strOfNums _ (byt_frame m hk)]
      simp only [e]
      exact enc_good m w hk hv hN
  · rw [if_neg (by simpa using hk)]; exact enc_kind m w hk
end Go.Proofs.YtnifgokjagahfaaDoor.Enc

/- == of messages. -/
set_option linter.unusedVariables false
set_option linter.unusedSimpArgs false
namespace Go.Proofs.YtnifgokjagahfaaDoor.EqM
open Go.RowKit Go.Proofs.YtnifgokjagahfaaDoorW.PrintWords Go.Proofs.YtnifgokjagahfaaDoorW.PrintLast Go.Proofs.YtnifgokjagahfaaDoorW.PrintMore
open Go.Proofs.YtnifgokjagahfaaDoor.Base Go.Proofs.YtnifgokjagahfaaDoor.Layouts Go.Proofs.YtnifgokjagahfaaDoor.Msg
def bM (a b : M) : Bool := a.kind == b.kind && (a.from_ == b.from_ && (a.to_ == b.to_ && (a.id == b.id && (a.epoch == b.epoch && (a.seq == b.seq && (a.version == b.version && (a.prev == b.prev && (a.code == b.code && (a.key.toList == b.key.toList && ((a.value.toList == b.value.toList)))))))))))
theorem bM_iff (a b : M) : bM a b = true ↔ a = b := by
  have hs : ∀ x y : ByteArray, (x.toList == y.toList) = true ↔ x = y := by
    intro x y
    rw [beq_iff_eq, ByteArray.toList_eq, ByteArray.toList_eq]
    constructor
    · intro h
      apply ByteArray.ext
      exact Array.ext' h
    · rintro rfl; rfl
  unfold bM
  simp only [Bool.and_eq_true, beq_iff_eq]
  have hk := hs a.key b.key
  have hv := hs a.value b.value
  rw [beq_iff_eq] at hk hv
  rw [hk, hv]
  cases a; cases b
  simp
set_option maxHeartbeats 4000000 in
theorem eqA (d : Nat) (w : World) (a b : M) : (Op.equalIn (d + 2) 24 (.agg (mL a).toArray) (.agg (mL b).toArray)).run Tryd.prog w = .ok (bM a b) w := by
  unfold mL bM
  refine eqA_of Tryd.underlying24 (by kernel_rfl) ?_
  refine eqf_cons (by rfl) (by go_simp; rfl) (by go_simp; rfl) (by go_simp) ?_
  refine eqf_cons (by rfl) (by go_simp; rfl) (by go_simp; rfl) (by go_simp) ?_
  refine eqf_cons (by rfl) (by go_simp; rfl) (by go_simp; rfl) (by go_simp) ?_
  refine eqf_cons (by rfl) (by go_simp; rfl) (by go_simp; rfl) (by go_simp) ?_
  refine eqf_cons (by rfl) (by go_simp; rfl) (by go_simp; rfl) (by go_simp) ?_
  refine eqf_cons (by rfl) (by go_simp; rfl) (by go_simp; rfl) (by go_simp) ?_
  refine eqf_cons (by rfl) (by go_simp; rfl) (by go_simp; rfl) (by go_simp) ?_
  refine eqf_cons (by rfl) (by go_simp; rfl) (by go_simp; rfl) (by go_simp) ?_
  refine eqf_cons (by rfl) (by go_simp; rfl) (by go_simp; rfl) (by go_simp) ?_
  refine eqf_cons (by rfl) (by go_simp; rfl) (by go_simp; rfl) (by go_simp) ?_
  exact eqf_last (by rfl) (by go_simp; rfl) (by go_simp; rfl) (by go_simp)
theorem eqM (w : World) (a b : M) : (binOp .eql 24 (.agg (mL a).toArray) (.agg (mL b).toArray)).run Tryd.prog w = .ok (.bool (bM a b)) w := by
  rw [run_eql_struct, eqA 9998 w a b]
  rfl
theorem neM (w : World) (a b : M) : (binOp .neq 24 (.agg (mL a).toArray) (.agg (mL b).toArray)).run Tryd.prog w = .ok (.bool (!bM a b)) w := by
  rw [run_neq_struct, eqA 9998 w a b]
  rfl
theorem bM_same (a : M) : bM a a = true := (bM_iff a a).2 rfl
end Go.Proofs.YtnifgokjagahfaaDoor.EqM

/-
  FOR A PROOF OF AN '..UptoSaid': WHAT THE BOUND GIVES. Copy it as <Name>Bulk.lean (put your seat's Name for YtnifgokjagahfaaDoor, the bound of 'uptoSmall' for 1048576), name it in GOCLAIM.json's 'order' behind <Name>Rows. By an AI agent, Sun Nov 15 2026. No person has read it. No macro, syntax, notation, axiom, sorry.
-/
namespace Go.Proofs.YtnifgokjagahfaaDoor.bulks

theorem one_le {H : Type} (d : DataW H) : 1 ≤ Rows.uptoBulk d := by
  cases d with
  | lit l => cases l <;> simp [Rows.uptoBulk]
  | nil => simp [Rows.uptoBulk]
  | ptr d => simp [Rows.uptoBulk]
  | slice elems spare => simp [Rows.uptoBulk]
  | agg parts => simp [Rows.uptoBulk]
  | iface t d => simp [Rows.uptoBulk]
  | map entries => simp [Rows.uptoBulk]
  | held h => simp [Rows.uptoBulk]

/-- a part's bulk is at most the whole's -/
theorem part_le {H : Type} {d : DataW H} {l : List (DataW H)} (h : d ∈ l) : Rows.uptoBulk d ≤ Rows.uptoBulkAll l := by
  induction l with
  | nil => cases h
  | cons x r ih =>
    simp only [Rows.uptoBulkAll]
    cases List.mem_cons.1 h with
    | inl e => subst e; omega
    | inr e => have := ih e; omega

theorem append {H : Type} (l r : List (DataW H)) : Rows.uptoBulkAll (l ++ r) = Rows.uptoBulkAll l + Rows.uptoBulkAll r := by
  induction l with
  | nil => simp [Rows.uptoBulkAll]
  | cons x l ih => simp only [List.cons_append, Rows.uptoBulkAll, ih]; omega

/-- so many values at the most -/
theorem length_le {H : Type} (l : List (DataW H)) : l.length ≤ Rows.uptoBulkAll l := by
  induction l with
  | nil => simp [Rows.uptoBulkAll]
  | cons x r ih => have := one_le x; simp only [Rows.uptoBulkAll, List.length_cons]; omega

/-- a slice's places, and what they hold -/
theorem slice_le {H : Type} (elems spare : List (DataW H)) : elems.length + spare.length + 1 ≤ Rows.uptoBulk (.slice elems spare) := by
  have h1 := length_le elems
  have h2 := length_le spare
  simp only [Rows.uptoBulk]
  omega
theorem slice_elems {H : Type} (elems spare : List (DataW H)) : Rows.uptoBulkAll elems + 1 ≤ Rows.uptoBulk (.slice elems spare) := by
  simp only [Rows.uptoBulk]
  omega

/-- a string's letters -/
theorem string_eq {H : Type} (bytes : List UInt8) : Rows.uptoBulk (DataW.lit (H := H) (.string bytes)) = bytes.length + 1 := by
  simp [Rows.uptoBulk]

/-- THE BOUND, as the builder hands it over ('hk') -/
theorem bound {H : Type} {l : List (DataW H)} (hk : Rows.uptoSmall H l = true) : Rows.uptoBulkAll l ≤ 1048576 := by
  simpa [Rows.uptoSmall] using hk

/-- ROOM: a slice of n elements of b bytes, grown by append: below the 2^48 bytes that append, make and a Builder bear. Here n up to 2^21, b up to 4,096: put your own numbers. -/
theorem room {n b : Nat} (hn : n ≤ 2097152) (hb : b ≤ 4096) : (n + n / 4 + 192) * b ≤ 281474976710656 := by
  have h : (n + n / 4 + 192) * b ≤ 2621632 * 4096 := Nat.mul_le_mul (by omega) hb
  omega

end Go.Proofs.YtnifgokjagahfaaDoor.bulks

/- How arguments are opened: what their readings give the walks, with the bound. -/
set_option linter.unusedVariables false
set_option linter.unusedSimpArgs false
namespace Go.Proofs.YtnifgokjagahfaaDoor.Open
open Go.ChangeShapes Go.WideShapes Go.ChangeAt Go.RowKit Go.Proofs.YtnifgokjagahfaaDoorW.PrintWords
/-- all texts together, each with one more -/
def total (l : List ByteArray) : Nat := (l.map fun s => s.size + 1).sum
theorem bulk_strs {H : Type} (l : List ByteArray) : Rows.uptoBulkAll (strs (H := H) l) = total l := by
  induction l with
  | nil => rfl
  | cons s l ih =>
    simp only [strs, List.map_cons, Rows.uptoBulkAll, Rows.uptoBulk, total, List.sum_cons] at ih ⊢
    rw [ih, data_length]
theorem open_strs {H : Type} {enc : TypeId × Value → H} {P : Program} {W : World} {base : Nat} {sp : Nat → Bool} {held : Bool} {t e : TypeId} {a0 : Option Addr} {len cap : Nat} {d : DataW H} {p : List MemPlace}
    (ht : P.underlying t = some (.slice e)) (he : P.underlying e = some .string) (hc : P.cellsOf e = 1) (hsp : ∀ b, sp b = true)
    (h : DataW.Trod enc P W base sp held t (.slice a0 len cap) d p) :
    ∃ l : List ByteArray, len = l.length ∧ Kd.C Kd.string W a0 l.length l ∧ l.length ≤ cap ∧ total l ≤ Rows.uptoBulk d := by
  obtain ⟨fuel, hf⟩ := h
  rcases open_strings ht he hc hf with ⟨hcs, hx⟩ | ⟨x, l, c, ss, hcs, _, hl, hm, hss, hx, hcell, hws⟩
  · simp [Value.cells] at hcs
    obtain ⟨rfl, rfl, rfl⟩ := hcs
    exact ⟨[], rfl, Kd.C_of_reads (d := ByteArray.empty) ⟨rfl, by simp, fun h => by simp at h⟩, by simp, Nat.zero_le _⟩
  · simp [Value.cells] at hcs
    obtain ⟨rfl, rfl, rfl⟩ := hcs
    rw [hsp, if_pos rfl] at hss
    simp only [Prod.mk.injEq] at hx
    obtain ⟨rfl, _⟩ := hx
    have hlen : (ss.take len).length = len := by simp; omega
    refine ⟨ss.take len, hlen.symm, Kd.C_of_reads (d := ByteArray.empty) ⟨rfl, ?_, fun h => ⟨x, rfl, fun j hj => ?_⟩⟩, by omega, ?_⟩
    · have : cap ≤ 9223372036854775807 := by simpa [maxLen] using hm
      omega
    · rw [hcell j (by omega)]
      have : j < len := by omega
      simp [List.getD_eq_getElem?_getD, List.getElem?_take, this]
    · simp only [Rows.uptoBulk]
      rw [bulk_strs]; omega
end Go.Proofs.YtnifgokjagahfaaDoor.Open

/- FrameCuts: Feeds and Close tell what Split tells of the whole. -/
set_option linter.unusedVariables false
set_option linter.unusedSimpArgs false
namespace Go.Proofs.YtnifgokjagahfaaDoor.CutsF
open Go.RowKit Go.Proofs.YtnifgokjagahfaaDoorW.PrintWords Go.Proofs.YtnifgokjagahfaaDoorW.PrintLast Go.Proofs.YtnifgokjagahfaaDoorW.PrintMore
open Go.Proofs.YtnifgokjagahfaaDoor.Base Go.Proofs.YtnifgokjagahfaaDoor.App Go.Proofs.YtnifgokjagahfaaDoor.Layouts Go.Proofs.YtnifgokjagahfaaDoor.Msg Go.Proofs.YtnifgokjagahfaaDoor.Put Go.Proofs.YtnifgokjagahfaaDoor.EncPure Go.Proofs.YtnifgokjagahfaaDoor.DecPure Go.Proofs.YtnifgokjagahfaaDoor.Mids Go.Proofs.YtnifgokjagahfaaDoor.Enc Go.Proofs.YtnifgokjagahfaaDoor.EqM Go.Proofs.YtnifgokjagahfaaDoor.SplitPure Go.Proofs.YtnifgokjagahfaaDoor.Pcs Go.Proofs.YtnifgokjagahfaaDoor.Reader Go.Proofs.YtnifgokjagahfaaDoor.ReadPure Go.Proofs.YtnifgokjagahfaaDoor.ReadStream Go.Proofs.YtnifgokjagahfaaDoor.Feed Go.Proofs.YtnifgokjagahfaaDoor.Close
open Go.Proofs.YtnifgokjagahfaaDoor.Crc (Nibs)
attribute [local go_sem high] eqA
section
variable {P : Program} {ops : Array Oper} {rest : List Oper} {o : Oper} {a : Act} {Q : Exit → Act → World → Prop}
/-- append(v, u...): both slices of the call's own -/
theorem list_append_rows {w0 W : World} (base : Nat) (hgd : o.guard = none) (s x : Operand) (t e : TypeId) (z : Value) (size bytes : Nat)
    (ho : o.op = .call { callee := .builtin .append, args := #[s, x], argTypes := #[t, t] })
    (ht : P.underlying t = some (.slice e)) (hinfo : (P.info? e).map (fun i => (i.zero, i.size, i.bytes)) = some (some z, size, bytes)) (hz : z.cells.size = size) (hs0 : 0 < size) (hb0 : 0 < bytes)
    (v : Value) (n : Nat) (xs : List Value) (u : Value) (b2 m : Nat) (ys : List Value) (hs : a.eval s = v) (hx : a.eval x = u) (HU : W.ownsRow b2 e size u m ys) (h1 : ∀ y ∈ ys, y.oneCell' = true)
    (HO : W.ownsRow base e size v n xs) (HB : Below base w0 W) (hbase : base ≤ W.heap.size) (hl : (n + m) * bytes ≤ 140737488355328)
    (h : ∀ v1 w1, w1.ownsRow base e size v1 (n + m) (xs ++ ys) → Below base w0 w1 → W.grownBy w1 v.ownBlock → wpList P ops Q rest (a.put o.dst v1) w1) :
    wpList P ops Q (o :: rest) a W := by
  rcases HU.2 with ⟨rfl, rfl⟩ | ⟨g, cap, cur, rfl, hg, hgb, r⟩
  · have hy : ys = [] := List.eq_nil_of_length_eq_zero (by simpa using HU.1)
    subst hy
    obtain ⟨i0, hi, hzz⟩ := Option.map_eq_some_iff.1 hinfo
    simp only [Prod.mk.injEq] at hzz
    obtain ⟨hz0, hz1, hz2⟩ := hzz
    have hr : (Builtin.append_ #[t, t] o.type #[v, .slice none 0 0]).run P W = .ok v W := by
      rcases HO.2 with ⟨rfl, hn⟩ | ⟨g, cap, cur, rfl, _, _, hnc, _⟩
      · simp [Builtin.append_, run_underlying ht, sizeOf, typeInfo, hi, Builtin.lenOf, Builtin.firstCells]
      · simp [Builtin.append_, run_underlying ht, sizeOf, typeInfo, hi, Builtin.lenOf, Builtin.firstCells, hnc, storeCells]
    refine wpList_plain hgd fun K hK => ?_
    unfold Oper.wp execOp
    simp only [ho, resolve, invoke, builtin, Sem.run_bind, Sem.run_pure, Result.andThen_ok, List.map_toArray, List.map_cons, List.map_nil, hs, hx, hr]
    exact hK _ _ (h v W (by simpa using HO) HB ⟨rfl, rfl, rfl, Nat.le_refl _, fun _ _ _ => rfl⟩)
  · refine list_append_wide base hgd s x t e z size bytes ho ht hinfo hz hs0 hb0 v n xs g m cap ys hs hx HU.1 h1 (fun j y hy => ?_) HO HB hbase hl h
    have := HU.cells (g := g) rfl j y hy
    have e : (⟨g, 0, none⟩ : Addr).add j = ⟨g, j, none⟩ := by unfold Addr.add; split <;> simp_all
    rwa [e] at this
/-- a struct is read in a region that draws its order -/
theorem still_load_mid {w : World} {K : Act → Prop} (hg : o.guard = none) (ty : TypeId) (x : Operand) (ho : o.op = .load ty x)
    (b p : Nat) (hx : a.eval x = .pointer (some ⟨b, p, none⟩)) (cs : List Value) (d : TypeDesc) (hc : w.rangeAt b p cs)
    (hu : P.underlying ty = some d) (hd : d.isRow = true) (hi : (P.info? ty).map (·.size) = some cs.length)
    (h : wpStill P ops w K rest (a.put o.dst (.agg cs.toArray))) : wpStill P ops w K (o :: rest) a := by
  refine wpStill_step (fun L hL => ?_)
  simp only [Region.wanted, hg, if_true]
  unfold Oper.still execOp
  simp only [ho, hx, Instr.loadAt, Instr.sureAddr, Sem.run_bind, Sem.run_pure, Result.andThen_ok, run_loadVar_mid w b p ty cs d hc hu hd hi, Oper.stillUpon]
  exact ⟨trivial, hL _ h⟩
end
theorem num_any (x : Int) (w : World) : Calls Tryd.prog 15 #[.int .i64 x] w fun e w' => e = .returned (.int .i64 x) ∧ w = w' := by
  go_enter Tryd.func15, Tryd.ntmps15
  go_wp2
  go_ret
  exact ⟨rfl, rfl⟩
theorem encP_good (m : M) (hk : 1 ≤ m.kind ∧ m.kind < 17) (hv : vB m = true) : encP m = (strOfNums (whole m), 0) := by
  unfold encP kB
  rw [if_pos (decide_eq_true hk), if_pos hv]
theorem enc_good' (m : M) (vm : vB m = true) (km : 1 ≤ m.kind ∧ m.kind < 17) (w : World) (hN : Nibs w) : Calls Tryd.prog 13 #[.agg (mL m).toArray] w fun e w' => e = .returned (.tuple #[.string (strOfNums (whole m)), .int .i64 0]) ∧ Below w.heap.size w w' := by
  have h := enc_any m w hN
  rw [encP_good m km vm] at h
  exact h
theorem own_lower {w : World} {base base' : Nat} {e : TypeId} {size : Nat} {v : Value} {n : Nat} {xs : List Value} (h : w.ownsRow base e size v n xs) (hb : base' ≤ base) : w.ownsRow base' e size v n xs := by
  refine ⟨h.1, ?_⟩
  rcases h.2 with hn | ⟨g, cap, cur, rfl, hg, rest⟩
  · exact .inl hn
  · exact .inr ⟨g, cap, cur, rfl, Nat.le_trans hb hg, rest⟩
theorem own_but2 {w w' : World} {b base : Nat} {v : Value} {n : Nat} {xs : List Value} {h : ByteArray} {k : Int} (hr : w.ownsRow base 24 11 v n xs) (hb : But b w w') (r : RBox w b h k) : w'.ownsRow base 24 11 v n xs :=
  hr.kept hb (by
    have := row_ne hr r (by decide)
    cases hv : v.ownBlock with
    | none => exact .inl rfl
    | some j => exact .inr (fun e => this (by rw [hv]; exact e.symm)))
theorem RBox.grown {w w' : World} {b base : Nat} {v : Value} {n : Nat} {xs : List Value} {h : ByteArray} {k : Int} (r : RBox w b h k) (hr : w.ownsRow base 24 11 v n xs) (hg : w.grownBy w' v.ownBlock) : RBox w' b h k :=
  (hg.block b r.lt (row_ne hr r (by decide))).trans r
/-- one more part has come -/
theorem feedW (W s : ByteArray) (pre : List Pc) (p : Nat) (hF : Fed W pre p) (w : World) (b : Nat) (r : RBox w b (W.extract p W.size) ((p - szs pre : Nat) : Int)) (hsz : W.size + s.size ≤ 4194304) (hN : Nibs w) (hb2 : b ≠ 2) :
    Calls Tryd.prog 29 #[.pointer (some ⟨b, 0, none⟩), .string s] w fun e w' => ∃ (v : Value) (L : List Pc) (p' : Nat), e = .returned (.tuple #[v, .int .i64 0]) ∧ w'.ownsRow w.heap.size 24 11 v L.length (msL (msgs L)) ∧
      Fed (W ++ s) (pre ++ sh p L) p' ∧ RBox w' b ((W ++ s).extract p' (W ++ s).size) ((p' - szs (pre ++ sh p L) : Nat) : Int) ∧ But b w w' := by
  have hle := hF.le
  have hroom := hF.room
  have hts := tail_size W p hle
  refine (feed_any w b (W.extract p W.size) _ s r (by rw [ByteArray.size_append, hts]; omega) (by omega) (by omega) hN hb2).mono ?_
  rintro e w' ⟨v, rfl, ho, hr, hb⟩
  refine ⟨v, _, _, rfl, ho, hF.step s, ?_, hb⟩
  rw [hF.held s] at hr
  have h1 := fd_room (W.extract p W.size ++ s) 0 (Nat.zero_le _)
  have e : ((p - szs pre : Nat) : Int) + ((fdE (W.extract p W.size ++ s) 0 - szs (fdL (W.extract p W.size ++ s) 0) : Nat) : Int) = ((p + fdE (W.extract p W.size ++ s) 0 - szs (pre ++ sh p (fdL (W.extract p W.size ++ s) 0)) : Nat) : Int) := by
    rw [szs_append, szs_sh]; omega
  rw [← e]
  exact hr
def bkM : M := ⟨7, 64, 0, 3, 4, 2, 0, 0, 0, ByteArray.empty, ByteArray.empty⟩
theorem bk_valid : vB bkM = true := by decide
theorem bk_kind : 1 ≤ bkM.kind ∧ bkM.kind < 17 := by decide
/-- the frame ahead -/
def bk : ByteArray := strOfNums (whole bkM)
theorem bk_size : 24 ≤ bk.size ∧ bk.size ≤ 4407 := Zeros.whole_size bkM bk_valid bk_kind
/-- so far, the frame and so many parts -/
def jn (P : ByteArray) (l : List ByteArray) : ByteArray := l.foldl (· ++ ·) P
theorem jn_next (P : ByteArray) (l : List ByteArray) (k : Nat) (h : k < l.length) : jn P (l.take (k + 1)) = jn P (l.take k) ++ rdOf ByteArray.empty l (k : Nat) := by
  unfold jn
  rw [List.take_succ_eq_append_getElem h, List.foldl_append]
  simp only [List.foldl_cons, List.foldl_nil]
  congr 1
  simp [rdOf, List.getD_eq_getElem?_getD, h]
theorem jn_size (P : ByteArray) : ∀ (l : List ByteArray), (jn P l).size ≤ P.size + Open.total l := by
  intro l
  unfold jn Open.total
  induction l generalizing P with
  | nil => exact Nat.le_add_right _ _
  | cons s l ih =>
    simp only [List.foldl_cons, List.map_cons, List.sum_cons]
    have := ih (P ++ s)
    rw [ByteArray.size_append] at this
    omega
theorem total_take (l : List ByteArray) (k : Nat) : Open.total (l.take k) ≤ Open.total l := by
  unfold Open.total
  conv => rhs; rw [← List.take_append_drop k l]
  rw [List.map_append, List.sum_append]
  omega
theorem bk_fr : fr bk 0 = some (bk.size, bkM) := by
  have hb : bytesOf bk = whole bkM := bytesOf_strOfNums _ (byt_whole _ bk_kind)
  have hd := dec_whole bkM bk_valid bk_kind
  have hl : (whole bkM).length = bk.size := by rw [← hb, bytesOf_length]
  have h1 := bk_size
  unfold fr
  rw [List.drop_zero, hb]
  have hbody : 24 + bodyN (whole bkM) = ((whole bkM).length : Int) ∧ bodyN (whole bkM) ≤ 4383 := by
    have h2 : (decP (whole bkM)).2 = 0 := by rw [hd]
    unfold decP at h2
    by_cases c4 : 4383 < bodyN (whole bkM) ∨ 24 + bodyN (whole bkM) ≠ (whole bkM).length
    · rw [if_pos c4] at h2
      repeat' split at h2
      all_goals exact absurd h2 (by decide)
    · omega
  unfold Frm.frm
  have ht : (24 + bodyN (whole bkM)).toNat = (whole bkM).length := by omega
  rw [ht, List.take_length, hd, if_pos ⟨by omega, hbody.2, by omega, rfl⟩, hl]
theorem jn_starts (l : List ByteArray) : ∀ (P : ByteArray), ∃ X, jn P l = P ++ X := by
  unfold jn
  induction l with
  | nil => intro P; exact ⟨ByteArray.empty, (append_nil' P).symm⟩
  | cons s l ih =>
    intro P
    obtain ⟨X, hX⟩ := ih (P ++ s)
    exact ⟨s ++ X, by rw [List.foldl_cons, hX, append_assoc']⟩
theorem some_pieces (l : List ByteArray) : pcs (jn bk l) 0 ≠ [] := by
  obtain ⟨X, hX⟩ := jn_starts l bk
  rw [hX, pcs_some (fr_append X (Nat.zero_le _) bk_fr)]
  exact List.cons_ne_nil _ _
end Go.Proofs.YtnifgokjagahfaaDoor.CutsF
