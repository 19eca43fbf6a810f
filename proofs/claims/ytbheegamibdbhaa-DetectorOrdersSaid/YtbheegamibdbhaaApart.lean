/- DetectorApart: what happens to other nodes makes no difference to a node. -/
import Derived.Test.YtbheegamibdbhaaDrive
set_option linter.unusedVariables false
set_option linter.unusedSimpArgs false
namespace Go.Proofs.Ytbheegamibdbhaa.Apart
open Go.RowKit Go.Proofs.YtbheegamibdbhaaW.PrintWords Go.Proofs.YtbheegamibdbhaaW.PrintLast Go.Proofs.YtbheegamibdbhaaW.PrintMore
open Go.Proofs.Ytbheegamibdbhaa.Base Go.Proofs.Ytbheegamibdbhaa.App Go.Proofs.Ytbheegamibdbhaa.MapK Go.Proofs.Ytbheegamibdbhaa.Det Go.Proofs.Ytbheegamibdbhaa.Bans Go.Proofs.Ytbheegamibdbhaa.Made Go.Proofs.Ytbheegamibdbhaa.Drive
/-- one step of a script -/
structure S3 where mk ::
  (kind node : Int) (a : Option Addr) (ln cp : Nat)
def S3.v (s : S3) : Value := .slice s.a s.ln s.cp
def S3.L (s : S3) : List Value := stepL s.kind s.node s.v
def StepsAt (w : World) (A : Option Addr) (l : List S3) : Prop := ∀ k o, l[k]? = some o → ∃ b off, A = some ⟨b, off, none⟩ ∧ b < w.heap.size ∧ w.rangeAt b (off + k * 3) o.L
theorem StepsAt.below {w w1 : World} {A : Option Addr} {l : List S3} (h : StepsAt w A l) (hb : Below w.heap.size w w1) : StepsAt w1 A l := by
  intro k o hk
  obtain ⟨b, off, hA, hlt, hr⟩ := h k o hk
  exact ⟨b, off, hA, Nat.lt_of_lt_of_le hlt hb.size, fun j v hv => (hb.cell (p := ⟨b, off + k * 3 + j, none⟩) hlt).trans (hr j v hv)⟩
theorem L_one (s : S3) : s.L.toArray.all (·.oneCell') = true := all_oneCell_toArray (by simp [S3.L, S3.v, stepL, Value.oneCell'])
def zT : Array Value := #[.int .i64 0, .int .i64 0, .slice none 0 0]
theorem new_there (w : World) : (w.alloc (.cells zT 40)).there w.heap.size 0 3 := by
  intro j hj
  have hn := Go.heap_alloc_new w (.cells zT 40)
  rw [Nat.zero_add]
  refine ⟨?_, frozen_of_row _ _ j _ _ hn⟩
  rw [cell_of_row _ _ j _ _ _ hn]
  have e : j = 0 ∨ j = 1 ∨ j = 2 := by omega
  rcases e with e | e | e <;> subst e <;> rfl
theorem below_setCells {B : Nat} {w W : World} (h : Below B w W) {b : Nat} (hb : B ≤ b) : ∀ (vs : List Value) (o : Nat), Below B w (W.setCells b o vs)
  | vs, o => by
    induction vs generalizing W o with
    | nil => exact h
    | cons v r ih => exact ih (h.setCell hb v) _
theorem new_step (w : World) (s : S3) : TBox ((w.alloc (.cells zT 40)).setCells w.heap.size 0 s.L) w.heap.size s.kind s.node s.v ∧ Below w.heap.size w ((w.alloc (.cells zT 40)).setCells w.heap.size 0 s.L) := by
  have hb := below_setCells ((Below.refl w.heap.size w).alloc (Nat.le_refl _) (.cells zT 40)) (Nat.le_refl _) s.L 0
  refine ⟨⟨?_, ?_⟩, hb⟩
  · have hn := Go.heap_alloc_new w (.cells zT 40)
    show (((w.alloc (.cells zT 40)).setCell ⟨w.heap.size, 0, none⟩ (.int .i64 s.kind)).setCell ⟨w.heap.size, 0 + 1, none⟩ (.int .i64 s.node)).setCell ⟨w.heap.size, 0 + 1 + 1, none⟩ s.v |>.heap[w.heap.size]? = _
    rw [heap_setCell_same _ _ _ _ _ _ (heap_setCell_same _ _ _ _ _ _ (heap_setCell_same _ _ _ _ _ _ hn))]
    rfl
  · have h1 : w.heap.size < (w.alloc (.cells zT 40)).heap.size := by simp
    have h2 : ∀ (vs : List Value) (o : Nat) (W : World), (W.setCells w.heap.size o vs).heap.size = W.heap.size := by
      intro vs
      induction vs with
      | nil => intro o W; rfl
      | cons v r ih => intro o W; exact (ih (o + 1) _).trans (by simp)
    rw [h2]; exact h1
theorem same_now {kind node now : Int} (h3 : kind ≠ 3) : stepNow kind node now = now := if_neg h3
theorem same_c {nd kind node k c : Int} (hk : node ≠ k) : stepC nd kind node k c = c := if_neg (fun h => hk h.1)
theorem same_x {nd st bn kind node k now c x : Int} (hk : node ≠ k) : stepX nd st bn kind node k now c x = x := if_neg (fun h => hk h.1)
theorem now_range (kind node now : Int) (i : Nat) (h0 : 0 ≤ now) (h1 : now ≤ 1100 * (i : Int)) : 0 ≤ stepNow kind node now ∧ stepNow kind node now ≤ 1100 * ((i + 1 : Nat) : Int) := by
  have := tk_range node
  unfold stepNow
  split <;> omega
/-- both detectors, told at the node k -/
def Both (w : World) (B b1 b2 C c1 c2 i : Nat) (nd st bn k : Int) : Prop := ∃ now c x, At w B nd st bn now b1 b2 i k c x ∧ At w C nd st bn now c1 c2 i k c x ∧ 0 ≤ now ∧ now ≤ 1100 * (i : Int)
set_option maxRecDepth 100000 in
set_option maxHeartbeats 8000000 in
theorem law_apart (nd st bn k : Int) (A : Option Addr) (cp : Nat) (l : List S3) (w : World) (hr : StepsAt w A l) (hc : l.length ≤ cp) (hl : l.length ≤ 9223372036854775807) :
    Calls Try.prog 4 #[.agg (upV nd st bn), .slice A l.length cp, .int .i64 k] w fun e w' => e = .returned (.bool true) ∧ Below w.heap.size w w' := by
  obtain ⟨wz, rfl⟩ : ∃ w0 : World, w0 = w := ⟨_, rfl⟩
  have HS := Aside0.mk (sbox_new nd st bn wz)
  have HB0 := Aside0.mk ((Below.refl wz.heap.size wz).alloc (Nat.le_refl _) (.cells (upV nd st bn) 23))
  have HR := Aside0.mk hr
  clear hr
  have hrg := HS.out.range
  have hi : (Try.prog.info? 23).map (·.size) = some 3 := by kernel_rfl
  have hi3 : (Try.prog.info? 40).map (·.size) = some 3 := by kernel_rfl
  go_enter Try.func4, Try.ntmps4
  go_wp2_with ((with_reducible refine gate_load (ty := 23) (x := .tmp 3) rfl ?_); refine wpList_load_mid rfl 23 (.tmp 3) rfl wz.heap.size 0 rfl (upL nd st bn) _ hrg Try.underlying23 rfl hi ?_)
  clear hrg
  by_cases hf : Fits nd st bn
  · have HF := Aside0.mk hf
    clear hf
    refine (made_yes nd st bn _ HF.out).mono ?_
    rintro e w1 ⟨B, b1, b2, R1, rfl, hD, hb, l1, l2, l3, l4, _⟩
    have HB1 := Aside0.mk (HB0.out.trans (hb.mono HB0.out.size))
    have HS1 := Aside0.mk (HS.out.after hb)
    have hlt := HS.out.lt
    have HA : Aside0 (At w1 B nd st bn 0 b1 b2 0 k 0 0) := ⟨_, _, hD, rfl, rfl⟩
    have HL1 : Aside0 (wz.heap.size < B ∧ wz.heap.size < b1 ∧ wz.heap.size < b2) := ⟨by omega⟩
    clear hD hb l1 l2 l3 l4 hlt HS HB0
    have hrg := HS1.out.range
    go_wp2_with ((with_reducible refine gate_load (ty := 23) (x := .tmp 3) rfl ?_); refine wpList_load_mid rfl 23 (.tmp 3) rfl wz.heap.size 0 rfl (upL nd st bn) _ hrg Try.underlying23 rfl hi ?_)
    refine (made_yes nd st bn w1 HF.out).mono ?_
    rintro e w2 ⟨C, c1, c2, R2, rfl, hD, hb, l1, l2, l3, l4, _⟩
    have hown := at_own HA.out
    have HL2 : Aside0 ((wz.heap.size < C ∧ wz.heap.size < c1 ∧ wz.heap.size < c2) ∧ (¬ Own C c1 c2 B ∧ ¬ Own C c1 c2 b1 ∧ ¬ Own C c1 c2 b2) ∧ (¬ Own B b1 b2 C ∧ ¬ Own B b1 b2 c1 ∧ ¬ Own B b1 b2 c2)) := ⟨by have := HL1.out; unfold Own; omega⟩
    have HBO : Aside0 (Both w2 B b1 b2 C c1 c2 0 nd st bn k) := ⟨0, 0, 0, HA.out.after hb, ⟨_, _, hD, rfl, rfl⟩, Int.le_refl _, by omega⟩
    have HB2 := Aside0.mk (HB1.out.trans (hb.mono HB1.out.size))
    have HS2 := Aside0.mk (HS1.out.after hb)
    have HO1 : Aside0 (¬ Own B b1 b2 wz.heap.size ∧ ∀ x, Own B b1 b2 x → wz.heap.size ≤ x) := ⟨by have := HL1.out; unfold Own; omega, fun x hx => by have := HL1.out; unfold Own at hx; omega⟩
    have HO2 : Aside0 (¬ Own C c1 c2 wz.heap.size ∧ ∀ x, Own C c1 c2 x → wz.heap.size ≤ x) := ⟨by have := HL2.out.1; unfold Own; omega, fun x hx => by have := HL2.out.1; unfold Own at hx; omega⟩
    clear hD hb l1 l2 l3 l4 hown hrg HA HB1 HS1
    go_wp2
    go_loopw [15, 16, 17, 18, 19, 20] (fun iv _ _ _ _ _ wr => ∃ i : Nat, i ≤ l.length ∧ i ≤ 2000 ∧ iv = .int .i64 (i : Int) ∧ Aside0 (Both wr B b1 b2 C c1 c2 i nd st bn k) ∧ Aside0 (Below wz.heap.size wz wr) ∧ Aside0 (SBox wr wz.heap.size nd st bn)) (fun iv _ _ _ _ _ _ => 2001 - (intOf iv).toNat)
    case atStart => exact ⟨0, Nat.zero_le _, Nat.zero_le _, rfl, HBO, HB2, HS2⟩
    case round =>
      clear HBO HB2 HS2
      obtain ⟨i, hil, hi2, rfl, HBO, HB, HS⟩ := hrel
      obtain ⟨wo, rfl⟩ : ∃ wo : World, wo = wr := ⟨_, rfl⟩
      by_cases hlt : i < l.length ∧ i < 2000
      · obtain ⟨h1, h2⟩ := hlt
        obtain ⟨x, hx⟩ : ∃ x, l[i]? = some x := ⟨_, List.getElem?_eq_getElem h1⟩
        obtain ⟨b, off, rfl, hbl, hrg⟩ := HR.out.below HB.out i x hx
        have hth := new_there wo
        have h1c := L_one x
        obtain ⟨hnT, hnB⟩ := new_step wo x
        have hrg2 := hnT.range
        have HNT := Aside0.mk hnT
        have HNB := Aside0.mk hnB
        clear hnT hnB hx hbl
        unfold zT at hth hrg2 HNT HNB
        go_wp2_with (first | ((with_reducible refine gate_load (ty := 40) (x := .tmp 55) rfl ?_); refine wpList_load_mid rfl 40 (.tmp 55) rfl b (off + i * 3) rfl x.L _ hrg Try.underlying40 rfl hi3 ?_) | ((with_reducible refine gate_store (ty := 40) (x := .tmp 16) (y := .tmp 56) rfl ?_); refine wpList_store_mid rfl 40 (.tmp 16) (.tmp 56) rfl wo.heap.size 0 x.L.toArray rfl rfl hth hi3 h1c ?_) | ((with_reducible refine gate_load (ty := 40) (x := .tmp 16) rfl ?_); refine wpList_load_mid rfl 40 (.tmp 16) rfl wo.heap.size 0 rfl x.L _ hrg2 Try.underlying40 rfl hi3 ?_))
        generalize ((wo.alloc (Obj.cells #[Value.int IntKind.i64 0, Value.int IntKind.i64 0, Value.slice none 0 0] 40)).setCells wo.heap.size 0 x.L) = w3 at HNT HNB hrg2 ⊢
        obtain ⟨now, c, xx, hA, hC, hn0, hn1⟩ := HBO.out
        have hown := at_own hA
        have hown2 := at_own hC
        have HNS : Aside0 (¬ Own B b1 b2 wo.heap.size ∧ ¬ Own C c1 c2 wo.heap.size) := ⟨by unfold Own; omega⟩
        have HA3 := Aside0.mk (hA.after HNB.out)
        have HC3 := Aside0.mk (hC.after HNB.out)
        have HBW3 := Aside0.mk (HB.out.trans (HNB.out.mono HB.out.size))
        have HS3 := Aside0.mk (HS.out.after HNB.out)
        clear hA hC hown hown2 hrg hth h1c hrg2 HBO HB HS HNB
        refine (drive_at x.kind x.node x.v HA3.out (by omega) hn0 (by omega)).mono ?_
        rintro e w4 ⟨rfl, hA, hK⟩
        have HA4 := Aside0.mk hA
        have HC4 := Aside0.mk (at_kept HC3.out hK HL2.out.2.2)
        have HT4 := Aside0.mk (HNT.out.kept hK HNS.out.1)
        have HS4 := Aside0.mk (HS3.out.kept hK HO1.out.1)
        have HBW4 := Aside0.mk (HBW3.out.trans (hK.below (B := wz.heap.size) HO1.out.2 HBW3.out.size))
        clear hA hK HA3 HC3 HNT HS3 HBW3
        obtain ⟨kd, nn, sa, sl, sc⟩ := x
        simp only [] at HA4 HT4
        have hc0 := HT4.out.c0
        have hc1 := HT4.out.c1
        have hrg := HT4.out.range
        by_cases hsel : kd = 3 ∨ nn = k
        · have HSEL := Aside0.mk hsel
          have hsb : (kd == 3) = true ∨ ((kd == 3) = false ∧ (nn == k) = true) := by
            by_cases e : kd = 3
            · exact .inl (beq_iff_eq.2 e)
            · exact .inr ⟨beq_eq_false_iff_ne.2 e, beq_iff_eq.2 (hsel.resolve_left e)⟩
          clear hsel
          have hgo : True := trivial
          rcases hsb with q1 | ⟨q1, q2⟩
          · go_wp2_with ((with_reducible refine gate_load (ty := 40) (x := .tmp 16) rfl ?_); refine wpList_load_mid rfl 40 (.tmp 16) rfl wo.heap.size 0 rfl (stepL kd nn (.slice sa sl sc)) _ hrg Try.underlying40 rfl hi3 ?_)
            refine (drive_at kd nn (.slice sa sl sc) HC4.out (by omega) hn0 (by omega)).mono ?_
            rintro e w5 ⟨rfl, hC, hK⟩
            have HC5 := Aside0.mk hC
            have HA5 := Aside0.mk (at_kept HA4.out hK HL2.out.2.1)
            have HS5 := Aside0.mk (HS4.out.kept hK HO2.out.1)
            have HBW5 := Aside0.mk (HBW4.out.trans (hK.below (B := wz.heap.size) HO2.out.2 HBW4.out.size))
            clear hC hK HA4 HC4 HT4 HS4 HBW4 hc0 hc1
            have HBO6 : Aside0 (∀ w6, Below w5.heap.size w5 w6 → Both w6 B b1 b2 C c1 c2 (i + 1) nd st bn k) := ⟨fun w6 hb => ⟨_, _, _, HA5.out.after hb, HC5.out.after hb, (now_range kd nn now i hn0 hn1).1, (now_range kd nn now i hn0 hn1).2⟩⟩
            have ka := at_ask HA5.out
            obtain ⟨bb, hbb⟩ : ∃ bb, bb = decide ((0 ≤ k ∧ k < nd) ∧ stepNow kd nn now < stepX nd st bn kd nn k now c xx) := ⟨_, rfl⟩
            obtain ⟨ee, hee⟩ : ∃ ee, ee = errOf nd k := ⟨_, rfl⟩
            rw [← hbb, ← hee] at ka
            have KA := Aside0.mk ka
            have HBB := Lib.hid hbb
            have HEE := Lib.hid hee
            clear hrg ka hbb hee
            go_wp2_with fail
            refine KA.out.mono ?_
            rintro e w6 ⟨rfl, hb6⟩
            have HB6 := Aside0.mk hb6
            have HC6 := Aside0.mk (HC5.out.after hb6)
            clear hb6
            have kc := at_ask HC6.out
            rw [← HBB.out, ← HEE.out] at kc
            have KC := Aside0.mk kc
            clear kc
            go_wp2_with fail
            refine KC.out.mono ?_
            rintro e w7 ⟨rfl, hb7⟩
            have HB7 := Aside0.mk (below_then HB6.out HB6.out.size hb7)
            have HBW7 := Aside0.mk (HBW5.out.trans (HB7.out.mono HBW5.out.size))
            have HS7 := Aside0.mk (HS5.out.after HB7.out)
            have HBO7 := Aside0.mk (HBO6.out w7 HB7.out)
            clear hb7
            go_wp2_with (go_at_call 11; refine (num_any _ _).mono ?_; rintro e w' ⟨rfl, rfl⟩)
            go_roundw
            case rel => exact ⟨i + 1, by omega, by omega, by go_num, HBO7, HBW7, HS7⟩
            case measure => simp [intOf]; omega
          · go_wp2_with ((with_reducible refine gate_load (ty := 40) (x := .tmp 16) rfl ?_); refine wpList_load_mid rfl 40 (.tmp 16) rfl wo.heap.size 0 rfl (stepL kd nn (.slice sa sl sc)) _ hrg Try.underlying40 rfl hi3 ?_)
            refine (drive_at kd nn (.slice sa sl sc) HC4.out (by omega) hn0 (by omega)).mono ?_
            rintro e w5 ⟨rfl, hC, hK⟩
            have HC5 := Aside0.mk hC
            have HA5 := Aside0.mk (at_kept HA4.out hK HL2.out.2.1)
            have HS5 := Aside0.mk (HS4.out.kept hK HO2.out.1)
            have HBW5 := Aside0.mk (HBW4.out.trans (hK.below (B := wz.heap.size) HO2.out.2 HBW4.out.size))
            clear hC hK HA4 HC4 HT4 HS4 HBW4 hc0 hc1
            have HBO6 : Aside0 (∀ w6, Below w5.heap.size w5 w6 → Both w6 B b1 b2 C c1 c2 (i + 1) nd st bn k) := ⟨fun w6 hb => ⟨_, _, _, HA5.out.after hb, HC5.out.after hb, (now_range kd nn now i hn0 hn1).1, (now_range kd nn now i hn0 hn1).2⟩⟩
            have ka := at_ask HA5.out
            obtain ⟨bb, hbb⟩ : ∃ bb, bb = decide ((0 ≤ k ∧ k < nd) ∧ stepNow kd nn now < stepX nd st bn kd nn k now c xx) := ⟨_, rfl⟩
            obtain ⟨ee, hee⟩ : ∃ ee, ee = errOf nd k := ⟨_, rfl⟩
            rw [← hbb, ← hee] at ka
            have KA := Aside0.mk ka
            have HBB := Lib.hid hbb
            have HEE := Lib.hid hee
            clear hrg ka hbb hee
            go_wp2_with fail
            refine KA.out.mono ?_
            rintro e w6 ⟨rfl, hb6⟩
            have HB6 := Aside0.mk hb6
            have HC6 := Aside0.mk (HC5.out.after hb6)
            clear hb6
            have kc := at_ask HC6.out
            rw [← HBB.out, ← HEE.out] at kc
            have KC := Aside0.mk kc
            clear kc
            go_wp2_with fail
            refine KC.out.mono ?_
            rintro e w7 ⟨rfl, hb7⟩
            have HB7 := Aside0.mk (below_then HB6.out HB6.out.size hb7)
            have HBW7 := Aside0.mk (HBW5.out.trans (HB7.out.mono HBW5.out.size))
            have HS7 := Aside0.mk (HS5.out.after HB7.out)
            have HBO7 := Aside0.mk (HBO6.out w7 HB7.out)
            clear hb7
            go_wp2_with (go_at_call 11; refine (num_any _ _).mono ?_; rintro e w' ⟨rfl, rfl⟩)
            go_roundw
            case rel => exact ⟨i + 1, by omega, by omega, by go_num, HBO7, HBW7, HS7⟩
            case measure => simp [intOf]; omega
        · have g3 : kd ≠ 3 := fun h => hsel (.inl h)
          have gk : nn ≠ k := fun h => hsel (.inr h)
          have q1 : (kd == 3) = false := beq_eq_false_iff_ne.2 g3
          have q2 : (nn == k) = false := beq_eq_false_iff_ne.2 gk
          have HC5 : Aside0 (At w4 C nd st bn (stepNow kd nn now) c1 c2 (i + 1) k (stepC nd kd nn k c) (stepX nd st bn kd nn k now c xx)) := ⟨by rw [same_now g3, same_c gk, same_x gk]; exact at_mono HC4.out (Nat.le_succ i)⟩
          have HA5 := HA4
          have HS5 := HS4
          have HBW5 := HBW4
          clear hsel g3 gk HA4 HC4 HT4 HS4 HBW4
          obtain ⟨w5, rfl⟩ : ∃ w5, w5 = w4 := ⟨_, rfl⟩
          have HBO6 : Aside0 (∀ w6, Below w5.heap.size w5 w6 → Both w6 B b1 b2 C c1 c2 (i + 1) nd st bn k) := ⟨fun w6 hb => ⟨_, _, _, HA5.out.after hb, HC5.out.after hb, (now_range kd nn now i hn0 hn1).1, (now_range kd nn now i hn0 hn1).2⟩⟩
          have ka := at_ask HA5.out
          obtain ⟨bb, hbb⟩ : ∃ bb, bb = decide ((0 ≤ k ∧ k < nd) ∧ stepNow kd nn now < stepX nd st bn kd nn k now c xx) := ⟨_, rfl⟩
          obtain ⟨ee, hee⟩ : ∃ ee, ee = errOf nd k := ⟨_, rfl⟩
          rw [← hbb, ← hee] at ka
          have KA := Aside0.mk ka
          have HBB := Lib.hid hbb
          have HEE := Lib.hid hee
          clear hrg ka hbb hee
          go_wp2_with fail
          refine KA.out.mono ?_
          rintro e w6 ⟨rfl, hb6⟩
          have HB6 := Aside0.mk hb6
          have HC6 := Aside0.mk (HC5.out.after hb6)
          clear hb6
          have kc := at_ask HC6.out
          rw [← HBB.out, ← HEE.out] at kc
          have KC := Aside0.mk kc
          clear kc
          go_wp2_with fail
          refine KC.out.mono ?_
          rintro e w7 ⟨rfl, hb7⟩
          have HB7 := Aside0.mk (below_then HB6.out HB6.out.size hb7)
          have HBW7 := Aside0.mk (HBW5.out.trans (HB7.out.mono HBW5.out.size))
          have HS7 := Aside0.mk (HS5.out.after HB7.out)
          have HBO7 := Aside0.mk (HBO6.out w7 HB7.out)
          clear hb7
          go_wp2_with (go_at_call 11; refine (num_any _ _).mono ?_; rintro e w' ⟨rfl, rfl⟩)
          go_roundw
          case rel => exact ⟨i + 1, by omega, by omega, by go_num, HBO7, HBW7, HS7⟩
          case measure => simp [intOf]; omega
      · obtain ⟨now, c, xx, hA, hC, hn0, hn1⟩ := HBO.out
        have HAX := Aside0.mk hA
        have hc0 := HS.out.c0
        clear hA hC HBO hn0 hn1
        by_cases g1 : i < l.length
        · have g2 : ¬ i < 2000 := fun h => hlt ⟨g1, h⟩
          clear hlt
          by_cases k0 : 0 ≤ k
          · by_cases k1 : k < nd
            · have hE : errOf nd k = 0 := if_pos ⟨k0, k1⟩
              have ka := at_ask HAX.out
              rw [hE] at ka
              generalize decide ((0 ≤ k ∧ k < nd) ∧ now < xx) = bb at ka
              have KA := Aside0.mk ka
              clear ka hE
              go_wp2_with fail
              refine KA.out.mono ?_
              rintro e w6 ⟨rfl, hb6⟩
              have HB6 := Aside0.mk (HB.out.trans (hb6.mono HB.out.size))
              clear hb6
              go_wp2_with (go_at_call 11; refine (num_any _ _).mono ?_; rintro e w' ⟨rfl, rfl⟩)
              go_ret
              exact ⟨rfl, HB6.out⟩
            · have hE : errOf nd k = 68 := if_neg (fun h => k1 h.2)
              have ka := at_ask HAX.out
              rw [hE] at ka
              generalize decide ((0 ≤ k ∧ k < nd) ∧ now < xx) = bb at ka
              have KA := Aside0.mk ka
              clear ka hE
              go_wp2_with fail
              refine KA.out.mono ?_
              rintro e w6 ⟨rfl, hb6⟩
              have HB6 := Aside0.mk (HB.out.trans (hb6.mono HB.out.size))
              clear hb6
              go_wp2_with (go_at_call 11; refine (num_any _ _).mono ?_; rintro e w' ⟨rfl, rfl⟩)
              go_ret
              exact ⟨rfl, HB6.out⟩
          · have hE : errOf nd k = 68 := if_neg (fun h => k0 h.1)
            have ka := at_ask HAX.out
            rw [hE] at ka
            generalize decide ((0 ≤ k ∧ k < nd) ∧ now < xx) = bb at ka
            have KA := Aside0.mk ka
            clear ka hE
            go_wp2_with fail
            refine KA.out.mono ?_
            rintro e w6 ⟨rfl, hb6⟩
            have HB6 := Aside0.mk (HB.out.trans (hb6.mono HB.out.size))
            clear hb6
            go_wp2_with (go_at_call 11; refine (num_any _ _).mono ?_; rintro e w' ⟨rfl, rfl⟩)
            go_ret
            exact ⟨rfl, HB6.out⟩
        · clear hlt
          by_cases k0 : 0 ≤ k
          · by_cases k1 : k < nd
            · have hE : errOf nd k = 0 := if_pos ⟨k0, k1⟩
              have ka := at_ask HAX.out
              rw [hE] at ka
              generalize decide ((0 ≤ k ∧ k < nd) ∧ now < xx) = bb at ka
              have KA := Aside0.mk ka
              clear ka hE
              go_wp2_with fail
              refine KA.out.mono ?_
              rintro e w6 ⟨rfl, hb6⟩
              have HB6 := Aside0.mk (HB.out.trans (hb6.mono HB.out.size))
              clear hb6
              go_wp2_with (go_at_call 11; refine (num_any _ _).mono ?_; rintro e w' ⟨rfl, rfl⟩)
              go_ret
              exact ⟨rfl, HB6.out⟩
            · have hE : errOf nd k = 68 := if_neg (fun h => k1 h.2)
              have ka := at_ask HAX.out
              rw [hE] at ka
              generalize decide ((0 ≤ k ∧ k < nd) ∧ now < xx) = bb at ka
              have KA := Aside0.mk ka
              clear ka hE
              go_wp2_with fail
              refine KA.out.mono ?_
              rintro e w6 ⟨rfl, hb6⟩
              have HB6 := Aside0.mk (HB.out.trans (hb6.mono HB.out.size))
              clear hb6
              go_wp2_with (go_at_call 11; refine (num_any _ _).mono ?_; rintro e w' ⟨rfl, rfl⟩)
              go_ret
              exact ⟨rfl, HB6.out⟩
          · have hE : errOf nd k = 68 := if_neg (fun h => k0 h.1)
            have ka := at_ask HAX.out
            rw [hE] at ka
            generalize decide ((0 ≤ k ∧ k < nd) ∧ now < xx) = bb at ka
            have KA := Aside0.mk ka
            clear ka hE
            go_wp2_with fail
            refine KA.out.mono ?_
            rintro e w6 ⟨rfl, hb6⟩
            have HB6 := Aside0.mk (HB.out.trans (hb6.mono HB.out.size))
            clear hb6
            go_wp2_with (go_at_call 11; refine (num_any _ _).mono ?_; rintro e w' ⟨rfl, rfl⟩)
            go_ret
            exact ⟨rfl, HB6.out⟩
  · have HF := Aside0.mk hf
    clear hf
    refine (made_no nd st bn _ HF.out).mono ?_
    rintro e w1 ⟨rfl, hb⟩
    have HB1 := Aside0.mk (HB0.out.trans (hb.mono HB0.out.size))
    clear hb
    go_wp2
    go_ret
    exact ⟨rfl, HB1.out⟩
end Go.Proofs.Ytbheegamibdbhaa.Apart
