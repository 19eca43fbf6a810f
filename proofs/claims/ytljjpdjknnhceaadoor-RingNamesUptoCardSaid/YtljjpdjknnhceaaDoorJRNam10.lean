/- Joined texts of this claim: FileN, Mids -/
import Derived.Test.YtljjpdjknnhceaaDoorJRNam7
import Derived.Test.YtljjpdjknnhceaaDoorJRNam4
import Derived.Test.YtljjpdjknnhceaaDoorJRNam9
import Derived.Deep.QuietTactic
import Derived.BigQuiet
import Derived.Laws.Concat
import Derived.Test.YtljjpdjknnhceaaDoorJRNam5
import Derived.Deep.MidRow
set_option linter.unusedVariables false
set_option linter.unusedSimpArgs false
/- FileName of the ring and of the document. -/
set_option linter.unusedVariables false
set_option linter.unusedSimpArgs false
namespace Go.Proofs.YtljjpdjknnhceaaDoor.FileN
open Go.RowKit Go.Proofs.YtljjpdjknnhceaaDoorW.PrintWords Go.Proofs.YtljjpdjknnhceaaDoorW.PrintLast Go.Proofs.YtljjpdjknnhceaaDoorW.PrintMore
open Go.Lib Go.Proofs.YtljjpdjknnhceaaDoor.Base Go.Proofs.YtljjpdjknnhceaaDoor.NumPure Go.Proofs.YtljjpdjknnhceaaDoor.CutPure Go.Proofs.YtljjpdjknnhceaaDoor.NamePure Go.Proofs.YtljjpdjknnhceaaDoor.Sort
structure FI where mk ::
  (p r c : Int) (d : Bool)
def fV (f : FI) : Value := .agg #[.int .i64 f.p, .int .i64 f.r, .int .i64 f.c, .bool f.d]
def okF (f : FI) : Bool := wiB f.p 0 63 && wiB f.r 0 15 && wiB f.c 0 15
def toF (f : FI) : Fl := ⟨f.p.toNat, f.r.toNat, f.c.toNat, f.d⟩
def nameF (f : FI) : ByteArray := if okF f = true then ⟨(fileN (toF f)).toArray⟩ else ⟨#[]⟩
def errF (f : FI) : Int := if okF f = true then 0 else 1
theorem wi_yes {n l m : Int} (h1 : l ≤ n) (h2 : n ≤ m) : wiB n l m = true := by unfold wiB; rw [decide_eq_true h1, decide_eq_true h2]; rfl
theorem wi_lo {n l m : Int} (h1 : n < l) : wiB n l m = false := by unfold wiB; rw [decide_eq_false (by omega)]; rfl
theorem wi_hi {n l m : Int} (h1 : m < n) : wiB n l m = false := by unfold wiB; rw [show decide (n ≤ m) = false from decide_eq_false (by omega)]; simp
theorem out_p {f : FI} (h : wiB f.p 0 63 = false) : nameF f = ⟨#[]⟩ ∧ errF f = 1 := by
  have e : okF f = false := by unfold okF; rw [h]; rfl
  unfold nameF errF; rw [e]; exact ⟨rfl, rfl⟩
theorem out_r {f : FI} (h : wiB f.r 0 15 = false) : nameF f = ⟨#[]⟩ ∧ errF f = 1 := by
  have e : okF f = false := by unfold okF; rw [h]; simp
  unfold nameF errF; rw [e]; exact ⟨rfl, rfl⟩
theorem out_c {f : FI} (h : wiB f.c 0 15 = false) : nameF f = ⟨#[]⟩ ∧ errF f = 1 := by
  have e : okF f = false := by unfold okF; rw [h]; simp
  unfold nameF errF; rw [e]; exact ⟨rfl, rfl⟩
theorem in_f {f : FI} (hp : wiB f.p 0 63 = true) (hr : wiB f.r 0 15 = true) (hc : wiB f.c 0 15 = true) : nameF f = ⟨(fileN (toF f)).toArray⟩ ∧ errF f = 0 := by
  have e : okF f = true := by unfold okF; rw [hp, hr, hc]; rfl
  unfold nameF errF; rw [e]; exact ⟨rfl, rfl⟩
theorem app_arr (a b : List UInt8) : (⟨a.toArray⟩ : ByteArray) ++ ⟨b.toArray⟩ = ⟨(a ++ b).toArray⟩ := by
  apply ByteArray.ext
  simp
theorem name_join (p r c : Nat) (e : List UInt8) : (((((⟨(decDigits p).toArray⟩ : ByteArray) ++ ⟨#[95]⟩) ++ ⟨(decDigits r).toArray⟩) ++ ⟨#[95]⟩) ++ ⟨(decDigits c).toArray⟩) ++ ⟨(46 :: e).toArray⟩ = ⟨((decDigits p ++ 95 :: (decDigits r ++ 95 :: decDigits c)) ++ 46 :: e).toArray⟩ := by
  rw [show (⟨#[95]⟩ : ByteArray) = ⟨([95] : List UInt8).toArray⟩ from rfl]
  simp only [app_arr, List.append_assoc, List.cons_append, List.nil_append]
def FilePost (f : FI) (w : World) (e : Ending) (w' : World) : Prop := e = .returned (.tuple #[.string (nameF f), .int .i64 (errF f)]) ∧ Below w.heap.size w w'
theorem post_out {f : FI} {w w' : World} (h : nameF f = ⟨#[]⟩ ∧ errF f = 1) (hb : Below w.heap.size w w') : FilePost f w (.returned (.tuple #[.string ⟨#[]⟩, .int .i64 1])) w' := ⟨by rw [h.1, h.2], hb⟩
theorem post_in {f : FI} {w w' : World} {s : ByteArray} (h : nameF f = ⟨(fileN (toF f)).toArray⟩ ∧ errF f = 0) (hs : s = ⟨(fileN (toF f)).toArray⟩) (hb : Below w.heap.size w w') : FilePost f w (.returned (.tuple #[.string s, .int .i64 0])) w' := ⟨by rw [h.1, h.2, hs], hb⟩
theorem itoa_at (n : Int) (h0 : 0 ≤ n) (h1 : n < 100) (w : World) : Calls Tryd.prog 66 #[.int .i64 n] w fun e w' => e = .returned (.string ⟨(decDigits n.toNat).toArray⟩) ∧ w' = w := by
  have := Tryd.strconv_Itoa_small n.toNat (by omega) w
  rw [show ((n.toNat : Nat) : Int) = n by omega] at this
  exact this
structure FB (w : World) (l : Array Value) (W : World) : Prop where mk ::
  (row : W.heap[w.heap.size]? = some (.cells l 70 (0, 0))) (bel : Below w.heap.size w W)
theorem fb_of {w W : World} {l : Array Value} (hb : Below (w.heap.size + 1) (w.alloc (.cells l 70)) W) : FB w l W :=
  ⟨(hb.block _ (by omega)).trans (Go.heap_alloc_new w _), ((Below.refl _ _).alloc (Nat.le_refl _) _).trans (hb.mono (by omega))⟩
theorem wp_world {P : Program} {code : Code} {post : Exit → Act → World → Prop} {act : Act} {w0 : World} {S : World → Prop} (h : S w0) (k : ∀ W, Aside0 (S W) → Code.wp P code post act W) : Code.wp P code post act w0 := k w0 ⟨h⟩
theorem add_name (x y : ByteArray) (n m : Nat) (hx : x.size ≤ n) (hy : y.size ≤ m) (hn : n + m ≤ 1000) : ∃ z : ByteArray, (∀ W : World, Sem.run Tryd.prog (Op.stringOp .add x y) W = .ok (.string z) W) ∧ z = x ++ y ∧ z.size ≤ n + m := by
  refine ⟨x ++ y, fun W => run_string_add_sum W x y (by omega), rfl, ?_⟩
  rw [ByteArray.size_append]
  omega
theorem itoa_name (n : Int) (h0 : 0 ≤ n) (h1 : n ≤ 63) : ∃ z : ByteArray, (∀ W : World, Aside0 (Calls Tryd.prog 66 #[.int .i64 n] W fun e w' => e = .returned (.string z) ∧ w' = W)) ∧ z = ⟨(decDigits n.toNat).toArray⟩ ∧ z.size ≤ 2 :=
  ⟨_, fun W => ⟨itoa_at n h0 (by omega) W⟩, rfl, by have := dec_short n.toNat (by omega); simpa [ByteArray.size] using this⟩
set_option maxRecDepth 100000 in
set_option maxHeartbeats 4000000 in
theorem ref_any (f : FI) (w : World) : Calls Tryd.prog 34 #[fV f] w (FilePost f w) := by
  obtain ⟨p, r, c, d⟩ := f
  unfold fV
  by_cases hp0 : p < 0
  · have HO := Aside0.mk (out_p (f := ⟨p, r, c, d⟩) (wi_lo hp0))
    have hw := wi_lo (m := 63) hp0
    go_enter Tryd.func34, Tryd.ntmps34
    go_wp2_with fail
    go_ret2
    exact post_out HO.out ((Below.refl _ _).alloc (Nat.le_refl _) _)
  by_cases hp1 : 63 < p
  · have HO := Aside0.mk (out_p (f := ⟨p, r, c, d⟩) (wi_hi hp1))
    have hw := wi_hi (l := 0) hp1
    go_enter Tryd.func34, Tryd.ntmps34
    go_wp2_with fail
    go_ret2
    exact post_out HO.out ((Below.refl _ _).alloc (Nat.le_refl _) _)
  have hwp := wi_yes (n := p) (l := 0) (m := 63) (by omega) (by omega)
  by_cases hr0 : r < 0
  · have HO := Aside0.mk (out_r (f := ⟨p, r, c, d⟩) (wi_lo hr0))
    have hw := wi_lo (m := 15) hr0
    go_enter Tryd.func34, Tryd.ntmps34
    go_wp2_with fail
    go_ret2
    exact post_out HO.out ((Below.refl _ _).alloc (Nat.le_refl _) _)
  by_cases hr1 : 15 < r
  · have HO := Aside0.mk (out_r (f := ⟨p, r, c, d⟩) (wi_hi hr1))
    have hw := wi_hi (l := 0) hr1
    go_enter Tryd.func34, Tryd.ntmps34
    go_wp2_with fail
    go_ret2
    exact post_out HO.out ((Below.refl _ _).alloc (Nat.le_refl _) _)
  have hwr := wi_yes (n := r) (l := 0) (m := 15) (by omega) (by omega)
  by_cases hc0 : c < 0
  · have HO := Aside0.mk (out_c (f := ⟨p, r, c, d⟩) (wi_lo hc0))
    have hw := wi_lo (m := 15) hc0
    go_enter Tryd.func34, Tryd.ntmps34
    go_wp2_with fail
    go_ret2
    exact post_out HO.out ((Below.refl _ _).alloc (Nat.le_refl _) _)
  by_cases hc1 : 15 < c
  · have HO := Aside0.mk (out_c (f := ⟨p, r, c, d⟩) (wi_hi hc1))
    have hw := wi_hi (l := 0) hc1
    go_enter Tryd.func34, Tryd.ntmps34
    go_wp2_with fail
    go_ret2
    exact post_out HO.out ((Below.refl _ _).alloc (Nat.le_refl _) _)
  have hwc := wi_yes (n := c) (l := 0) (m := 15) (by omega) (by omega)
  have HI := Aside0.mk (in_f (f := ⟨p, r, c, d⟩) hwp hwr hwc)
  obtain ⟨ps, hp, ep, lp⟩ := itoa_name p (by omega) (by omega)
  obtain ⟨rs, hr, er, lr⟩ := itoa_name r (by omega) (by omega)
  obtain ⟨cs, hc, ec, lc⟩ := itoa_name c (by omega) (by omega)
  have l95 : (⟨#[95]⟩ : ByteArray).size ≤ 1 := by decide
  obtain ⟨s1, k1, e1, l1⟩ := add_name ps ⟨#[95]⟩ 2 1 lp l95 (by decide)
  obtain ⟨s2, k2, e2, l2⟩ := add_name s1 rs _ 2 l1 lr (by decide)
  obtain ⟨s3, k3, e3, l3⟩ := add_name s2 ⟨#[95]⟩ _ 1 l2 l95 (by decide)
  obtain ⟨s4, k4, e4, l4⟩ := add_name s3 cs _ 2 l3 lc (by decide)
  obtain ⟨s5, k5, e5, l5⟩ := add_name s4 ⟨#[46, 105, 110, 100, 101, 120]⟩ _ 6 l4 (by decide) (by omega)
  obtain ⟨s6, k6, e6, l6⟩ := add_name s4 ⟨#[46, 100, 97, 116, 97]⟩ _ 5 l4 (by decide) (by omega)
  have E5 : Aside0 (s5 = ⟨(fileN (toF ⟨p, r, c, false⟩)).toArray⟩) := ⟨by rw [e5, e4, e3, e2, e1, ep, er, ec]; exact name_join p.toNat r.toNat c.toNat indexW⟩
  have E6 : Aside0 (s6 = ⟨(fileN (toF ⟨p, r, c, true⟩)).toArray⟩) := ⟨by rw [e6, e4, e3, e2, e1, ep, er, ec]; exact name_join p.toNat r.toNat c.toNat dataW⟩
  clear e6 e5 e4 e3 e2 e1 ep er ec l6 l5 l4 l3 l2 l1 l95 lp lr lc
  cases d
  · clear k6 E6
    go_enter Tryd.func34, Tryd.ntmps34
    go_wp2_with fail
    go_quiet ((go_at_call 66; first | exact Calls.quiet_of_same (hp _).out | exact Calls.quiet_of_same (hr _).out | exact Calls.quiet_of_same (hc _).out | exact quiet_add_same (hp _).out | exact quiet_add_same (hr _).out | exact quiet_add_same (hc _).out))
    go_wp2
    go_ret2
    exact post_in HI.out E5.out (pw_below_drewN ((Below.refl _ _).alloc (Nat.le_refl _) _) _)
  · clear k5 E5
    go_enter Tryd.func34, Tryd.ntmps34
    go_wp2_with fail
    go_quiet ((go_at_call 66; first | exact Calls.quiet_of_same (hp _).out | exact Calls.quiet_of_same (hr _).out | exact Calls.quiet_of_same (hc _).out | exact quiet_add_same (hp _).out | exact quiet_add_same (hr _).out | exact quiet_add_same (hc _).out))
    go_wp2
    go_ret2
    exact post_in HI.out E6.out (pw_below_drewN ((Below.refl _ _).alloc (Nat.le_refl _) _) _)
set_option maxRecDepth 100000 in
set_option maxHeartbeats 4000000 in
theorem file_any (f : FI) (w : World) : Calls Tryd.prog 33 #[fV f] w (FilePost f w) := by
  obtain ⟨p, r, c, d⟩ := f
  unfold fV
  by_cases hp0 : p < 0
  · have HO := Aside0.mk (out_p (f := ⟨p, r, c, d⟩) (wi_lo hp0))
    have hw := wi_lo (m := 63) hp0
    go_enter Tryd.func33, Tryd.ntmps33
    go_wp2_with (go_at_call 50; refine (within_any _ _ _ _).mono ?_; rintro e w' ⟨rfl, ⟨⟨m1, rfl⟩⟩⟩)
    go_ret2
    exact post_out HO.out (pw_below_drewN ((Below.refl _ _).alloc (Nat.le_refl _) _) _)
  by_cases hp1 : 63 < p
  · have HO := Aside0.mk (out_p (f := ⟨p, r, c, d⟩) (wi_hi hp1))
    have hw := wi_hi (l := 0) hp1
    go_enter Tryd.func33, Tryd.ntmps33
    go_wp2_with (go_at_call 50; refine (within_any _ _ _ _).mono ?_; rintro e w' ⟨rfl, ⟨⟨m1, rfl⟩⟩⟩)
    go_ret2
    exact post_out HO.out (pw_below_drewN ((Below.refl _ _).alloc (Nat.le_refl _) _) _)
  have hwp := wi_yes (n := p) (l := 0) (m := 63) (by omega) (by omega)
  by_cases hr0 : r < 0
  · have HO := Aside0.mk (out_r (f := ⟨p, r, c, d⟩) (wi_lo hr0))
    have hw := wi_lo (m := 15) hr0
    go_enter Tryd.func33, Tryd.ntmps33
    go_wp2_with (go_at_call 50; refine (within_any _ _ _ _).mono ?_; rintro e w' ⟨rfl, ⟨⟨m1, rfl⟩⟩⟩)
    go_ret2
    exact post_out HO.out (pw_below_drewN ((Below.refl _ _).alloc (Nat.le_refl _) _) _)
  by_cases hr1 : 15 < r
  · have HO := Aside0.mk (out_r (f := ⟨p, r, c, d⟩) (wi_hi hr1))
    have hw := wi_hi (l := 0) hr1
    go_enter Tryd.func33, Tryd.ntmps33
    go_wp2_with (go_at_call 50; refine (within_any _ _ _ _).mono ?_; rintro e w' ⟨rfl, ⟨⟨m1, rfl⟩⟩⟩)
    go_ret2
    exact post_out HO.out (pw_below_drewN ((Below.refl _ _).alloc (Nat.le_refl _) _) _)
  have hwr := wi_yes (n := r) (l := 0) (m := 15) (by omega) (by omega)
  by_cases hc0 : c < 0
  · have HO := Aside0.mk (out_c (f := ⟨p, r, c, d⟩) (wi_lo hc0))
    have hw := wi_lo (m := 15) hc0
    go_enter Tryd.func33, Tryd.ntmps33
    go_wp2_with (go_at_call 50; refine (within_any _ _ _ _).mono ?_; rintro e w' ⟨rfl, ⟨⟨m1, rfl⟩⟩⟩)
    go_ret2
    exact post_out HO.out (pw_below_drewN ((Below.refl _ _).alloc (Nat.le_refl _) _) _)
  by_cases hc1 : 15 < c
  · have HO := Aside0.mk (out_c (f := ⟨p, r, c, d⟩) (wi_hi hc1))
    have hw := wi_hi (l := 0) hc1
    go_enter Tryd.func33, Tryd.ntmps33
    go_wp2_with (go_at_call 50; refine (within_any _ _ _ _).mono ?_; rintro e w' ⟨rfl, ⟨⟨m1, rfl⟩⟩⟩)
    go_ret2
    exact post_out HO.out (pw_below_drewN ((Below.refl _ _).alloc (Nat.le_refl _) _) _)
  have hwc := wi_yes (n := c) (l := 0) (m := 15) (by omega) (by omega)
  have HI := Aside0.mk (in_f (f := ⟨p, r, c, d⟩) hwp hwr hwc)
  obtain ⟨ps, hp, ep, lp⟩ := itoa_name p (by omega) (by omega)
  obtain ⟨rs, hr, er, lr⟩ := itoa_name r (by omega) (by omega)
  obtain ⟨cs, hc, ec, lc⟩ := itoa_name c (by omega) (by omega)
  have l95 : (⟨#[95]⟩ : ByteArray).size ≤ 1 := by decide
  obtain ⟨s1, k1, e1, l1⟩ := add_name ps ⟨#[95]⟩ 2 1 lp l95 (by decide)
  obtain ⟨s2, k2, e2, l2⟩ := add_name s1 rs _ 2 l1 lr (by decide)
  obtain ⟨s3, k3, e3, l3⟩ := add_name s2 ⟨#[95]⟩ _ 1 l2 l95 (by decide)
  obtain ⟨s4, k4, e4, l4⟩ := add_name s3 cs _ 2 l3 lc (by decide)
  obtain ⟨s5, k5, e5, l5⟩ := add_name s4 ⟨#[46, 105, 110, 100, 101, 120]⟩ _ 6 l4 (by decide) (by omega)
  obtain ⟨s6, k6, e6, l6⟩ := add_name s4 ⟨#[46, 100, 97, 116, 97]⟩ _ 5 l4 (by decide) (by omega)
  have E5 : Aside0 (s5 = ⟨(fileN (toF ⟨p, r, c, false⟩)).toArray⟩) := ⟨by rw [e5, e4, e3, e2, e1, ep, er, ec]; exact name_join p.toNat r.toNat c.toNat indexW⟩
  have E6 : Aside0 (s6 = ⟨(fileN (toF ⟨p, r, c, true⟩)).toArray⟩) := ⟨by rw [e6, e4, e3, e2, e1, ep, er, ec]; exact name_join p.toNat r.toNat c.toNat dataW⟩
  clear e6 e5 e4 e3 e2 e1 ep er ec l6 l5 l4 l3 l2 l1 l95 lp lr lc
  cases d
  · clear k6 E6
    go_enter Tryd.func33, Tryd.ntmps33
    go_wp2_with (go_at_call 50; refine (within_any _ _ _ _).mono ?_; rintro e w' ⟨rfl, ⟨⟨m1, rfl⟩⟩⟩)
    refine wp_world (S := FB w #[.int .i64 p, .int .i64 r, .int .i64 c, .bool false]) (fb_of (pw_below_drewN (Below.refl _ _) _)) ?_
    intro W HF
    have hx0 : W.cell? ⟨w.heap.size, 0, none⟩ = some (.int .i64 p) := by rw [cell_of_row _ _ _ _ _ _ HF.out.row]; rfl
    have hx1 : W.cell? ⟨w.heap.size, 1, none⟩ = some (.int .i64 r) := by rw [cell_of_row _ _ _ _ _ _ HF.out.row]; rfl
    have hx2 : W.cell? ⟨w.heap.size, 2, none⟩ = some (.int .i64 c) := by rw [cell_of_row _ _ _ _ _ _ HF.out.row]; rfl
    go_quiet ((go_at_call 66; first | exact Calls.quiet_of_same (hp _).out | exact Calls.quiet_of_same (hr _).out | exact Calls.quiet_of_same (hc _).out | exact quiet_add_same (hp _).out | exact quiet_add_same (hr _).out | exact quiet_add_same (hc _).out))
    go_wp2
    go_ret2
    exact post_in HI.out E5.out (pw_below_drewN HF.out.bel _)
  · clear k5 E5
    go_enter Tryd.func33, Tryd.ntmps33
    go_wp2_with (go_at_call 50; refine (within_any _ _ _ _).mono ?_; rintro e w' ⟨rfl, ⟨⟨m1, rfl⟩⟩⟩)
    refine wp_world (S := FB w #[.int .i64 p, .int .i64 r, .int .i64 c, .bool true]) (fb_of (pw_below_drewN (Below.refl _ _) _)) ?_
    intro W HF
    have hx0 : W.cell? ⟨w.heap.size, 0, none⟩ = some (.int .i64 p) := by rw [cell_of_row _ _ _ _ _ _ HF.out.row]; rfl
    have hx1 : W.cell? ⟨w.heap.size, 1, none⟩ = some (.int .i64 r) := by rw [cell_of_row _ _ _ _ _ _ HF.out.row]; rfl
    have hx2 : W.cell? ⟨w.heap.size, 2, none⟩ = some (.int .i64 c) := by rw [cell_of_row _ _ _ _ _ _ HF.out.row]; rfl
    go_quiet ((go_at_call 66; first | exact Calls.quiet_of_same (hp _).out | exact Calls.quiet_of_same (hr _).out | exact Calls.quiet_of_same (hc _).out | exact quiet_add_same (hp _).out | exact quiet_add_same (hr _).out | exact quiet_add_same (hc _).out))
    go_wp2
    go_ret2
    exact post_in HI.out E6.out (pw_below_drewN HF.out.bel _)
end Go.Proofs.YtljjpdjknnhceaaDoor.FileN

/- Whole structs in memory: stored, loaded, answered. -/
set_option linter.unusedVariables false
set_option linter.unusedSimpArgs false
namespace Go.Proofs.YtljjpdjknnhceaaDoor.Mids
open Go.RowKit Go.Proofs.YtljjpdjknnhceaaDoorW.PrintWords Go.Proofs.YtljjpdjknnhceaaDoorW.PrintLast Go.Proofs.YtljjpdjknnhceaaDoorW.PrintMore
open Go.Proofs.YtljjpdjknnhceaaDoor.Base
theorem below_setCells {B : Nat} {w W : World} (h : Below B w W) {b : Nat} (hb : B ≤ b) : ∀ (vs : List Value) (o : Nat), Below B w (W.setCells b o vs)
  | vs, o => by
    induction vs generalizing W o with
    | nil => exact h
    | cons v r ih => exact ih (h.setCell hb v) _
theorem setCells_all {g : Nat} {t : TypeId} : ∀ (vs : List Value) (w : World) (pre old : List Value), old.length = vs.length → w.heap[g]? = some (.cells (pre ++ old).toArray t (0, 0)) → (w.setCells g pre.length vs).heap[g]? = some (.cells (pre ++ vs).toArray t (0, 0))
  | [], w, pre, old, hl, h => by
    have : old = [] := List.eq_nil_of_length_eq_zero (by simpa using hl)
    subst this
    exact h
  | v :: r, w, pre, [], hl, h => by simp at hl
  | v :: r, w, pre, o :: old, hl, h => by
    have e : (w.setCell ⟨g, pre.length, none⟩ v).heap[g]? = some (.cells ((pre ++ [v]) ++ old).toArray t (0, 0)) := by
      refine (blk_set h _ _).trans ?_
      congr 2
      apply Array.ext'
      simp
    have ih := setCells_all r (w.setCell ⟨g, pre.length, none⟩ v) (pre ++ [v]) old (by simpa using hl) e
    have e2 : (pre ++ [v]).length = pre.length + 1 := by simp
    rw [e2] at ih
    show ((w.setCell ⟨g, pre.length, none⟩ v).setCells g (pre.length + 1) r).heap[g]? = _
    rw [ih]
    simp
theorem setCells_whole {w : World} {g : Nat} {t : TypeId} {old vs : List Value} (h : w.heap[g]? = some (.cells old.toArray t (0, 0))) (hl : old.length = vs.length) : (w.setCells g 0 vs).heap[g]? = some (.cells vs.toArray t (0, 0)) := by
  have := setCells_all vs w [] old hl (by simpa using h)
  simpa using this
theorem setCells_size (g : Nat) : ∀ (vs : List Value) (o : Nat) (w : World), (w.setCells g o vs).heap.size = w.heap.size
  | [], _, _ => rfl
  | v :: r, o, w => by
    show ((w.setCell ⟨g, o, none⟩ v).setCells g (o + 1) r).heap.size = _
    rw [setCells_size g r]; simp
theorem setCells_other (g : Nat) {i : Nat} (hi : i ≠ g) : ∀ (vs : List Value) (o : Nat) (w : World), (w.setCells g o vs).heap[i]? = w.heap[i]?
  | [], _, _ => rfl
  | v :: r, o, w => by
    show ((w.setCell ⟨g, o, none⟩ v).setCells g (o + 1) r).heap[i]? = _
    rw [setCells_other g hi r]
    exact Below.heap_setCell w ⟨g, o, none⟩ v i hi
theorem blk_range {w : World} {g : Nat} {t : TypeId} {cs : List Value} (h : w.heap[g]? = some (.cells cs.toArray t (0, 0))) : w.rangeAt g 0 cs := fun j v hv => by
  rw [Nat.zero_add, blk_cell h j, List.getElem?_toArray]; exact hv
theorem blk_there {w : World} {g : Nat} {t : TypeId} {cs : List Value} (h : w.heap[g]? = some (.cells cs.toArray t (0, 0))) : w.there g 0 cs.length := fun j hj => by
  rw [Nat.zero_add, blk_cell h j, List.getElem?_toArray, List.getElem?_eq_getElem hj]
  exact ⟨rfl, blk_frozen h j⟩
theorem results_ct_mid {P : Program} {fn : Func} {p u : Tmp} {ty : TypeId} (h : fn.results = #[.cell p ty, .tmp u]) (tmps : Array Value) (w : World) (g o : Nat) (cs : List Value) (d : TypeDesc)
    (hp : tmps.getD p undef = .pointer (some ⟨g, o, none⟩)) (hg : w.rangeAt g o cs) (hu : P.underlying ty = some d) (hd : d.isRow = true) (hi : (P.info? ty).map (·.size) = some cs.length) :
    (results fn tmps).run P w = .ok (.tuple #[.agg cs.toArray, tmps.getD u undef]) w := by
  have hp' : tmps[p]?.getD undef = .pointer (some ⟨g, o, none⟩) := by simpa using hp
  simp [results, h, hp', asAddr, run_loadVar_mid w g o ty cs d hg hu hd hi]
theorem results_c_mid {P : Program} {fn : Func} {p : Tmp} {ty : TypeId} (h : fn.results = #[.cell p ty]) (tmps : Array Value) (w : World) (g o : Nat) (cs : List Value) (d : TypeDesc)
    (hp : tmps.getD p undef = .pointer (some ⟨g, o, none⟩)) (hg : w.rangeAt g o cs) (hu : P.underlying ty = some d) (hd : d.isRow = true) (hi : (P.info? ty).map (·.size) = some cs.length) :
    (results fn tmps).run P w = .ok (.agg cs.toArray) w := by
  have hp' : tmps[p]?.getD undef = .pointer (some ⟨g, o, none⟩) := by simpa using hp
  simp [results, h, hp', asAddr, run_loadVar_mid w g o ty cs d hg hu hd hi]
end Go.Proofs.YtljjpdjknnhceaaDoor.Mids
