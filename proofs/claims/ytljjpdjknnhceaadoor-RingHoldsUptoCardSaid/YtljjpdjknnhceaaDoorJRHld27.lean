/- Joined texts of this claim: FileN, FilesP -/
import Derived.Test.YtljjpdjknnhceaaDoorJRHld26
import Derived.Test.YtljjpdjknnhceaaDoorJRHld22
import Derived.Test.YtljjpdjknnhceaaDoorJRHld3
import Derived.Deep.QuietTactic
import Derived.BigQuiet
import Derived.Laws.Concat
import Derived.Test.YtljjpdjknnhceaaDoorJRHld25
set_option linter.unusedVariables false
set_option linter.unusedSimpArgs false
/- FileName of the ring and of the document. -/
set_option linter.unusedVariables false
set_option linter.unusedSimpArgs false
namespace Go.Proofs.YtljjpdjknnhceaaDoor.FileN
open Go.RowKit Go.Proofs.YtljjpdjknnhceaaDoorW.PrintWords Go.Proofs.YtljjpdjknnhceaaDoorW.PrintLast Go.Proofs.YtljjpdjknnhceaaDoorW.PrintMore
open Go.Lib Go.Proofs.YtljjpdjknnhceaaDoor.Base Go.Proofs.YtljjpdjknnhceaaDoor.NumPure Go.Proofs.YtljjpdjknnhceaaDoor.CutPure Go.Proofs.YtljjpdjknnhceaaDoor.NamePure Go.Proofs.YtljjpdjknnhceaaDoor.Sort
structure FI where mk ::
  (p r c : Int) (d : Bool)
def fV (f : FI) : Value := .agg #[.int .i64 f.p, .int .i64 f.r, .int .i64 f.c, .bool f.d]
def okF (f : FI) : Bool := wiB f.p 0 63 && wiB f.r 0 15 && wiB f.c 0 15
def toF (f : FI) : Fl := ⟨f.p.toNat, f.r.toNat, f.c.toNat, f.d⟩
def nameF (f : FI) : ByteArray := if okF f = true then ⟨(fileN (toF f)).toArray⟩ else ⟨#[]⟩
def errF (f : FI) : Int := if okF f = true then 0 else 1
theorem wi_yes {n l m : Int} (h1 : l ≤ n) (h2 : n ≤ m) : wiB n l m = true := by unfold wiB; rw [decide_eq_true h1, decide_eq_true h2]; rfl
theorem wi_lo {n l m : Int} (h1 : n < l) : wiB n l m = false := by unfold wiB; rw [decide_eq_false (by omega)]; rfl
theorem wi_hi {n l m : Int} (h1 : m < n) : wiB n l m = false := by unfold wiB; rw [show decide (n ≤ m) = false from decide_eq_false (by omega)]; simp
theorem out_p {f : FI} (h : wiB f.p 0 63 = false) : nameF f = ⟨#[]⟩ ∧ errF f = 1 := by
  have e : okF f = false := by unfold okF; rw [h]; rfl
  unfold nameF errF; rw [e]; exact ⟨rfl, rfl⟩
theorem out_r {f : FI} (h : wiB f.r 0 15 = false) : nameF f = ⟨#[]⟩ ∧ errF f = 1 := by
  have e : okF f = false := by unfold okF; rw [h]; simp
  unfold nameF errF; rw [e]; exact ⟨rfl, rfl⟩
theorem out_c {f : FI} (h : wiB f.c 0 15 = false) : nameF f = ⟨#[]⟩ ∧ errF f = 1 := by
  have e : okF f = false := by unfold okF; rw [h]; simp
  unfold nameF errF; rw [e]; exact ⟨rfl, rfl⟩
theorem in_f {f : FI} (hp : wiB f.p 0 63 = true) (hr : wiB f.r 0 15 = true) (hc : wiB f.c 0 15 = true) : nameF f = ⟨(fileN (toF f)).toArray⟩ ∧ errF f = 0 := by
  have e : okF f = true := by unfold okF; rw [hp, hr, hc]; rfl
  unfold nameF errF; rw [e]; exact ⟨rfl, rfl⟩
theorem app_arr (a b : List UInt8) : (⟨a.toArray⟩ : ByteArray) ++ ⟨b.toArray⟩ = ⟨(a ++ b).toArray⟩ := by
  apply ByteArray.ext
  simp
theorem name_join (p r c : Nat) (e : List UInt8) : (((((⟨(decDigits p).toArray⟩ : ByteArray) ++ ⟨#[95]⟩) ++ ⟨(decDigits r).toArray⟩) ++ ⟨#[95]⟩) ++ ⟨(decDigits c).toArray⟩) ++ ⟨(46 :: e).toArray⟩ = ⟨((decDigits p ++ 95 :: (decDigits r ++ 95 :: decDigits c)) ++ 46 :: e).toArray⟩ := by
  rw [show (⟨#[95]⟩ : ByteArray) = ⟨([95] : List UInt8).toArray⟩ from rfl]
  simp only [app_arr, List.append_assoc, List.cons_append, List.nil_append]
def FilePost (f : FI) (w : World) (e : Ending) (w' : World) : Prop := e = .returned (.tuple #[.string (nameF f), .int .i64 (errF f)]) ∧ Below w.heap.size w w'
theorem post_out {f : FI} {w w' : World} (h : nameF f = ⟨#[]⟩ ∧ errF f = 1) (hb : Below w.heap.size w w') : FilePost f w (.returned (.tuple #[.string ⟨#[]⟩, .int .i64 1])) w' := ⟨by rw [h.1, h.2], hb⟩
theorem post_in {f : FI} {w w' : World} {s : ByteArray} (h : nameF f = ⟨(fileN (toF f)).toArray⟩ ∧ errF f = 0) (hs : s = ⟨(fileN (toF f)).toArray⟩) (hb : Below w.heap.size w w') : FilePost f w (.returned (.tuple #[.string s, .int .i64 0])) w' := ⟨by rw [h.1, h.2, hs], hb⟩
theorem itoa_at (n : Int) (h0 : 0 ≤ n) (h1 : n < 100) (w : World) : Calls Tryd.prog 66 #[.int .i64 n] w fun e w' => e = .returned (.string ⟨(decDigits n.toNat).toArray⟩) ∧ w' = w := by
  have := Tryd.strconv_Itoa_small n.toNat (by omega) w
  rw [show ((n.toNat : Nat) : Int) = n by omega] at this
  exact this
structure FB (w : World) (l : Array Value) (W : World) : Prop where mk ::
  (row : W.heap[w.heap.size]? = some (.cells l 70 (0, 0))) (bel : Below w.heap.size w W)
theorem fb_of {w W : World} {l : Array Value} (hb : Below (w.heap.size + 1) (w.alloc (.cells l 70)) W) : FB w l W :=
  ⟨(hb.block _ (by omega)).trans (Go.heap_alloc_new w _), ((Below.refl _ _).alloc (Nat.le_refl _) _).trans (hb.mono (by omega))⟩
theorem wp_world {P : Program} {code : Code} {post : Exit → Act → World → Prop} {act : Act} {w0 : World} {S : World → Prop} (h : S w0) (k : ∀ W, Aside0 (S W) → Code.wp P code post act W) : Code.wp P code post act w0 := k w0 ⟨h⟩
theorem add_name (x y : ByteArray) (n m : Nat) (hx : x.size ≤ n) (hy : y.size ≤ m) (hn : n + m ≤ 1000) : ∃ z : ByteArray, (∀ W : World, Sem.run Tryd.prog (Op.stringOp .add x y) W = .ok (.string z) W) ∧ z = x ++ y ∧ z.size ≤ n + m := by
  refine ⟨x ++ y, fun W => run_string_add_sum W x y (by omega), rfl, ?_⟩
  rw [ByteArray.size_append]
  omega
theorem itoa_name (n : Int) (h0 : 0 ≤ n) (h1 : n ≤ 63) : ∃ z : ByteArray, (∀ W : World, Aside0 (Calls Tryd.prog 66 #[.int .i64 n] W fun e w' => e = .returned (.string z) ∧ w' = W)) ∧ z = ⟨(decDigits n.toNat).toArray⟩ ∧ z.size ≤ 2 :=
  ⟨_, fun W => ⟨itoa_at n h0 (by omega) W⟩, rfl, by have := dec_short n.toNat (by omega); simpa [ByteArray.size] using this⟩
set_option maxRecDepth 100000 in
set_option maxHeartbeats 4000000 in
theorem ref_any (f : FI) (w : World) : Calls Tryd.prog 34 #[fV f] w (FilePost f w) := by
  obtain ⟨p, r, c, d⟩ := f
  unfold fV
  by_cases hp0 : p < 0
  · have HO := Aside0.mk (out_p (f := ⟨p, r, c, d⟩) (wi_lo hp0))
    have hw := wi_lo (m := 63) hp0
    go_enter Tryd.func34, Tryd.ntmps34
    go_wp2_with fail
    go_ret2
    exact post_out HO.out ((Below.refl _ _).alloc (Nat.le_refl _) _)
  by_cases hp1 : 63 < p
  · have HO := Aside0.mk (out_p (f := ⟨p, r, c, d⟩) (wi_hi hp1))
    have hw := wi_hi (l := 0) hp1
    go_enter Tryd.func34, Tryd.ntmps34
    go_wp2_with fail
    go_ret2
    exact post_out HO.out ((Below.refl _ _).alloc (Nat.le_refl _) _)
  have hwp := wi_yes (n := p) (l := 0) (m := 63) (by omega) (by omega)
  by_cases hr0 : r < 0
  · have HO := Aside0.mk (out_r (f := ⟨p, r, c, d⟩) (wi_lo hr0))
    have hw := wi_lo (m := 15) hr0
    go_enter Tryd.func34, Tryd.ntmps34
    go_wp2_with fail
    go_ret2
    exact post_out HO.out ((Below.refl _ _).alloc (Nat.le_refl _) _)
  by_cases hr1 : 15 < r
  · have HO := Aside0.mk (out_r (f := ⟨p, r, c, d⟩) (wi_hi hr1))
    have hw := wi_hi (l := 0) hr1
    go_enter Tryd.func34, Tryd.ntmps34
    go_wp2_with fail
    go_ret2
    exact post_out HO.out ((Below.refl _ _).alloc (Nat.le_refl _) _)
  have hwr := wi_yes (n := r) (l := 0) (m := 15) (by omega) (by omega)
  by_cases hc0 : c < 0
  · have HO := Aside0.mk (out_c (f := ⟨p, r, c, d⟩) (wi_lo hc0))
    have hw := wi_lo (m := 15) hc0
    go_enter Tryd.func34, Tryd.ntmps34
    go_wp2_with fail
    go_ret2
    exact post_out HO.out ((Below.refl _ _).alloc (Nat.le_refl _) _)
  by_cases hc1 : 15 < c
  · have HO := Aside0.mk (out_c (f := ⟨p, r, c, d⟩) (wi_hi hc1))
    have hw := wi_hi (l := 0) hc1
    go_enter Tryd.func34, Tryd.ntmps34
    go_wp2_with fail
    go_ret2
    exact post_out HO.out ((Below.refl _ _).alloc (Nat.le_refl _) _)
  have hwc := wi_yes (n := c) (l := 0) (m := 15) (by omega) (by omega)
  have HI := Aside0.mk (in_f (f := ⟨p, r, c, d⟩) hwp hwr hwc)
  obtain ⟨ps, hp, ep, lp⟩ := itoa_name p (by omega) (by omega)
  obtain ⟨rs, hr, er, lr⟩ := itoa_name r (by omega) (by omega)
  obtain ⟨cs, hc, ec, lc⟩ := itoa_name c (by omega) (by omega)
  have l95 : (⟨#[95]⟩ : ByteArray).size ≤ 1 := by decide
  obtain ⟨s1, k1, e1, l1⟩ := add_name ps ⟨#[95]⟩ 2 1 lp l95 (by decide)
  obtain ⟨s2, k2, e2, l2⟩ := add_name s1 rs _ 2 l1 lr (by decide)
  obtain ⟨s3, k3, e3, l3⟩ := add_name s2 ⟨#[95]⟩ _ 1 l2 l95 (by decide)
  obtain ⟨s4, k4, e4, l4⟩ := add_name s3 cs _ 2 l3 lc (by decide)
  obtain ⟨s5, k5, e5, l5⟩ := add_name s4 ⟨#[46, 105, 110, 100, 101, 120]⟩ _ 6 l4 (by decide) (by omega)
  obtain ⟨s6, k6, e6, l6⟩ := add_name s4 ⟨#[46, 100, 97, 116, 97]⟩ _ 5 l4 (by decide) (by omega)
  have E5 : Aside0 (s5 = ⟨(fileN (toF ⟨p, r, c, false⟩)).toArray⟩) := ⟨by rw [e5, e4, e3, e2, e1, ep, er, ec]; exact name_join p.toNat r.toNat c.toNat indexW⟩
  have E6 : Aside0 (s6 = ⟨(fileN (toF ⟨p, r, c, true⟩)).toArray⟩) := ⟨by rw [e6, e4, e3, e2, e1, ep, er, ec]; exact name_join p.toNat r.toNat c.toNat dataW⟩
  clear e6 e5 e4 e3 e2 e1 ep er ec l6 l5 l4 l3 l2 l1 l95 lp lr lc
  cases d
  · clear k6 E6
    go_enter Tryd.func34, Tryd.ntmps34
    go_wp2_with fail
    go_quiet ((go_at_call 66; first | exact Calls.quiet_of_same (hp _).out | exact Calls.quiet_of_same (hr _).out | exact Calls.quiet_of_same (hc _).out | exact quiet_add_same (hp _).out | exact quiet_add_same (hr _).out | exact quiet_add_same (hc _).out))
    go_wp2
    go_ret2
    exact post_in HI.out E5.out (pw_below_drewN ((Below.refl _ _).alloc (Nat.le_refl _) _) _)
  · clear k5 E5
    go_enter Tryd.func34, Tryd.ntmps34
    go_wp2_with fail
    go_quiet ((go_at_call 66; first | exact Calls.quiet_of_same (hp _).out | exact Calls.quiet_of_same (hr _).out | exact Calls.quiet_of_same (hc _).out | exact quiet_add_same (hp _).out | exact quiet_add_same (hr _).out | exact quiet_add_same (hc _).out))
    go_wp2
    go_ret2
    exact post_in HI.out E6.out (pw_below_drewN ((Below.refl _ _).alloc (Nat.le_refl _) _) _)
set_option maxRecDepth 100000 in
set_option maxHeartbeats 4000000 in
theorem file_any (f : FI) (w : World) : Calls Tryd.prog 33 #[fV f] w (FilePost f w) := by
  obtain ⟨p, r, c, d⟩ := f
  unfold fV
  by_cases hp0 : p < 0
  · have HO := Aside0.mk (out_p (f := ⟨p, r, c, d⟩) (wi_lo hp0))
    have hw := wi_lo (m := 63) hp0
    go_enter Tryd.func33, Tryd.ntmps33
    go_wp2_with (go_at_call 50; refine (within_any _ _ _ _).mono ?_; rintro e w' ⟨rfl, ⟨⟨m1, rfl⟩⟩⟩)
    go_ret2
    exact post_out HO.out (pw_below_drewN ((Below.refl _ _).alloc (Nat.le_refl _) _) _)
  by_cases hp1 : 63 < p
  · have HO := Aside0.mk (out_p (f := ⟨p, r, c, d⟩) (wi_hi hp1))
    have hw := wi_hi (l := 0) hp1
    go_enter Tryd.func33, Tryd.ntmps33
    go_wp2_with (go_at_call 50; refine (within_any _ _ _ _).mono ?_; rintro e w' ⟨rfl, ⟨⟨m1, rfl⟩⟩⟩)
    go_ret2
    exact post_out HO.out (pw_below_drewN ((Below.refl _ _).alloc (Nat.le_refl _) _) _)
  have hwp := wi_yes (n := p) (l := 0) (m := 63) (by omega) (by omega)
  by_cases hr0 : r < 0
  · have HO := Aside0.mk (out_r (f := ⟨p, r, c, d⟩) (wi_lo hr0))
    have hw := wi_lo (m := 15) hr0
    go_enter Tryd.func33, Tryd.ntmps33
    go_wp2_with (go_at_call 50; refine (within_any _ _ _ _).mono ?_; rintro e w' ⟨rfl, ⟨⟨m1, rfl⟩⟩⟩)
    go_ret2
    exact post_out HO.out (pw_below_drewN ((Below.refl _ _).alloc (Nat.le_refl _) _) _)
  by_cases hr1 : 15 < r
  · have HO := Aside0.mk (out_r (f := ⟨p, r, c, d⟩) (wi_hi hr1))
    have hw := wi_hi (l := 0) hr1
    go_enter Tryd.func33, Tryd.ntmps33
    go_wp2_with (go_at_call 50; refine (within_any _ _ _ _).mono ?_; rintro e w' ⟨rfl, ⟨⟨m1, rfl⟩⟩⟩)
    go_ret2
    exact post_out HO.out (pw_below_drewN ((Below.refl _ _).alloc (Nat.le_refl _) _) _)
  have hwr := wi_yes (n := r) (l := 0) (m := 15) (by omega) (by omega)
  by_cases hc0 : c < 0
  · have HO := Aside0.mk (out_c (f := ⟨p, r, c, d⟩) (wi_lo hc0))
    have hw := wi_lo (m := 15) hc0
    go_enter Tryd.func33, Tryd.ntmps33
    go_wp2_with (go_at_call 50; refine (within_any _ _ _ _).mono ?_; rintro e w' ⟨rfl, ⟨⟨m1, rfl⟩⟩⟩)
    go_ret2
    exact post_out HO.out (pw_below_drewN ((Below.refl _ _).alloc (Nat.le_refl _) _) _)
  by_cases hc1 : 15 < c
  · have HO := Aside0.mk (out_c (f := ⟨p, r, c, d⟩) (wi_hi hc1))
    have hw := wi_hi (l := 0) hc1
    go_enter Tryd.func33, Tryd.ntmps33
    go_wp2_with (go_at_call 50; refine (within_any _ _ _ _).mono ?_; rintro e w' ⟨rfl, ⟨⟨m1, rfl⟩⟩⟩)
    go_ret2
    exact post_out HO.out (pw_below_drewN ((Below.refl _ _).alloc (Nat.le_refl _) _) _)
  have hwc := wi_yes (n := c) (l := 0) (m := 15) (by omega) (by omega)
  have HI := Aside0.mk (in_f (f := ⟨p, r, c, d⟩) hwp hwr hwc)
  obtain ⟨ps, hp, ep, lp⟩ := itoa_name p (by omega) (by omega)
  obtain ⟨rs, hr, er, lr⟩ := itoa_name r (by omega) (by omega)
  obtain ⟨cs, hc, ec, lc⟩ := itoa_name c (by omega) (by omega)
  have l95 : (⟨#[95]⟩ : ByteArray).size ≤ 1 := by decide
  obtain ⟨s1, k1, e1, l1⟩ := add_name ps ⟨#[95]⟩ 2 1 lp l95 (by decide)
  obtain ⟨s2, k2, e2, l2⟩ := add_name s1 rs _ 2 l1 lr (by decide)
  obtain ⟨s3, k3, e3, l3⟩ := add_name s2 ⟨#[95]⟩ _ 1 l2 l95 (by decide)
  obtain ⟨s4, k4, e4, l4⟩ := add_name s3 cs _ 2 l3 lc (by decide)
  obtain ⟨s5, k5, e5, l5⟩ := add_name s4 ⟨#[46, 105, 110, 100, 101, 120]⟩ _ 6 l4 (by decide) (by omega)
  obtain ⟨s6, k6, e6, l6⟩ := add_name s4 ⟨#[46, 100, 97, 116, 97]⟩ _ 5 l4 (by decide) (by omega)
  have E5 : Aside0 (s5 = ⟨(fileN (toF ⟨p, r, c, false⟩)).toArray⟩) := ⟨by rw [e5, e4, e3, e2, e1, ep, er, ec]; exact name_join p.toNat r.toNat c.toNat indexW⟩
  have E6 : Aside0 (s6 = ⟨(fileN (toF ⟨p, r, c, true⟩)).toArray⟩) := ⟨by rw [e6, e4, e3, e2, e1, ep, er, ec]; exact name_join p.toNat r.toNat c.toNat dataW⟩
  clear e6 e5 e4 e3 e2 e1 ep er ec l6 l5 l4 l3 l2 l1 l95 lp lr lc
  cases d
  · clear k6 E6
    go_enter Tryd.func33, Tryd.ntmps33
    go_wp2_with (go_at_call 50; refine (within_any _ _ _ _).mono ?_; rintro e w' ⟨rfl, ⟨⟨m1, rfl⟩⟩⟩)
    refine wp_world (S := FB w #[.int .i64 p, .int .i64 r, .int .i64 c, .bool false]) (fb_of (pw_below_drewN (Below.refl _ _) _)) ?_
    intro W HF
    have hx0 : W.cell? ⟨w.heap.size, 0, none⟩ = some (.int .i64 p) := by rw [cell_of_row _ _ _ _ _ _ HF.out.row]; rfl
    have hx1 : W.cell? ⟨w.heap.size, 1, none⟩ = some (.int .i64 r) := by rw [cell_of_row _ _ _ _ _ _ HF.out.row]; rfl
    have hx2 : W.cell? ⟨w.heap.size, 2, none⟩ = some (.int .i64 c) := by rw [cell_of_row _ _ _ _ _ _ HF.out.row]; rfl
    go_quiet ((go_at_call 66; first | exact Calls.quiet_of_same (hp _).out | exact Calls.quiet_of_same (hr _).out | exact Calls.quiet_of_same (hc _).out | exact quiet_add_same (hp _).out | exact quiet_add_same (hr _).out | exact quiet_add_same (hc _).out))
    go_wp2
    go_ret2
    exact post_in HI.out E5.out (pw_below_drewN HF.out.bel _)
  · clear k5 E5
    go_enter Tryd.func33, Tryd.ntmps33
    go_wp2_with (go_at_call 50; refine (within_any _ _ _ _).mono ?_; rintro e w' ⟨rfl, ⟨⟨m1, rfl⟩⟩⟩)
    refine wp_world (S := FB w #[.int .i64 p, .int .i64 r, .int .i64 c, .bool true]) (fb_of (pw_below_drewN (Below.refl _ _) _)) ?_
    intro W HF
    have hx0 : W.cell? ⟨w.heap.size, 0, none⟩ = some (.int .i64 p) := by rw [cell_of_row _ _ _ _ _ _ HF.out.row]; rfl
    have hx1 : W.cell? ⟨w.heap.size, 1, none⟩ = some (.int .i64 r) := by rw [cell_of_row _ _ _ _ _ _ HF.out.row]; rfl
    have hx2 : W.cell? ⟨w.heap.size, 2, none⟩ = some (.int .i64 c) := by rw [cell_of_row _ _ _ _ _ _ HF.out.row]; rfl
    go_quiet ((go_at_call 66; first | exact Calls.quiet_of_same (hp _).out | exact Calls.quiet_of_same (hr _).out | exact Calls.quiet_of_same (hc _).out | exact quiet_add_same (hp _).out | exact quiet_add_same (hr _).out | exact quiet_add_same (hc _).out))
    go_wp2
    go_ret2
    exact post_in HI.out E6.out (pw_below_drewN HF.out.bel _)
end Go.Proofs.YtljjpdjknnhceaaDoor.FileN

/- A node's files: plain. -/
set_option linter.unusedVariables false
set_option linter.unusedSimpArgs false
namespace Go.Proofs.YtljjpdjknnhceaaDoor.FilesP
open Go.RowKit Go.Proofs.YtljjpdjknnhceaaDoorW.PrintWords Go.Proofs.YtljjpdjknnhceaaDoorW.PrintLast Go.Proofs.YtljjpdjknnhceaaDoorW.PrintMore
open Go.Proofs.YtljjpdjknnhceaaDoor.Base Go.Proofs.YtljjpdjknnhceaaDoor.RingPure Go.Proofs.YtljjpdjknnhceaaDoor.ChkPure Go.Proofs.YtljjpdjknnhceaaDoor.Clus Go.Proofs.YtljjpdjknnhceaaDoor.Chkd Go.Proofs.YtljjpdjknnhceaaDoor.Walk Go.Proofs.YtljjpdjknnhceaaDoor.Hold Go.Proofs.YtljjpdjknnhceaaDoor.InsPure Go.Proofs.YtljjpdjknnhceaaDoor.NumR Go.Proofs.YtljjpdjknnhceaaDoor.NamePure Go.Proofs.YtljjpdjknnhceaaDoor.FileN Go.Proofs.YtljjpdjknnhceaaDoor.HoldKit Go.Proofs.YtljjpdjknnhceaaDoor.InsW
open Go.Proofs.YtljjpdjknnhceaaDoor.Round (hm)
open Go.Proofs.YtljjpdjknnhceaaDoor.LawWalk (wkl_len)
def cks (s : Nat × Nat) : Nat → List Str
  | 0 => []
  | k + 1 => cks s k ++ [fileN ⟨s.1, s.2, k, false⟩] ++ [fileN ⟨s.1, s.2, k, true⟩]
def nms (ch : Nat) (l : List (Nat × Nat)) : List Str := l.flatMap fun s => cks s ch
theorem cks_len (s : Nat × Nat) : ∀ k, (cks s k).length = 2 * k
  | 0 => rfl
  | k + 1 => by simp [cks, cks_len s k]; omega
theorem nms_len (ch : Nat) (l : List (Nat × Nat)) : (nms ch l).length = l.length * (2 * ch) := by
  induction l with
  | nil => simp [nms]
  | cons s l ih => simp only [nms, List.flatMap_cons, List.length_append, List.length_cons, cks_len] at ih ⊢; rw [ih, Nat.add_mul, Nat.one_mul, Nat.add_comm]
theorem nms_next {ch : Nat} {l : List (Nat × Nat)} {k : Nat} {s : Nat × Nat} (h : l[k]? = some s) : nms ch (l.take (k + 1)) = nms ch (l.take k) ++ cks s ch := by
  rw [List.take_add_one, h]; simp [nms]
def Sm (s : Nat × Nat) : Prop := s.1 ≤ 63 ∧ s.2 ≤ 15
theorem inn_mem (o : List Int) (node : Int) (p : Nat) : ∀ j, ∀ s ∈ inn o node p j, s.1 = p ∧ s.2 < j
  | 0, s, h => by simp [inn] at h
  | j + 1, s, h => by
    unfold inn at h
    rcases List.mem_append.1 h with h | h
    · have := inn_mem o node p j s h; omega
    · split at h
      · simp at h; subst h; simp
      · simp at h
theorem out_mem (O : Nat → List Int) (node : Int) (hO : ∀ p, (O p).length ≤ 16) : ∀ p, ∀ s ∈ out O node p, s.1 < p ∧ s.2 < 16
  | 0, s, h => by simp [out] at h
  | p + 1, s, h => by
    unfold out at h
    rcases List.mem_append.1 h with h | h
    · have := out_mem O node hO p s h; omega
    · have := inn_mem _ _ _ _ s h; have := hO p; omega
theorem hold_sm (c : Cl) (ns : List Nd) (node : Int) : ∀ s ∈ (hold c ns node).2, Sm s := by
  intro s h
  unfold hold at h
  by_cases h1 : (chkC c ns).1 ≠ 0
  · rw [if_pos h1] at h; simp at h
  · rw [if_neg h1] at h
    split at h
    · simp at h
    · have hz : (chkC c ns).1 = 0 := Classical.byContradiction h1
      have := out_mem (owL c ns) node (fun p => by unfold owL; rw [List.length_map]; exact wkl_len c ns p hz) (cnt ns) s h
      have hP := (homes_some (chk_ok (nm := Name.nmB c.store) hz).hom).1.2.1
      unfold Sm
      omega
theorem hold_len (c : Cl) (ns : List Nd) (node : Int) : (hold c ns node).2.length ≤ 1024 := by
  unfold hold
  by_cases h1 : (chkC c ns).1 ≠ 0
  · rw [if_pos h1]; exact Nat.zero_le _
  · rw [if_neg h1]
    split
    · exact Nat.zero_le _
    · have hz : (chkC c ns).1 = 0 := Classical.byContradiction h1
      have := out_len (owL c ns) node (fun p => by unfold owL; rw [List.length_map]; exact wkl_len c ns p hz) (cnt ns)
      have hP := (homes_some (chk_ok (nm := Name.nmB c.store) hz).hom).1.2.1
      simp only
      omega
theorem hold_zero {c : Cl} {ns : List Nd} {node : Int} (h : (hold c ns node).1 = 0) : (chkC c ns).1 = 0 := by
  unfold hold at h
  by_cases h1 : (chkC c ns).1 ≠ 0
  · rw [if_pos h1] at h; exact absurd h h1
  · exact Classical.byContradiction h1
def files (c : Cl) (ns : List Nd) (node : Int) : Int × List Str := if (hold c ns node).1 ≠ 0 then ((hold c ns node).1, []) else (0, insAll (nms c.chunks.toNat (hold c ns node).2))
theorem sm_name {s : Nat × Nat} (h : Sm s) (k : Nat) (hk : k ≤ 15) (d : Bool) : nameF ⟨(s.1 : Int), (s.2 : Int), (k : Int), d⟩ = strO (fileN ⟨s.1, s.2, k, d⟩) ∧ errF ⟨(s.1 : Int), (s.2 : Int), (k : Int), d⟩ = 0 := by
  obtain ⟨h1, h2⟩ := h
  exact in_f (f := ⟨(s.1 : Int), (s.2 : Int), (k : Int), d⟩) (wi_yes (by show (0 : Int) ≤ (s.1 : Int); omega) (by show (s.1 : Int) ≤ 63; omega)) (wi_yes (by show (0 : Int) ≤ (s.2 : Int); omega) (by show (s.2 : Int) ≤ 15; omega)) (wi_yes (by show (0 : Int) ≤ (k : Int); omega) (by show (k : Int) ≤ 15; omega))
def WordPost (r : Int × List Str) (w : World) (e : Ending) (w' : World) : Prop := Below w.heap.size w w' ∧ ∃ v, e = .returned (.tuple #[v, .int .i64 r.1]) ∧ w'.ownsRow w.heap.size 9 1 v r.2.length (encL r.2)
theorem wpost_err {r : Int × List Str} {w w' : World} {code : Int} (h : r = (code, [])) (hb : Below w.heap.size w w') : WordPost r w (.returned (.tuple #[.slice none 0 0, .int .i64 code])) w' := by
  subst h; exact ⟨hb, _, rfl, World.ownsRow_nil _ _ _ _⟩
theorem wpost_ok {r : Int × List Str} {w w' : World} {l : List Str} {v : Value} (h : r = (0, l)) (hb : Below w.heap.size w w') (ho : w'.ownsRow w.heap.size 9 1 v l.length (encL l)) : WordPost r w (.returned (.tuple #[v, .int .i64 0])) w' := by
  subst h; exact ⟨hb, _, rfl, ho⟩
end Go.Proofs.YtljjpdjknnhceaaDoor.FilesP
