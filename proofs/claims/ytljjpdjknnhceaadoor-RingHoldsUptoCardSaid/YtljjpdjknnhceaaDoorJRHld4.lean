/- Joined texts of this claim: Sets, Homes, Name, Mids -/
import Derived.Test.YtljjpdjknnhceaaDoorJRHld3
import Derived.Great.BuildSlice
import Derived.Shelf.Abstract
import Derived.Deep.MidRow
import Derived.Deep.OwnRows
import Derived.Test.YtljjpdjknnhceaaDoorJRHld0
set_option linter.unusedVariables false
set_option linter.unusedSimpArgs false
/- The table of the settings, and the functions in it. -/
set_option linter.unusedVariables false
set_option linter.unusedSimpArgs false
namespace Go.Proofs.YtljjpdjknnhceaaDoor.Sets
open Go.RowKit Go.Proofs.YtljjpdjknnhceaaDoorW.PrintWords Go.Proofs.YtljjpdjknnhceaaDoorW.PrintLast Go.Proofs.YtljjpdjknnhceaaDoorW.PrintMore
open Go.Proofs.YtljjpdjknnhceaaDoor.Base Go.Proofs.YtljjpdjknnhceaaDoor.RingPure Go.Proofs.YtljjpdjknnhceaaDoor.ChkPure Go.Proofs.YtljjpdjknnhceaaDoor.Clus
/-- the words -/
def words : List ByteArray := [⟨#[114, 101, 112, 108, 105, 99, 97, 115]⟩, ⟨#[119, 105, 100, 116, 104]⟩, ⟨#[99, 104, 117, 110, 107, 115]⟩, ⟨#[114, 101, 116, 97, 105, 110]⟩, ⟨#[98, 108, 111, 99, 107]⟩, ⟨#[114, 97, 116, 101]⟩, ⟨#[112, 101, 114]⟩, ⟨#[98, 117, 114, 115, 116]⟩, ⟨#[116, 114, 105, 101, 115]⟩, ⟨#[98, 97, 115, 101]⟩, ⟨#[109, 111, 115, 116]⟩, ⟨#[113, 117, 111, 116, 97]⟩, ⟨#[114, 111, 111, 109]⟩, ⟨#[100, 101, 112, 111, 116]⟩, ⟨#[114, 101, 115, 101, 110, 100]⟩, ⟨#[108, 105, 109, 105, 116]⟩, ⟨#[112, 97, 116, 105, 101, 110, 99, 101]⟩, ⟨#[103, 101, 116, 119, 97, 105, 116]⟩, ⟨#[115, 116, 114, 105, 107, 101, 115]⟩, ⟨#[98, 97, 110]⟩, ⟨#[104, 111, 109, 101]⟩]
/-- the functions' numbers -/
def atF : List Nat := [90, 91, 92, 93, 94, 95, 96, 97, 98, 99, 100, 101, 102, 103, 104, 105, 106, 107, 108, 109, 110]
/-- a setting's cells -/
def setRow (k : Nat) : List Value := [.string (words.getD k ByteArray.empty), .int .i64 (least k), .int .i64 (most.getD k 0), .func (.func (atF.getD k 0)) #[] #[]]
def setL : List Value := (List.range 21).flatMap setRow
theorem setRow_length (k : Nat) : (setRow k).length = 4 := rfl
theorem setL_length : setL.length = 84 := by decide
theorem setL_at (k : Nat) (hk : k < 21) (i : Nat) (u : Value) (h : (setRow k)[i]? = some u) : setL[k * 4 + i]? = some u := by
  have hi : i < 4 := (List.getElem?_eq_some_iff.1 h).1
  have e : ∀ (n k : Nat), k < n → ((List.range' 0 n).flatMap setRow)[k * 4 + i]? = ((List.range' k (n - k)).flatMap setRow)[i]? := by
    intro n
    have gen : ∀ (n s k : Nat), k < n → ((List.range' s n).flatMap setRow)[k * 4 + i]? = ((List.range' (s + k) (n - k)).flatMap setRow)[i]? := by
      intro n
      induction n with
      | zero => intro s k h; omega
      | succ n ih =>
        intro s k h
        cases k with
        | zero => simp
        | succ k =>
          rw [List.range'_succ, List.flatMap_cons, List.getElem?_append_right (by rw [setRow_length]; omega), setRow_length]
          have e1 : (k + 1) * 4 + i - 4 = k * 4 + i := by omega
          rw [e1, ih (s + 1) k (by omega)]
          have e2 : s + 1 + k = s + (k + 1) := by omega
          have e3 : n - k = n + 1 - (k + 1) := by omega
          rw [e2, e3]
    intro k hk
    have := gen n 0 k hk
    rwa [Nat.zero_add] at this
  unfold setL
  rw [List.range_eq_range', e 21 k hk]
  obtain ⟨m, hm⟩ : ∃ m, 21 - k = m + 1 := ⟨20 - k, by omega⟩
  rw [hm, List.range'_succ, List.flatMap_cons, List.getElem?_append_left (by rw [setRow_length]; exact hi)]
  exact h
set_option maxRecDepth 100000 in
set_option maxHeartbeats 4000000 in
theorem settings_any (w : World) : Calls Tryd.prog 65 #[] w fun e w' => e = .returned (.slice (some ⟨w.heap.size, 0, none⟩) 21 21) ∧ w' = w.alloc (.cells setL.toArray 122) := by
  have hs : setL.toArray = #[.string ⟨#[114, 101, 112, 108, 105, 99, 97, 115]⟩, .int .i64 1, .int .i64 16, .func (.func 90) #[] #[], .string ⟨#[119, 105, 100, 116, 104]⟩, .int .i64 1, .int .i64 16, .func (.func 91) #[] #[], .string ⟨#[99, 104, 117, 110, 107, 115]⟩, .int .i64 1, .int .i64 16, .func (.func 92) #[] #[], .string ⟨#[114, 101, 116, 97, 105, 110]⟩, .int .i64 1, .int .i64 8, .func (.func 93) #[] #[], .string ⟨#[98, 108, 111, 99, 107]⟩, .int .i64 1, .int .i64 4096, .func (.func 94) #[] #[], .string ⟨#[114, 97, 116, 101]⟩, .int .i64 1, .int .i64 65536, .func (.func 95) #[] #[], .string ⟨#[112, 101, 114]⟩, .int .i64 1, .int .i64 1024, .func (.func 96) #[] #[], .string ⟨#[98, 117, 114, 115, 116]⟩, .int .i64 1, .int .i64 65536, .func (.func 97) #[] #[], .string ⟨#[116, 114, 105, 101, 115]⟩, .int .i64 1, .int .i64 64, .func (.func 98) #[] #[], .string ⟨#[98, 97, 115, 101]⟩, .int .i64 1, .int .i64 1024, .func (.func 99) #[] #[], .string ⟨#[109, 111, 115, 116]⟩, .int .i64 1, .int .i64 1024, .func (.func 100) #[] #[], .string ⟨#[113, 117, 111, 116, 97]⟩, .int .i64 1, .int .i64 1073741824, .func (.func 101) #[] #[], .string ⟨#[114, 111, 111, 109]⟩, .int .i64 1, .int .i64 1073741824, .func (.func 102) #[] #[], .string ⟨#[100, 101, 112, 111, 116]⟩, .int .i64 1, .int .i64 1073741824, .func (.func 103) #[] #[], .string ⟨#[114, 101, 115, 101, 110, 100]⟩, .int .i64 1, .int .i64 1024, .func (.func 104) #[] #[], .string ⟨#[108, 105, 109, 105, 116]⟩, .int .i64 1, .int .i64 64, .func (.func 105) #[] #[], .string ⟨#[112, 97, 116, 105, 101, 110, 99, 101]⟩, .int .i64 1, .int .i64 65536, .func (.func 106) #[] #[], .string ⟨#[103, 101, 116, 119, 97, 105, 116]⟩, .int .i64 1, .int .i64 1024, .func (.func 107) #[] #[], .string ⟨#[115, 116, 114, 105, 107, 101, 115]⟩, .int .i64 1, .int .i64 64, .func (.func 108) #[] #[], .string ⟨#[98, 97, 110]⟩, .int .i64 1, .int .i64 1024, .func (.func 109) #[] #[], .string ⟨#[104, 111, 109, 101]⟩, .int .i64 0, .int .i64 7, .func (.func 110) #[] #[]] := by kernel_rfl
  have HS := Aside0.mk hs
  clear hs
  go_enter Tryd.func65, Tryd.ntmps65
  go_wp2
  go_ret
  exact ⟨rfl, by rw [HS.out]⟩
theorem infoT : (Tryd.prog.info? 122).map (fun i => (i.zero, i.size, i.bytes)) = some (some (.agg #[.string { data := #[] }, .int .i64 0, .int .i64 0, .nilFunc]), 4, 40) := by kernel_rfl
/-- the k-th function: the address of the k-th setting -/
theorem at_any (g k : Nat) (hk : k < 21) : (∀ (args : Array Value) (w : World), (callFunc (atF.getD k 0) args).run Tryd.prog w = .ok (.enter (atF.getD k 0) args) w) ∧
    ∀ w, Calls Tryd.prog (atF.getD k 0) #[.pointer (some ⟨g, 0, none⟩)] w fun e w' => e = .returned (.pointer (some ⟨g, k + 1, none⟩)) ∧ w = w' := by
  have h : k = 0 ∨ k = 1 ∨ k = 2 ∨ k = 3 ∨ k = 4 ∨ k = 5 ∨ k = 6 ∨ k = 7 ∨ k = 8 ∨ k = 9 ∨ k = 10 ∨ k = 11 ∨ k = 12 ∨ k = 13 ∨ k = 14 ∨ k = 15 ∨ k = 16 ∨ k = 17 ∨ k = 18 ∨ k = 19 ∨ k = 20 := by omega
  clear hk
  rcases h with rfl | rfl | rfl | rfl | rfl | rfl | rfl | rfl | rfl | rfl | rfl | rfl | rfl | rfl | rfl | rfl | rfl | rfl | rfl | rfl | rfl
  · refine ⟨fun args w => ?_, fun w => ?_⟩
    · exact (enters_of Tryd.func90 (by kernel_rfl) rfl) args w
    · go_enter Tryd.func90, Tryd.ntmps90
      go_wp2
      go_ret
      exact ⟨rfl, rfl⟩
  · refine ⟨fun args w => ?_, fun w => ?_⟩
    · exact (enters_of Tryd.func91 (by kernel_rfl) rfl) args w
    · go_enter Tryd.func91, Tryd.ntmps91
      go_wp2
      go_ret
      exact ⟨rfl, rfl⟩
  · refine ⟨fun args w => ?_, fun w => ?_⟩
    · exact (enters_of Tryd.func92 (by kernel_rfl) rfl) args w
    · go_enter Tryd.func92, Tryd.ntmps92
      go_wp2
      go_ret
      exact ⟨rfl, rfl⟩
  · refine ⟨fun args w => ?_, fun w => ?_⟩
    · exact (enters_of Tryd.func93 (by kernel_rfl) rfl) args w
    · go_enter Tryd.func93, Tryd.ntmps93
      go_wp2
      go_ret
      exact ⟨rfl, rfl⟩
  · refine ⟨fun args w => ?_, fun w => ?_⟩
    · exact (enters_of Tryd.func94 (by kernel_rfl) rfl) args w
    · go_enter Tryd.func94, Tryd.ntmps94
      go_wp2
      go_ret
      exact ⟨rfl, rfl⟩
  · refine ⟨fun args w => ?_, fun w => ?_⟩
    · exact (enters_of Tryd.func95 (by kernel_rfl) rfl) args w
    · go_enter Tryd.func95, Tryd.ntmps95
      go_wp2
      go_ret
      exact ⟨rfl, rfl⟩
  · refine ⟨fun args w => ?_, fun w => ?_⟩
    · exact (enters_of Tryd.func96 (by kernel_rfl) rfl) args w
    · go_enter Tryd.func96, Tryd.ntmps96
      go_wp2
      go_ret
      exact ⟨rfl, rfl⟩
  · refine ⟨fun args w => ?_, fun w => ?_⟩
    · exact (enters_of Tryd.func97 (by kernel_rfl) rfl) args w
    · go_enter Tryd.func97, Tryd.ntmps97
      go_wp2
      go_ret
      exact ⟨rfl, rfl⟩
  · refine ⟨fun args w => ?_, fun w => ?_⟩
    · exact (enters_of Tryd.func98 (by kernel_rfl) rfl) args w
    · go_enter Tryd.func98, Tryd.ntmps98
      go_wp2
      go_ret
      exact ⟨rfl, rfl⟩
  · refine ⟨fun args w => ?_, fun w => ?_⟩
    · exact (enters_of Tryd.func99 (by kernel_rfl) rfl) args w
    · go_enter Tryd.func99, Tryd.ntmps99
      go_wp2
      go_ret
      exact ⟨rfl, rfl⟩
  · refine ⟨fun args w => ?_, fun w => ?_⟩
    · exact (enters_of Tryd.func100 (by kernel_rfl) rfl) args w
    · go_enter Tryd.func100, Tryd.ntmps100
      go_wp2
      go_ret
      exact ⟨rfl, rfl⟩
  · refine ⟨fun args w => ?_, fun w => ?_⟩
    · exact (enters_of Tryd.func101 (by kernel_rfl) rfl) args w
    · go_enter Tryd.func101, Tryd.ntmps101
      go_wp2
      go_ret
      exact ⟨rfl, rfl⟩
  · refine ⟨fun args w => ?_, fun w => ?_⟩
    · exact (enters_of Tryd.func102 (by kernel_rfl) rfl) args w
    · go_enter Tryd.func102, Tryd.ntmps102
      go_wp2
      go_ret
      exact ⟨rfl, rfl⟩
  · refine ⟨fun args w => ?_, fun w => ?_⟩
    · exact (enters_of Tryd.func103 (by kernel_rfl) rfl) args w
    · go_enter Tryd.func103, Tryd.ntmps103
      go_wp2
      go_ret
      exact ⟨rfl, rfl⟩
  · refine ⟨fun args w => ?_, fun w => ?_⟩
    · exact (enters_of Tryd.func104 (by kernel_rfl) rfl) args w
    · go_enter Tryd.func104, Tryd.ntmps104
      go_wp2
      go_ret
      exact ⟨rfl, rfl⟩
  · refine ⟨fun args w => ?_, fun w => ?_⟩
    · exact (enters_of Tryd.func105 (by kernel_rfl) rfl) args w
    · go_enter Tryd.func105, Tryd.ntmps105
      go_wp2
      go_ret
      exact ⟨rfl, rfl⟩
  · refine ⟨fun args w => ?_, fun w => ?_⟩
    · exact (enters_of Tryd.func106 (by kernel_rfl) rfl) args w
    · go_enter Tryd.func106, Tryd.ntmps106
      go_wp2
      go_ret
      exact ⟨rfl, rfl⟩
  · refine ⟨fun args w => ?_, fun w => ?_⟩
    · exact (enters_of Tryd.func107 (by kernel_rfl) rfl) args w
    · go_enter Tryd.func107, Tryd.ntmps107
      go_wp2
      go_ret
      exact ⟨rfl, rfl⟩
  · refine ⟨fun args w => ?_, fun w => ?_⟩
    · exact (enters_of Tryd.func108 (by kernel_rfl) rfl) args w
    · go_enter Tryd.func108, Tryd.ntmps108
      go_wp2
      go_ret
      exact ⟨rfl, rfl⟩
  · refine ⟨fun args w => ?_, fun w => ?_⟩
    · exact (enters_of Tryd.func109 (by kernel_rfl) rfl) args w
    · go_enter Tryd.func109, Tryd.ntmps109
      go_wp2
      go_ret
      exact ⟨rfl, rfl⟩
  · refine ⟨fun args w => ?_, fun w => ?_⟩
    · exact (enters_of Tryd.func110 (by kernel_rfl) rfl) args w
    · go_enter Tryd.func110, Tryd.ntmps110
      go_wp2
      go_ret
      exact ⟨rfl, rfl⟩
end Go.Proofs.YtljjpdjknnhceaaDoor.Sets

/- The home of each partition: ring.homes walked. -/
set_option linter.unusedVariables false
set_option linter.unusedSimpArgs false
namespace Go.Proofs.YtljjpdjknnhceaaDoor.Homes
open Go.RowKit Go.Proofs.YtljjpdjknnhceaaDoorW.PrintWords Go.Proofs.YtljjpdjknnhceaaDoorW.PrintLast Go.Proofs.YtljjpdjknnhceaaDoorW.PrintMore
open Go.Proofs.YtljjpdjknnhceaaDoor.Base Go.Proofs.YtljjpdjknnhceaaDoor.RingPure Go.Proofs.YtljjpdjknnhceaaDoor.ChkPure Go.Proofs.YtljjpdjknnhceaaDoor.Clus Go.Proofs.YtljjpdjknnhceaaDoor.Sort
/-- a row of numbers, whole -/
def RowI (w : World) (g : Nat) (h : List Int) : Prop := w.heap[g]? = some (.cells (nums .i64 h).toArray 3 (0, 0))
def HomesPost (ns : List Nd) (w : World) (e : Ending) (w' : World) : Prop := Below w.heap.size w w' ∧
  ((homesP ns = none ∧ e = .returned (.tuple #[.slice none 0 0, .int .i64 66])) ∨ ∃ h g, homesP ns = some h ∧ e = .returned (.tuple #[.slice (some ⟨g, 0, none⟩) h.length h.length, .int .i64 0]) ∧ w.heap.size ≤ g ∧ RowI w' g h)
theorem post_none {ns : List Nd} {w w' : World} (h : homesP ns = none) (hb : Below w.heap.size w w') : HomesPost ns w (.returned (.tuple #[.slice none 0 0, .int .i64 66])) w' := ⟨hb, .inl ⟨h, rfl⟩⟩
theorem post_some {ns : List Nd} {w w' : World} {h : List Int} {g : Nat} (e : homesP ns = some h) (hb : Below w.heap.size w w') (hg : w.heap.size ≤ g) (hr : RowI w' g h) (n : Nat) (hn : n = h.length) : HomesPost ns w (.returned (.tuple #[.slice (some ⟨g, 0, none⟩) n n, .int .i64 0])) w' := by
  subst hn
  exact ⟨hb, .inr ⟨h, g, e, rfl, hg, hr⟩⟩
theorem cnt_le_of (ns : List Nd) (k : Nat) (n : Nd) (h : ns[k]? = some n) : n.2.length ≤ cnt ns := by
  have h1 := cnt_snoc ns k n h
  have h2 := cnt_take ns (k + 1)
  omega
theorem RowI.cell {w : World} {g : Nat} {h : List Int} (hr : RowI w g h) (i : Nat) (hi : i < h.length) : w.cell? ⟨g, i, none⟩ = some (.int .i64 (h.getD i 0)) := by
  rw [blk_cell hr i, List.getElem?_toArray]
  simp [nums, List.getD_eq_getElem?_getD, List.getElem?_eq_getElem hi]
theorem RowI.set {w : World} {g : Nat} {h : List Int} (hr : RowI w g h) (i : Nat) (hi : i < h.length) (x : Int) : RowI (w.setCell ⟨g, i, none⟩ (.int .i64 x)) g (h.set i x) := by
  unfold RowI
  refine (blk_set hr _ _).trans ?_
  congr 2
  apply Array.ext'
  simp [nums, List.map_set]
theorem RowI.below {w w1 : World} {g B : Nat} {h : List Int} (hr : RowI w g h) (hb : Below B w w1) (hg : g < B) : RowI w1 g h := (hb.block _ hg).trans hr
theorem RowI.made (w : World) (n : Nat) : RowI (w.alloc (.cells (madeCells #[Value.int .i64 0] n) 3)) w.heap.size (List.replicate n 0) := by
  unfold RowI
  rw [Go.heap_alloc_new]
  congr 2
  apply Array.ext'
  apply List.ext_getElem (by simp [nums, madeCells])
  intro i h1 h2
  simp [madeCells, nums, Nat.mod_one]
/-- so far all is -1 -/
def minus (n k : Nat) : List Int := List.replicate k (-1) ++ List.replicate (n - k) 0
theorem minus_set (n k : Nat) (h : k < n) : (minus n k).set k (-1) = minus n (k + 1) := by
  unfold minus
  rw [List.set_append_right _ _ (by simp)]
  simp only [List.length_replicate, Nat.sub_self]
  obtain ⟨m, hm⟩ : ∃ m, n - k = m + 1 := ⟨n - k - 1, by omega⟩
  rw [hm, List.replicate_succ, List.set_cons_zero, show n - (k + 1) = m by omega, List.replicate_succ', List.append_assoc]
  rfl
theorem minus_all (n : Nat) : minus n n = List.replicate n (-1) := by simp [minus]
theorem minus_len (n k : Nat) (h : k ≤ n) : (minus n k).length = n := by simp [minus]; omega
theorem drop_at {α : Type} (l : List α) (k : Nat) (x : α) (h : l[k]? = some x) : l.drop k = x :: l.drop (k + 1) := by
  obtain ⟨hl, e⟩ := List.getElem?_eq_some_iff.1 h
  rw [List.drop_eq_getElem_cons hl, e]
theorem make_int (N : Nat) (W : World) (h : N ≤ 1099511627776) : (Instr.makeSlice 36 (.int .i64 (N : Int)) (.int .i64 (N : Int))).run Tryd.prog W = .ok (.slice (some ⟨W.heap.size, 0, none⟩) N N) (W.alloc (.cells (madeCells #[Value.int .i64 0] N) 3)) := by
  obtain ⟨i0, hi, hzz⟩ := Option.map_eq_some_iff.1 infoI
  simp only [Prod.mk.injEq] at hzz
  obtain ⟨hz0, hz1, hz2⟩ := hzz
  have := run_make (P := Tryd.prog) W 36 3 i0 (.int .i64 0) Tryd.underlying36 hi hz0 .i64 .i64 (N : Int) (N : Int) (by omega) (by omega) (by rw [hz2]; omega) (by omega)
  rw [hz1] at this
  simpa [Value.cells] using this
set_option maxRecDepth 100000 in
set_option maxHeartbeats 8000000 in
theorem homes_any (c : Cl) (A : Option Addr) (cap : Nat) (ns : List Nd) (w : World) (hN : NodesAt w A ns) (hcap : ns.length ≤ cap) (hl : ns.length ≤ 1099511627776) (hc : cnt ns ≤ 1099511627776) :
    Calls Tryd.prog 79 #[.agg (cL c (.slice A ns.length cap)).toArray] w (HomesPost ns w) := by
  have hb0 := (Below.refl w.heap.size w).alloc (Nat.le_refl _) (.cells (cL c (.slice A ns.length cap)).toArray 24)
  have HN := Aside0.mk (hN.below hb0)
  have HB := Aside0.mk hb0
  have HC : Aside0 (CBox (w.alloc (.cells (cL c (.slice A ns.length cap)).toArray 24)) w.heap.size c (.slice A ns.length cap)) := ⟨⟨Go.heap_alloc_new w _⟩⟩
  have HCT := Aside0.mk (fun k => cnt_take ns k)
  have hc22 : (w.alloc (.cells (cL c (.slice A ns.length cap)).toArray 24)).cell? ⟨w.heap.size, 22, none⟩ = some (.slice A ns.length cap) := HC.out.c 22
  clear hN hb0
  go_enter Tryd.func79, Tryd.ntmps79
  go_wp2_with fail
  clear hc22
  generalize w.alloc (.cells (cL c (.slice A ns.length cap)).toArray 24) = w1 at HN HB HC ⊢
  go_loopw [4, 16] (fun v4 v16 wr => ∃ k : Nat, k ≤ ns.length ∧ v4 = .int .i64 (cnt (ns.take k) : Nat) ∧ v16 = .int .i64 (k : Nat) ∧ Aside0 (Below w1.heap.size w1 wr)) (fun _ v16 _ => ns.length - (intOf v16).toNat)
  case atStart => exact ⟨0, Nat.zero_le _, rfl, rfl, ⟨Below.refl _ _⟩⟩
  case round =>
    obtain ⟨k, hk, rfl, rfl, HR⟩ := hrel
    obtain ⟨wo, rfl⟩ : ∃ wo : World, wo = wr := ⟨_, rfl⟩
    have HN1 := Aside0.mk (HN.out.below HR.out)
    have HC1 := Aside0.mk (HC.out.below HR.out HC.out.lt)
    have hct := HCT.out k
    by_cases hlt : k < ns.length
    · obtain ⟨n, hn⟩ : ∃ n, ns[k]? = some n := ⟨_, List.getElem?_eq_getElem hlt⟩
      obtain ⟨b, o, rfl, hz, B, cp, hp, hcp, hnm⟩ := HN1.out.get hn
      have hsn := cnt_snoc ns k n hn
      have hct1 := HCT.out (k + 1)
      have HSN := Aside0.mk hsn
      have hq : cnt (ns.take k) + n.2.length ≤ 1099511627776 := by omega
      have HNM := Aside0.mk hnm
      clear hn hsn hct1 hnm
      go_wp2_with fail
      go_roundw
      case rel => exact ⟨k + 1, by omega, by rw [HSN.out]; go_num, by go_num, ⟨HR.out.alloc HR.out.size _⟩⟩
      case measure => simp [intOf]; omega
    · obtain rfl : k = ns.length := by omega
      rw [List.take_length]
      clear hct hlt hk HCT
      go_wp2_with fail
      refine (within_any _ _ _ _).mono ?_
      rintro e w2 ⟨rfl, hd⟩
      have HR2 := Aside0.mk (HR.out.trans (hd.below.mono HR.out.size))
      clear hd HR HN1 HC1
      by_cases hcn : 1 ≤ cnt ns ∧ cnt ns ≤ 64
      · have hwi : wiB (cnt ns : Int) 1 64 = true := by unfold wiB; rw [decide_eq_true (by omega), decide_eq_true (by omega)]; rfl
        rw [hwi]
        have HI : Aside0 (fillN (cnt ns) 0 (ns.drop 0) (List.replicate (cnt ns) (-1)) = homesP ns) := ⟨by unfold homesP; rw [if_pos hcn, List.drop_zero]⟩
        obtain ⟨hc1, hc2⟩ := hcn
        obtain ⟨N, hNn⟩ : ∃ N, N = cnt ns := ⟨_, rfl⟩
        rw [← hNn] at hc hc1 hc2 HI ⊢
        have hmk := fun W => make_int N W (by omega)
        have hw3 : Below w2.heap.size w2 (w2.alloc (.cells (madeCells #[Value.int .i64 0] N) 3)) := (Below.refl _ _).alloc (Nat.le_refl _) _
        have HR3 := Aside0.mk (HR2.out.trans (hw3.mono HR2.out.size))
        have HW3 := Aside0.mk (RowI.made w2 N)
        have HG := Aside0.mk HR2.out.size
        have hcl := HC.out.lt
        have HHN := Aside0.mk hNn
        clear hw3 hwi hNn HR2
        go_wp2_with fail
        clear hmk
        generalize hw3 : w2.alloc (.cells (madeCells #[Value.int .i64 0] N) 3) = w3 at HR3 HW3 ⊢
        generalize w2.heap.size = g at HG HW3 hw3 ⊢
        clear hw3
        have hm0 : List.replicate N (0 : Int) = minus N 0 := by simp [minus]
        have HM0 : Aside0 (RowI w3 g (minus N 0)) := ⟨hm0 ▸ HW3.out⟩
        clear hm0 HW3
        go_loopw [8, 33] (fun _ v33 wr => ∃ k : Nat, k ≤ N ∧ v33 = .int .i64 (k : Nat) ∧ Aside0 (Below w1.heap.size w1 wr) ∧ Aside0 (RowI wr g (minus N k))) (fun _ v33 _ => N - (intOf v33).toNat)
        case atStart => exact ⟨0, Nat.zero_le _, rfl, HR3, HM0⟩
        case round =>
          clear HR3 HM0
          obtain ⟨k, hk, rfl, HR, HM⟩ := hrel
          obtain ⟨wo, rfl⟩ : ∃ wo : World, wo = wr := ⟨_, rfl⟩
          by_cases hlt : k < N
          · have hcell := HM.out.cell k (by rw [minus_len _ _ hk]; exact hlt)
            have hfz : wo.frozen? ⟨g, k, none⟩ = false := blk_frozen HM.out k
            go_wp2_with fail
            go_roundw
            case rel =>
              refine ⟨k + 1, by omega, by go_num, ⟨HR.out.setCell HG.out _⟩, ⟨?_⟩⟩
              rw [← minus_set N k hlt]
              exact HM.out.set k (by rw [minus_len _ _ hk]; exact hlt) _
            case measure => simp [intOf]; omega
          · obtain rfl : k = N := by omega
            have HMA : Aside0 (RowI wo g (List.replicate k (-1))) := ⟨minus_all k ▸ HM.out⟩
            have HC1 := Aside0.mk (HC.out.below HR.out HC.out.lt)
            have hc22 : wo.cell? ⟨w.heap.size, 22, none⟩ = some (.slice A ns.length cap) := HC1.out.c 22
            clear hlt hk HM HC1
            go_wp2_with fail
            clear hc22
            go_loopw [9, 10, 12, 43] (fun _ _ _ v43 wr => ∃ (i : Nat) (h : List Int), i ≤ ns.length ∧ v43 = .int .i64 (i : Nat) ∧ h.length = k ∧ Aside0 (Below w1.heap.size w1 wr) ∧ Aside0 (RowI wr g h) ∧ Aside0 (fillN k i (ns.drop i) h = homesP ns)) (fun _ _ _ v43 _ => ns.length - (intOf v43).toNat)
            case atStart => exact ⟨0, _, Nat.zero_le _, rfl, by simp, HR, HMA, HI⟩
            case round =>
              clear HR HMA HI
              obtain ⟨i, h, hi, rfl, hhl, HR, HM, HI⟩ := hrel
              have HHL := Aside0.mk hhl
              clear hhl
              obtain ⟨wo, rfl⟩ : ∃ wo : World, wo = wr := ⟨_, rfl⟩
              by_cases hlt : i < ns.length
              · obtain ⟨n, hn⟩ : ∃ n, ns[i]? = some n := ⟨_, List.getElem?_eq_getElem hlt⟩
                have HDN := Aside0.mk (drop_at ns i n hn)
                have hnl := cnt_le_of ns i n hn
                rw [← HHN.out] at hnl
                obtain ⟨b, o, rfl, hz0, B, cp, hp0, hcp, hnm⟩ := HN.out.get hn
                have hz := cell_below HR.out (Nat.le_refl _) hz0
                have hp := cell_below HR.out (Nat.le_refl _) hp0
                have HNM := Aside0.mk hnm
                clear hz0 hp0
                have hb1 : Below wo.heap.size wo (wo.alloc (.cells #[.int .i64 n.1, .slice B n.2.length cp] 56)) := (Below.refl _ _).alloc (Nat.le_refl _) _
                have HR1 := Aside0.mk (HR.out.trans (hb1.mono HR.out.size))
                have HM1 := Aside0.mk (HM.out.below hb1 (blk_lt HM.out))
                have hp1 : (wo.alloc (.cells #[.int .i64 n.1, .slice B n.2.length cp] 56)).cell? ⟨wo.heap.size, 1, none⟩ = some (.slice B n.2.length cp) := by
                  rw [cell_of_row _ _ _ _ _ _ (Go.heap_alloc_new wo _)]; rfl
                have HP1 := Aside0.mk hp1
                have HBL := Aside0.mk (show wo.heap.size < (wo.alloc (.cells #[.int .i64 n.1, .slice B n.2.length cp] 56)).heap.size by simp)
                clear hn hnm hb1 HR HM hp1
                go_wp2_with fail
                refine (sorted_any B cp n.2 _ (HNM.out.below HR1.out) hcp.1 (by omega)).mono ?_
                rintro e w4 ⟨rfl, hd⟩
                have hbd := hd.below
                have HR4 := Aside0.mk (HR1.out.trans (hbd.mono HR1.out.size))
                have HM4 := Aside0.mk (HM1.out.below hbd (blk_lt HM1.out))
                have hp4 : w4.cell? ⟨wo.heap.size, 1, none⟩ = some (.slice B n.2.length cp) := (World.cell?_of_block (hbd.block _ HBL.out)).trans HP1.out
                clear hd hbd HR1 HM1 HP1 HBL hz hp
                have HE : Aside0 (fillN k i (n :: ns.drop (i + 1)) h = homesP ns) := ⟨by rw [← HDN.out]; exact HI.out⟩
                clear HI HDN
                by_cases hs : srt n.2 = true
                · rw [hs]
                  have HE2 : Aside0 ((fillP k i (n.2.drop 0) h).bind (fillN k (i + 1) (ns.drop (i + 1))) = homesP ns) := ⟨by rw [← HE.out, List.drop_zero]; simp only [fillN]; rw [if_pos hs]⟩
                  clear hs HE
                  go_wp2_with fail
                  clear hp4
                  go_loopw [12, 55] (fun _ v55 wr => ∃ (j : Nat) (h' : List Int), j ≤ n.2.length ∧ v55 = .int .i64 (j : Nat) ∧ h'.length = k ∧ Aside0 (Below w1.heap.size w1 wr) ∧ Aside0 (RowI wr g h') ∧ Aside0 ((fillP k i (n.2.drop j) h').bind (fillN k (i + 1) (ns.drop (i + 1))) = homesP ns)) (fun _ v55 _ => n.2.length - (intOf v55).toNat)
                  case atStart => exact ⟨0, h, Nat.zero_le _, rfl, HHL.out, HR4, HM4, HE2⟩
                  case round =>
                    clear HR4 HM4 HE2 HHL
                    obtain ⟨j, h', hj, rfl, hhl, HR, HM, HE⟩ := hrel
                    obtain ⟨wq, rfl⟩ : ∃ wq : World, wq = wr := ⟨_, rfl⟩
                    have HHL := Aside0.mk hhl
                    clear hhl
                    by_cases hjl : j < n.2.length
                    · obtain ⟨p, hp⟩ : ∃ p, n.2[j]? = some p := ⟨_, List.getElem?_eq_getElem hjl⟩
                      have HD := Aside0.mk (drop_at n.2 j p hp)
                      obtain ⟨b2, o2, rfl, hpc⟩ := (HNM.out.below HR.out).get hp
                      have HPC := Aside0.mk hpc
                      have HE3 : Aside0 ((fillP k i (p :: n.2.drop (j + 1)) h').bind (fillN k (i + 1) (ns.drop (i + 1))) = homesP ns) := ⟨by rw [← HD.out]; exact HE.out⟩
                      clear hp HE HD
                      by_cases hp0 : p < 0
                      · have HNO : Aside0 (homesP ns = none) := ⟨by rw [← HE3.out]; simp only [fillP]; rw [if_pos (.inl hp0)]; rfl⟩
                        go_wp2_with fail
                        go_ret2
                        exact post_none HNO.out ((HB.out).trans (HR.out.mono HB.out.size))
                      · by_cases hpk : (k : Int) ≤ p
                        · have HNO : Aside0 (homesP ns = none) := ⟨by rw [← HE3.out]; simp only [fillP]; rw [if_pos (.inr (.inl hpk))]; rfl⟩
                          go_wp2_with fail
                          go_ret2
                          exact post_none HNO.out ((HB.out).trans (HR.out.mono HB.out.size))
                        · obtain ⟨q, rfl⟩ : ∃ q : Nat, p = q := ⟨p.toNat, by omega⟩
                          have hqk : q < k := by omega
                          have hqc := HM.out.cell q (by rw [HHL.out]; exact hqk)
                          have hfz : wq.frozen? ⟨g, q, none⟩ = false := blk_frozen HM.out q
                          by_cases hx : 0 ≤ h'.getD q 0
                          · have HNO : Aside0 (homesP ns = none) := ⟨by rw [← HE3.out]; simp only [fillP]; rw [if_pos (.inr (.inr (by simpa using hx)))]; rfl⟩
                            generalize h'.getD q 0 = x at hqc hx
                            clear hp0 hpk
                            go_wp2_with fail
                            go_ret2
                            exact post_none HNO.out ((HB.out).trans (HR.out.mono HB.out.size))
                          · have HE4 : Aside0 ((fillP k i (n.2.drop (j + 1)) (h'.set q (i : Nat))).bind (fillN k (i + 1) (ns.drop (i + 1))) = homesP ns) := ⟨by rw [← HE3.out]; simp only [fillP]; rw [if_neg (by simp at hx ⊢; omega)]; rfl⟩
                            have HM4 := Aside0.mk (HM.out.set q (by rw [HHL.out]; exact hqk) (i : Nat))
                            have HR4 := Aside0.mk (HR.out.setCell (p := ⟨g, q, none⟩) HG.out (.int .i64 (i : Nat)))
                            generalize h'.getD q 0 = x at hqc hx
                            clear hp0 hpk HE3
                            go_wp2_with fail
                            go_roundw
                            case rel => exact ⟨j + 1, _, by omega, by go_num, by rw [List.length_set]; exact HHL.out, HR4, HM4, HE4⟩
                            case measure => simp [intOf]; omega
                    · obtain rfl : j = n.2.length := by omega
                      have HE5 : Aside0 (fillN k (i + 1) (ns.drop (i + 1)) h' = homesP ns) := ⟨by rw [← HE.out, List.drop_length]; rfl⟩
                      go_wp2_with fail
                      go_roundw
                      case rel => exact ⟨i + 1, h', by omega, by go_num, HHL.out, HR, HM, HE5⟩
                      case measure => simp [intOf]; omega
                · have hs' : srt n.2 = false := by simpa using hs
                  rw [hs']
                  have HNO : Aside0 (homesP ns = none) := ⟨by rw [← HE.out]; simp only [fillN]; rw [if_neg hs]⟩
                  go_wp2_with fail
                  go_ret2
                  exact post_none HNO.out ((HB.out).trans (HR4.out.mono HB.out.size))
              · obtain rfl : i = ns.length := by omega
                have HSO : Aside0 (homesP ns = some h) := ⟨by rw [← HI.out, List.drop_length]; rfl⟩
                go_wp2_with fail
                go_ret2
                exact post_some HSO.out ((HB.out).trans (HR.out.mono HB.out.size)) (Nat.le_trans HB.out.size HG.out) HM.out k HHL.out.symm
      · have hwi : wiB (cnt ns : Int) 1 64 = false := by
          unfold wiB
          by_cases h1 : (1 : Int) ≤ (cnt ns : Int)
          · rw [decide_eq_true h1, decide_eq_false (by omega)]; rfl
          · rw [decide_eq_false h1]; rfl
        rw [hwi]
        have HNO : Aside0 (homesP ns = none) := ⟨by unfold homesP; rw [if_neg hcn]⟩
        clear hwi hcn
        go_wp2_with fail
        go_ret2
        exact post_none HNO.out ((HB.out).trans (HR2.out.mono HB.out.size))
end Go.Proofs.YtljjpdjknnhceaaDoor.Homes

/- A store's name. -/
set_option linter.unusedVariables false
set_option linter.unusedSimpArgs false
namespace Go.Proofs.YtljjpdjknnhceaaDoor.Name
open Go.RowKit Go.Proofs.YtljjpdjknnhceaaDoorW.PrintWords Go.Proofs.YtljjpdjknnhceaaDoorW.PrintLast Go.Proofs.YtljjpdjknnhceaaDoorW.PrintMore
open Go.Proofs.YtljjpdjknnhceaaDoor.Base Go.Proofs.YtljjpdjknnhceaaDoor.Clus
/-- the byte at place i may stand there -/
def nb (x : Nat) (i : Nat) : Bool := decide ((97 ≤ x ∧ x ≤ 122) ∨ (((48 ≤ x ∧ x ≤ 57) ∨ x = 45) ∧ i ≠ 0))
def nbAt (s : ByteArray) (i : Nat) : Bool := nb (s.data.toList.getD i 0).toNat i
def nmB (s : ByteArray) : Bool := decide (1 ≤ s.size ∧ s.size ≤ 40) && (List.range s.size).all (nbAt s)
theorem nmB_true {s : ByteArray} (h : 1 ≤ s.size ∧ s.size ≤ 40) (ha : ∀ i, i < s.size → nbAt s i = true) : nmB s = true := by
  unfold nmB
  rw [decide_eq_true h, Bool.true_and, List.all_eq_true]
  exact fun i hi => ha i (List.mem_range.1 hi)
theorem nmB_false {s : ByteArray} {k : Nat} (hk : k < s.size) (h : nbAt s k = false) : nmB s = false := by
  unfold nmB
  rw [Bool.and_eq_false_iff]
  right
  rw [List.all_eq_false]
  exact ⟨k, List.mem_range.2 hk, by rw [h]; decide⟩
theorem nmB_size {s : ByteArray} (h : ¬ (1 ≤ s.size ∧ s.size ≤ 40)) : nmB s = false := by
  unfold nmB
  rw [decide_eq_false h, Bool.false_and]
theorem ret_b {a b : Bool} (h : a = b) : Ending.returned (.bool a) = .returned (.bool b) := by rw [h]
set_option maxRecDepth 100000 in
set_option maxHeartbeats 4000000 in
theorem name_any (s : ByteArray) (w : World) (hs : s.size ≤ 2147483647) :
    Calls Tryd.prog 78 #[.string s] w fun e w' => e = .returned (.bool (nmB s)) ∧ Below w.heap.size w w' := by
  have kb := fun W => Lib.run_convert_string_bytes (P := Tryd.prog) W 9 109 5 s Tryd.underlying9 Tryd.underlying109 Tryd.underlying5
  have HB := Aside0.mk (below_bytes (Below.refl w.heap.size w) 5 s)
  have HC := Aside0.mk (fun j hj => Lib.bytesWorld_cell w 5 s j hj)
  by_cases hsz : 1 ≤ s.size ∧ s.size ≤ 40
  · obtain ⟨h1, h2⟩ := hsz
    have HSZ := Aside0.mk (And.intro h1 h2)
    go_enter Tryd.func78, Tryd.ntmps78
    go_wp2
    clear kb
    generalize Lib.bytesWorld w 5 s = w1 at HB HC ⊢
    go_loop [3, 4, 5, 6, 18] (fun _ _ _ _ kv => ∃ k : Nat, k ≤ s.size ∧ kv = .int .i64 (k : Int) ∧ Aside0 (∀ i, i < k → nbAt s i = true)) (fun _ _ _ _ kv => s.size - (intOf kv).toNat)
    case atStart => exact ⟨0, Nat.zero_le _, rfl, ⟨fun i hi => absurd hi (Nat.not_lt_zero i)⟩⟩
    case round =>
      obtain ⟨k, hk, rfl, HI⟩ := hrel
      by_cases hlt : k < s.size
      · have hc := HC.out k hlt
        obtain ⟨x, hx⟩ : ∃ x : Nat, x = (s.data.toList.getD k 0).toNat := ⟨_, rfl⟩
        rw [← hx] at hc
        have HX : Aside0 (nbAt s k = nb x k) := ⟨by unfold nbAt; rw [hx]⟩
        have hx2 : x < 256 := by rw [hx]; exact UInt8.toNat_lt _
        clear hx
        have hy : ((x : Int) == 45) = decide (x = 45) := by rw [Bool.eq_iff_iff]; simp; omega
        have hz : ((k : Int) == 0) = decide (k = 0) := by rw [Bool.eq_iff_iff]; simp
        by_cases e1 : x = 45
        · by_cases e2 : k = 0
          · rw [decide_eq_true e1] at hy
            rw [decide_eq_true e2] at hz
            have HF : Aside0 (nb x k = false) := ⟨by unfold nb; exact decide_eq_false (by omega)⟩
            have g1 : ¬ (97 : Int) ≤ x := by omega
            have g2 : ¬ (48 : Int) ≤ x := by omega
            clear e1 e2
            go_wp2
            go_ret
            exact ⟨ret_b (nmB_false hlt (HX.out.trans HF.out)).symm, HB.out⟩
          · rw [decide_eq_true e1] at hy
            rw [decide_eq_false e2] at hz
            have HF : Aside0 (nb x k = true) := ⟨by unfold nb; exact decide_eq_true (by omega)⟩
            have g1 : ¬ (97 : Int) ≤ x := by omega
            have g2 : ¬ (48 : Int) ≤ x := by omega
            clear e1 e2
            go_wp2
            go_round
            case rel => exact ⟨k + 1, by omega, by go_num, ⟨fun i hi => by by_cases e : i = k; · rw [e]; exact HX.out.trans HF.out
                                                                           · exact HI.out i (by omega)⟩⟩
            case measure => simp [intOf]; omega
        · rw [decide_eq_false e1] at hy
          by_cases e2 : k = 0
          · rw [decide_eq_true e2] at hz
            have HE : Aside0 (x ≠ 45 ∧ k = 0) := ⟨e1, e2⟩
            clear e1 e2
            go_wp2
            all_goals first
              | (exfalso; have hh : (!decide ((x : Int) ≤ 122)) = false := by assumption
                 simp at hh; omega)
              | (go_ret
                 exact ⟨ret_b (nmB_false hlt (by rw [HX.out]; unfold nb; have := HE.out; exact decide_eq_false (by omega))).symm, HB.out⟩)
              | (go_round
                 case rel =>
                   refine ⟨k + 1, by omega, by go_num, ⟨fun i hi => ?_⟩⟩
                   by_cases e : i = k
                   · rw [e, HX.out]; unfold nb; have := HE.out; exact decide_eq_true (by omega)
                   · exact HI.out i (by omega)
                 case measure => simp [intOf]; omega)
          · rw [decide_eq_false e2] at hz
            have HE : Aside0 (x ≠ 45 ∧ k ≠ 0) := ⟨e1, e2⟩
            clear e1 e2
            go_wp2
            all_goals first
              | (exfalso; have hh : (!decide ((x : Int) ≤ 122)) = false := by assumption
                 simp at hh; omega)
              | (go_ret
                 exact ⟨ret_b (nmB_false hlt (by rw [HX.out]; unfold nb; have := HE.out; exact decide_eq_false (by omega))).symm, HB.out⟩)
              | (go_round
                 case rel =>
                   refine ⟨k + 1, by omega, by go_num, ⟨fun i hi => ?_⟩⟩
                   by_cases e : i = k
                   · rw [e, HX.out]; unfold nb; have := HE.out; exact decide_eq_true (by omega)
                   · exact HI.out i (by omega)
                 case measure => simp [intOf]; omega)
      · go_wp2
        go_ret
        exact ⟨ret_b (nmB_true HSZ.out (fun i hi => HI.out i (by omega))).symm, HB.out⟩
  · have hn := nmB_size hsz
    have HN := Aside0.mk hn
    clear hn HB HC
    by_cases h1 : s.size < 1
    · go_enter Tryd.func78, Tryd.ntmps78
      go_wp2
      go_ret
      exact ⟨ret_b HN.out.symm, Below.refl _ _⟩
    · have h2 : ¬ s.size ≤ 40 := fun h => hsz ⟨by omega, h⟩
      go_enter Tryd.func78, Tryd.ntmps78
      go_wp2
      go_ret
      exact ⟨ret_b HN.out.symm, Below.refl _ _⟩
end Go.Proofs.YtljjpdjknnhceaaDoor.Name

/- Whole structs in memory: stored, loaded, answered. -/
set_option linter.unusedVariables false
set_option linter.unusedSimpArgs false
namespace Go.Proofs.YtljjpdjknnhceaaDoor.Mids
open Go.RowKit Go.Proofs.YtljjpdjknnhceaaDoorW.PrintWords Go.Proofs.YtljjpdjknnhceaaDoorW.PrintLast Go.Proofs.YtljjpdjknnhceaaDoorW.PrintMore
open Go.Proofs.YtljjpdjknnhceaaDoor.Base
theorem below_setCells {B : Nat} {w W : World} (h : Below B w W) {b : Nat} (hb : B ≤ b) : ∀ (vs : List Value) (o : Nat), Below B w (W.setCells b o vs)
  | vs, o => by
    induction vs generalizing W o with
    | nil => exact h
    | cons v r ih => exact ih (h.setCell hb v) _
theorem setCells_all {g : Nat} {t : TypeId} : ∀ (vs : List Value) (w : World) (pre old : List Value), old.length = vs.length → w.heap[g]? = some (.cells (pre ++ old).toArray t (0, 0)) → (w.setCells g pre.length vs).heap[g]? = some (.cells (pre ++ vs).toArray t (0, 0))
  | [], w, pre, old, hl, h => by
    have : old = [] := List.eq_nil_of_length_eq_zero (by simpa using hl)
    subst this
    exact h
  | v :: r, w, pre, [], hl, h => by simp at hl
  | v :: r, w, pre, o :: old, hl, h => by
    have e : (w.setCell ⟨g, pre.length, none⟩ v).heap[g]? = some (.cells ((pre ++ [v]) ++ old).toArray t (0, 0)) := by
      refine (blk_set h _ _).trans ?_
      congr 2
      apply Array.ext'
      simp
    have ih := setCells_all r (w.setCell ⟨g, pre.length, none⟩ v) (pre ++ [v]) old (by simpa using hl) e
    have e2 : (pre ++ [v]).length = pre.length + 1 := by simp
    rw [e2] at ih
    show ((w.setCell ⟨g, pre.length, none⟩ v).setCells g (pre.length + 1) r).heap[g]? = _
    rw [ih]
    simp
theorem setCells_whole {w : World} {g : Nat} {t : TypeId} {old vs : List Value} (h : w.heap[g]? = some (.cells old.toArray t (0, 0))) (hl : old.length = vs.length) : (w.setCells g 0 vs).heap[g]? = some (.cells vs.toArray t (0, 0)) := by
  have := setCells_all vs w [] old hl (by simpa using h)
  simpa using this
theorem setCells_size (g : Nat) : ∀ (vs : List Value) (o : Nat) (w : World), (w.setCells g o vs).heap.size = w.heap.size
  | [], _, _ => rfl
  | v :: r, o, w => by
    show ((w.setCell ⟨g, o, none⟩ v).setCells g (o + 1) r).heap.size = _
    rw [setCells_size g r]; simp
theorem setCells_other (g : Nat) {i : Nat} (hi : i ≠ g) : ∀ (vs : List Value) (o : Nat) (w : World), (w.setCells g o vs).heap[i]? = w.heap[i]?
  | [], _, _ => rfl
  | v :: r, o, w => by
    show ((w.setCell ⟨g, o, none⟩ v).setCells g (o + 1) r).heap[i]? = _
    rw [setCells_other g hi r]
    exact Below.heap_setCell w ⟨g, o, none⟩ v i hi
theorem blk_range {w : World} {g : Nat} {t : TypeId} {cs : List Value} (h : w.heap[g]? = some (.cells cs.toArray t (0, 0))) : w.rangeAt g 0 cs := fun j v hv => by
  rw [Nat.zero_add, blk_cell h j, List.getElem?_toArray]; exact hv
theorem blk_there {w : World} {g : Nat} {t : TypeId} {cs : List Value} (h : w.heap[g]? = some (.cells cs.toArray t (0, 0))) : w.there g 0 cs.length := fun j hj => by
  rw [Nat.zero_add, blk_cell h j, List.getElem?_toArray, List.getElem?_eq_getElem hj]
  exact ⟨rfl, blk_frozen h j⟩
theorem results_ct_mid {P : Program} {fn : Func} {p u : Tmp} {ty : TypeId} (h : fn.results = #[.cell p ty, .tmp u]) (tmps : Array Value) (w : World) (g o : Nat) (cs : List Value) (d : TypeDesc)
    (hp : tmps.getD p undef = .pointer (some ⟨g, o, none⟩)) (hg : w.rangeAt g o cs) (hu : P.underlying ty = some d) (hd : d.isRow = true) (hi : (P.info? ty).map (·.size) = some cs.length) :
    (results fn tmps).run P w = .ok (.tuple #[.agg cs.toArray, tmps.getD u undef]) w := by
  have hp' : tmps[p]?.getD undef = .pointer (some ⟨g, o, none⟩) := by simpa using hp
  simp [results, h, hp', asAddr, run_loadVar_mid w g o ty cs d hg hu hd hi]
theorem results_c_mid {P : Program} {fn : Func} {p : Tmp} {ty : TypeId} (h : fn.results = #[.cell p ty]) (tmps : Array Value) (w : World) (g o : Nat) (cs : List Value) (d : TypeDesc)
    (hp : tmps.getD p undef = .pointer (some ⟨g, o, none⟩)) (hg : w.rangeAt g o cs) (hu : P.underlying ty = some d) (hd : d.isRow = true) (hi : (P.info? ty).map (·.size) = some cs.length) :
    (results fn tmps).run P w = .ok (.agg cs.toArray) w := by
  have hp' : tmps[p]?.getD undef = .pointer (some ⟨g, o, none⟩) := by simpa using hp
  simp [results, h, hp', asAddr, run_loadVar_mid w g o ty cs d hg hu hd hi]
end Go.Proofs.YtljjpdjknnhceaaDoor.Mids
