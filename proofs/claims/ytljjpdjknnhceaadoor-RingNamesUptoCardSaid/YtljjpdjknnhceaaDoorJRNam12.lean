/- Joined texts of this claim: RegA, Sets, Homes, Name, Chkd, App, AppR, Twin -/
import Derived.Test.YtljjpdjknnhceaaDoorJRNam11
import Derived.Test.YtljjpdjknnhceaaDoorJRNam9
import Derived.Great.BuildSlice
import Derived.Shelf.Abstract
import Derived.Deep.MidRow
import Derived.Deep.OwnRows
import Derived.Test.YtljjpdjknnhceaaDoorJRNam7
import Derived.Test.YtljjpdjknnhceaaDoorJRNam10
import Derived.Deep.QuietTactic
import Derived.BigQuiet
import Derived.Test.YtljjpdjknnhceaaDoorJRNam5
import Derived.Outline
import Derived.Deep.AppendLies
import Derived.Deep.RegionHeld3
import Derived.StillTailTactics
set_option linter.unusedVariables false
set_option linter.unusedSimpArgs false
/- A region of a function, taken out of its code, so that it is walked in a declaration of its own. -/
set_option linter.unusedVariables false
set_option linter.unusedSimpArgs false
namespace Go.Proofs.YtljjpdjknnhceaaDoor.RegA
open Go.RowKit Go.Proofs.YtljjpdjknnhceaaDoorW.PrintWords Go.Proofs.YtljjpdjknnhceaaDoorW.PrintLast
def regOf (n : Nat) : Code → Option Code
  | .region k ops d => if k = n then some (.region k ops d) else none
  | .seq a b => match regOf n a with
    | some c => some c
    | none => regOf n b
  | .cond _ a b => match regOf n a with
    | some c => some c
    | none => regOf n b
  | .loop c => regOf n c
  | .block _ c => regOf n c
  | .scope c => regOf n c
  | _ => none
noncomputable def regC (n : Nat) (f : Func) : Code := ((f.body.bind (regOf n)).getD .skip)
def putV : List (Option Tmp × Value) → Act → Act
  | [], a => a
  | p :: l, a => putV l (a.put p.1 p.2)
end Go.Proofs.YtljjpdjknnhceaaDoor.RegA

/- The table of the settings, and the functions in it. -/
set_option linter.unusedVariables false
set_option linter.unusedSimpArgs false
namespace Go.Proofs.YtljjpdjknnhceaaDoor.Sets
open Go.RowKit Go.Proofs.YtljjpdjknnhceaaDoorW.PrintWords Go.Proofs.YtljjpdjknnhceaaDoorW.PrintLast Go.Proofs.YtljjpdjknnhceaaDoorW.PrintMore
open Go.Proofs.YtljjpdjknnhceaaDoor.Base Go.Proofs.YtljjpdjknnhceaaDoor.RingPure Go.Proofs.YtljjpdjknnhceaaDoor.ChkPure Go.Proofs.YtljjpdjknnhceaaDoor.Clus
/-- the words -/
def words : List ByteArray := [⟨#[114, 101, 112, 108, 105, 99, 97, 115]⟩, ⟨#[119, 105, 100, 116, 104]⟩, ⟨#[99, 104, 117, 110, 107, 115]⟩, ⟨#[114, 101, 116, 97, 105, 110]⟩, ⟨#[98, 108, 111, 99, 107]⟩, ⟨#[114, 97, 116, 101]⟩, ⟨#[112, 101, 114]⟩, ⟨#[98, 117, 114, 115, 116]⟩, ⟨#[116, 114, 105, 101, 115]⟩, ⟨#[98, 97, 115, 101]⟩, ⟨#[109, 111, 115, 116]⟩, ⟨#[113, 117, 111, 116, 97]⟩, ⟨#[114, 111, 111, 109]⟩, ⟨#[100, 101, 112, 111, 116]⟩, ⟨#[114, 101, 115, 101, 110, 100]⟩, ⟨#[108, 105, 109, 105, 116]⟩, ⟨#[112, 97, 116, 105, 101, 110, 99, 101]⟩, ⟨#[103, 101, 116, 119, 97, 105, 116]⟩, ⟨#[115, 116, 114, 105, 107, 101, 115]⟩, ⟨#[98, 97, 110]⟩, ⟨#[104, 111, 109, 101]⟩]
/-- the functions' numbers -/
def atF : List Nat := [90, 91, 92, 93, 94, 95, 96, 97, 98, 99, 100, 101, 102, 103, 104, 105, 106, 107, 108, 109, 110]
/-- a setting's cells -/
def setRow (k : Nat) : List Value := [.string (words.getD k ByteArray.empty), .int .i64 (least k), .int .i64 (most.getD k 0), .func (.func (atF.getD k 0)) #[] #[]]
def setL : List Value := (List.range 21).flatMap setRow
theorem setRow_length (k : Nat) : (setRow k).length = 4 := rfl
theorem setL_length : setL.length = 84 := by decide
theorem setL_at (k : Nat) (hk : k < 21) (i : Nat) (u : Value) (h : (setRow k)[i]? = some u) : setL[k * 4 + i]? = some u := by
  have hi : i < 4 := (List.getElem?_eq_some_iff.1 h).1
  have e : ∀ (n k : Nat), k < n → ((List.range' 0 n).flatMap setRow)[k * 4 + i]? = ((List.range' k (n - k)).flatMap setRow)[i]? := by
    intro n
    have gen : ∀ (n s k : Nat), k < n → ((List.range' s n).flatMap setRow)[k * 4 + i]? = ((List.range' (s + k) (n - k)).flatMap setRow)[i]? := by
      intro n
      induction n with
      | zero => intro s k h; omega
      | succ n ih =>
        intro s k h
        cases k with
        | zero => simp
        | succ k =>
          rw [List.range'_succ, List.flatMap_cons, List.getElem?_append_right (by rw [setRow_length]; omega), setRow_length]
          have e1 : (k + 1) * 4 + i - 4 = k * 4 + i := by omega
          rw [e1, ih (s + 1) k (by omega)]
          have e2 : s + 1 + k = s + (k + 1) := by omega
          have e3 : n - k = n + 1 - (k + 1) := by omega
          rw [e2, e3]
    intro k hk
    have := gen n 0 k hk
    rwa [Nat.zero_add] at this
  unfold setL
  rw [List.range_eq_range', e 21 k hk]
  obtain ⟨m, hm⟩ : ∃ m, 21 - k = m + 1 := ⟨20 - k, by omega⟩
  rw [hm, List.range'_succ, List.flatMap_cons, List.getElem?_append_left (by rw [setRow_length]; exact hi)]
  exact h
set_option maxRecDepth 100000 in
set_option maxHeartbeats 4000000 in
theorem settings_any (w : World) : Calls Tryd.prog 65 #[] w fun e w' => e = .returned (.slice (some ⟨w.heap.size, 0, none⟩) 21 21) ∧ w' = w.alloc (.cells setL.toArray 122) := by
  have hs : setL.toArray = #[.string ⟨#[114, 101, 112, 108, 105, 99, 97, 115]⟩, .int .i64 1, .int .i64 16, .func (.func 90) #[] #[], .string ⟨#[119, 105, 100, 116, 104]⟩, .int .i64 1, .int .i64 16, .func (.func 91) #[] #[], .string ⟨#[99, 104, 117, 110, 107, 115]⟩, .int .i64 1, .int .i64 16, .func (.func 92) #[] #[], .string ⟨#[114, 101, 116, 97, 105, 110]⟩, .int .i64 1, .int .i64 8, .func (.func 93) #[] #[], .string ⟨#[98, 108, 111, 99, 107]⟩, .int .i64 1, .int .i64 4096, .func (.func 94) #[] #[], .string ⟨#[114, 97, 116, 101]⟩, .int .i64 1, .int .i64 65536, .func (.func 95) #[] #[], .string ⟨#[112, 101, 114]⟩, .int .i64 1, .int .i64 1024, .func (.func 96) #[] #[], .string ⟨#[98, 117, 114, 115, 116]⟩, .int .i64 1, .int .i64 65536, .func (.func 97) #[] #[], .string ⟨#[116, 114, 105, 101, 115]⟩, .int .i64 1, .int .i64 64, .func (.func 98) #[] #[], .string ⟨#[98, 97, 115, 101]⟩, .int .i64 1, .int .i64 1024, .func (.func 99) #[] #[], .string ⟨#[109, 111, 115, 116]⟩, .int .i64 1, .int .i64 1024, .func (.func 100) #[] #[], .string ⟨#[113, 117, 111, 116, 97]⟩, .int .i64 1, .int .i64 1073741824, .func (.func 101) #[] #[], .string ⟨#[114, 111, 111, 109]⟩, .int .i64 1, .int .i64 1073741824, .func (.func 102) #[] #[], .string ⟨#[100, 101, 112, 111, 116]⟩, .int .i64 1, .int .i64 1073741824, .func (.func 103) #[] #[], .string ⟨#[114, 101, 115, 101, 110, 100]⟩, .int .i64 1, .int .i64 1024, .func (.func 104) #[] #[], .string ⟨#[108, 105, 109, 105, 116]⟩, .int .i64 1, .int .i64 64, .func (.func 105) #[] #[], .string ⟨#[112, 97, 116, 105, 101, 110, 99, 101]⟩, .int .i64 1, .int .i64 65536, .func (.func 106) #[] #[], .string ⟨#[103, 101, 116, 119, 97, 105, 116]⟩, .int .i64 1, .int .i64 1024, .func (.func 107) #[] #[], .string ⟨#[115, 116, 114, 105, 107, 101, 115]⟩, .int .i64 1, .int .i64 64, .func (.func 108) #[] #[], .string ⟨#[98, 97, 110]⟩, .int .i64 1, .int .i64 1024, .func (.func 109) #[] #[], .string ⟨#[104, 111, 109, 101]⟩, .int .i64 0, .int .i64 7, .func (.func 110) #[] #[]] := by kernel_rfl
  have HS := Aside0.mk hs
  clear hs
  go_enter Tryd.func65, Tryd.ntmps65
  go_wp2
  go_ret
  exact ⟨rfl, by rw [HS.out]⟩
theorem infoT : (Tryd.prog.info? 122).map (fun i => (i.zero, i.size, i.bytes)) = some (some (.agg #[.string { data := #[] }, .int .i64 0, .int .i64 0, .nilFunc]), 4, 40) := by kernel_rfl
/-- the k-th function: the address of the k-th setting -/
theorem at_any (g k : Nat) (hk : k < 21) : (∀ (args : Array Value) (w : World), (callFunc (atF.getD k 0) args).run Tryd.prog w = .ok (.enter (atF.getD k 0) args) w) ∧
    ∀ w, Calls Tryd.prog (atF.getD k 0) #[.pointer (some ⟨g, 0, none⟩)] w fun e w' => e = .returned (.pointer (some ⟨g, k + 1, none⟩)) ∧ w = w' := by
  have h : k = 0 ∨ k = 1 ∨ k = 2 ∨ k = 3 ∨ k = 4 ∨ k = 5 ∨ k = 6 ∨ k = 7 ∨ k = 8 ∨ k = 9 ∨ k = 10 ∨ k = 11 ∨ k = 12 ∨ k = 13 ∨ k = 14 ∨ k = 15 ∨ k = 16 ∨ k = 17 ∨ k = 18 ∨ k = 19 ∨ k = 20 := by omega
  clear hk
  rcases h with rfl | rfl | rfl | rfl | rfl | rfl | rfl | rfl | rfl | rfl | rfl | rfl | rfl | rfl | rfl | rfl | rfl | rfl | rfl | rfl | rfl
  · refine ⟨fun args w => ?_, fun w => ?_⟩
    · exact (enters_of Tryd.func90 (by kernel_rfl) rfl) args w
    · go_enter Tryd.func90, Tryd.ntmps90
      go_wp2
      go_ret
      exact ⟨rfl, rfl⟩
  · refine ⟨fun args w => ?_, fun w => ?_⟩
    · exact (enters_of Tryd.func91 (by kernel_rfl) rfl) args w
    · go_enter Tryd.func91, Tryd.ntmps91
      go_wp2
      go_ret
      exact ⟨rfl, rfl⟩
  · refine ⟨fun args w => ?_, fun w => ?_⟩
    · exact (enters_of Tryd.func92 (by kernel_rfl) rfl) args w
    · go_enter Tryd.func92, Tryd.ntmps92
      go_wp2
      go_ret
      exact ⟨rfl, rfl⟩
  · refine ⟨fun args w => ?_, fun w => ?_⟩
    · exact (enters_of Tryd.func93 (by kernel_rfl) rfl) args w
    · go_enter Tryd.func93, Tryd.ntmps93
      go_wp2
      go_ret
      exact ⟨rfl, rfl⟩
  · refine ⟨fun args w => ?_, fun w => ?_⟩
    · exact (enters_of Tryd.func94 (by kernel_rfl) rfl) args w
    · go_enter Tryd.func94, Tryd.ntmps94
      go_wp2
      go_ret
      exact ⟨rfl, rfl⟩
  · refine ⟨fun args w => ?_, fun w => ?_⟩
    · exact (enters_of Tryd.func95 (by kernel_rfl) rfl) args w
    · go_enter Tryd.func95, Tryd.ntmps95
      go_wp2
      go_ret
      exact ⟨rfl, rfl⟩
  · refine ⟨fun args w => ?_, fun w => ?_⟩
    · exact (enters_of Tryd.func96 (by kernel_rfl) rfl) args w
    · go_enter Tryd.func96, Tryd.ntmps96
      go_wp2
      go_ret
      exact ⟨rfl, rfl⟩
  · refine ⟨fun args w => ?_, fun w => ?_⟩
    · exact (enters_of Tryd.func97 (by kernel_rfl) rfl) args w
    · go_enter Tryd.func97, Tryd.ntmps97
      go_wp2
      go_ret
      exact ⟨rfl, rfl⟩
  · refine ⟨fun args w => ?_, fun w => ?_⟩
    · exact (enters_of Tryd.func98 (by kernel_rfl) rfl) args w
    · go_enter Tryd.func98, Tryd.ntmps98
      go_wp2
      go_ret
      exact ⟨rfl, rfl⟩
  · refine ⟨fun args w => ?_, fun w => ?_⟩
    · exact (enters_of Tryd.func99 (by kernel_rfl) rfl) args w
    · go_enter Tryd.func99, Tryd.ntmps99
      go_wp2
      go_ret
      exact ⟨rfl, rfl⟩
  · refine ⟨fun args w => ?_, fun w => ?_⟩
    · exact (enters_of Tryd.func100 (by kernel_rfl) rfl) args w
    · go_enter Tryd.func100, Tryd.ntmps100
      go_wp2
      go_ret
      exact ⟨rfl, rfl⟩
  · refine ⟨fun args w => ?_, fun w => ?_⟩
    · exact (enters_of Tryd.func101 (by kernel_rfl) rfl) args w
    · go_enter Tryd.func101, Tryd.ntmps101
      go_wp2
      go_ret
      exact ⟨rfl, rfl⟩
  · refine ⟨fun args w => ?_, fun w => ?_⟩
    · exact (enters_of Tryd.func102 (by kernel_rfl) rfl) args w
    · go_enter Tryd.func102, Tryd.ntmps102
      go_wp2
      go_ret
      exact ⟨rfl, rfl⟩
  · refine ⟨fun args w => ?_, fun w => ?_⟩
    · exact (enters_of Tryd.func103 (by kernel_rfl) rfl) args w
    · go_enter Tryd.func103, Tryd.ntmps103
      go_wp2
      go_ret
      exact ⟨rfl, rfl⟩
  · refine ⟨fun args w => ?_, fun w => ?_⟩
    · exact (enters_of Tryd.func104 (by kernel_rfl) rfl) args w
    · go_enter Tryd.func104, Tryd.ntmps104
      go_wp2
      go_ret
      exact ⟨rfl, rfl⟩
  · refine ⟨fun args w => ?_, fun w => ?_⟩
    · exact (enters_of Tryd.func105 (by kernel_rfl) rfl) args w
    · go_enter Tryd.func105, Tryd.ntmps105
      go_wp2
      go_ret
      exact ⟨rfl, rfl⟩
  · refine ⟨fun args w => ?_, fun w => ?_⟩
    · exact (enters_of Tryd.func106 (by kernel_rfl) rfl) args w
    · go_enter Tryd.func106, Tryd.ntmps106
      go_wp2
      go_ret
      exact ⟨rfl, rfl⟩
  · refine ⟨fun args w => ?_, fun w => ?_⟩
    · exact (enters_of Tryd.func107 (by kernel_rfl) rfl) args w
    · go_enter Tryd.func107, Tryd.ntmps107
      go_wp2
      go_ret
      exact ⟨rfl, rfl⟩
  · refine ⟨fun args w => ?_, fun w => ?_⟩
    · exact (enters_of Tryd.func108 (by kernel_rfl) rfl) args w
    · go_enter Tryd.func108, Tryd.ntmps108
      go_wp2
      go_ret
      exact ⟨rfl, rfl⟩
  · refine ⟨fun args w => ?_, fun w => ?_⟩
    · exact (enters_of Tryd.func109 (by kernel_rfl) rfl) args w
    · go_enter Tryd.func109, Tryd.ntmps109
      go_wp2
      go_ret
      exact ⟨rfl, rfl⟩
  · refine ⟨fun args w => ?_, fun w => ?_⟩
    · exact (enters_of Tryd.func110 (by kernel_rfl) rfl) args w
    · go_enter Tryd.func110, Tryd.ntmps110
      go_wp2
      go_ret
      exact ⟨rfl, rfl⟩
end Go.Proofs.YtljjpdjknnhceaaDoor.Sets

/- The home of each partition: ring.homes walked. -/
set_option linter.unusedVariables false
set_option linter.unusedSimpArgs false
namespace Go.Proofs.YtljjpdjknnhceaaDoor.Homes
open Go.RowKit Go.Proofs.YtljjpdjknnhceaaDoorW.PrintWords Go.Proofs.YtljjpdjknnhceaaDoorW.PrintLast Go.Proofs.YtljjpdjknnhceaaDoorW.PrintMore
open Go.Proofs.YtljjpdjknnhceaaDoor.Base Go.Proofs.YtljjpdjknnhceaaDoor.RingPure Go.Proofs.YtljjpdjknnhceaaDoor.ChkPure Go.Proofs.YtljjpdjknnhceaaDoor.Clus Go.Proofs.YtljjpdjknnhceaaDoor.Sort
/-- a row of numbers, whole -/
def RowI (w : World) (g : Nat) (h : List Int) : Prop := w.heap[g]? = some (.cells (nums .i64 h).toArray 3 (0, 0))
def HomesPost (ns : List Nd) (w : World) (e : Ending) (w' : World) : Prop := Below w.heap.size w w' ∧
  ((homesP ns = none ∧ e = .returned (.tuple #[.slice none 0 0, .int .i64 66])) ∨ ∃ h g, homesP ns = some h ∧ e = .returned (.tuple #[.slice (some ⟨g, 0, none⟩) h.length h.length, .int .i64 0]) ∧ w.heap.size ≤ g ∧ RowI w' g h)
theorem post_none {ns : List Nd} {w w' : World} (h : homesP ns = none) (hb : Below w.heap.size w w') : HomesPost ns w (.returned (.tuple #[.slice none 0 0, .int .i64 66])) w' := ⟨hb, .inl ⟨h, rfl⟩⟩
theorem post_some {ns : List Nd} {w w' : World} {h : List Int} {g : Nat} (e : homesP ns = some h) (hb : Below w.heap.size w w') (hg : w.heap.size ≤ g) (hr : RowI w' g h) (n : Nat) (hn : n = h.length) : HomesPost ns w (.returned (.tuple #[.slice (some ⟨g, 0, none⟩) n n, .int .i64 0])) w' := by
  subst hn
  exact ⟨hb, .inr ⟨h, g, e, rfl, hg, hr⟩⟩
theorem cnt_le_of (ns : List Nd) (k : Nat) (n : Nd) (h : ns[k]? = some n) : n.2.length ≤ cnt ns := by
  have h1 := cnt_snoc ns k n h
  have h2 := cnt_take ns (k + 1)
  omega
theorem RowI.cell {w : World} {g : Nat} {h : List Int} (hr : RowI w g h) (i : Nat) (hi : i < h.length) : w.cell? ⟨g, i, none⟩ = some (.int .i64 (h.getD i 0)) := by
  rw [blk_cell hr i, List.getElem?_toArray]
  simp [nums, List.getD_eq_getElem?_getD, List.getElem?_eq_getElem hi]
theorem RowI.set {w : World} {g : Nat} {h : List Int} (hr : RowI w g h) (i : Nat) (hi : i < h.length) (x : Int) : RowI (w.setCell ⟨g, i, none⟩ (.int .i64 x)) g (h.set i x) := by
  unfold RowI
  refine (blk_set hr _ _).trans ?_
  congr 2
  apply Array.ext'
  simp [nums, List.map_set]
theorem RowI.below {w w1 : World} {g B : Nat} {h : List Int} (hr : RowI w g h) (hb : Below B w w1) (hg : g < B) : RowI w1 g h := (hb.block _ hg).trans hr
theorem RowI.made (w : World) (n : Nat) : RowI (w.alloc (.cells (madeCells #[Value.int .i64 0] n) 3)) w.heap.size (List.replicate n 0) := by
  unfold RowI
  rw [Go.heap_alloc_new]
  congr 2
  apply Array.ext'
  apply List.ext_getElem (by simp [nums, madeCells])
  intro i h1 h2
  simp [madeCells, nums, Nat.mod_one]
/-- so far all is -1 -/
def minus (n k : Nat) : List Int := List.replicate k (-1) ++ List.replicate (n - k) 0
theorem minus_set (n k : Nat) (h : k < n) : (minus n k).set k (-1) = minus n (k + 1) := by
  unfold minus
  rw [List.set_append_right _ _ (by simp)]
  simp only [List.length_replicate, Nat.sub_self]
  obtain ⟨m, hm⟩ : ∃ m, n - k = m + 1 := ⟨n - k - 1, by omega⟩
  rw [hm, List.replicate_succ, List.set_cons_zero, show n - (k + 1) = m by omega, List.replicate_succ', List.append_assoc]
  rfl
theorem minus_all (n : Nat) : minus n n = List.replicate n (-1) := by simp [minus]
theorem minus_len (n k : Nat) (h : k ≤ n) : (minus n k).length = n := by simp [minus]; omega
theorem drop_at {α : Type} (l : List α) (k : Nat) (x : α) (h : l[k]? = some x) : l.drop k = x :: l.drop (k + 1) := by
  obtain ⟨hl, e⟩ := List.getElem?_eq_some_iff.1 h
  rw [List.drop_eq_getElem_cons hl, e]
theorem make_int (N : Nat) (W : World) (h : N ≤ 1099511627776) : (Instr.makeSlice 36 (.int .i64 (N : Int)) (.int .i64 (N : Int))).run Tryd.prog W = .ok (.slice (some ⟨W.heap.size, 0, none⟩) N N) (W.alloc (.cells (madeCells #[Value.int .i64 0] N) 3)) := by
  obtain ⟨i0, hi, hzz⟩ := Option.map_eq_some_iff.1 infoI
  simp only [Prod.mk.injEq] at hzz
  obtain ⟨hz0, hz1, hz2⟩ := hzz
  have := run_make (P := Tryd.prog) W 36 3 i0 (.int .i64 0) Tryd.underlying36 hi hz0 .i64 .i64 (N : Int) (N : Int) (by omega) (by omega) (by rw [hz2]; omega) (by omega)
  rw [hz1] at this
  simpa [Value.cells] using this
set_option maxRecDepth 100000 in
set_option maxHeartbeats 8000000 in
theorem homes_any (c : Cl) (A : Option Addr) (cap : Nat) (ns : List Nd) (w : World) (hN : NodesAt w A ns) (hcap : ns.length ≤ cap) (hl : ns.length ≤ 1099511627776) (hc : cnt ns ≤ 1099511627776) :
    Calls Tryd.prog 79 #[.agg (cL c (.slice A ns.length cap)).toArray] w (HomesPost ns w) := by
  have hb0 := (Below.refl w.heap.size w).alloc (Nat.le_refl _) (.cells (cL c (.slice A ns.length cap)).toArray 24)
  have HN := Aside0.mk (hN.below hb0)
  have HB := Aside0.mk hb0
  have HC : Aside0 (CBox (w.alloc (.cells (cL c (.slice A ns.length cap)).toArray 24)) w.heap.size c (.slice A ns.length cap)) := ⟨⟨Go.heap_alloc_new w _⟩⟩
  have HCT := Aside0.mk (fun k => cnt_take ns k)
  have hc22 : (w.alloc (.cells (cL c (.slice A ns.length cap)).toArray 24)).cell? ⟨w.heap.size, 22, none⟩ = some (.slice A ns.length cap) := HC.out.c 22
  clear hN hb0
  go_enter Tryd.func79, Tryd.ntmps79
  go_wp2_with fail
  clear hc22
  generalize w.alloc (.cells (cL c (.slice A ns.length cap)).toArray 24) = w1 at HN HB HC ⊢
  go_loopw [4, 16] (fun v4 v16 wr => ∃ k : Nat, k ≤ ns.length ∧ v4 = .int .i64 (cnt (ns.take k) : Nat) ∧ v16 = .int .i64 (k : Nat) ∧ Aside0 (Below w1.heap.size w1 wr)) (fun _ v16 _ => ns.length - (intOf v16).toNat)
  case atStart => exact ⟨0, Nat.zero_le _, rfl, rfl, ⟨Below.refl _ _⟩⟩
  case round =>
    obtain ⟨k, hk, rfl, rfl, HR⟩ := hrel
    obtain ⟨wo, rfl⟩ : ∃ wo : World, wo = wr := ⟨_, rfl⟩
    have HN1 := Aside0.mk (HN.out.below HR.out)
    have HC1 := Aside0.mk (HC.out.below HR.out HC.out.lt)
    have hct := HCT.out k
    by_cases hlt : k < ns.length
    · obtain ⟨n, hn⟩ : ∃ n, ns[k]? = some n := ⟨_, List.getElem?_eq_getElem hlt⟩
      obtain ⟨b, o, rfl, hz, B, cp, hp, hcp, hnm⟩ := HN1.out.get hn
      have hsn := cnt_snoc ns k n hn
      have hct1 := HCT.out (k + 1)
      have HSN := Aside0.mk hsn
      have hq : cnt (ns.take k) + n.2.length ≤ 1099511627776 := by omega
      have HNM := Aside0.mk hnm
      clear hn hsn hct1 hnm
      go_wp2_with fail
      go_roundw
      case rel => exact ⟨k + 1, by omega, by rw [HSN.out]; go_num, by go_num, ⟨HR.out.alloc HR.out.size _⟩⟩
      case measure => simp [intOf]; omega
    · obtain rfl : k = ns.length := by omega
      rw [List.take_length]
      clear hct hlt hk HCT
      go_wp2_with fail
      refine (within_any _ _ _ _).mono ?_
      rintro e w2 ⟨rfl, hd⟩
      have HR2 := Aside0.mk (HR.out.trans (hd.below.mono HR.out.size))
      clear hd HR HN1 HC1
      by_cases hcn : 1 ≤ cnt ns ∧ cnt ns ≤ 64
      · have hwi : wiB (cnt ns : Int) 1 64 = true := by unfold wiB; rw [decide_eq_true (by omega), decide_eq_true (by omega)]; rfl
        rw [hwi]
        have HI : Aside0 (fillN (cnt ns) 0 (ns.drop 0) (List.replicate (cnt ns) (-1)) = homesP ns) := ⟨by unfold homesP; rw [if_pos hcn, List.drop_zero]⟩
        obtain ⟨hc1, hc2⟩ := hcn
        obtain ⟨N, hNn⟩ : ∃ N, N = cnt ns := ⟨_, rfl⟩
        rw [← hNn] at hc hc1 hc2 HI ⊢
        have hmk := fun W => make_int N W (by omega)
        have hw3 : Below w2.heap.size w2 (w2.alloc (.cells (madeCells #[Value.int .i64 0] N) 3)) := (Below.refl _ _).alloc (Nat.le_refl _) _
        have HR3 := Aside0.mk (HR2.out.trans (hw3.mono HR2.out.size))
        have HW3 := Aside0.mk (RowI.made w2 N)
        have HG := Aside0.mk HR2.out.size
        have hcl := HC.out.lt
        have HHN := Aside0.mk hNn
        clear hw3 hwi hNn HR2
        go_wp2_with fail
        clear hmk
        generalize hw3 : w2.alloc (.cells (madeCells #[Value.int .i64 0] N) 3) = w3 at HR3 HW3 ⊢
        generalize w2.heap.size = g at HG HW3 hw3 ⊢
        clear hw3
        have hm0 : List.replicate N (0 : Int) = minus N 0 := by simp [minus]
        have HM0 : Aside0 (RowI w3 g (minus N 0)) := ⟨hm0 ▸ HW3.out⟩
        clear hm0 HW3
        go_loopw [8, 33] (fun _ v33 wr => ∃ k : Nat, k ≤ N ∧ v33 = .int .i64 (k : Nat) ∧ Aside0 (Below w1.heap.size w1 wr) ∧ Aside0 (RowI wr g (minus N k))) (fun _ v33 _ => N - (intOf v33).toNat)
        case atStart => exact ⟨0, Nat.zero_le _, rfl, HR3, HM0⟩
        case round =>
          clear HR3 HM0
          obtain ⟨k, hk, rfl, HR, HM⟩ := hrel
          obtain ⟨wo, rfl⟩ : ∃ wo : World, wo = wr := ⟨_, rfl⟩
          by_cases hlt : k < N
          · have hcell := HM.out.cell k (by rw [minus_len _ _ hk]; exact hlt)
            have hfz : wo.frozen? ⟨g, k, none⟩ = false := blk_frozen HM.out k
            go_wp2_with fail
            go_roundw
            case rel =>
              refine ⟨k + 1, by omega, by go_num, ⟨HR.out.setCell HG.out _⟩, ⟨?_⟩⟩
              rw [← minus_set N k hlt]
              exact HM.out.set k (by rw [minus_len _ _ hk]; exact hlt) _
            case measure => simp [intOf]; omega
          · obtain rfl : k = N := by omega
            have HMA : Aside0 (RowI wo g (List.replicate k (-1))) := ⟨minus_all k ▸ HM.out⟩
            have HC1 := Aside0.mk (HC.out.below HR.out HC.out.lt)
            have hc22 : wo.cell? ⟨w.heap.size, 22, none⟩ = some (.slice A ns.length cap) := HC1.out.c 22
            clear hlt hk HM HC1
            go_wp2_with fail
            clear hc22
            go_loopw [9, 10, 12, 43] (fun _ _ _ v43 wr => ∃ (i : Nat) (h : List Int), i ≤ ns.length ∧ v43 = .int .i64 (i : Nat) ∧ h.length = k ∧ Aside0 (Below w1.heap.size w1 wr) ∧ Aside0 (RowI wr g h) ∧ Aside0 (fillN k i (ns.drop i) h = homesP ns)) (fun _ _ _ v43 _ => ns.length - (intOf v43).toNat)
            case atStart => exact ⟨0, _, Nat.zero_le _, rfl, by simp, HR, HMA, HI⟩
            case round =>
              clear HR HMA HI
              obtain ⟨i, h, hi, rfl, hhl, HR, HM, HI⟩ := hrel
              have HHL := Aside0.mk hhl
              clear hhl
              obtain ⟨wo, rfl⟩ : ∃ wo : World, wo = wr := ⟨_, rfl⟩
              by_cases hlt : i < ns.length
              · obtain ⟨n, hn⟩ : ∃ n, ns[i]? = some n := ⟨_, List.getElem?_eq_getElem hlt⟩
                have HDN := Aside0.mk (drop_at ns i n hn)
                have hnl := cnt_le_of ns i n hn
                rw [← HHN.out] at hnl
                obtain ⟨b, o, rfl, hz0, B, cp, hp0, hcp, hnm⟩ := HN.out.get hn
                have hz := cell_below HR.out (Nat.le_refl _) hz0
                have hp := cell_below HR.out (Nat.le_refl _) hp0
                have HNM := Aside0.mk hnm
                clear hz0 hp0
                have hb1 : Below wo.heap.size wo (wo.alloc (.cells #[.int .i64 n.1, .slice B n.2.length cp] 56)) := (Below.refl _ _).alloc (Nat.le_refl _) _
                have HR1 := Aside0.mk (HR.out.trans (hb1.mono HR.out.size))
                have HM1 := Aside0.mk (HM.out.below hb1 (blk_lt HM.out))
                have hp1 : (wo.alloc (.cells #[.int .i64 n.1, .slice B n.2.length cp] 56)).cell? ⟨wo.heap.size, 1, none⟩ = some (.slice B n.2.length cp) := by
                  rw [cell_of_row _ _ _ _ _ _ (Go.heap_alloc_new wo _)]; rfl
                have HP1 := Aside0.mk hp1
                have HBL := Aside0.mk (show wo.heap.size < (wo.alloc (.cells #[.int .i64 n.1, .slice B n.2.length cp] 56)).heap.size by simp)
                clear hn hnm hb1 HR HM hp1
                go_wp2_with fail
                refine (sorted_any B cp n.2 _ (HNM.out.below HR1.out) hcp.1 (by omega)).mono ?_
                rintro e w4 ⟨rfl, hd⟩
                have hbd := hd.below
                have HR4 := Aside0.mk (HR1.out.trans (hbd.mono HR1.out.size))
                have HM4 := Aside0.mk (HM1.out.below hbd (blk_lt HM1.out))
                have hp4 : w4.cell? ⟨wo.heap.size, 1, none⟩ = some (.slice B n.2.length cp) := (World.cell?_of_block (hbd.block _ HBL.out)).trans HP1.out
                clear hd hbd HR1 HM1 HP1 HBL hz hp
                have HE : Aside0 (fillN k i (n :: ns.drop (i + 1)) h = homesP ns) := ⟨by rw [← HDN.out]; exact HI.out⟩
                clear HI HDN
                by_cases hs : srt n.2 = true
                · rw [hs]
                  have HE2 : Aside0 ((fillP k i (n.2.drop 0) h).bind (fillN k (i + 1) (ns.drop (i + 1))) = homesP ns) := ⟨by rw [← HE.out, List.drop_zero]; simp only [fillN]; rw [if_pos hs]⟩
                  clear hs HE
                  go_wp2_with fail
                  clear hp4
                  go_loopw [12, 55] (fun _ v55 wr => ∃ (j : Nat) (h' : List Int), j ≤ n.2.length ∧ v55 = .int .i64 (j : Nat) ∧ h'.length = k ∧ Aside0 (Below w1.heap.size w1 wr) ∧ Aside0 (RowI wr g h') ∧ Aside0 ((fillP k i (n.2.drop j) h').bind (fillN k (i + 1) (ns.drop (i + 1))) = homesP ns)) (fun _ v55 _ => n.2.length - (intOf v55).toNat)
                  case atStart => exact ⟨0, h, Nat.zero_le _, rfl, HHL.out, HR4, HM4, HE2⟩
                  case round =>
                    clear HR4 HM4 HE2 HHL
                    obtain ⟨j, h', hj, rfl, hhl, HR, HM, HE⟩ := hrel
                    obtain ⟨wq, rfl⟩ : ∃ wq : World, wq = wr := ⟨_, rfl⟩
                    have HHL := Aside0.mk hhl
                    clear hhl
                    by_cases hjl : j < n.2.length
                    · obtain ⟨p, hp⟩ : ∃ p, n.2[j]? = some p := ⟨_, List.getElem?_eq_getElem hjl⟩
                      have HD := Aside0.mk (drop_at n.2 j p hp)
                      obtain ⟨b2, o2, rfl, hpc⟩ := (HNM.out.below HR.out).get hp
                      have HPC := Aside0.mk hpc
                      have HE3 : Aside0 ((fillP k i (p :: n.2.drop (j + 1)) h').bind (fillN k (i + 1) (ns.drop (i + 1))) = homesP ns) := ⟨by rw [← HD.out]; exact HE.out⟩
                      clear hp HE HD
                      by_cases hp0 : p < 0
                      · have HNO : Aside0 (homesP ns = none) := ⟨by rw [← HE3.out]; simp only [fillP]; rw [if_pos (.inl hp0)]; rfl⟩
                        go_wp2_with fail
                        go_ret2
                        exact post_none HNO.out ((HB.out).trans (HR.out.mono HB.out.size))
                      · by_cases hpk : (k : Int) ≤ p
                        · have HNO : Aside0 (homesP ns = none) := ⟨by rw [← HE3.out]; simp only [fillP]; rw [if_pos (.inr (.inl hpk))]; rfl⟩
                          go_wp2_with fail
                          go_ret2
                          exact post_none HNO.out ((HB.out).trans (HR.out.mono HB.out.size))
                        · obtain ⟨q, rfl⟩ : ∃ q : Nat, p = q := ⟨p.toNat, by omega⟩
                          have hqk : q < k := by omega
                          have hqc := HM.out.cell q (by rw [HHL.out]; exact hqk)
                          have hfz : wq.frozen? ⟨g, q, none⟩ = false := blk_frozen HM.out q
                          by_cases hx : 0 ≤ h'.getD q 0
                          · have HNO : Aside0 (homesP ns = none) := ⟨by rw [← HE3.out]; simp only [fillP]; rw [if_pos (.inr (.inr (by simpa using hx)))]; rfl⟩
                            generalize h'.getD q 0 = x at hqc hx
                            clear hp0 hpk
                            go_wp2_with fail
                            go_ret2
                            exact post_none HNO.out ((HB.out).trans (HR.out.mono HB.out.size))
                          · have HE4 : Aside0 ((fillP k i (n.2.drop (j + 1)) (h'.set q (i : Nat))).bind (fillN k (i + 1) (ns.drop (i + 1))) = homesP ns) := ⟨by rw [← HE3.out]; simp only [fillP]; rw [if_neg (by simp at hx ⊢; omega)]; rfl⟩
                            have HM4 := Aside0.mk (HM.out.set q (by rw [HHL.out]; exact hqk) (i : Nat))
                            have HR4 := Aside0.mk (HR.out.setCell (p := ⟨g, q, none⟩) HG.out (.int .i64 (i : Nat)))
                            generalize h'.getD q 0 = x at hqc hx
                            clear hp0 hpk HE3
                            go_wp2_with fail
                            go_roundw
                            case rel => exact ⟨j + 1, _, by omega, by go_num, by rw [List.length_set]; exact HHL.out, HR4, HM4, HE4⟩
                            case measure => simp [intOf]; omega
                    · obtain rfl : j = n.2.length := by omega
                      have HE5 : Aside0 (fillN k (i + 1) (ns.drop (i + 1)) h' = homesP ns) := ⟨by rw [← HE.out, List.drop_length]; rfl⟩
                      go_wp2_with fail
                      go_roundw
                      case rel => exact ⟨i + 1, h', by omega, by go_num, HHL.out, HR, HM, HE5⟩
                      case measure => simp [intOf]; omega
                · have hs' : srt n.2 = false := by simpa using hs
                  rw [hs']
                  have HNO : Aside0 (homesP ns = none) := ⟨by rw [← HE.out]; simp only [fillN]; rw [if_neg hs]⟩
                  go_wp2_with fail
                  go_ret2
                  exact post_none HNO.out ((HB.out).trans (HR4.out.mono HB.out.size))
              · obtain rfl : i = ns.length := by omega
                have HSO : Aside0 (homesP ns = some h) := ⟨by rw [← HI.out, List.drop_length]; rfl⟩
                go_wp2_with fail
                go_ret2
                exact post_some HSO.out ((HB.out).trans (HR.out.mono HB.out.size)) (Nat.le_trans HB.out.size HG.out) HM.out k HHL.out.symm
      · have hwi : wiB (cnt ns : Int) 1 64 = false := by
          unfold wiB
          by_cases h1 : (1 : Int) ≤ (cnt ns : Int)
          · rw [decide_eq_true h1, decide_eq_false (by omega)]; rfl
          · rw [decide_eq_false h1]; rfl
        rw [hwi]
        have HNO : Aside0 (homesP ns = none) := ⟨by unfold homesP; rw [if_neg hcn]⟩
        clear hwi hcn
        go_wp2_with fail
        go_ret2
        exact post_none HNO.out ((HB.out).trans (HR2.out.mono HB.out.size))
end Go.Proofs.YtljjpdjknnhceaaDoor.Homes

/- A store's name. -/
set_option linter.unusedVariables false
set_option linter.unusedSimpArgs false
namespace Go.Proofs.YtljjpdjknnhceaaDoor.Name
open Go.RowKit Go.Proofs.YtljjpdjknnhceaaDoorW.PrintWords Go.Proofs.YtljjpdjknnhceaaDoorW.PrintLast Go.Proofs.YtljjpdjknnhceaaDoorW.PrintMore
open Go.Proofs.YtljjpdjknnhceaaDoor.Base Go.Proofs.YtljjpdjknnhceaaDoor.Clus
/-- the byte at place i may stand there -/
def nb (x : Nat) (i : Nat) : Bool := decide ((97 ≤ x ∧ x ≤ 122) ∨ (((48 ≤ x ∧ x ≤ 57) ∨ x = 45) ∧ i ≠ 0))
def nbAt (s : ByteArray) (i : Nat) : Bool := nb (s.data.toList.getD i 0).toNat i
def nmB (s : ByteArray) : Bool := decide (1 ≤ s.size ∧ s.size ≤ 40) && (List.range s.size).all (nbAt s)
theorem nmB_true {s : ByteArray} (h : 1 ≤ s.size ∧ s.size ≤ 40) (ha : ∀ i, i < s.size → nbAt s i = true) : nmB s = true := by
  unfold nmB
  rw [decide_eq_true h, Bool.true_and, List.all_eq_true]
  exact fun i hi => ha i (List.mem_range.1 hi)
theorem nmB_false {s : ByteArray} {k : Nat} (hk : k < s.size) (h : nbAt s k = false) : nmB s = false := by
  unfold nmB
  rw [Bool.and_eq_false_iff]
  right
  rw [List.all_eq_false]
  exact ⟨k, List.mem_range.2 hk, by rw [h]; decide⟩
theorem nmB_size {s : ByteArray} (h : ¬ (1 ≤ s.size ∧ s.size ≤ 40)) : nmB s = false := by
  unfold nmB
  rw [decide_eq_false h, Bool.false_and]
theorem ret_b {a b : Bool} (h : a = b) : Ending.returned (.bool a) = .returned (.bool b) := by rw [h]
set_option maxRecDepth 100000 in
set_option maxHeartbeats 4000000 in
theorem name_any (s : ByteArray) (w : World) (hs : s.size ≤ 2147483647) :
    Calls Tryd.prog 78 #[.string s] w fun e w' => e = .returned (.bool (nmB s)) ∧ Below w.heap.size w w' := by
  have kb := fun W => Lib.run_convert_string_bytes (P := Tryd.prog) W 9 109 5 s Tryd.underlying9 Tryd.underlying109 Tryd.underlying5
  have HB := Aside0.mk (below_bytes (Below.refl w.heap.size w) 5 s)
  have HC := Aside0.mk (fun j hj => Lib.bytesWorld_cell w 5 s j hj)
  by_cases hsz : 1 ≤ s.size ∧ s.size ≤ 40
  · obtain ⟨h1, h2⟩ := hsz
    have HSZ := Aside0.mk (And.intro h1 h2)
    go_enter Tryd.func78, Tryd.ntmps78
    go_wp2
    clear kb
    generalize Lib.bytesWorld w 5 s = w1 at HB HC ⊢
    go_loop [3, 4, 5, 6, 18] (fun _ _ _ _ kv => ∃ k : Nat, k ≤ s.size ∧ kv = .int .i64 (k : Int) ∧ Aside0 (∀ i, i < k → nbAt s i = true)) (fun _ _ _ _ kv => s.size - (intOf kv).toNat)
    case atStart => exact ⟨0, Nat.zero_le _, rfl, ⟨fun i hi => absurd hi (Nat.not_lt_zero i)⟩⟩
    case round =>
      obtain ⟨k, hk, rfl, HI⟩ := hrel
      by_cases hlt : k < s.size
      · have hc := HC.out k hlt
        obtain ⟨x, hx⟩ : ∃ x : Nat, x = (s.data.toList.getD k 0).toNat := ⟨_, rfl⟩
        rw [← hx] at hc
        have HX : Aside0 (nbAt s k = nb x k) := ⟨by unfold nbAt; rw [hx]⟩
        have hx2 : x < 256 := by rw [hx]; exact UInt8.toNat_lt _
        clear hx
        have hy : ((x : Int) == 45) = decide (x = 45) := by rw [Bool.eq_iff_iff]; simp; omega
        have hz : ((k : Int) == 0) = decide (k = 0) := by rw [Bool.eq_iff_iff]; simp
        by_cases e1 : x = 45
        · by_cases e2 : k = 0
          · rw [decide_eq_true e1] at hy
            rw [decide_eq_true e2] at hz
            have HF : Aside0 (nb x k = false) := ⟨by unfold nb; exact decide_eq_false (by omega)⟩
            have g1 : ¬ (97 : Int) ≤ x := by omega
            have g2 : ¬ (48 : Int) ≤ x := by omega
            clear e1 e2
            go_wp2
            go_ret
            exact ⟨ret_b (nmB_false hlt (HX.out.trans HF.out)).symm, HB.out⟩
          · rw [decide_eq_true e1] at hy
            rw [decide_eq_false e2] at hz
            have HF : Aside0 (nb x k = true) := ⟨by unfold nb; exact decide_eq_true (by omega)⟩
            have g1 : ¬ (97 : Int) ≤ x := by omega
            have g2 : ¬ (48 : Int) ≤ x := by omega
            clear e1 e2
            go_wp2
            go_round
            case rel => exact ⟨k + 1, by omega, by go_num, ⟨fun i hi => by by_cases e : i = k; · rw [e]; exact HX.out.trans HF.out
                                                                           · exact HI.out i (by omega)⟩⟩
            case measure => simp [intOf]; omega
        · rw [decide_eq_false e1] at hy
          by_cases e2 : k = 0
          · rw [decide_eq_true e2] at hz
            have HE : Aside0 (x ≠ 45 ∧ k = 0) := ⟨e1, e2⟩
            clear e1 e2
            go_wp2
            all_goals first
              | (exfalso; have hh : (!decide ((x : Int) ≤ 122)) = false := by assumption
                 simp at hh; omega)
              | (go_ret
                 exact ⟨ret_b (nmB_false hlt (by rw [HX.out]; unfold nb; have := HE.out; exact decide_eq_false (by omega))).symm, HB.out⟩)
              | (go_round
                 case rel =>
                   refine ⟨k + 1, by omega, by go_num, ⟨fun i hi => ?_⟩⟩
                   by_cases e : i = k
                   · rw [e, HX.out]; unfold nb; have := HE.out; exact decide_eq_true (by omega)
                   · exact HI.out i (by omega)
                 case measure => simp [intOf]; omega)
          · rw [decide_eq_false e2] at hz
            have HE : Aside0 (x ≠ 45 ∧ k ≠ 0) := ⟨e1, e2⟩
            clear e1 e2
            go_wp2
            all_goals first
              | (exfalso; have hh : (!decide ((x : Int) ≤ 122)) = false := by assumption
                 simp at hh; omega)
              | (go_ret
                 exact ⟨ret_b (nmB_false hlt (by rw [HX.out]; unfold nb; have := HE.out; exact decide_eq_false (by omega))).symm, HB.out⟩)
              | (go_round
                 case rel =>
                   refine ⟨k + 1, by omega, by go_num, ⟨fun i hi => ?_⟩⟩
                   by_cases e : i = k
                   · rw [e, HX.out]; unfold nb; have := HE.out; exact decide_eq_true (by omega)
                   · exact HI.out i (by omega)
                 case measure => simp [intOf]; omega)
      · go_wp2
        go_ret
        exact ⟨ret_b (nmB_true HSZ.out (fun i hi => HI.out i (by omega))).symm, HB.out⟩
  · have hn := nmB_size hsz
    have HN := Aside0.mk hn
    clear hn HB HC
    by_cases h1 : s.size < 1
    · go_enter Tryd.func78, Tryd.ntmps78
      go_wp2
      go_ret
      exact ⟨ret_b HN.out.symm, Below.refl _ _⟩
    · have h2 : ¬ s.size ≤ 40 := fun h => hsz ⟨by omega, h⟩
      go_enter Tryd.func78, Tryd.ntmps78
      go_wp2
      go_ret
      exact ⟨ret_b HN.out.symm, Below.refl _ _⟩
end Go.Proofs.YtljjpdjknnhceaaDoor.Name

/- ring.checked walked. -/
set_option linter.unusedVariables false
set_option linter.unusedSimpArgs false
namespace Go.Proofs.YtljjpdjknnhceaaDoor.Chkd
open Go.RowKit Go.Proofs.YtljjpdjknnhceaaDoorW.PrintWords Go.Proofs.YtljjpdjknnhceaaDoorW.PrintLast Go.Proofs.YtljjpdjknnhceaaDoorW.PrintMore
open Go.Proofs.YtljjpdjknnhceaaDoor.Base Go.Proofs.YtljjpdjknnhceaaDoor.RingPure Go.Proofs.YtljjpdjknnhceaaDoor.ChkPure Go.Proofs.YtljjpdjknnhceaaDoor.Clus Go.Proofs.YtljjpdjknnhceaaDoor.Sort Go.Proofs.YtljjpdjknnhceaaDoor.Sets Go.Proofs.YtljjpdjknnhceaaDoor.Homes Go.Proofs.YtljjpdjknnhceaaDoor.Name Go.Proofs.YtljjpdjknnhceaaDoor.Mids
/-- what checked tells -/
def chkC (c : Cl) (ns : List Nd) : Int × List Int := chk (nmB c.store) c ns
def CheckedPost (c : Cl) (ns : List Nd) (w : World) (e : Ending) (w' : World) : Prop := Below w.heap.size w w' ∧
  (((chkC c ns).1 ≠ 0 ∧ e = .returned (.tuple #[.slice none 0 0, .int .i64 (chkC c ns).1])) ∨
   ∃ g, (chkC c ns).1 = 0 ∧ e = .returned (.tuple #[.slice (some ⟨g, 0, none⟩) (chkC c ns).2.length (chkC c ns).2.length, .int .i64 0]) ∧ w.heap.size ≤ g ∧ RowI w' g (chkC c ns).2)
theorem post_bad {c : Cl} {ns : List Nd} {w w' : World} {code : Int} (h : (chkC c ns).1 = code) (h0 : code ≠ 0) (hb : Below w.heap.size w w') : CheckedPost c ns w (.returned (.tuple #[.slice none 0 0, .int .i64 code])) w' := by
  subst h
  exact ⟨hb, .inl ⟨h0, rfl⟩⟩
theorem post_good {c : Cl} {ns : List Nd} {w w' : World} {h : List Int} {g : Nat} (e : chkC c ns = (0, h)) (hb : Below w.heap.size w w') (hg : w.heap.size ≤ g) (hr : RowI w' g h) : CheckedPost c ns w (.returned (.tuple #[.slice (some ⟨g, 0, none⟩) h.length h.length, .int .i64 0])) w' :=
  ⟨hb, .inr ⟨g, by rw [e], by rw [e], hg, by rw [e]; exact hr⟩⟩
theorem setB_false {c : Cl} {k : Nat} (hk : k < 21) (h : setAt c k = false) : setB c = false := by
  unfold setB
  rw [Bool.and_eq_false_iff]
  left
  rw [List.all_eq_false]
  exact ⟨k, List.mem_range.2 hk, by rw [h]; decide⟩
theorem setB_eq {c : Cl} (h : ∀ i, i < 21 → setAt c i = true) : setB c = (decide (c.block ≤ c.burst) && decide (c.base ≤ c.most)) := by
  unfold setB
  rw [List.all_eq_true.2 (fun i hi => h i (List.mem_range.1 hi)), Bool.true_and]
theorem zoned_take (ns : List Nd) (k : Nat) (n : Nd) (h : ns[k]? = some n) (hz : wiB n.1 0 7 = false) : zoned ns = false := by
  unfold zoned
  rw [List.all_eq_false]
  exact ⟨n, List.mem_of_getElem? h, by unfold wiB at hz; rw [hz]; decide⟩
theorem infoC23 : (Tryd.prog.info? 24).map (·.size) = some 23 := by kernel_rfl
theorem mul_b {a b A B : Int} (h0 : 0 ≤ a) (h1 : a ≤ A) (h2 : 0 ≤ b) (h3 : b ≤ B) (hA : 0 ≤ A) : 0 ≤ a * b ∧ a * b ≤ A * B :=
  ⟨Int.mul_nonneg h0 h2, Int.le_trans (Int.mul_le_mul_of_nonneg_right h1 h2) (Int.mul_le_mul_of_nonneg_left h3 hA)⟩
theorem prods {c : Cl} {n : Nat} (hn : n ≤ 64) (hr : 1 ≤ c.replicas ∧ c.replicas ≤ 16) (hk : 1 ≤ c.chunks ∧ c.chunks ≤ 16) : wrap64 ((n : Int) * c.replicas) = (n : Int) * c.replicas ∧ wrap64 ((n : Int) * c.replicas * c.chunks) = (n : Int) * c.replicas * c.chunks := by
  have h1 := mul_b (a := (n : Int)) (b := c.replicas) (A := 64) (B := 16) (by omega) (by omega) (by omega) (by omega) (by decide)
  have h2 := mul_b (a := (n : Int) * c.replicas) (b := c.chunks) (A := 1024) (B := 16) h1.1 (by omega) (by omega) (by omega) (by decide)
  exact ⟨w64 _ (by omega) (by omega), w64 _ (by omega) (by omega)⟩
theorem infoT4 : (Tryd.prog.info? 122).map (·.size) = some 4 := by kernel_rfl
/-- a setting as a value -/
def sV (wd : ByteArray) (lo hi : Int) (K : Nat) : List Value := [.string wd, .int .i64 lo, .int .i64 hi, .func (.func K) #[] #[]]
theorem set_one (wd : ByteArray) (lo hi : Int) (K : Nat) : ∀ u ∈ sV wd lo hi K, u.oneCell' = true := by simp [sV, Value.oneCell']
theorem set_there (W : World) : (W.alloc (.cells #[.string { data := #[] }, .int .i64 0, .int .i64 0, .nilFunc] 122)).there W.heap.size 0 4 :=
  blk_there (cs := [.string { data := #[] }, .int .i64 0, .int .i64 0, .nilFunc]) (Go.heap_alloc_new W _)
theorem set_new (W : World) (wd : ByteArray) (lo hi : Int) (K : Nat) : ((W.alloc (.cells #[.string { data := #[] }, .int .i64 0, .int .i64 0, .nilFunc] 122)).setCells W.heap.size 0 (sV wd lo hi K)).heap[W.heap.size]? = some (.cells (sV wd lo hi K).toArray 122 (0, 0)) :=
  setCells_whole (old := [.string { data := #[] }, .int .i64 0, .int .i64 0, .nilFunc]) (Go.heap_alloc_new W _) rfl
theorem set_below (W : World) (wd : ByteArray) (lo hi : Int) (K : Nat) : Below W.heap.size W ((W.alloc (.cells #[.string { data := #[] }, .int .i64 0, .int .i64 0, .nilFunc] 122)).setCells W.heap.size 0 (sV wd lo hi K)) :=
  below_setCells ((Below.refl _ _).alloc (Nat.le_refl _) _) (Nat.le_refl _) _ _
set_option maxRecDepth 100000 in
set_option maxHeartbeats 8000000 in
theorem checked_any (c : Cl) (A : Option Addr) (cap : Nat) (ns : List Nd) (w : World) (hN : NodesAt w A ns) (hcap : ns.length ≤ cap) (hs : c.store.size ≤ 2147483647) (hl : ns.length ≤ 1099511627776) (hc : cnt ns ≤ 1099511627776) :
    Calls Tryd.prog 45 #[.agg (cL c (.slice A ns.length cap)).toArray] w (CheckedPost c ns w) := by
  have hb0 := (Below.refl w.heap.size w).alloc (Nat.le_refl _) (.cells (cL c (.slice A ns.length cap)).toArray 24)
  have HN := Aside0.mk (hN.below hb0)
  have HB := Aside0.mk hb0
  have HC : Aside0 (CBox (w.alloc (.cells (cL c (.slice A ns.length cap)).toArray 24)) w.heap.size c (.slice A ns.length cap)) := ⟨⟨Go.heap_alloc_new w _⟩⟩
  have hc0 : (w.alloc (.cells (cL c (.slice A ns.length cap)).toArray 24)).cell? ⟨w.heap.size, 0, none⟩ = some (.string c.store) := HC.out.c 0
  clear hN hb0
  go_enter Tryd.func45, Tryd.ntmps45
  go_wp2_with fail
  refine (name_any c.store _ hs).mono ?_
  rintro e w2 ⟨rfl, hb⟩
  have HB2 := Aside0.mk (HB.out.trans (hb.mono HB.out.size))
  have HN2 := Aside0.mk (HN.out.below hb)
  have HC2 := Aside0.mk (HC.out.below hb HC.out.lt)
  clear hb HB HN HC hc0
  by_cases hnm : nmB c.store = true
  · rw [hnm]
    have HNM := Aside0.mk hnm
    clear hnm
    go_wp2_with fail
    refine (settings_any w2).mono ?_
    rintro e w3 ⟨rfl, hw⟩
    have hb : Below w2.heap.size w2 w3 := by rw [hw]; exact (Below.refl _ _).alloc (Nat.le_refl _) _
    have HS : Aside0 (w3.heap[w2.heap.size]? = some (.cells setL.toArray 122 (0, 0))) := ⟨by rw [hw]; exact Go.heap_alloc_new _ _⟩
    have HB3 := Aside0.mk (HB2.out.trans (hb.mono HB2.out.size))
    have HN3 := Aside0.mk (HN2.out.below hb)
    have HC3 := Aside0.mk (HC2.out.below hb HC2.out.lt)
    clear hb hw HB2 HN2 HC2
    generalize w2.heap.size = g2 at HS ⊢
    generalize w.heap.size = gc at HC3 ⊢
    go_wp2_with fail
    go_loopw [5, 17] (fun _ v17 wr => ∃ k : Nat, k ≤ 21 ∧ v17 = .int .i64 (k : Nat) ∧ Aside0 (Below w3.heap.size w3 wr) ∧ Aside0 (∀ i, i < k → setAt c i = true)) (fun _ v17 _ => 21 - (intOf v17).toNat)
    case atStart => exact ⟨0, Nat.zero_le _, rfl, ⟨Below.refl _ _⟩, ⟨fun i hi => absurd hi (Nat.not_lt_zero i)⟩⟩
    case round =>
      obtain ⟨k, hk, rfl, HR, HA⟩ := hrel
      obtain ⟨wo, rfl⟩ : ∃ wo : World, wo = wr := ⟨_, rfl⟩
      by_cases hlt : k < 21
      · have HS1 : Aside0 (wo.heap[g2]? = some (.cells setL.toArray 122 (0, 0))) := ⟨(HR.out.block _ (blk_lt HS.out)).trans HS.out⟩
        have HC1 := Aside0.mk (HC3.out.below HR.out HC3.out.lt)
        have hrow : ∀ i u, (setRow k)[i]? = some u → wo.cell? ⟨g2, k * 4 + i, none⟩ = some u := fun i u hu => by
          rw [blk_cell HS1.out, List.getElem?_toArray]; exact setL_at k hlt i u hu
        have HAT := Aside0.mk (at_any gc k hlt)
        have hd0 : wo.cell? ⟨g2, k * 4, none⟩ = some (.string (words.getD k ByteArray.empty)) := hrow 0 _ rfl
        have hd1 := hrow 1 _ rfl
        have hd2 := hrow 2 _ rfl
        have hd3 := hrow 3 _ rfl
        have hv : wo.cell? ⟨gc, k + 1, none⟩ = some (.int .i64 ((vals c).getD k 0)) := by
          rw [HC1.out.c]
          have : k = 0 ∨ k = 1 ∨ k = 2 ∨ k = 3 ∨ k = 4 ∨ k = 5 ∨ k = 6 ∨ k = 7 ∨ k = 8 ∨ k = 9 ∨ k = 10 ∨ k = 11 ∨ k = 12 ∨ k = 13 ∨ k = 14 ∨ k = 15 ∨ k = 16 ∨ k = 17 ∨ k = 18 ∨ k = 19 ∨ k = 20 := by omega
          rcases this with rfl | rfl | rfl | rfl | rfl | rfl | rfl | rfl | rfl | rfl | rfl | rfl | rfl | rfl | rfl | rfl | rfl | rfl | rfl | rfl | rfl <;> rfl
        have HSA : Aside0 (setAt c k = wiB ((vals c).getD k 0) (least k) (most.getD k 0)) := ⟨rfl⟩
        clear hrow HS1 HC1
        generalize (vals c).getD k 0 = x at hv HSA
        generalize least k = lo at hd1 HSA
        generalize most.getD k 0 = hi at hd2 HSA
        generalize words.getD k ByteArray.empty = wd at hd0
        generalize atF.getD k 0 = K at hd3 HAT
        have eK := HAT.out.1
        have cK := Aside0.mk HAT.out.2
        clear HAT
        have hth := set_there wo
        have HX := Aside0.mk (set_new wo wd lo hi K)
        have HR4 := Aside0.mk (set_below wo wd lo hi K)
        have hone := all_oneCell_toArray (set_one wd lo hi K)
        go_upto_region 6 with ((with_reducible refine gate_store (ty := 122) (x := .tmp 5) (y := .tmp 20) rfl ?_); go_loud (refine wpList_store_mid rfl 122 (.tmp 5) (.tmp 20) rfl wo.heap.size 0 (sV wd lo hi K).toArray rfl rfl hth infoT4 hone ?_))
        clear hth hone
        have HR5 := Aside0.mk (HR.out.trans (HR4.out.mono HR.out.size))
        have hx0 : (((wo.alloc (.cells #[.string { data := #[] }, .int .i64 0, .int .i64 0, .nilFunc] 122)).setCells wo.heap.size 0 (sV wd lo hi K)).cell? ⟨gc, k + 1, none⟩) = some (.int .i64 x) := cell_below HR4.out (Nat.le_refl _) hv
        generalize (wo.alloc (.cells #[.string { data := #[] }, .int .i64 0, .int .i64 0, .nilFunc] 122)).setCells wo.heap.size 0 (sV wd lo hi K) = w5 at HX HR5 hx0 ⊢
        clear HR4 hd0 hd1 hd2 hd3 hv
        generalize wo.heap.size = g5 at HX ⊢
        have hy1 : w5.cell? ⟨g5, 1, none⟩ = some (.int .i64 lo) := by rw [blk_cell HX.out]; rfl
        have hy2 : w5.cell? ⟨g5, 2, none⟩ = some (.int .i64 hi) := by rw [blk_cell HX.out]; rfl
        have hy3 : w5.cell? ⟨g5, 3, none⟩ = some (.func (.func K) #[] #[]) := by rw [blk_cell HX.out]; rfl
        have hwi := fun W => Aside0.mk (within_any x lo hi W)
        go_quiet (first | (go_at_fn K; exact Calls.quiet_of_same ((cK.out _).mono fun e w' h => ⟨h.1, h.2.symm⟩)) | (go_at_call 50; exact Calls.quiet_of ((hwi _).out.mono fun e w' h => ⟨h.1, h.2.out⟩)))
        clear eK cK hwi hy1 hy2 hy3 hx0 HX
        have HR6 : Aside0 (Below w3.heap.size w3 (w5.drewN nq)) := ⟨pw_below_drewN HR5.out _⟩
        generalize w5.drewN nq = w6 at HR6 ⊢
        clear HR5 HR
        rw [← HSA.out]
        by_cases hsa : setAt c k = true
        · rw [hsa]
          have HSK := Aside0.mk hsa
          clear hsa HSA
          go_wp2_with fail
          go_roundw
          case rel =>
            refine ⟨k + 1, by omega, by go_num, HR6, ⟨fun i hi => ?_⟩⟩
            by_cases e : i = k
            · rw [e]; exact HSK.out
            · exact HA.out i (by omega)
          case measure => simp [intOf]; omega
        · have hsf : setAt c k = false := by simpa using hsa
          rw [hsf]
          have HNO : Aside0 ((chkC c ns).1 = 64) := ⟨by unfold chkC chk; rw [if_neg (by rw [HNM.out]; decide), if_pos (setB_false hlt hsf)]⟩
          clear hsa hsf HSA
          go_wp2_with fail
          go_ret2
          exact post_bad HNO.out (by decide) (HB3.out.trans (HR6.out.mono HB3.out.size))
      · obtain rfl : k = 21 := by omega
        have HSB := Aside0.mk (setB_eq HA.out)
        have HC1 := Aside0.mk (HC3.out.below HR.out HC3.out.lt)
        have h5 : wo.cell? ⟨gc, 5, none⟩ = some (.int .i64 c.block) := HC1.out.c 5
        have h8 : wo.cell? ⟨gc, 8, none⟩ = some (.int .i64 c.burst) := HC1.out.c 8
        have h10 : wo.cell? ⟨gc, 10, none⟩ = some (.int .i64 c.base) := HC1.out.c 10
        have h11 : wo.cell? ⟨gc, 11, none⟩ = some (.int .i64 c.most) := HC1.out.c 11
        have h22 : wo.cell? ⟨gc, 22, none⟩ = some (.slice A ns.length cap) := HC1.out.c 22
        clear HA hlt hk
        by_cases hb1 : c.block ≤ c.burst
        · have g1 : ¬ c.burst < c.block := by omega
          by_cases hb2 : c.base ≤ c.most
          · have g2 : ¬ c.most < c.base := by omega
            have HSET : Aside0 (setB c = true) := ⟨by rw [HSB.out, decide_eq_true hb1, decide_eq_true hb2]; rfl⟩
            clear hb1 hb2 HSB
            go_wp2_with fail
            refine (within_any _ _ _ _).mono ?_
            rintro e w4 ⟨rfl, hd⟩
            have HR4 := Aside0.mk (HR.out.trans (hd.below.mono HR.out.size))
            clear hd HR HC1 h5 h8 h10 h11 h22 g1 g2
            by_cases hlen : 1 ≤ ns.length ∧ ns.length ≤ 16
            · have hwi : wiB (ns.length : Int) 1 16 = true := by unfold wiB; rw [decide_eq_true (by omega), decide_eq_true (by omega)]; rfl
              rw [hwi]
              have HLEN := Aside0.mk hlen
              have h22 : w4.cell? ⟨gc, 22, none⟩ = some (.slice A ns.length cap) := (HC3.out.below HR4.out HC3.out.lt).c 22
              clear hwi hlen
              go_wp2_with fail
              clear h22
              go_loopw [6, 8, 53] (fun v6 _ v53 wr => ∃ i : Nat, i ≤ ns.length ∧ v6 = .int .i64 (full (ns.take i) : Nat) ∧ v53 = .int .i64 (i : Nat) ∧ Aside0 (Below w3.heap.size w3 wr) ∧ Aside0 (∀ j n, j < i → ns[j]? = some n → wiB n.1 0 7 = true)) (fun _ _ v53 _ => ns.length - (intOf v53).toNat)
              case atStart => exact ⟨0, Nat.zero_le _, rfl, rfl, HR4, ⟨fun j n hj => absurd hj (Nat.not_lt_zero j)⟩⟩
              case round =>
                clear HR4
                obtain ⟨i, hi, rfl, rfl, HR, HZ⟩ := hrel
                obtain ⟨wo, rfl⟩ : ∃ wo : World, wo = wr := ⟨_, rfl⟩
                by_cases hlt : i < ns.length
                · obtain ⟨n, hn⟩ : ∃ n, ns[i]? = some n := ⟨_, List.getElem?_eq_getElem hlt⟩
                  obtain ⟨b, o, rfl, hz0, B, cp, hp0, hcp, hnm⟩ := HN3.out.get hn
                  have hz := cell_below HR.out (Nat.le_refl _) hz0
                  have hp := cell_below HR.out (Nat.le_refl _) hp0
                  have hb1 : Below wo.heap.size wo (wo.alloc (.cells #[.int .i64 n.1, .slice B n.2.length cp] 56)) := (Below.refl _ _).alloc (Nat.le_refl _) _
                  have HR1 := Aside0.mk (HR.out.trans (hb1.mono HR.out.size))
                  have HP0 : Aside0 ((wo.alloc (.cells #[.int .i64 n.1, .slice B n.2.length cp] 56)).cell? ⟨wo.heap.size, 1, none⟩ = some (.slice B n.2.length cp)) := ⟨by rw [cell_of_row _ _ _ _ _ _ (Go.heap_alloc_new wo _)]; rfl⟩
                  have HBL := Aside0.mk (show wo.heap.size < (wo.alloc (.cells #[.int .i64 n.1, .slice B n.2.length cp] 56)).heap.size by simp)
                  have HFS := Aside0.mk (full_snoc ns i n hn)
                  have hfl : full (ns.take i) ≤ i := by have := full_le (ns.take i); rw [List.length_take] at this; omega
                  have HNI := Aside0.mk hn
                  clear hz0 hp0 hb1 hn
                  go_wp2_with fail
                  refine (within_any _ _ _ _).mono ?_
                  rintro e w5 ⟨rfl, hd⟩
                  have hbd := hd.below
                  have HR5 := Aside0.mk (HR1.out.trans (hbd.mono HR1.out.size))
                  have hp5 : w5.cell? ⟨wo.heap.size, 1, none⟩ = some (.slice B n.2.length cp) := (World.cell?_of_block (hbd.block _ HBL.out)).trans HP0.out
                  clear hd hbd hz hp HR1 HP0 HBL HR
                  by_cases hw : wiB n.1 0 7 = true
                  · rw [hw]
                    have HW := Aside0.mk hw
                    clear hw
                    have HZ1 : Aside0 (∀ j m, j < i + 1 → ns[j]? = some m → wiB m.1 0 7 = true) := ⟨fun j m hj hm => by
                      by_cases e : j = i
                      · rw [e, HNI.out] at hm
                        injection hm with hm
                        rw [← hm]; exact HW.out
                      · exact HZ.out j m (by omega) hm⟩
                    by_cases hpl : 0 < n.2.length
                    · have HF1 : Aside0 (full (ns.take (i + 1)) = full (ns.take i) + 1) := ⟨by rw [HFS.out, if_pos hpl]⟩
                      go_wp2_with fail
                      go_roundw
                      case rel => exact ⟨i + 1, by omega, by rw [HF1.out]; go_num, by go_num, HR5, HZ1⟩
                      case measure => simp [intOf]; omega
                    · have HF1 : Aside0 (full (ns.take (i + 1)) = full (ns.take i)) := ⟨by rw [HFS.out, if_neg hpl]; rfl⟩
                      go_wp2_with fail
                      go_roundw
                      case rel => exact ⟨i + 1, by omega, by rw [HF1.out], by go_num, HR5, HZ1⟩
                      case measure => simp [intOf]; omega
                  · have hwf : wiB n.1 0 7 = false := by simpa using hw
                    rw [hwf]
                    have HNO : Aside0 ((chkC c ns).1 = 65) := ⟨by unfold chkC chk; rw [if_neg (by rw [HNM.out]; decide), if_neg (by rw [HSET.out]; decide), if_neg (by have := HLEN.out; omega), if_pos (zoned_take ns i n HNI.out hwf)]⟩
                    clear hw hwf
                    go_wp2_with fail
                    go_ret2
                    exact post_bad HNO.out (by decide) (HB3.out.trans (HR5.out.mono HB3.out.size))
                · obtain rfl : i = ns.length := by omega
                  rw [List.take_length]
                  have HZO : Aside0 (zoned ns = true) := ⟨by
                    unfold zoned
                    rw [List.all_eq_true]
                    intro m hm
                    obtain ⟨j, hj, e⟩ := List.getElem_of_mem hm
                    have := HZ.out j m hj (by rw [List.getElem?_eq_getElem hj, e])
                    exact this⟩
                  have HC1 := Aside0.mk (HC3.out.below HR.out HC3.out.lt)
                  have hrg : wo.rangeAt gc 0 (cL c (.slice A ns.length cap)) := blk_range HC1.out.row
                  have hfl : full ns ≤ 16 := by have := full_le ns; have := HLEN.out; omega
                  clear hlt hi HZ
                  go_wp2_with ((with_reducible refine gate_load (ty := 24) (x := .tmp 1) rfl ?_); refine wpList_load_mid rfl 24 (.tmp 1) rfl gc 0 rfl (cL c (.slice A ns.length cap)) _ hrg Tryd.underlying24 rfl infoC23 ?_)
                  clear hrg
                  refine (homes_any c A cap ns wo (HN3.out.below HR.out) hcap hl hc).mono ?_
                  rintro e w7 ⟨hb, hcase⟩
                  have HR7 := Aside0.mk (HR.out.trans (hb.mono HR.out.size))
                  have HC7 := Aside0.mk (HC1.out.below hb HC1.out.lt)
                  have HSZ := Aside0.mk (Nat.le_trans HB3.out.size HR.out.size)
                  clear hb HR HC1
                  rcases hcase with ⟨hno, rfl⟩ | ⟨h, g, hso, rfl, hg, hrow⟩
                  · have HNO : Aside0 ((chkC c ns).1 = 66) := ⟨by unfold chkC chk; rw [if_neg (by rw [HNM.out]; decide), if_neg (by rw [HSET.out]; decide), if_neg (by have := HLEN.out; omega), if_neg (by rw [HZO.out]; decide), hno]⟩
                    clear hno
                    go_wp2_with fail
                    go_ret2
                    exact post_bad HNO.out (by decide) (HB3.out.trans (HR7.out.mono HB3.out.size))
                  · have HCH : Aside0 (chkC c ns = if (full ns : Int) < c.replicas then (67, []) else if 512 < (cnt ns : Int) * c.replicas * c.chunks then (3, []) else (0, h)) := ⟨by unfold chkC chk; rw [if_neg (by rw [HNM.out]; decide), if_neg (by rw [HSET.out]; decide), if_neg (by have := HLEN.out; omega), if_neg (by rw [HZO.out]; decide), hso]⟩
                    obtain ⟨hde, hhl, _⟩ := homes_some hso
                    have hb6 := setAt_bounds HSET.out
                    have HG := Aside0.mk hg
                    have HROW := Aside0.mk hrow
                    have h1 : w7.cell? ⟨gc, 1, none⟩ = some (.int .i64 c.replicas) := HC7.out.c 1
                    have h3 : w7.cell? ⟨gc, 3, none⟩ = some (.int .i64 c.chunks) := HC7.out.c 3
                    have hP := prods (c := c) (n := cnt ns) hde.2.1 ⟨hb6.1, hb6.2.1⟩ ⟨hb6.2.2.1, hb6.2.2.2.1⟩
                    have HHL := Aside0.mk hhl
                    rw [← hhl] at hP
                    obtain ⟨P1, hP1⟩ : ∃ P1, P1 = (h.length : Int) * c.replicas := ⟨_, rfl⟩
                    obtain ⟨P2, hP2⟩ : ∃ P2, P2 = P1 * c.chunks := ⟨_, rfl⟩
                    have hw1 : wrap64 ((h.length : Int) * c.replicas) = P1 := by rw [hP.1, hP1]
                    have hw2 : wrap64 (P1 * c.chunks) = P2 := by rw [hP2, hP1]; exact hP.2
                    have HP := Aside0.mk (show P2 = (cnt ns : Int) * c.replicas * c.chunks by rw [hP2, hP1, hhl])
                    clear hP
                    clear hso hde hhl hg hrow hP1 hP2
                    by_cases hr : (full ns : Int) < c.replicas
                    · have HNO : Aside0 ((chkC c ns).1 = 67) := ⟨by rw [HCH.out, if_pos hr]⟩
                      go_wp2_with fail
                      go_ret2
                      exact post_bad HNO.out (by decide) (HB3.out.trans (HR7.out.mono HB3.out.size))
                    · by_cases hq : 512 < P2
                      · have HNO : Aside0 ((chkC c ns).1 = 3) := ⟨by rw [HCH.out, if_neg hr, if_pos (by rw [← HP.out]; exact hq)]⟩
                        go_wp2_with fail
                        go_ret2
                        exact post_bad HNO.out (by decide) (HB3.out.trans (HR7.out.mono HB3.out.size))
                      · have HNO : Aside0 (chkC c ns = (0, h)) := ⟨by rw [HCH.out, if_neg hr, if_neg (by rw [← HP.out]; exact hq)]⟩
                        go_wp2_with fail
                        go_ret2
                        exact post_good HNO.out (HB3.out.trans (HR7.out.mono HB3.out.size)) (Nat.le_trans HSZ.out HG.out) HROW.out
            · have hwi : wiB (ns.length : Int) 1 16 = false := by
                unfold wiB
                by_cases h1 : (1 : Int) ≤ (ns.length : Int)
                · rw [decide_eq_true h1, decide_eq_false (by omega)]; rfl
                · rw [decide_eq_false h1]; rfl
              rw [hwi]
              have HNO : Aside0 ((chkC c ns).1 = 65) := ⟨by unfold chkC chk; rw [if_neg (by rw [HNM.out]; decide), if_neg (by rw [HSET.out]; decide), if_pos (by omega)]⟩
              clear hwi hlen
              go_wp2_with fail
              go_ret2
              exact post_bad HNO.out (by decide) (HB3.out.trans (HR4.out.mono HB3.out.size))
          · have HNO : Aside0 ((chkC c ns).1 = 64) := ⟨by unfold chkC chk; rw [if_neg (by rw [HNM.out]; decide), if_pos (by rw [HSB.out, decide_eq_false hb2, Bool.and_false])]⟩
            have g2 : c.most < c.base := by omega
            clear hb2
            go_wp2_with fail
            go_ret2
            exact post_bad HNO.out (by decide) (HB3.out.trans (HR.out.mono HB3.out.size))
        · have HNO : Aside0 ((chkC c ns).1 = 64) := ⟨by unfold chkC chk; rw [if_neg (by rw [HNM.out]; decide), if_pos (by rw [HSB.out, decide_eq_false hb1, Bool.false_and])]⟩
          have g1 : c.burst < c.block := by omega
          clear hb1
          go_wp2_with fail
          go_ret2
          exact post_bad HNO.out (by decide) (HB3.out.trans (HR.out.mono HB3.out.size))
  · have hnf : nmB c.store = false := by simpa using hnm
    rw [hnf]
    have HNO : Aside0 ((chkC c ns).1 = 63) := ⟨by unfold chkC chk; rw [if_pos hnf]⟩
    clear hnm hnf
    go_wp2_with fail
    go_ret2
    exact post_bad HNO.out (by decide) HB2.out
end Go.Proofs.YtljjpdjknnhceaaDoor.Chkd

/- append of a made slice. -/
set_option linter.unusedVariables false
set_option linter.unusedSimpArgs false
namespace Go.Proofs.YtljjpdjknnhceaaDoor.App
open Go.RowKit Go.Proofs.YtljjpdjknnhceaaDoorW.PrintWords Go.Proofs.YtljjpdjknnhceaaDoorW.PrintLast Go.Proofs.YtljjpdjknnhceaaDoorW.PrintMore
open Go.Proofs.YtljjpdjknnhceaaDoor.Base
section
variable {P : Program} {ops : Array Oper} {rest : List Oper} {o : Oper} {a : Act} {Q : Exit → Act → World → Prop}
/-- append of a made slice, in a region that draws nothing -/
theorem list_append_at {w0 W : World} (base : Nat) (hgd : o.guard = none) (s x : Operand) (t e : TypeId) (z : Value) (bytes : Nat)
    (ho : o.op = .call { callee := .builtin .append, args := #[s, x], argTypes := #[t, t] })
    (ht : P.underlying t = some (.slice e)) (hinfo : (P.info? e).map (fun i => (i.zero, i.size, i.bytes)) = some (some z, 1, bytes)) (hz : z.cells.size = 1) (hb0 : 0 < bytes)
    (v : Value) (n : Nat) (xs : List Value) (b m c : Nat) (ys : List Value) (hs : a.eval s = v) (hx : a.eval x = .slice (some ⟨b, 0, none⟩) m c) (hm : ys.length = m) (h1 : ∀ u ∈ ys, u.oneCell' = true)
    (hc : ∀ j u, ys[j]? = some u → W.cell? ⟨b, j, none⟩ = some u)
    (HO : W.ownsRow base e 1 v n xs) (HB : Below base w0 W) (hbase : base ≤ W.heap.size) (hl : (n + m) * bytes ≤ 140737488355328)
    (h : ∀ v1 w1, w1.ownsRow base e 1 v1 (n + m) (xs ++ ys) → Below base w0 w1 → W.grownBy w1 v.ownBlock → wpList P ops Q rest (a.put o.dst v1) w1) :
    wpList P ops Q (o :: rest) a W := by
  obtain ⟨i0, hi, hzz⟩ := Option.map_eq_some_iff.1 hinfo
  simp only [Prod.mk.injEq] at hzz
  obtain ⟨hz0, hz1, hz2⟩ := hzz
  have hlen : n + m ≤ 140737488355328 := Nat.le_trans (Nat.le_mul_of_pos_right _ hb0) hl
  obtain ⟨v1, w1, hr, hown, hg, _⟩ := run_append_own (P := P) W base t o.type e i0 z 1 bytes ht hi hz0 hz1 hz2 hz (by decide) v n xs HO ⟨b, 0, none⟩ m c ys (by rw [hm, Nat.mul_one])
    (by intro j u hj; have := hc j u hj; have e : (⟨b, 0, none⟩ : Addr).add j = ⟨b, j, none⟩ := by unfold Addr.add; split <;> simp_all
        rw [e]; exact this) h1 (by simp only [maxLen]; omega) hl hbase
  refine wpList_plain hgd fun K hK => ?_
  unfold Oper.wp execOp
  simp only [ho, resolve, invoke, builtin, Sem.run_bind, Sem.run_pure, Result.andThen_ok, List.map_toArray, List.map_cons, List.map_nil, hs, hx, hr]
  exact hK _ _ (h v1 w1 hown (HB.grown hg hbase (own_base HO)) hg)
end
theorem news (w : World) (ys : List Value) (e : TypeId) : ∀ j u, ys[j]? = some u → (w.alloc (.cells ys.toArray e)).cell? ⟨w.heap.size, j, none⟩ = some u := by
  intro j u hj
  rw [cell_of_row _ _ _ _ _ _ (Go.heap_alloc_new w (.cells ys.toArray e)), List.getElem?_toArray]; exact hj
theorem own_ne {w : World} {base : Nat} {e : TypeId} {v : Value} {n : Nat} {xs : List Value} (h : w.ownsRow base e 1 v n xs) {b : Nat} (hb : b < base) : v.ownBlock ≠ some b := by
  rcases h.2 with ⟨rfl, _⟩ | ⟨g, cap, cs, rfl, hg, _⟩
  · simp [Value.ownBlock]
  · simp [Value.ownBlock]; omega
/-- blocks of other element types are as they were -/
def KeepTy (e : TypeId) (w w' : World) : Prop := w.heap.size ≤ w'.heap.size ∧ ∀ (i : Nat) (cs : Array Value) (t : TypeId) (fr : Nat × Nat), t ≠ e → w.heap[i]? = some (.cells cs t fr) → w'.heap[i]? = some (.cells cs t fr)
theorem KeepTy.refl (e : TypeId) (w : World) : KeepTy e w w := ⟨Nat.le_refl _, fun _ _ _ _ _ h => h⟩
theorem KeepTy.trans {e : TypeId} {w w1 w2 : World} (h : KeepTy e w w1) (k : KeepTy e w1 w2) : KeepTy e w w2 := ⟨Nat.le_trans h.1 k.1, fun i cs t fr ht hc => k.2 i cs t fr ht (h.2 i cs t fr ht hc)⟩
theorem KeepTy.of_below {e : TypeId} {w w1 : World} (h : Below w.heap.size w w1) : KeepTy e w w1 := ⟨h.size, fun i _ _ _ _ hc => (h.block i (blk_lt hc)).trans hc⟩
theorem KeepTy.alloc {e : TypeId} {w w1 : World} (h : KeepTy e w w1) (o : Obj) : KeepTy e w (w1.alloc o) := h.trans (KeepTy.of_below ((Below.refl _ _).alloc (Nat.le_refl _) o))
theorem KeepTy.grown {e : TypeId} {w w1 w2 : World} {base size n : Nat} {v : Value} {xs : List Value} (h : KeepTy e w w1) (ho : w1.ownsRow base e size v n xs) (hg : w1.grownBy w2 v.ownBlock) : KeepTy e w w2 := by
  refine h.trans ⟨hg.size, fun i cs t fr ht hc => (hg.block i (blk_lt hc) (fun he => ?_)).trans hc⟩
  rcases ho.2 with ⟨rfl, _⟩ | ⟨g, cap, cur, rfl, _, hh, _⟩
  · simp [Value.ownBlock] at he
  · have : i = g := by simpa [Value.ownBlock] using he
    subst this
    rw [hc] at hh
    injection hh with hh
    injection hh with _ h2 _
    exact ht h2
theorem own_slice {w : World} {base : Nat} {e : TypeId} {v : Value} {n : Nat} {xs : List Value} (h : w.ownsRow base e 1 v n xs) (hn : n ≠ 0) : ∃ g c, v = .slice (some ⟨g, 0, none⟩) n c := by
  rcases h.2 with ⟨_, h2⟩ | ⟨g, cap, cs, rfl, _⟩
  · exact absurd h2 hn
  · exact ⟨g, cap, rfl⟩
theorem results_tmp4 {fn : Func} {t u v x : Tmp} (h : fn.results = #[.tmp t, .tmp u, .tmp v, .tmp x]) (tmps : Array Value) (P : Program) (w : World) :
    (results fn tmps).run P w = .ok (.tuple #[tmps.getD t undef, tmps.getD u undef, tmps.getD v undef, tmps.getD x undef]) w := by
  simp [results, h]
end Go.Proofs.YtljjpdjknnhceaaDoor.App

/- append in a region that draws its order. -/
set_option linter.unusedVariables false
set_option linter.unusedSimpArgs false
namespace Go.Proofs.YtljjpdjknnhceaaDoor.AppR
open Go.RowKit Go.Proofs.YtljjpdjknnhceaaDoorW.PrintWords Go.Proofs.YtljjpdjknnhceaaDoorW.PrintLast Go.Proofs.YtljjpdjknnhceaaDoorW.PrintMore
open Go.Proofs.YtljjpdjknnhceaaDoor.Base Go.Proofs.YtljjpdjknnhceaaDoor.App
theorem own_form {w : World} {base : Nat} {e : TypeId} {size n : Nat} {v : Value} {xs : List Value} (h : w.ownsRow base e size v n xs) : ∃ A c, v = .slice A n c ∧ n ≤ c := by
  rcases h.2 with ⟨rfl, rfl⟩ | ⟨g, cap, cur, rfl, _, _, hnc, _⟩
  · exact ⟨none, 0, rfl, Nat.le_refl _⟩
  · exact ⟨some ⟨g, 0, none⟩, cap, rfl, hnc⟩
section
variable {P : Program} {ops : Array Oper} {rest : List Oper} {o : Oper} {a : Act} {Q : Exit → Act → World → Prop} {K : Act → World → Prop} {E : Prop}
/-- append(v, u...): v the call's own, u anywhere: one operation -/
theorem wp_append_any {W : World} (base : Nat) (s x : Operand) (t e : TypeId) (z : Value) (size bytes : Nat)
    (ho : o.op = .call { callee := .builtin .append, args := #[s, x], argTypes := #[t, t] })
    (ht : P.underlying t = some (.slice e)) (hinfo : (P.info? e).map (fun i => (i.zero, i.size, i.bytes)) = some (some z, size, bytes)) (hz : z.cells.size = size) (hs0 : 0 < size) (hb0 : 0 < bytes)
    (v : Value) (n : Nat) (xs : List Value) (A : Option Addr) (m c : Nat) (ys : List Value) (hs : a.eval s = v) (hx : a.eval x = .slice A m c) (hm : ys.length = m * size) (h1 : ∀ u ∈ ys, u.oneCell' = true)
    (hc : (A = none ∧ m = 0 ∧ c = 0) ∨ ∃ d, A = some d ∧ ∀ j u, ys[j]? = some u → W.cell? (d.add j) = some u)
    (HO : W.ownsRow base e size v n xs) (hbase : base ≤ W.heap.size) (hl : (n + m) * bytes ≤ 140737488355328) (L : Nat) (hL : n + m = L)
    (h : ∀ A1 c1 w1, L ≤ c1 → w1.ownsRow base e size (.slice A1 L c1) L (xs ++ ys) → W.grownBy w1 v.ownBlock → K (a.put o.dst (.slice A1 L c1)) w1) :
    Oper.wp P o a W K Q := by
  subst hL
  obtain ⟨i0, hi, hzz⟩ := Option.map_eq_some_iff.1 hinfo
  simp only [Prod.mk.injEq] at hzz
  obtain ⟨hz0, hz1, hz2⟩ := hzz
  rcases hc with ⟨rfl, rfl, rfl⟩ | ⟨d, rfl, hcell⟩
  · have hy : ys = [] := List.eq_nil_of_length_eq_zero (by simpa using hm)
    subst hy
    have hr : (Builtin.append_ #[t, t] o.type #[v, .slice none 0 0]).run P W = .ok v W := by
      rcases HO.2 with ⟨rfl, hn⟩ | ⟨g, cap, cur, rfl, _, _, hnc, _⟩
      · simp [Builtin.append_, run_underlying ht, sizeOf, typeInfo, hi, Builtin.lenOf, Builtin.firstCells]
      · simp [Builtin.append_, run_underlying ht, sizeOf, typeInfo, hi, Builtin.lenOf, Builtin.firstCells, hnc, storeCells]
    obtain ⟨A1, c1, rfl, hle⟩ := own_form HO
    unfold Oper.wp execOp
    simp only [ho, resolve, invoke, builtin, Sem.run_bind, Sem.run_pure, Result.andThen_ok, List.map_toArray, List.map_cons, List.map_nil, hs, hx, hr]
    exact h A1 c1 W (by simpa using hle) (by simpa using HO) ⟨rfl, rfl, rfl, Nat.le_refl _, fun _ _ _ => rfl⟩
  · have hlen : n + m ≤ 140737488355328 := Nat.le_trans (Nat.le_mul_of_pos_right _ hb0) hl
    obtain ⟨v1, w1, hr, hown, hg, _⟩ := run_append_own (P := P) W base t o.type e i0 z size bytes ht hi hz0 hz1 hz2 hz hs0 v n xs HO d m c ys hm hcell h1 (by simp only [maxLen]; omega) hl hbase
    obtain ⟨A1, c1, rfl, hle⟩ := own_form hown
    unfold Oper.wp execOp
    simp only [ho, resolve, invoke, builtin, Sem.run_bind, Sem.run_pure, Result.andThen_ok, List.map_toArray, List.map_cons, List.map_nil, hs, hx, hr]
    exact h A1 c1 w1 hle hown hg
/-- .. in a region that draws its order -/
theorem step_append_any {W : World} (hgd : o.guard = none) (base : Nat) (s x : Operand) (t e : TypeId) (z : Value) (size bytes : Nat)
    (ho : o.op = .call { callee := .builtin .append, args := #[s, x], argTypes := #[t, t] })
    (ht : P.underlying t = some (.slice e)) (hinfo : (P.info? e).map (fun i => (i.zero, i.size, i.bytes)) = some (some z, size, bytes)) (hz : z.cells.size = size) (hs0 : 0 < size) (hb0 : 0 < bytes)
    (v : Value) (n : Nat) (xs : List Value) (A : Option Addr) (m c : Nat) (ys : List Value) (hs : a.eval s = v) (hx : a.eval x = .slice A m c) (hm : ys.length = m * size) (h1 : ∀ u ∈ ys, u.oneCell' = true)
    (hc : (A = none ∧ m = 0 ∧ c = 0) ∨ ∃ d, A = some d ∧ ∀ j u, ys[j]? = some u → W.cell? (d.add j) = some u)
    (HO : W.ownsRow base e size v n xs) (hbase : base ≤ W.heap.size) (hl : (n + m) * bytes ≤ 140737488355328) (L : Nat) (hL : n + m = L)
    (h : ∀ A1 c1 w1, L ≤ c1 → w1.ownsRow base e size (.slice A1 L c1) L (xs ++ ys) → W.grownBy w1 v.ownBlock → K (a.put o.dst (.slice A1 L c1)) w1) :
    if Region.wanted o (yielded ops a.tmps) = true then Oper.wp P o a W K Q else E := by
  rw [if_pos (by simp [Region.wanted, hgd])]
  exact wp_append_any base s x t e z size bytes ho ht hinfo hz hs0 hb0 v n xs A m c ys hs hx hm h1 hc HO hbase hl L hL h
/-- .. in a region that draws nothing -/
theorem list_append_any {W : World} (hgd : o.guard = none) (base : Nat) (s x : Operand) (t e : TypeId) (z : Value) (size bytes : Nat)
    (ho : o.op = .call { callee := .builtin .append, args := #[s, x], argTypes := #[t, t] })
    (ht : P.underlying t = some (.slice e)) (hinfo : (P.info? e).map (fun i => (i.zero, i.size, i.bytes)) = some (some z, size, bytes)) (hz : z.cells.size = size) (hs0 : 0 < size) (hb0 : 0 < bytes)
    (v : Value) (n : Nat) (xs : List Value) (A : Option Addr) (m c : Nat) (ys : List Value) (hs : a.eval s = v) (hx : a.eval x = .slice A m c) (hm : ys.length = m * size) (h1 : ∀ u ∈ ys, u.oneCell' = true)
    (hc : (A = none ∧ m = 0 ∧ c = 0) ∨ ∃ d, A = some d ∧ ∀ j u, ys[j]? = some u → W.cell? (d.add j) = some u)
    (HO : W.ownsRow base e size v n xs) (hbase : base ≤ W.heap.size) (hl : (n + m) * bytes ≤ 140737488355328) (L : Nat) (hL : n + m = L)
    (h : ∀ A1 c1 w1, L ≤ c1 → w1.ownsRow base e size (.slice A1 L c1) L (xs ++ ys) → W.grownBy w1 v.ownBlock → wpList P ops Q rest (a.put o.dst (.slice A1 L c1)) w1) :
    wpList P ops Q (o :: rest) a W :=
  wpList_plain hgd fun _ hK => wp_append_any base s x t e z size bytes ho ht hinfo hz hs0 hb0 v n xs A m c ys hs hx hm h1 hc HO hbase hl L hL (fun A1 c1 w1 p q r => hK _ _ (h A1 c1 w1 p q r))
theorem gate_call {fn : Callee} {args : Array Operand} {ts : Array TypeId} {w : World} (_ho : o.op = .call { callee := fn, args := args, argTypes := ts }) (h : wpList P ops Q (o :: rest) a w) : wpList P ops Q (o :: rest) a w := h
end
end Go.Proofs.YtljjpdjknnhceaaDoor.AppR

/- twin: a definition anew, its lists in memory of their own. -/
set_option linter.unusedVariables false
set_option linter.unusedSimpArgs false
namespace Go.Proofs.YtljjpdjknnhceaaDoor.Twin
open Go.RowKit Go.Proofs.YtljjpdjknnhceaaDoorW.PrintWords Go.Proofs.YtljjpdjknnhceaaDoorW.PrintLast Go.Proofs.YtljjpdjknnhceaaDoorW.PrintMore
open Go.Proofs.YtljjpdjknnhceaaDoor.Base Go.Proofs.YtljjpdjknnhceaaDoor.App Go.Proofs.YtljjpdjknnhceaaDoor.RingPure Go.Proofs.YtljjpdjknnhceaaDoor.ChkPure Go.Proofs.YtljjpdjknnhceaaDoor.Clus Go.Proofs.YtljjpdjknnhceaaDoor.Mids Go.Proofs.YtljjpdjknnhceaaDoor.Chkd Go.Proofs.YtljjpdjknnhceaaDoor.AppR
/-- the nodes' cells, their lists' values given -/
def ndsC : List Nd → List Value → List Value
  | n :: ns, v :: vs => .int .i64 n.1 :: v :: ndsC ns vs
  | _, _ => []
theorem ndsC_length : ∀ (ns : List Nd) (vs : List Value), vs.length = ns.length → (ndsC ns vs).length = ns.length * 2
  | [], [], _ => rfl
  | n :: ns, v :: vs, h => by simp only [ndsC, List.length_cons] at h ⊢; have := ndsC_length ns vs (by omega); omega
theorem ndsC_snoc : ∀ (ns : List Nd) (vs : List Value) (n : Nd) (v : Value), vs.length = ns.length → ndsC (ns ++ [n]) (vs ++ [v]) = ndsC ns vs ++ [.int .i64 n.1, v]
  | [], [], n, v, _ => rfl
  | m :: ns, u :: vs, n, v, h => by simp only [List.cons_append, ndsC]; rw [ndsC_snoc ns vs n v (by simpa using h)]
theorem ndsC_at : ∀ (ns : List Nd) (vs : List Value) (i : Nat) (n : Nd) (v : Value), ns[i]? = some n → vs[i]? = some v → (ndsC ns vs)[i * 2]? = some (.int .i64 n.1) ∧ (ndsC ns vs)[i * 2 + 1]? = some v
  | m :: ns, u :: vs, 0, n, v, h1, h2 => by simp at h1 h2; subst h1 h2; exact ⟨rfl, rfl⟩
  | m :: ns, u :: vs, i + 1, n, v, h1, h2 => by
    have := ndsC_at ns vs i n v (by simpa using h1) (by simpa using h2)
    rw [show (i + 1) * 2 = i * 2 + 2 by omega]
    exact this
  | [], _, _, _, _, h, _ => by simp at h
  | m :: ns, [], _, _, _, _, h => by simp at h
theorem ndsC_one : ∀ (ns : List Nd) (vs : List Value), (∀ v ∈ vs, v.oneCell' = true) → ∀ u ∈ ndsC ns vs, u.oneCell' = true
  | [], _, _, u, hu => by simp [ndsC] at hu
  | _ :: _, [], _, u, hu => by simp [ndsC] at hu
  | n :: ns, v :: vs, h, u, hu => by
    simp only [ndsC, List.mem_cons] at hu
    rcases hu with rfl | rfl | hu
    · rfl
    · exact h _ (List.mem_cons_self ..)
    · exact ndsC_one ns vs (fun v hv => h v (List.mem_cons_of_mem _ hv)) u hu
/-- nodes of the call's own: the row of the nodes is lv, the lists' values vs -/
structure Own (w : World) (base : Nat) (lv : Value) (ns : List Nd) (vs : List Value) : Prop where mk ::
  (len : vs.length = ns.length) (row : w.ownsRow base 56 2 lv ns.length (ndsC ns vs))
  (each : ∀ (i : Nat) (n : Nd) (v : Value), ns[i]? = some n → vs[i]? = some v → w.ownsRow base 3 1 v n.2.length (nums .i64 n.2))
theorem own_later {w w' : World} {base : Nat} {e : TypeId} {size : Nat} {v : Value} {n : Nat} {xs : List Value} (h : w.ownsRow base e size v n xs) (hb : Below w.heap.size w w') : w'.ownsRow base e size v n xs :=
  h.kept (row := none) ⟨hb.os, hb.tape, hb.output, hb.size, fun k hk _ => hb.block k hk⟩ (by cases v.ownBlock <;> simp)
theorem Own.below {w w1 : World} {base : Nat} {lv : Value} {ns : List Nd} {vs : List Value} (h : Own w base lv ns vs) (hb : Below w.heap.size w w1) : Own w1 base lv ns vs :=
  ⟨h.len, own_later h.row hb, fun i n v h1 h2 => own_later (h.each i n v h1 h2) hb⟩
theorem Own.nil (w : World) (base : Nat) : Own w base (.slice none 0 0) [] [] := ⟨rfl, World.ownsRow_nil _ _ _ _, fun i n v h => by simp at h⟩
theorem ints_ne {w : World} {base size n : Nat} {v : Value} {xs : List Value} (h : w.ownsRow base 3 size v n xs) {e : TypeId} (he : e ≠ 3) {b2 s2 n2 : Nat} {v2 : Value} {ys : List Value} (h2 : w.ownsRow b2 e s2 v2 n2 ys) : v.ownBlock = none ∨ v.ownBlock ≠ v2.ownBlock := by
  rcases h.2 with ⟨rfl, _⟩ | ⟨g, cap, cs, rfl, _, hg, _⟩
  · exact .inl rfl
  · refine .inr fun e1 => ?_
    rcases h2.2 with ⟨rfl, _⟩ | ⟨g', cap', cs', rfl, _, hg', _⟩
    · cases e1
    · have e2 : g = g' := by simpa [Value.ownBlock] using e1
      subst e2
      rw [hg] at hg'
      simp only [Option.some.injEq, Obj.cells.injEq] at hg'
      exact he hg'.2.1.symm
/-- one node more -/
theorem Own.snoc {w w1 : World} {base : Nat} {lv lv1 v : Value} {ns : List Nd} {vs : List Value} {n : Nd} (h : Own w base lv ns vs) (hv : w.ownsRow base 3 1 v n.2.length (nums .i64 n.2)) (hr : w1.ownsRow base 56 2 lv1 (ns.length + 1) (ndsC ns vs ++ [.int .i64 n.1, v]))
    (hg : w.grownBy w1 lv.ownBlock) : Own w1 base lv1 (ns ++ [n]) (vs ++ [v]) := by
  refine ⟨by simp [h.len], by rw [ndsC_snoc _ _ _ _ h.len, List.length_append]; exact hr, fun i m u h1 h2 => ?_⟩
  have key : ∀ {m : Nd} {u : Value}, w.ownsRow base 3 1 u m.2.length (nums .i64 m.2) → w1.ownsRow base 3 1 u m.2.length (nums .i64 m.2) := fun ho => ho.kept hg (ints_ne ho (by decide) h.row)
  by_cases e : i < ns.length
  · rw [List.getElem?_append_left e] at h1
    rw [List.getElem?_append_left (by rw [h.len]; exact e)] at h2
    exact key (h.each i m u h1 h2)
  · have hi : i = ns.length := by
      have := (List.getElem?_eq_some_iff.1 h1).1
      simp at this; omega
    subst hi
    rw [List.getElem?_append_right (Nat.le_refl _)] at h1
    rw [List.getElem?_append_right (by rw [h.len]; exact Nat.le_refl _), h.len] at h2
    simp at h1 h2
    subst h1 h2
    exact key hv
theorem own_nums {w : World} {base : Nat} {A : Option Addr} {c : Nat} {l : List Int} (h : w.ownsRow base 3 1 (.slice A l.length c) l.length (nums .i64 l)) : NumsAt w A l := by
  rcases h.2 with ⟨e, h0⟩ | ⟨g, cap, cs, e, _⟩
  · exact .inl (List.eq_nil_of_length_eq_zero h0)
  · refine .inr ⟨g, 0, by injection e, fun i x hi => ?_⟩
    have h1 := h.cells (g := g) (by rw [e]; rfl) i (.int .i64 x) (by simp [nums, hi])
    have e2 : (⟨g, 0, none⟩ : Addr).add i = ⟨g, 0 + i, none⟩ := by unfold Addr.add; split <;> simp_all
    rwa [e2] at h1
theorem own_ok {w : World} {base size n : Nat} {e : TypeId} {A : Option Addr} {c : Nat} {xs : List Value} (h : w.ownsRow base e size (.slice A n c) n xs) : SlOK A n c := by
  rcases h.2 with ⟨e, h0⟩ | ⟨g, cap, cs, e, _⟩
  · injection e with h1 h2 h3
    exact .inl ⟨h1, h2, h3⟩
  · injection e with h1
    exact .inr ⟨_, h1⟩
theorem Own.nodes {w : World} {base : Nat} {A : Option Addr} {c : Nat} {ns : List Nd} {vs : List Value} (h : Own w base (.slice A ns.length c) ns vs) : NodesAt w A ns := by
  rcases h.row.2 with ⟨e, h0⟩ | ⟨g, cap, cs, e, _⟩
  · exact .inl (List.eq_nil_of_length_eq_zero h0)
  · refine .inr ⟨g, 0, by injection e, fun i n hi => ?_⟩
    obtain ⟨v, hv⟩ : ∃ v, vs[i]? = some v := ⟨_, List.getElem?_eq_getElem (by rw [h.len]; exact (List.getElem?_eq_some_iff.1 hi).1)⟩
    have ho := h.each i n v hi hv
    obtain ⟨B, c1, rfl, hle⟩ := own_form ho
    obtain ⟨h1, h2⟩ := ndsC_at ns vs i n _ hi hv
    have k1 := h.row.cells (g := g) (by rw [e]; rfl) _ _ h1
    have k2 := h.row.cells (g := g) (by rw [e]; rfl) _ _ h2
    have e2 : ∀ j, (⟨g, 0, none⟩ : Addr).add j = ⟨g, 0 + j, none⟩ := by intro j; unfold Addr.add; split <;> simp_all
    rw [e2] at k1 k2
    exact ⟨k1, B, c1, k2, ⟨hle, own_ok ho⟩, own_nums ho⟩
/-- the result: an own definition alike -/
def TwinPost (c : Cl) (ns : List Nd) (w : World) (e : Ending) (w' : World) : Prop := Below w.heap.size w w' ∧ ∃ A cap vs, e = .returned (.agg (cL c (.slice A ns.length cap)).toArray) ∧ ns.length ≤ cap ∧ Own w' w.heap.size (.slice A ns.length cap) ns vs
theorem nums_src {w : World} {A : Option Addr} {l : List Int} {c : Nat} (h : NumsAt w A l) (hA : SlOK A l.length c) : (A = none ∧ l.length = 0 ∧ c = 0) ∨ ∃ d, A = some d ∧ ∀ j u, (nums .i64 l)[j]? = some u → w.cell? (d.add j) = some u := by
  rcases h with rfl | ⟨b, o, rfl, h⟩
  · rcases hA with ⟨h1, h2, h3⟩ | ⟨a, h1⟩
    · exact .inl ⟨h1, h2, h3⟩
    · exact .inr ⟨a, h1, fun j u hu => by simp [nums] at hu⟩
  · refine .inr ⟨_, rfl, fun j u hu => ?_⟩
    have e2 : (⟨b, o, none⟩ : Addr).add j = ⟨b, o + j, none⟩ := by unfold Addr.add; split <;> simp_all
    simp only [nums, List.getElem?_map, Option.map_eq_some_iff] at hu
    obtain ⟨x, hx, rfl⟩ := hu
    rw [e2]
    exact h j x hx
end Go.Proofs.YtljjpdjknnhceaaDoor.Twin
