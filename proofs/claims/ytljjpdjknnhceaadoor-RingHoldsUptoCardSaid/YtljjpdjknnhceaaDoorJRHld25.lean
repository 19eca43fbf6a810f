/- Joined texts of this claim: InsW -/
import Derived.Test.YtljjpdjknnhceaaDoorJRHld24
import Derived.Sort.Walk0
set_option linter.unusedVariables false
set_option linter.unusedSimpArgs false
/- The document's inserted: a word put in its place. -/
set_option linter.unusedVariables false
set_option linter.unusedSimpArgs false
namespace Go.Proofs.YtljjpdjknnhceaaDoor.InsW
open Go.RowKit Go.Proofs.YtljjpdjknnhceaaDoorW.PrintWords Go.Proofs.YtljjpdjknnhceaaDoorW.PrintLast Go.Proofs.YtljjpdjknnhceaaDoorW.PrintMore
open Go.Proofs.YtljjpdjknnhceaaDoor.Base Go.Proofs.YtljjpdjknnhceaaDoor.App Go.Proofs.YtljjpdjknnhceaaDoor.AppR Go.Proofs.YtljjpdjknnhceaaDoor.Clus Go.Proofs.YtljjpdjknnhceaaDoor.Mids Go.Proofs.YtljjpdjknnhceaaDoor.Hold Go.Proofs.YtljjpdjknnhceaaDoor.InsPure Go.Proofs.YtljjpdjknnhceaaDoor.NumR Go.Proofs.YtljjpdjknnhceaaDoor.HoldKit
theorem infoStr : (Tryd.prog.info? 9).map (fun i => (i.zero, i.size, i.bytes)) = some (some (.string ByteArray.empty), 1, 16) := by kernel_rfl
/-- what is laid behind i words -/
def Mid (x : Str) (l : List Str) (i : Nat) (m : List Str) (d : Bool) : Prop := (d = true ∧ m ++ l.drop i = ins x l ∧ m.length = i + 1) ∨ (d = false ∧ m = l.take i ∧ ins x l = l.take i ++ ins x (l.drop i) ∧ m.length = i)
theorem mid_start (x : Str) (l : List Str) : Mid x l 0 [] false := .inr ⟨rfl, rfl, rfl, rfl⟩
theorem mid_done {x y : Str} {l : List Str} {i : Nat} {m : List Str} (h : Mid x l i m true) (hy : l[i]? = some y) : Mid x l (i + 1) (m ++ [y]) true := by
  rcases h with ⟨_, h, hl⟩ | ⟨h, _⟩
  · refine .inl ⟨rfl, ?_, by simp [hl]⟩
    have hi : i < l.length := (List.getElem?_eq_some_iff.1 hy).1
    have : l.drop i = y :: l.drop (i + 1) := by rw [List.drop_eq_getElem_cons hi]; rw [List.getElem?_eq_getElem hi] at hy; injection hy with hy; rw [hy]
    rw [this] at h
    rw [← h]; simp
  · cases h
theorem mid_put {x y : Str} {l : List Str} {i : Nat} {m : List Str} (h : Mid x l i m false) (hy : l[i]? = some y) (hxy : x < y) : Mid x l (i + 1) (m ++ [x] ++ [y]) true := by
  rcases h with ⟨h, _⟩ | ⟨_, rfl, h, hl⟩
  · cases h
  · refine .inl ⟨rfl, ?_, by simp [hl]⟩
    have hi : i < l.length := (List.getElem?_eq_some_iff.1 hy).1
    have e : l.drop i = y :: l.drop (i + 1) := by rw [List.drop_eq_getElem_cons hi]; rw [List.getElem?_eq_getElem hi] at hy; injection hy with hy; rw [hy]
    rw [h, e, ins, if_pos hxy]; simp
theorem mid_skip {x y : Str} {l : List Str} {i : Nat} {m : List Str} (h : Mid x l i m false) (hy : l[i]? = some y) (hxy : ¬ x < y) : Mid x l (i + 1) (m ++ [y]) false := by
  rcases h with ⟨h, _⟩ | ⟨_, rfl, h, hl⟩
  · cases h
  · have hi : i < l.length := (List.getElem?_eq_some_iff.1 hy).1
    have e : l.drop i = y :: l.drop (i + 1) := by rw [List.drop_eq_getElem_cons hi]; rw [List.getElem?_eq_getElem hi] at hy; injection hy with hy; rw [hy]
    have et : l.take (i + 1) = l.take i ++ [y] := by rw [List.take_add_one, hy]; rfl
    refine .inr ⟨rfl, et.symm, ?_, by simp [hl]⟩
    rw [h, e, ins, if_neg hxy, et]; simp
theorem mid_end {x : Str} {l : List Str} {i : Nat} {m : List Str} {d : Bool} (h : Mid x l i m d) (hi : l.length ≤ i) : ins x l = if d = true then m else m ++ [x] := by
  rcases h with ⟨rfl, h, _⟩ | ⟨rfl, rfl, h, _⟩
  · rw [if_pos rfl, ← h, List.drop_of_length_le hi, List.append_nil]
  · rw [if_neg Bool.false_ne_true, h, List.drop_of_length_le hi]; rfl
theorem enc_app (a : List Str) (x : Str) : encL (a ++ [x]) = encL a ++ [.string (strO x)] := by simp [encL]
theorem news_str (w : World) (s : ByteArray) : ∀ j u, [Value.string s][j]? = some u → (w.alloc (.cells #[.string s] 9)).cell? ((⟨w.heap.size, 0, none⟩ : Addr).add j) = some u := by
  intro j u hj
  have := news w [.string s] 9 j u hj
  rwa [show (⟨w.heap.size, 0, none⟩ : Addr).add j = ⟨w.heap.size, j, none⟩ by unfold Addr.add; split <;> simp_all]
set_option maxRecDepth 100000 in
set_option maxHeartbeats 8000000 in
theorem inserted_any (A : Option Addr) (c : Nat) (l : List Str) (x : Str) (w : World) (h : StrsAt w A l) (hl : l.length ≤ 1000000) :
    Calls Tryd.prog 77 #[.slice A l.length c, .string (strO x)] w fun e w' => Below w.heap.size w w' ∧ ∃ v, e = .returned v ∧ w'.ownsRow w.heap.size 9 1 v (ins x l).length (encL (ins x l)) := by
  have HA := Aside0.mk h
  obtain ⟨L, hL⟩ : ∃ L, L = l.length := ⟨_, rfl⟩
  rw [← hL] at hl ⊢
  have HLE := Aside0.mk hL
  have HXS : Aside0 ((strO x).toList = x) := ⟨by rw [ByteArray.toList_eq]; rfl⟩
  obtain ⟨sx, hsx⟩ : ∃ sx, sx = strO x := ⟨_, rfl⟩
  rw [← hsx] at HXS ⊢
  have HSX := Aside0.mk hsx
  clear h hL hsx
  go_enter Tryd.func77, Tryd.ntmps77
  go_wp2_with fail
  go_loopw [5, 6, 7] (fun v5 v6 v7 wr => ∃ i : Nat, ∃ m d, i ≤ L ∧ v7 = .int .i64 (i : Nat) ∧ v6 = .bool d ∧ Aside0 (Mid x l i m d) ∧ Aside0 (Below w.heap.size w wr) ∧ Aside0 (wr.ownsRow w.heap.size 9 1 v5 m.length (encL m))) (fun _ _ v7 _ => L - (intOf v7).toNat)
  case atStart => exact ⟨0, [], false, Nat.zero_le _, rfl, rfl, ⟨mid_start x l⟩, ⟨Below.refl _ _⟩, ⟨World.ownsRow_nil _ _ _ _⟩⟩
  case round =>
    obtain ⟨i, m, d, hi, rfl, rfl, HM, HB, HO⟩ := hrel
    obtain ⟨wo, rfl⟩ : ∃ wo : World, wo = wr := ⟨_, rfl⟩
    have hml : m.length ≤ i + 1 := by rcases HM.out with ⟨_, _, h⟩ | ⟨_, _, _, h⟩ <;> omega
    obtain ⟨oA, oc, rfl, hoc⟩ := own_form HO.out
    have hsz := HB.out.size
    by_cases h1 : i < L
    · obtain ⟨y, hy⟩ : ∃ y, l[i]? = some y := ⟨_, List.getElem?_eq_getElem (by rw [← HLE.out]; exact h1)⟩
      obtain ⟨b, rfl, hcy⟩ := HA.out.get hy
      have hcy2 : wo.cell? ⟨b, i, none⟩ = some (.string (strO y)) := cell_below HB.out (Nat.le_refl _) hcy
      have HYS : Aside0 ((strO y).toList = y) := ⟨by rw [ByteArray.toList_eq]; rfl⟩
      obtain ⟨sy, hsy⟩ : ∃ sy, sy = strO y := ⟨_, rfl⟩
      rw [← hsy] at hcy hcy2 HYS
      have HSY := Aside0.mk hsy
      have HCY := Aside0.mk hcy
      have HY := Aside0.mk hy
      clear hy hsy hcy
      cases d with
      | true =>
        go_wp2_with ((with_reducible refine gate_call (args := #[.tmp 28, .tmp 33]) rfl ?_); refine Hid.out ?_)
        refine Lib.hid ?_
        refine list_append_any (P := Tryd.prog) rfl w.heap.size (.tmp 28) (.tmp 33) 84 9 _ 1 16 rfl Tryd.underlying84 infoStr rfl (by decide) (by decide) (.slice oA m.length oc) (m.length) (encL m) (some ⟨wo.heap.size, 0, none⟩) 1 1 [.string sy] ?hs ?hx rfl (by simp [Value.oneCell']) (.inr ⟨_, rfl, news_str wo sy⟩) (HO.out.alloc _) (by simp; omega) (by omega) (m.length + 1) rfl ?_
        case hs => rfl
        case hx => rfl
        intro A5 c5 w5 hle5 hown5 hg5
        have HO5 : Aside0 (w5.ownsRow w.heap.size 9 1 (.slice A5 (m.length + 1) c5) (m ++ [y]).length (encL (m ++ [y]))) := ⟨by rw [enc_app, ← HSY.out, List.length_append]; exact hown5⟩
        have HB5 : Aside0 (Below w.heap.size w w5) := ⟨(HB.out.alloc HB.out.size _).grown hg5 (by simp; omega) (own_base HO.out)⟩
        have HM5 := Aside0.mk (mid_done HM.out HY.out)
        clear hown5 hg5
        go_wp2_with fail
        go_roundw
        case rel => exact ⟨i + 1, m ++ [y], true, by omega, by go_num, rfl, HM5, HB5, HO5⟩
        case measure => simp [intOf]; omega
      | false =>
        by_cases hxy : x < y
        · have hq : Op.bytesLess sx.toList sy.toList = true := by rw [bytesLess_eq, HXS.out, HYS.out]; exact decide_eq_true hxy
          have HM5 := Aside0.mk (mid_put HM.out HY.out hxy)
          clear hxy
          go_wp2_with ((with_reducible refine gate_call (args := #[.tmp 24, .tmp 26]) rfl ?_); refine Hid.out ?_)
          refine Lib.hid ?_
          refine list_append_any (P := Tryd.prog) rfl w.heap.size (.tmp 24) (.tmp 26) 84 9 _ 1 16 rfl Tryd.underlying84 infoStr rfl (by decide) (by decide) (.slice oA m.length oc) (m.length) (encL m) (some ⟨wo.heap.size, 0, none⟩) 1 1 [.string sx] ?hs ?hx rfl (by simp [Value.oneCell']) (.inr ⟨_, rfl, news_str wo sx⟩) (HO.out.alloc _) (by simp; omega) (by omega) (m.length + 1) rfl ?_
          case hs => rfl
          case hx => rfl
          intro A5 c5 w5 hle5 hown5 hg5
          have HO5 : Aside0 (w5.ownsRow w.heap.size 9 1 (.slice A5 (m.length + 1) c5) (m.length + 1) (encL (m ++ [x]))) := ⟨by rw [enc_app, ← HSX.out]; exact hown5⟩
          have HB5 : Aside0 (Below w.heap.size w w5) := ⟨(HB.out.alloc HB.out.size _).grown hg5 (by simp; omega) (own_base HO.out)⟩
          have hcy5 : w5.cell? ⟨b, i, none⟩ = some (.string sy) := cell_below HB5.out (Nat.le_refl _) HCY.out
          have hsz5 := HB5.out.size
          clear hown5 hg5 hcy2
          go_wp2_with ((with_reducible refine gate_call (args := #[.tmp 28, .tmp 33]) rfl ?_); refine Hid.out ?_)
          refine Lib.hid ?_
          refine list_append_any (P := Tryd.prog) rfl w.heap.size (.tmp 28) (.tmp 33) 84 9 _ 1 16 rfl Tryd.underlying84 infoStr rfl (by decide) (by decide) (.slice A5 (m.length + 1) c5) (m.length + 1) (encL (m ++ [x])) (some ⟨w5.heap.size, 0, none⟩) 1 1 [.string sy] ?hs ?hx rfl (by simp [Value.oneCell']) (.inr ⟨_, rfl, news_str w5 sy⟩) (HO5.out.alloc _) (by simp; omega) (by omega) (m.length + 1 + 1) rfl ?_
          case hs => rfl
          case hx => rfl
          intro A6 c6 w6 hle6 hown6 hg6
          have HO6 : Aside0 (w6.ownsRow w.heap.size 9 1 (.slice A6 (m.length + 1 + 1) c6) (m ++ [x] ++ [y]).length (encL (m ++ [x] ++ [y]))) := ⟨by rw [enc_app, ← HSY.out, List.length_append, List.length_append]; exact hown6⟩
          have HB6 : Aside0 (Below w.heap.size w w6) := ⟨(HB5.out.alloc HB5.out.size _).grown hg6 (by simp; omega) (own_base HO5.out)⟩
          clear hown6 hg6
          go_wp2_with fail
          go_roundw
          case rel => exact ⟨i + 1, m ++ [x] ++ [y], true, by omega, by go_num, rfl, HM5, HB6, HO6⟩
          case measure => simp [intOf]; omega
        · have hq : Op.bytesLess sx.toList sy.toList = false := by rw [bytesLess_eq, HXS.out, HYS.out]; exact decide_eq_false hxy
          have HM5 := Aside0.mk (mid_skip HM.out HY.out hxy)
          clear hxy
          go_wp2_with ((with_reducible refine gate_call (args := #[.tmp 28, .tmp 33]) rfl ?_); refine Hid.out ?_)
          refine Lib.hid ?_
          refine list_append_any (P := Tryd.prog) rfl w.heap.size (.tmp 28) (.tmp 33) 84 9 _ 1 16 rfl Tryd.underlying84 infoStr rfl (by decide) (by decide) (.slice oA m.length oc) (m.length) (encL m) (some ⟨wo.heap.size, 0, none⟩) 1 1 [.string sy] ?hs ?hx rfl (by simp [Value.oneCell']) (.inr ⟨_, rfl, news_str wo sy⟩) (HO.out.alloc _) (by simp; omega) (by omega) (m.length + 1) rfl ?_
          case hs => rfl
          case hx => rfl
          intro A5 c5 w5 hle5 hown5 hg5
          have HO5 : Aside0 (w5.ownsRow w.heap.size 9 1 (.slice A5 (m.length + 1) c5) (m ++ [y]).length (encL (m ++ [y]))) := ⟨by rw [enc_app, ← HSY.out, List.length_append]; exact hown5⟩
          have HB5 : Aside0 (Below w.heap.size w w5) := ⟨(HB.out.alloc HB.out.size _).grown hg5 (by simp; omega) (own_base HO.out)⟩
          clear hown5 hg5
          go_wp2_with fail
          go_roundw
          case rel => exact ⟨i + 1, m ++ [y], false, by omega, by go_num, rfl, HM5, HB5, HO5⟩
          case measure => simp [intOf]; omega
    · have HE := Aside0.mk (mid_end HM.out (by rw [← HLE.out]; omega))
      cases d with
      | true =>
        have HO6 : Aside0 (wo.ownsRow w.heap.size 9 1 (.slice oA m.length oc) (ins x l).length (encL (ins x l))) := ⟨by rw [HE.out, if_pos rfl]; exact HO.out⟩
        go_wp2_with fail
        go_ret
        exact ⟨HB.out, _, rfl, HO6.out⟩
      | false =>
        go_wp2_with ((with_reducible refine gate_call (args := #[.tmp 37, .tmp 39]) rfl ?_); refine Hid.out ?_)
        refine Lib.hid ?_
        refine list_append_any (P := Tryd.prog) rfl w.heap.size (.tmp 37) (.tmp 39) 84 9 _ 1 16 rfl Tryd.underlying84 infoStr rfl (by decide) (by decide) (.slice oA m.length oc) (m.length) (encL m) (some ⟨wo.heap.size, 0, none⟩) 1 1 [.string sx] ?hs ?hx rfl (by simp [Value.oneCell']) (.inr ⟨_, rfl, news_str wo sx⟩) (HO.out.alloc _) (by simp; omega) (by omega) (m.length + 1) rfl ?_
        case hs => rfl
        case hx => rfl
        intro A5 c5 w5 hle5 hown5 hg5
        have HO5 : Aside0 (w5.ownsRow w.heap.size 9 1 (.slice A5 (m.length + 1) c5) (ins x l).length (encL (ins x l))) := ⟨by rw [HE.out, if_neg Bool.false_ne_true, enc_app, ← HSX.out, List.length_append]; exact hown5⟩
        have HB5 : Aside0 (Below w.heap.size w w5) := ⟨(HB.out.alloc HB.out.size _).grown hg5 (by simp; omega) (own_base HO.out)⟩
        clear hown5 hg5
        go_wp2_with fail
        go_ret
        exact ⟨HB5.out, _, rfl, HO5.out⟩
end Go.Proofs.YtljjpdjknnhceaaDoor.InsW
