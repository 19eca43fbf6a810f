/- Order walked. -/
import Derived.Test.YtbheegamibdbhaaOrdSort
import Derived.Test.YtbheegamibdbhaaAppG
import Derived.OneCell
import Derived.Laws.EntriesVeiled
set_option linter.unusedVariables false
set_option linter.unusedSimpArgs false
namespace Go.Proofs.Ytbheegamibdbhaa.Order
open Go.RowKit Go.Proofs.YtbheegamibdbhaaW.PrintWords Go.Proofs.YtbheegamibdbhaaW.PrintLast Go.Proofs.YtbheegamibdbhaaW.PrintMore
open Go.Sort Go.Lib Go.Proofs.Ytbheegamibdbhaa.Base Go.Proofs.Ytbheegamibdbhaa.App Go.Proofs.Ytbheegamibdbhaa.AppG Go.Proofs.Ytbheegamibdbhaa.MapK Go.Proofs.Ytbheegamibdbhaa.Det Go.Proofs.Ytbheegamibdbhaa.SymMerge Go.Proofs.Ytbheegamibdbhaa.StabPure Go.Proofs.Ytbheegamibdbhaa.StabUse Go.Proofs.Ytbheegamibdbhaa.StabWalk Go.Proofs.Ytbheegamibdbhaa.Stable Go.Proofs.Ytbheegamibdbhaa.OrdLess Go.Proofs.Ytbheegamibdbhaa.OrdSort
/-- a list of numbers -/
def NumsAt (w : World) (A : Option Addr) (l : List Int) : Prop := l = [] ∨ ∃ b o, A = some ⟨b, o, none⟩ ∧ ∀ i x, l[i]? = some x → w.cell? ⟨b, o + i, none⟩ = some (.int .i64 x)
theorem cell_below {B : Nat} {w w1 : World} {p : Addr} {v : Value} (hb : Below B w w1) (hB : w.heap.size ≤ B) (h : w.cell? p = some v) : w1.cell? p = some v := by
  have hl : p.block < w.heap.size := by
    unfold World.cell? at h
    cases e : w.heap[p.block]? with
    | none => rw [e] at h; cases h
    | some x => exact (Array.getElem?_eq_some_iff.1 e).1
  rw [hb.cell (by omega)]
  exact h
theorem NumsAt.below {w w1 : World} {A : Option Addr} {l : List Int} (h : NumsAt w A l) (hb : Below w.heap.size w w1) : NumsAt w1 A l := by
  rcases h with h | ⟨b, o, rfl, h⟩
  · exact .inl h
  · exact .inr ⟨b, o, rfl, fun i x hi => cell_below hb (Nat.le_refl _) (h i x hi)⟩
theorem NumsAt.get {w : World} {A : Option Addr} {l : List Int} (h : NumsAt w A l) {k : Nat} {x : Int} (hk : l[k]? = some x) : ∃ b o, A = some ⟨b, o, none⟩ ∧ w.cell? ⟨b, o + k, none⟩ = some (.int .i64 x) := by
  rcases h with rfl | ⟨b, o, rfl, h⟩
  · simp at hk
  · exact ⟨b, o, rfl, h k x hk⟩
instance (nd : Int) (l : List Int) : Decidable (∀ x ∈ l, 0 ≤ x ∧ x < nd) := inferInstance
def oL (u : Int → Option Int) (now bn : Int) (l : List Int) : List Int := ordL (rk u now) now bn.toNat l
def ordR (nd : Int) (u : Int → Option Int) (now bn : Int) (l : List Int) : Int × List Int := if ∀ x ∈ l, 0 ≤ x ∧ x < nd then (0, oL u now bn l) else (68, [])
def ListPost (r : Int × List Int) (w : World) (e : Ending) (w' : World) : Prop := Below w.heap.size w w' ∧ ∃ v, e = .returned (.tuple #[v, .int .i64 r.1]) ∧ w'.ownsRow w.heap.size 3 1 v r.2.length (nums .i64 r.2)
theorem infoI : (Try.prog.info? 3).map (fun i => (i.zero, i.size, i.bytes)) = some (some (.int .i64 0), 1, 8) := by kernel_rfl
/-- the list as nodes' numbers -/
theorem as_nodes {nd : Int} (hnd : nd ≤ 16) : ∀ {l : List Int}, (∀ x ∈ l, 0 ≤ x ∧ x < nd) → ∃ d : List N16, d.map (·.val) = l
  | [], _ => ⟨[], rfl⟩
  | x :: l, h => by
    obtain ⟨d, hd⟩ := as_nodes hnd (l := l) fun y hy => h y (List.mem_cons_of_mem _ hy)
    have := h x (List.mem_cons_self ..)
    exact ⟨⟨x, by omega⟩ :: d, by simp [hd]⟩
theorem srt_map {u : Int → Option Int} {now : Int} {d : List N16} (h : Srt (kN u now) d) : Srt (rk u now) (d.map (·.val)) := by
  unfold Srt at *
  rw [List.pairwise_map]
  exact h
theorem same_map {u : Int → Option Int} {now : Int} {d d' : List N16} (h : SymMerge.Same (kN u now) d d') : SymMerge.Same (rk u now) (d.map (·.val)) (d'.map (·.val)) := fun k => by
  rw [List.filter_map, List.filter_map]
  exact congrArg _ (h k)
theorem sorted_is {nd st bn now : Int} {w : World} {B b1 b2 n : Nat} {r u : Int → Option Int} (h : Det w B nd st bn now b1 b2 n r u) {d d' : Array N16} (hS : Sted (kN u now) d d') : d'.toList.map (·.val) = oL u now bn (d.toList.map (·.val)) := by
  have h1 := srt_map (srt_of_all (key := kN u now) d' (by rw [hS.size]; exact hS.sk))
  have h2 := same_map hS.same
  have h3 : ∀ x ∈ d.toList.map (·.val), rk u now x = 0 ∨ (now + 1 ≤ rk u now x ∧ rk u now x < now + 1 + (bn.toNat : Int)) := fun x _ => by
    unfold rk
    by_cases e : now < (u x).getD 0
    · rw [if_pos e]
      right
      have h0 := h.now0
      cases hu : u x with
      | none => rw [hu] at e; simp at e; omega
      | some y =>
        have := h.ub x y hu
        have := h.fit
        rw [hu] at e
        simp only [Option.getD_some] at e ⊢
        omega
    · rw [if_neg e]; exact .inl rfl
  exact eq_of_same h1 (ordL_srt now h.now0 _ _) (SymMerge.Same.trans (fun k => (h2 k).symm) (ordL_same now h.now0 _ _ h3))
/-- a row of numbers that the call made: what is known of its block -/
theorem row_form {w : World} {X n : Nat} {g c : Nat} {xs : List Value} (h : w.ownsRow X 3 1 (.slice (some ⟨g, 0, none⟩) n c) n xs) : X ≤ g ∧ ∃ cs, w.heap[g]? = some (.cells cs 3 (0, 0)) ∧ n ≤ c ∧ c ≤ maxLen ∧ cs.size = c * 1 ∧ cs.toList.take (n * 1) = xs := by
  rcases h.2 with ⟨h0, _⟩ | ⟨g', c', cs, e, hX, hg, h1, h2, h3, h4⟩
  · cases h0
  · injection e with e1 e2 e3
    injection e1 with e1
    injection e1 with e1
    subst e1 e3
    exact ⟨hX, cs, hg, h1, h2, h3, h4⟩
theorem row_ne {w : World} {X n : Nat} {g c : Nat} {xs : List Value} (h : w.ownsRow X 3 1 (.slice (some ⟨g, 0, none⟩) n c) n xs) {k : Nat} {cs : Array Value} {T : TypeId} {fr : Nat × Nat} (hk : w.heap[k]? = some (.cells cs T fr)) (hT : T ≠ 3) : g ≠ k := by
  obtain ⟨_, cs', hg, _⟩ := row_form h
  intro e
  subst e
  rw [hg] at hk
  injection hk with hk
  injection hk with _ hk _
  exact hT hk.symm
theorem row_block {w w1 : World} {X n : Nat} {g c : Nat} {xs : List Value} (h : w.ownsRow X 3 1 (.slice (some ⟨g, 0, none⟩) n c) n xs) (e : w1.heap[g]? = w.heap[g]?) : w1.ownsRow X 3 1 (.slice (some ⟨g, 0, none⟩) n c) n xs := by
  refine ⟨h.1, ?_⟩
  obtain ⟨hX, cs, hg, h1, h2, h3, h4⟩ := row_form h
  exact .inr ⟨g, c, cs, rfl, hX, e.trans hg, h1, h2, h3, h4⟩
theorem own_ptr {w : World} {X n : Nat} {A : Option Addr} {c : Nat} {xs : List Value} (h : w.ownsRow X 3 1 (.slice A (n + 1) c) (n + 1) xs) : ∃ g, A = some ⟨g, 0, none⟩ := by
  rcases h.2 with ⟨h0, _⟩ | ⟨g', c', cs, e, _⟩
  · cases h0
  · injection e with e1 e2 e3
    exact ⟨g', e1⟩
theorem opost_err {r : Int × List Int} {w w' : World} {code : Int} (h : r = (code, [])) (hb : Below w.heap.size w w') : ListPost r w (.returned (.tuple #[.slice none 0 0, .int .i64 code])) w' := by
  subst h; exact ⟨hb, _, rfl, World.ownsRow_nil _ _ _ _⟩
theorem opost_ok {r : Int × List Int} {w w' : World} {l : List Int} {v : Value} {n : Nat} (h : r = (0, l)) (hb : Below w.heap.size w w') (hn : n = l.length) (ho : w'.ownsRow w.heap.size 3 1 v n (nums .i64 l)) : ListPost r w (.returned (.tuple #[v, .int .i64 0])) w' := by
  subst h hn; exact ⟨hb, _, rfl, ho⟩
/-- what holds at the head of a round -/
structure Hd (w wr : World) (D O B L k : Nat) (l : List Int) (g c : Nat) : Prop where mk ::
  (bel : Below w.heap.size w wr) (d : wr.heap[D]? = some (.cells #[.pointer (some ⟨B, 0, none⟩)] 24 (0, 0)))
  (o : wr.heap[O]? = some (.cells #[.slice (some ⟨g, 0, none⟩) k c] 38 (0, 0))) (own : wr.ownsRow w.heap.size 3 1 (.slice (some ⟨g, 0, none⟩) k c) k (nums .i64 (l.take k)))
theorem err_yes {nd k : Int} (h : 0 ≤ k ∧ k < nd) : errOf nd k = 0 := if_pos h
theorem err_no {nd k : Int} (h : ¬ (0 ≤ k ∧ k < nd)) : errOf nd k = 68 := if_neg h
theorem heap_srt {w : World} {g n : Nat} {os : Array Obj} {cur : Array Value} {e : TypeId} {fr : Nat × Nat} (d : Array N16) (hb : w.heap[g]? = some (.cells cur e fr)) :
    (sortWorld eN w g 0 n d os).heap[g]? = some (.cells (putCells eN 0 d cur) e fr) := by
  have hg : g < w.heap.size := (Array.getElem?_eq_some_iff.1 hb).1
  unfold sortWorld
  rw [heap_grow_old _ _ (by simpa using hg)]
  simp [putRow, mapBlock, Sort.ahead, Array.getElem?_modify, hb, onCells]
theorem take_srt (cur : Array Value) (d : Array N16) (h : d.size ≤ cur.size) : (putCells eN 0 d cur).toList.take d.size = nums .i64 (d.toList.map (·.val)) := by
  apply List.ext_getElem?
  intro j
  by_cases hj : j < d.size
  · rw [List.getElem?_take_of_lt hj, Array.getElem?_toList]
    simp [putCells, nums, eN, hj, show j < cur.size by omega]
  · rw [List.getElem?_take_eq_none (by omega), List.getElem?_eq_none (by simp [nums]; omega)]
theorem own_srt {w w' : World} {X g c : Nat} {d d' : Array N16} (h : w.ownsRow X 3 1 (.slice (some ⟨g, 0, none⟩) d.size c) d.size (nums .i64 (d.toList.map (·.val)))) (hs : SW eN w g 0 d' w') (hd : d'.size = d.size) :
    w'.ownsRow X 3 1 (.slice (some ⟨g, 0, none⟩) d.size c) d.size (nums .i64 (d'.toList.map (·.val))) := by
  obtain ⟨n, os, rfl⟩ := hs
  obtain ⟨hX, cs, hg, h1, h2, h3, h4⟩ := row_form h
  refine ⟨by simp [nums, hd], .inr ⟨g, c, _, rfl, hX, heap_srt d' hg, h1, h2, by simp [putCells, h3], ?_⟩⟩
  rw [Nat.mul_one, ← hd]
  exact take_srt cs d' (by omega)
theorem holds_own {w : World} {X g c : Nat} {d : Array N16} (h : w.ownsRow X 3 1 (.slice (some ⟨g, 0, none⟩) d.size c) d.size (nums .i64 (d.toList.map (·.val)))) : Holds eN w g 0 d := by
  obtain ⟨hX, cs, hg, h1, h2, h3, h4⟩ := row_form h
  intro j hj
  refine ⟨?_, by simp [World.frozen?, hg]⟩
  rw [Nat.mul_one] at h4
  have e1 : (cs.toList.take d.size)[j]? = (nums .i64 (d.toList.map (·.val)))[j]? := by rw [h4]
  rw [List.getElem?_take_of_lt hj] at e1
  simp only [World.cell?, hg, Nat.zero_add]
  simp only [Option.isSome_none, Bool.false_eq_true, if_false]
  rw [← Array.getElem?_toList, e1]
  simp [nums, hj, eN]
theorem below_sw {w w1 w' : World} {g : Nat} {d : Array N16} (h : Below w.heap.size w w1) (hg : w.heap.size ≤ g) (hs : SW eN w1 g 0 d w') : Below w.heap.size w w' := by
  obtain ⟨n, os, rfl⟩ := hs
  refine h.trans ⟨rfl, rfl, rfl, by unfold sortWorld; rw [size_grow, size_putRow]; exact Nat.le_add_right _ _, fun k hk => block_other eN w1 g 0 n d os k (by omega) (Nat.lt_of_lt_of_le hk h.size)⟩
set_option maxRecDepth 100000 in
set_option maxHeartbeats 8000000 in
theorem order_any {nd st bn now : Int} {w : World} {B b1 b2 n : Nat} {r u : Int → Option Int} (h : Det w B nd st bn now b1 b2 n r u) (A : Option Addr) (l : List Int) (cap : Nat) (hN : NumsAt w A l) (hcap : l.length ≤ cap) (hlen : l.length ≤ 1000000000) :
    Calls Try.prog 20 #[.pointer (some ⟨B, 0, none⟩), .slice A l.length cap] w (ListPost (ordR nd u now bn l) w) := by
  have HD := Aside0.mk h
  have HN := Aside0.mk hN
  obtain ⟨L, hL⟩ : ∃ L, L = l.length := ⟨_, rfl⟩
  rw [← hL] at hcap hlen ⊢
  have HLE := Aside0.mk hL
  have hmk := fun W => make_cap (P := Try.prog) 38 3 _ 8 Try.underlying38 infoI rfl (L : Int) (by omega) (by omega) (by omega) W
  simp only [Int.toNat_natCast] at hmk
  clear h hN hL
  go_enter Try.func20, Try.ntmps20
  go_upto_region 4 with fail
  have HH : Aside0 (Hd w (((w.alloc (.cells #[.pointer (some ⟨B, 0, none⟩)] 24)).alloc (.cells (madeCells #[.int .i64 0] L) 3)).alloc (.cells #[.slice (some ⟨w.heap.size + 1, 0, none⟩) 0 L] 38)) w.heap.size (w.heap.size + 1 + 1) B L 0 l (w.heap.size + 1) L) := ⟨by
    have h1 := made_owns (w.alloc (.cells #[.pointer (some ⟨B, 0, none⟩)] 24)) (.int .i64 0) rfl L (by unfold maxLen; omega) 3
    have hb1 := (Below.refl w.heap.size w).alloc (Nat.le_refl _) (.cells #[.pointer (some ⟨B, 0, none⟩)] 24)
    have hb2 := hb1.alloc (by simp) (.cells (madeCells #[.int .i64 0] L) 3)
    have hb3 := hb2.alloc (by simp; omega) (.cells #[.slice (some ⟨w.heap.size + 1, 0, none⟩) 0 L] 38)
    refine ⟨hb3, ?_, ?_, ?_⟩
    · have hx := ((Below.refl (w.alloc (.cells #[.pointer (some ⟨B, 0, none⟩)] 24)).heap.size (w.alloc (.cells #[.pointer (some ⟨B, 0, none⟩)] 24))).alloc (Nat.le_refl _) (.cells (madeCells #[.int .i64 0] L) 3)).alloc (by simp) (.cells #[.slice (some ⟨w.heap.size + 1, 0, none⟩) 0 L] 38)
      exact (hx.block _ (by simp)).trans (Go.heap_alloc_new w _)
    · have := Go.heap_alloc_new ((w.alloc (.cells #[.pointer (some ⟨B, 0, none⟩)] 24)).alloc (.cells (madeCells #[.int .i64 0] L) 3)) (.cells #[.slice (some ⟨w.heap.size + 1, 0, none⟩) 0 L] 38)
      simpa using this
    · have h2 : (w.alloc (.cells #[.pointer (some ⟨B, 0, none⟩)] 24)).heap.size = w.heap.size + 1 := by simp
      rw [h2] at h1
      exact (own_weaken h1 (by simp)).alloc _⟩
  generalize (((w.alloc (.cells #[.pointer (some ⟨B, 0, none⟩)] 24)).alloc (.cells (madeCells #[.int .i64 0] L) 3)).alloc (.cells #[.slice (some ⟨w.heap.size + 1, 0, none⟩) 0 L] 38)) = w3 at HH ⊢
  obtain ⟨O, hO⟩ : ∃ O, O = w.heap.size + 1 + 1 := ⟨_, rfl⟩
  obtain ⟨D, hD⟩ : ∃ D, D = w.heap.size := ⟨_, rfl⟩
  rw [← hO] at HH ⊢
  generalize hG0 : w.heap.size + 1 = G0 at HH ⊢
  rw [← hD] at HH ⊢
  have HDO := Aside0.mk (show D ≠ O from by omega)
  have HXS := Aside0.mk hD
  have HOX := Aside0.mk (show O = D + 2 from by omega)
  clear hG0 hO hD
  go_wp2_with fail
  go_loopw [18] (fun v18 wr => ∃ k : Nat, k ≤ L ∧ v18 = .int .i64 (k : Nat) ∧ Aside0 (∀ x ∈ l.take k, 0 ≤ x ∧ x < nd) ∧ Aside0 (∃ g c, Hd w wr D O B L k l g c)) (fun v18 _ => L - (intOf v18).toNat)
  case atStart => exact ⟨0, Nat.zero_le _, rfl, ⟨by simp⟩, ⟨_, _, HH.out⟩⟩
  case round =>
    clear HH hmk
    obtain ⟨k, hk, rfl, HK, HE⟩ := hrel
    obtain ⟨g, c, hh⟩ := HE.out
    have HH := Aside0.mk hh
    clear hh HE
    obtain ⟨wo, rfl⟩ : ∃ wo : World, wo = wr := ⟨_, rfl⟩
    have hcd := cell_of_one HH.out.d
    have hco := cell_of_one HH.out.o
    have hfo := free_of_one HH.out.o
    by_cases hlt : k < L
    · obtain ⟨x, hx⟩ : ∃ x, l[k]? = some x := ⟨_, List.getElem?_eq_getElem (by rw [← HLE.out]; exact hlt)⟩
      obtain ⟨b, o, rfl, hcx⟩ := (HN.out.below HH.out.bel).get hx
      have HX := Aside0.mk hx
      have hc0 := (HD.out.after HH.out.bel).c0
      clear hx
      by_cases hkn : 0 ≤ x ∧ x < nd
      · have HER := Aside0.mk (err_yes hkn)
        have HKN := Aside0.mk hkn
        clear hkn
        go_wp2_with fail
        refine (known_any B nd x wo hc0).mono ?_
        rintro e w' ⟨rfl, rfl⟩
        rw [HER.out]
        have HTK : Aside0 (nums .i64 (l.take (k + 1)) = nums .i64 (l.take k) ++ [.int .i64 x]) := ⟨by rw [List.take_add_one, HX.out]; simp [nums]⟩
        have HGO := Aside0.mk (row_ne HH.out.own HH.out.o (by decide))
        have HGD := Aside0.mk (row_ne HH.out.own HH.out.d (by decide))
        have hsz := HH.out.bel.size
        clear hc0 hcx
        go_wp2_with ((with_reducible refine gate_call (args := #[.tmp 28, .tmp 30]) rfl ?_); refine Hid.out ?_)
        refine Lib.hid ?_
        refine list_append_any (P := Try.prog) rfl w.heap.size (.tmp 28) (.tmp 30) 38 3 _ 1 8 rfl Try.underlying38 infoI rfl (by decide) (by decide) (.slice (some ⟨g, 0, none⟩) k c) k (nums .i64 (l.take k)) (some ⟨wo.heap.size, 0, none⟩) 1 1 [.int .i64 x] ?hs ?hx rfl (by simp [Value.oneCell']) (.inr ⟨_, rfl, fun j u hj => by have := news wo [.int .i64 x] 3 j u hj; rwa [show (⟨wo.heap.size, 0, none⟩ : Addr).add j = ⟨wo.heap.size, j, none⟩ by unfold Addr.add; split <;> simp_all]⟩) (HH.out.own.alloc _) (by simp; omega) (by omega) (k + 1) rfl ?_
        case hs => rfl
        case hx => rfl
        intro A5 c5 w5 hle5 hown5 hg5
        rw [← HTK.out] at hown5
        have hb5 : Below w.heap.size w w5 := (HH.out.bel.alloc HH.out.bel.size _).grown hg5 (by simp; omega) (own_base HH.out.own)
        have ho5 := own_ptr hown5
        obtain ⟨g5, rfl⟩ := ho5
        have hd5 : w5.heap[D]? = some (.cells #[.pointer (some ⟨B, 0, none⟩)] 24 (0, 0)) :=
          (hg5.block D (by have := blk_lt HH.out.d; simp; omega) (by simp only [Value.ownBlock]; intro e; injection e with e; exact HGD.out e.symm)).trans ((Go.heap_alloc_old _ _ (blk_lt HH.out.d)).trans HH.out.d)
        have ho5 : w5.heap[O]? = some (.cells #[.slice (some ⟨g, 0, none⟩) k c] 38 (0, 0)) :=
          (hg5.block O (by have := blk_lt HH.out.o; simp; omega) (by simp only [Value.ownBlock]; intro e; injection e with e; exact HGO.out e.symm)).trans ((Go.heap_alloc_old _ _ (blk_lt HH.out.o)).trans HH.out.o)
        have H5 : Aside0 (Hd w (w5.setCell ⟨O, 0, none⟩ (.slice (some ⟨g5, 0, none⟩) (k + 1) c5)) D O B L (k + 1) l g5 c5) := ⟨⟨hb5.setCell (show w.heap.size ≤ O from by have := HXS.out; have := HOX.out; omega) _, (heap_setCell_other _ ⟨O, 0, none⟩ D _ HDO.out).trans hd5, one_setCell ho5, row_block hown5 (heap_setCell_other _ ⟨O, 0, none⟩ g5 _ (row_ne hown5 ho5 (by decide)))⟩⟩
        have hco5 := cell_of_one ho5
        have hfo5 := free_of_one ho5
        have HK5 : Aside0 (∀ x ∈ l.take (k + 1), 0 ≤ x ∧ x < nd) := ⟨fun y hy => by
          rw [List.take_add_one, HX.out] at hy
          rcases List.mem_append.1 hy with hy | hy
          · exact HK.out y hy
          · simp at hy; rw [hy]; exact HKN.out⟩
        clear hown5 hg5 hb5 hd5 ho5 hcd hco hfo
        go_wp2_with fail
        go_roundw
        case rel => exact ⟨k + 1, by omega, by go_num, HK5, ⟨g5, c5, H5.out⟩⟩
        case measure => simp [intOf]; omega
      · have HER := Aside0.mk (err_no hkn)
        have HNO : Aside0 (ordR nd u now bn l = (68, [])) := ⟨by unfold ordR; rw [if_neg (fun h => hkn (h x (List.mem_of_getElem? HX.out)))]⟩
        clear hkn
        go_wp2_with fail
        refine (known_any B nd x wo hc0).mono ?_
        rintro e w' ⟨rfl, rfl⟩
        rw [HER.out]
        go_wp2_with fail
        go_ret2
        exact opost_err HNO.out HH.out.bel
    · have he : k = L := by omega
      have hl2 : l.take k = l := by rw [he, HLE.out, List.take_length]
      have HALL : Aside0 (∀ x ∈ l, 0 ≤ x ∧ x < nd) := ⟨by have := HK.out; rwa [hl2] at this⟩
      obtain ⟨dl, hdl⟩ := as_nodes HD.out.fit.2.1 HALL.out
      have hds : dl.toArray.size = k := by simp; rw [he, HLE.out, ← hdl]; simp
      have HOWN : Aside0 (wo.ownsRow w.heap.size 3 1 (.slice (some ⟨g, 0, none⟩) dl.toArray.size c) dl.toArray.size (nums .i64 (dl.toArray.toList.map (·.val)))) := ⟨by
        rw [hds]
        have := HH.out.own
        rw [hl2, ← hdl] at this
        exact this⟩
      have HYES : Aside0 (ordR nd u now bn l = (0, oL u now bn (dl.toArray.toList.map (·.val)))) := ⟨by unfold ordR; rw [if_pos HALL.out, show dl.toArray.toList.map (·.val) = l from hdl]⟩
      have HDS := Aside0.mk hds
      have hge : L ≤ k := by omega
      generalize dl.toArray = d at HOWN HYES HDS
      clear hl2 hds hdl he hlt
      go_upto_region 13 with fail
      have r4 := Go.heap_alloc_new wo (.cells #[.func (.func 30) #[] #[.pointer (some ⟨D, 0, none⟩)]] 61)
      have d4 := (Go.heap_alloc_old wo (.cells #[.func (.func 30) #[] #[.pointer (some ⟨D, 0, none⟩)]] 61) (blk_lt HH.out.d)).trans HH.out.d
      have o4 := (Go.heap_alloc_old wo (.cells #[.func (.func 30) #[] #[.pointer (some ⟨D, 0, none⟩)]] 61) (blk_lt HH.out.o)).trans HH.out.o
      have own4 := HOWN.out.alloc (.cells #[.func (.func 30) #[] #[.pointer (some ⟨D, 0, none⟩)]] 61)
      have hb4 := HH.out.bel.alloc HH.out.bel.size (.cells #[.func (.func 30) #[] #[.pointer (some ⟨D, 0, none⟩)]] 61)
      generalize wo.alloc (.cells #[.func (.func 30) #[] #[.pointer (some ⟨D, 0, none⟩)]] 61) = w4 at r4 d4 o4 own4 hb4 ⊢
      generalize wo.heap.size = R at r4 ⊢
      have hD4 := HD.out.after hb4
      have hgX := (row_form own4).1
      have hB4 := hD4.row.lt
      have hbl : B < w.heap.size ∧ b2 < w.heap.size := ⟨HD.out.row.lt, HD.out.m2.lt⟩
      have hlw : LW w4 D R O B b2 n u now g c d.size := ⟨cell_of_one d4, cell_of_one r4, by rw [HDS.out]; exact cell_of_one o4, hD4.c3, hD4.c5, hD4.m2⟩
      have hap : Apart w4 D R O B b2 g := ⟨⟨(row_ne own4 d4 (by decide)).symm, blk_lt d4⟩, ⟨(row_ne own4 r4 (by decide)).symm, blk_lt r4⟩, ⟨(row_ne own4 o4 (by decide)).symm, blk_lt o4⟩, ⟨by omega, hB4⟩, by omega, by obtain ⟨_, cs, hg, _⟩ := row_form own4; exact blk_lt hg⟩
      have hc := sort_any d hlw hap (holds_own own4) (by rw [HDS.out]; omega)
      rw [HDS.out] at hc
      have hco4 := cell_of_one o4
      have HLW := Aside0.mk hlw
      have HAP := Aside0.mk hap
      have HOW4 := Aside0.mk own4
      have HB4 := Aside0.mk hb4
      have HGX := Aside0.mk hgX
      clear r4 d4 o4 own4 hb4 hD4 hgX hB4 hbl hlw hap hcd hco hfo
      go_wp2_with fail
      refine hc.mono ?_
      rintro e w5 ⟨rfl, d', hsw, hst⟩
      have hco5 : w5.cell? ⟨O, 0, none⟩ = some (.slice (some ⟨g, 0, none⟩) k c) := by
        obtain ⟨n1, os, rfl⟩ := hsw
        exact (cell_other eN w4 g 0 n1 d' os ⟨O, 0, none⟩ HAP.out.o.1 HAP.out.o.2).trans hco4
      have HSW := Aside0.mk hsw
      have HST := Aside0.mk hst
      clear hsw hst hco4 hc
      go_wp2_with fail
      go_ret2
      have h1 := own_srt HOW4.out HSW.out HST.out.size
      rw [HDS.out] at h1
      have hy := HYES.out
      rw [← sorted_is HD.out HST.out] at hy
      exact opost_ok hy (below_sw HB4.out HGX.out HSW.out) (by rw [List.length_map, Array.length_toList, HST.out.size, HDS.out]) h1
end Go.Proofs.Ytbheegamibdbhaa.Order
