/- Joined texts of this claim: Hand, HandW -/
import Derived.Test.YtljjpdjknnhceaaDoorJRHld11
import Derived.Test.YtljjpdjknnhceaaDoorJRHld7
set_option linter.unusedVariables false
set_option linter.unusedSimpArgs false
/- A definition that is handed in: what it is in memory. -/
set_option linter.unusedVariables false
set_option linter.unusedSimpArgs false
namespace Go.Proofs.YtljjpdjknnhceaaDoor.Hand
open Go.RowKit Go.Proofs.YtljjpdjknnhceaaDoorW.PrintWords Go.Proofs.YtljjpdjknnhceaaDoorW.PrintLast Go.Proofs.YtljjpdjknnhceaaDoorW.PrintMore
open Go.Proofs.YtljjpdjknnhceaaDoor.Base Go.Proofs.YtljjpdjknnhceaaDoor.App Go.Proofs.YtljjpdjknnhceaaDoor.RingPure Go.Proofs.YtljjpdjknnhceaaDoor.ChkPure Go.Proofs.YtljjpdjknnhceaaDoor.Clus Go.Proofs.YtljjpdjknnhceaaDoor.Mids Go.Proofs.YtljjpdjknnhceaaDoor.Chkd Go.Proofs.YtljjpdjknnhceaaDoor.AppR Go.Proofs.YtljjpdjknnhceaaDoor.Twin Go.Proofs.YtljjpdjknnhceaaDoor.TwinW
/-- the cells of what is handed in: C, was, nodes, parts -/
def hL (c : Cl) (cv tv nv pv : Value) : List Value := cL c cv ++ cL c tv ++ [nv, pv]
theorem hL_length (c : Cl) (cv tv nv pv : Value) : (hL c cv tv nv pv).length = 48 := rfl
theorem infoH : (Tryd.prog.info? 31).map (·.size) = some 48 := by kernel_rfl
theorem infoL : (Tryd.prog.info? 36).map (fun i => (i.zero, i.size, i.bytes)) = some (some (.slice none 0 0), 1, 24) := by kernel_rfl
/-- a list's block and capacity -/
abbrev G := Nat × Nat
/-- the lists as parts has them, and as the nodes have them -/
def pV (n : Nd) (g : G) : Value := .slice (some ⟨g.1, 0, none⟩) (n.2.length + 3) g.2
def lV (n : Nd) (g : G) : Value := .slice (some ⟨g.1, 0, none⟩) n.2.length g.2
def pVs : List Nd → List G → List Value
  | n :: ns, g :: gs => pV n g :: pVs ns gs
  | _, _ => []
def lVs : List Nd → List G → List Value
  | n :: ns, g :: gs => lV n g :: lVs ns gs
  | _, _ => []
theorem pVs_length : ∀ (ns : List Nd) (gs : List G), gs.length = ns.length → (pVs ns gs).length = ns.length
  | [], [], _ => rfl
  | n :: ns, g :: gs, h => by simp only [pVs, List.length_cons] at h ⊢; rw [pVs_length ns gs (by omega)]
theorem lVs_length : ∀ (ns : List Nd) (gs : List G), gs.length = ns.length → (lVs ns gs).length = ns.length
  | [], [], _ => rfl
  | n :: ns, g :: gs, h => by simp only [lVs, List.length_cons] at h ⊢; rw [lVs_length ns gs (by omega)]
theorem pVs_snoc : ∀ (ns : List Nd) (gs : List G) (n : Nd) (g : G), gs.length = ns.length → pVs (ns ++ [n]) (gs ++ [g]) = pVs ns gs ++ [pV n g]
  | [], [], n, g, _ => rfl
  | m :: ns, u :: gs, n, g, h => by simp only [List.cons_append, pVs]; rw [pVs_snoc ns gs n g (by simpa using h)]
theorem lVs_snoc : ∀ (ns : List Nd) (gs : List G) (n : Nd) (g : G), gs.length = ns.length → lVs (ns ++ [n]) (gs ++ [g]) = lVs ns gs ++ [lV n g]
  | [], [], n, g, _ => rfl
  | m :: ns, u :: gs, n, g, h => by simp only [List.cons_append, lVs]; rw [lVs_snoc ns gs n g (by simpa using h)]
theorem pVs_at : ∀ (ns : List Nd) (gs : List G) (i : Nat) (n : Nd) (g : G), ns[i]? = some n → gs[i]? = some g → (pVs ns gs)[i]? = some (pV n g)
  | m :: ns, u :: gs, 0, n, g, h1, h2 => by simp at h1 h2; subst h1 h2; rfl
  | m :: ns, u :: gs, i + 1, n, g, h1, h2 => by simp only [List.getElem?_cons_succ] at h1 h2; exact pVs_at ns gs i n g h1 h2
  | [], _, _, _, _, h, _ => by simp at h
  | m :: ns, [], _, _, _, _, h => by simp at h
theorem lVs_at : ∀ (ns : List Nd) (gs : List G) (i : Nat) (n : Nd) (g : G), ns[i]? = some n → gs[i]? = some g → (lVs ns gs)[i]? = some (lV n g)
  | m :: ns, u :: gs, 0, n, g, h1, h2 => by simp at h1 h2; subst h1 h2; rfl
  | m :: ns, u :: gs, i + 1, n, g, h1, h2 => by simp only [List.getElem?_cons_succ] at h1 h2; exact lVs_at ns gs i n g h1 h2
  | [], _, _, _, _, h, _ => by simp at h
  | m :: ns, [], _, _, _, _, h => by simp at h
def marks : List Int := [701, 702, 703]
/-- what the loop has laid of the nodes so far -/
structure HInv (w : World) (base gh : Nat) (c : Cl) (cv tv nv pv : Value) (ns : List Nd) (gs : List G) (xs : List Value) (m : Nat) : Prop where mk ::
  (len : gs.length = ns.length)
  (box : w.heap[gh]? = some (.cells (hL c cv tv nv pv).toArray 31 (0, 0)))
  (nodes : w.ownsRow base 56 2 nv (ns.length + m) (ndsC ns (lVs ns gs) ++ xs))
  (parts : w.ownsRow base 36 1 pv ns.length (pVs ns gs))
  (each : ∀ (i : Nat) (n : Nd) (g : G), ns[i]? = some n → gs[i]? = some g → w.ownsRow base 3 1 (pV n g) (n.2.length + 3) (nums .i64 (n.2 ++ marks)))
theorem HInv.below {w w1 : World} {base gh : Nat} {c : Cl} {cv tv nv pv : Value} {ns : List Nd} {gs : List G} {xs : List Value} {m : Nat} (h : HInv w base gh c cv tv nv pv ns gs xs m) (hb : Below w.heap.size w w1) : HInv w1 base gh c cv tv nv pv ns gs xs m :=
  ⟨h.len, (hb.block _ (blk_lt h.box)).trans h.box, own_later h.nodes hb, own_later h.parts hb, fun i n g h1 h2 => own_later (h.each i n g h1 h2) hb⟩
theorem HInv.grown {w w1 : World} {base gh : Nat} {c : Cl} {cv tv nv pv : Value} {ns : List Nd} {gs : List G} {xs : List Value} {m : Nat} (h : HInv w base gh c cv tv nv pv ns gs xs m) (hg : w.grownBy w1 (Value.slice none 0 0).ownBlock) : HInv w1 base gh c cv tv nv pv ns gs xs m :=
  ⟨h.len, (hg.block _ (blk_lt h.box) (by simp [Value.ownBlock])).trans h.box, h.nodes.kept hg (own_or _), h.parts.kept hg (own_or _), fun i n g h1 h2 => (h.each i n g h1 h2).kept hg (own_or _)⟩
theorem own_rows_ne {w : World} {base base' size size' n n' : Nat} {e e' : TypeId} {v v' : Value} {xs xs' : List Value} (h : w.ownsRow base e size v n xs) (h' : w.ownsRow base' e' size' v' n' xs') (hne : e ≠ e') : v.ownBlock = none ∨ v.ownBlock ≠ v'.ownBlock := by
  rcases h.2 with ⟨rfl, _⟩ | ⟨g, cap, cs, rfl, _, hg, _⟩
  · exact .inl rfl
  · refine .inr fun e1 => ?_
    rcases h'.2 with ⟨rfl, _⟩ | ⟨g', cap', cs', rfl, _, hg', _⟩
    · cases e1
    · have e2 : g = g' := by simpa [Value.ownBlock] using e1
      subst e2
      rw [hg] at hg'
      simp only [Option.some.injEq, Obj.cells.injEq] at hg'
      exact hne hg'.2.1
theorem box_ne {w : World} {gh : Nat} {cs : Array Value} {t : TypeId} (hb : w.heap[gh]? = some (.cells cs t (0, 0))) {base size n : Nat} {e : TypeId} {v : Value} {xs : List Value} (h : w.ownsRow base e size v n xs) (hne : e ≠ t) : some gh ≠ v.ownBlock := by
  rcases h.2 with ⟨rfl, _⟩ | ⟨g, cap, cs', rfl, _, hg, _⟩
  · simp [Value.ownBlock]
  · intro e1
    have e2 : gh = g := by simpa [Value.ownBlock] using e1
    subst e2
    rw [hb] at hg
    simp only [Option.some.injEq, Obj.cells.injEq] at hg
    exact hne hg.2.1.symm
theorem own_box {w w1 : World} {base size n gh : Nat} {e t : TypeId} {v : Value} {xs : List Value} {cs : Array Value} (h : w.ownsRow base e size v n xs) (hb : w.heap[gh]? = some (.cells cs t (0, 0))) (hne : e ≠ t) (hm : ∀ k, k ≠ gh → w1.heap[k]? = w.heap[k]?) : w1.ownsRow base e size v n xs :=
  own_move h (fun k hk => hm k (fun ek => box_ne hb h hne (by rw [← ek, hk])))
/-- the list of one node made: its parts and the marks -/
theorem marks_one : ∀ u ∈ nums .i64 marks, u.oneCell' = true := nums_one _
/-- parts has got a list more -/
theorem HInv.part {w w1 : World} {base gh : Nat} {c : Cl} {cv tv nv pv : Value} {ns : List Nd} {gs : List G} (h : HInv w base gh c cv tv nv pv ns gs [] 0) (hg : w.grownBy w1 pv.ownBlock) :
    w1.heap[gh]? = some (.cells (hL c cv tv nv pv).toArray 31 (0, 0)) ∧ w1.ownsRow base 56 2 nv (ns.length + 0) (ndsC ns (lVs ns gs) ++ []) ∧
    (∀ (i : Nat) (n : Nd) (g : G), ns[i]? = some n → gs[i]? = some g → w1.ownsRow base 3 1 (pV n g) (n.2.length + 3) (nums .i64 (n.2 ++ marks))) :=
  ⟨(hg.block _ (blk_lt h.box) (box_ne h.box h.parts (by decide))).trans h.box, h.nodes.kept hg (own_rows_ne h.nodes h.parts (by decide)), fun i n g h1 h2 => (h.each i n g h1 h2).kept hg (own_rows_ne (h.each i n g h1 h2) h.parts (by decide))⟩
/-- between the two appends of a round: parts has the list, nodes not yet -/
structure HMid (w : World) (base bt gh : Nat) (c : Cl) (cv tv nv pv : Value) (ns : List Nd) (gs : List G) (n : Nd) (g : G) (as_ : List Nd) (vs2 : List Value) : Prop where mk ::
  (len : gs.length = ns.length)
  (box : w.heap[gh]? = some (.cells (hL c cv tv nv pv).toArray 31 (0, 0)))
  (nodes : w.ownsRow base 56 2 nv ns.length (ndsC ns (lVs ns gs)))
  (parts : w.ownsRow base 36 1 pv (ns.length + 1) (pVs ns gs ++ [pV n g]))
  (each : ∀ (i : Nat) (m : Nd) (q : G), ns[i]? = some m → gs[i]? = some q → w.ownsRow base 3 1 (pV m q) (m.2.length + 3) (nums .i64 (m.2 ++ marks)))
  (new : w.ownsRow base 3 1 (pV n g) (n.2.length + 3) (nums .i64 (n.2 ++ marks)))
  (twin : Own w bt tv as_ vs2)
theorem own_at2 {w w1 : World} {base : Nat} {lv : Value} {ns : List Nd} {vs : List Value} (h : Own w base lv ns vs) {g : Nat} {cs : Array Value} (hg : w.heap[g]? = some (.cells cs 31 (0, 0))) (hm : ∀ k, k ≠ g → w1.heap[k]? = w.heap[k]?) : Own w1 base lv ns vs :=
  ⟨h.len, own_box h.row hg (by decide) hm, fun i n v h1 h2 => own_box (h.each i n v h1 h2) hg (by decide) hm⟩
theorem own_kept {w w1 : World} {base : Nat} {lv : Value} {ns : List Nd} {vs : List Value} (h : Own w base lv ns vs) {row : Option Nat} (hg : w.grownBy w1 row) (h1 : lv.ownBlock = none ∨ lv.ownBlock ≠ row) (h2 : ∀ (i : Nat) (n : Nd) (v : Value), ns[i]? = some n → vs[i]? = some v → v.ownBlock = none ∨ v.ownBlock ≠ row) : Own w1 base lv ns vs :=
  ⟨h.len, h.row.kept hg h1, fun i n v e1 e2 => (h.each i n v e1 e2).kept hg (h2 i n v e1 e2)⟩
theorem part_step {w w4 : World} {base bt gh : Nat} {c : Cl} {cv tv nv pv : Value} {ns as_ : List Nd} {gs : List G} {n : Nd} {g : G} {vs2 : List Value} {A4 : Option Addr} {L c4 : Nat} {o : Obj} (h : HInv w base gh c cv tv nv pv ns gs [] 0) (hnew : w.ownsRow base 3 1 (pV n g) (n.2.length + 3) (nums .i64 (n.2 ++ marks)))
    (ht : Own w bt tv as_ vs2) (hg : (w.alloc o).grownBy w4 pv.ownBlock) (hL4 : L = ns.length + 1) (hown : w4.ownsRow base 36 1 (.slice A4 L c4) L (pVs ns gs ++ [pV n g])) :
    w4.heap[gh]? = some (.cells (hL c cv tv nv pv).toArray 31 (0, 0)) ∧ HMid (w4.setCell ⟨gh, 47, none⟩ (.slice A4 L c4)) base bt gh c cv tv nv (.slice A4 L c4) ns gs n g as_ vs2 := by
  subst hL4
  have ha := h.below ((Below.refl w.heap.size w).alloc (Nat.le_refl _) o)
  have hna := hnew.alloc o
  have hta := ht.below ((Below.refl w.heap.size w).alloc (Nat.le_refl _) o)
  obtain ⟨h1, h2, h3⟩ := ha.part hg
  rw [List.append_nil, Nat.add_zero] at h2
  have hn4 := hna.kept hg (own_rows_ne hna ha.parts (by decide))
  have ht4 := own_kept hta hg (own_rows_ne hta.row ha.parts (by decide)) (fun i m v e1 e2 => own_rows_ne (hta.each i m v e1 e2) ha.parts (by decide))
  have hm : ∀ k, k ≠ gh → (w4.setCell ⟨gh, 47, none⟩ (.slice A4 (ns.length + 1) c4)).heap[k]? = w4.heap[k]? := fun k hk => Below.heap_setCell _ _ _ _ hk
  exact ⟨h1, h.len, (blk_set h1 _ _).trans rfl, own_box h2 h1 (by decide) hm, own_box hown h1 (by decide) hm, fun i m q e1 e2 => own_box (h3 i m q e1 e2) h1 (by decide) hm, own_box hn4 h1 (by decide) hm, own_at2 ht4 h1 hm⟩
theorem node_step {w w4 : World} {base bt gh : Nat} {c : Cl} {cv tv nv pv : Value} {ns as_ : List Nd} {gs : List G} {n : Nd} {g : G} {vs2 : List Value} {A4 : Option Addr} {L c4 : Nat} {o : Obj} (h : HMid w base bt gh c cv tv nv pv ns gs n g as_ vs2)
    (hg : (w.drew.alloc o).grownBy w4 nv.ownBlock) (hL4 : L = ns.length + 1) (hown : w4.ownsRow base 56 2 (.slice A4 L c4) L (ndsC ns (lVs ns gs) ++ [.int .i64 n.1, lV n g])) (htv : tv.ownBlock = none ∨ tv.ownBlock ≠ nv.ownBlock) :
    w4.heap[gh]? = some (.cells (hL c cv tv nv pv).toArray 31 (0, 0)) ∧ HInv (w4.setCell ⟨gh, 46, none⟩ (.slice A4 L c4)) base gh c cv tv (.slice A4 L c4) pv (ns ++ [n]) (gs ++ [g]) [] 0 ∧ Own (w4.setCell ⟨gh, 46, none⟩ (.slice A4 L c4)) bt tv as_ vs2 := by
  subst hL4
  have hna := h.nodes.drew.alloc o
  have hbx : (w.drew.alloc o).heap[gh]? = some (.cells (hL c cv tv nv pv).toArray 31 (0, 0)) := (Go.heap_alloc_old w.drew o (blk_lt h.box)).trans h.box
  have hb4 : w4.heap[gh]? = some (.cells (hL c cv tv nv pv).toArray 31 (0, 0)) := (hg.block _ (blk_lt hbx) (box_ne hbx hna (by decide))).trans hbx
  have hm : ∀ k, k ≠ gh → (w4.setCell ⟨gh, 46, none⟩ (.slice A4 (ns.length + 1) c4)).heap[k]? = w4.heap[k]? := fun k hk => Below.heap_setCell _ _ _ _ hk
  have key : ∀ {base : Nat} {e : TypeId} {size k : Nat} {v : Value} {xs : List Value}, e ≠ 56 → e ≠ 31 → w.ownsRow base e size v k xs → (w4.setCell ⟨gh, 46, none⟩ (.slice A4 (ns.length + 1) c4)).ownsRow base e size v k xs := fun h1 h2 ho =>
    own_box ((ho.drew.alloc o).kept hg (own_rows_ne (ho.drew.alloc o) hna h1)) hb4 h2 hm
  refine ⟨hb4, ⟨by simp [h.len], (blk_set hb4 _ _).trans rfl, ?_, ?_, fun i m q e1 e2 => ?_⟩, h.twin.len, ?_, fun i m v e1 e2 => key (by decide) (by decide) (h.twin.each i m v e1 e2)⟩
  · have := own_box hown hb4 (by decide) hm
    rw [lVs_snoc _ _ _ _ h.len, ndsC_snoc _ _ _ _ (lVs_length _ _ h.len), List.append_nil, List.length_append]
    exact this
  · rw [pVs_snoc _ _ _ _ h.len, List.length_append]
    exact key (by decide) (by decide) h.parts
  · by_cases e : i < ns.length
    · rw [List.getElem?_append_left e] at e1
      rw [List.getElem?_append_left (by rw [h.len]; exact e)] at e2
      exact key (by decide) (by decide) (h.each i m q e1 e2)
    · have hi : i = ns.length := by
        have := (List.getElem?_eq_some_iff.1 e1).1
        simp at this; omega
      subst hi
      rw [List.getElem?_append_right (Nat.le_refl _)] at e1
      rw [List.getElem?_append_right (by rw [h.len]; exact Nat.le_refl _), h.len] at e2
      simp at e1 e2
      subst e1 e2
      exact key (by decide) (by decide) h.new
  · exact own_box ((h.twin.row.drew.alloc o).kept hg htv) hb4 (by decide) hm
def ends : List Value := [.int .i64 801, .slice none 0 0, .int .i64 802, .slice none 0 0]
theorem last_step {w w4 : World} {base bt gh : Nat} {c : Cl} {cv tv nv pv v : Value} {ns as_ : List Nd} {gs : List G} {vs2 : List Value} {A4 : Option Addr} {L c4 : Nat} {o : Obj} (h : HInv w base gh c cv tv nv pv ns gs [] 0) (ht : Own w bt tv as_ vs2)
    (hg : (w.alloc o).grownBy w4 nv.ownBlock) (hL4 : L = ns.length + 2) (hown : w4.ownsRow base 56 2 (.slice A4 L c4) L (ndsC ns (lVs ns gs) ++ ends)) (htv : tv.ownBlock = none ∨ tv.ownBlock ≠ nv.ownBlock) :
    w4.heap[gh]? = some (.cells (hL c cv tv nv pv).toArray 31 (0, 0)) ∧ (w4.setCell ⟨gh, 46, none⟩ (.slice A4 L c4)).heap[gh]? = some (.cells (hL c cv tv (.slice A4 L c4) pv).toArray 31 (0, 0)) ∧
    HInv ((w4.setCell ⟨gh, 46, none⟩ (.slice A4 L c4)).setCell ⟨gh, 22, none⟩ v) base gh c v tv (.slice A4 L c4) pv ns gs ends 2 ∧ Own ((w4.setCell ⟨gh, 46, none⟩ (.slice A4 L c4)).setCell ⟨gh, 22, none⟩ v) bt tv as_ vs2 := by
  subst hL4
  have hna := h.nodes.alloc o
  have hbx : (w.alloc o).heap[gh]? = some (.cells (hL c cv tv nv pv).toArray 31 (0, 0)) := (Go.heap_alloc_old w o (blk_lt h.box)).trans h.box
  have hb4 : w4.heap[gh]? = some (.cells (hL c cv tv nv pv).toArray 31 (0, 0)) := (hg.block _ (blk_lt hbx) (box_ne hbx hna (by decide))).trans hbx
  have hb5 : (w4.setCell ⟨gh, 46, none⟩ (.slice A4 (ns.length + 2) c4)).heap[gh]? = some (.cells (hL c cv tv (.slice A4 (ns.length + 2) c4) pv).toArray 31 (0, 0)) := (blk_set hb4 _ _).trans rfl
  have hm : ∀ k, k ≠ gh → ((w4.setCell ⟨gh, 46, none⟩ (.slice A4 (ns.length + 2) c4)).setCell ⟨gh, 22, none⟩ v).heap[k]? = w4.heap[k]? := fun k hk => (Below.heap_setCell _ _ _ _ hk).trans (Below.heap_setCell _ _ _ _ hk)
  have key : ∀ {base : Nat} {e : TypeId} {size k : Nat} {u : Value} {xs : List Value}, e ≠ 56 → e ≠ 31 → w.ownsRow base e size u k xs → ((w4.setCell ⟨gh, 46, none⟩ (.slice A4 (ns.length + 2) c4)).setCell ⟨gh, 22, none⟩ v).ownsRow base e size u k xs := fun h1 h2 ho =>
    own_box ((ho.alloc o).kept hg (own_rows_ne (ho.alloc o) hna h1)) hb4 h2 hm
  exact ⟨hb4, hb5, ⟨h.len, (blk_set hb5 _ _).trans rfl, own_box hown hb4 (by decide) hm, key (by decide) (by decide) h.parts, fun i m q e1 e2 => key (by decide) (by decide) (h.each i m q e1 e2)⟩, ht.len, own_box ((ht.row.alloc o).kept hg htv) hb4 (by decide) hm, fun i m u e1 e2 => key (by decide) (by decide) (ht.each i m u e1 e2)⟩
/-- what is handed in -/
structure HandOK (w : World) (gh gn cn : Nat) (A2 : Option Addr) (cap2 : Nat) (pv : Value) (c : Cl) (ns : List Nd) (gs : List G) (vs2 : List Value) (base bt : Nat) : Prop where mk ::
  (inv : HInv w base gh c (.slice (some ⟨gn, 0, none⟩) ns.length cn) (.slice A2 ns.length cap2) (.slice (some ⟨gn, 0, none⟩) (ns.length + 2) cn) pv ns gs ends 2)
  (twin : Own w bt (.slice A2 ns.length cap2) ns vs2) (le2 : ns.length ≤ cap2) (len : ns.length + 2 ≤ cn)
theorem HandOK.below {w w1 : World} {gh gn cn : Nat} {A2 : Option Addr} {cap2 : Nat} {pv : Value} {c : Cl} {ns : List Nd} {gs : List G} {vs2 : List Value} {base bt : Nat} (h : HandOK w gh gn cn A2 cap2 pv c ns gs vs2 base bt) (hb : Below w.heap.size w w1) : HandOK w1 gh gn cn A2 cap2 pv c ns gs vs2 base bt :=
  ⟨h.inv.below hb, h.twin.below hb, h.le2, h.len⟩
def HandPost (c : Cl) (ns : List Nd) (w : World) (e : Ending) (w' : World) : Prop := Below w.heap.size w w' ∧ ∃ gh gn cn A2 cap2 pv gs vs2 base bt, e = .returned (.pointer (some ⟨gh, 0, none⟩)) ∧ HandOK w' gh gn cn A2 cap2 pv c ns gs vs2 base bt
end Go.Proofs.YtljjpdjknnhceaaDoor.Hand

/- Hand walked. -/
set_option linter.unusedVariables false
set_option linter.unusedSimpArgs false
namespace Go.Proofs.YtljjpdjknnhceaaDoor.HandW
open Go.RowKit Go.Proofs.YtljjpdjknnhceaaDoorW.PrintWords Go.Proofs.YtljjpdjknnhceaaDoorW.PrintLast Go.Proofs.YtljjpdjknnhceaaDoorW.PrintMore
open Go.Proofs.YtljjpdjknnhceaaDoor.Base Go.Proofs.YtljjpdjknnhceaaDoor.App Go.Proofs.YtljjpdjknnhceaaDoor.RingPure Go.Proofs.YtljjpdjknnhceaaDoor.ChkPure Go.Proofs.YtljjpdjknnhceaaDoor.Clus Go.Proofs.YtljjpdjknnhceaaDoor.Mids Go.Proofs.YtljjpdjknnhceaaDoor.Chkd Go.Proofs.YtljjpdjknnhceaaDoor.AppR Go.Proofs.YtljjpdjknnhceaaDoor.Twin Go.Proofs.YtljjpdjknnhceaaDoor.TwinW Go.Proofs.YtljjpdjknnhceaaDoor.Hand Go.Proofs.YtljjpdjknnhceaaDoor.RefCheck
theorem exec_build {P : Program} {ρ : Operand → Value} {o : Oper} {w : World} (t : TypeId) (parts : Array (Nat × Operand)) (ho : o.op = .build t parts) (cs : Array Value)
    (h : P.built t (parts.map fun (i, x) => (i, ρ x)).toList = some cs) : (execOp ρ o).run P w = .ok (.value (.agg cs)) w := by
  unfold execOp
  simp only [ho]
  have hb := run_build (P := P) w t (parts.map fun (i, x) => (i, ρ x)) cs h
  simp only [Sem.run_bind, hb, Result.andThen_ok, Sem.run_pure]
theorem built_hand (c : Cl) (cv tv : Value) : Tryd.prog.built 31 [(0, .agg (cL c cv).toArray), (1, .agg (cL c tv).toArray)] = some (hL c cv tv (.slice none 0 0) (.slice none 0 0)).toArray := by kernel_rfl
set_option maxRecDepth 100000 in
set_option maxHeartbeats 8000000 in
theorem hand_any (c : Cl) (A : Option Addr) (cap : Nat) (ns : List Nd) (w : World) (hN : NodesAt w A ns) (hcap : ns.length ≤ cap) (hl : ns.length ≤ 1073741824) (hc : cnt ns ≤ 1073741824) :
    Calls Tryd.prog 12 #[.agg (cL c (.slice A ns.length cap)).toArray] w (HandPost c ns w) := by
  have hb0 := (Below.refl w.heap.size w).alloc (Nat.le_refl _) (.cells (cL c (.slice A ns.length cap)).toArray 24)
  have HN := Aside0.mk (hN.below hb0)
  have HB := Aside0.mk hb0
  have HC : Aside0 (CBox (w.alloc (.cells (cL c (.slice A ns.length cap)).toArray 24)) w.heap.size c (.slice A ns.length cap)) := ⟨⟨Go.heap_alloc_new w _⟩⟩
  have HCT := Aside0.mk (fun k => cnt_take ns k)
  clear hN hb0
  go_enter Tryd.func12, Tryd.ntmps12
  go_upto_region 1 with fail
  generalize w.alloc (.cells (cL c (.slice A ns.length cap)).toArray 24) = w1 at HN HB HC ⊢
  obtain ⟨ga, hga⟩ : ∃ ga, ga = w.heap.size := ⟨_, rfl⟩
  rw [← hga] at HC ⊢
  have HGA := Aside0.mk hga
  clear hga
  have hlb := hl
  have hcb := hc
  have hl : ns.length ≤ 1099511627776 := by omega
  have hc : cnt ns ≤ 1099511627776 := by omega
  refine Reg.wp_region_rel _ (by kernel_rfl) _ _ _ rfl (by kernel_rfl) (fun w' => Below w1.heap.size w1 w') (fun _ w w' => Below w.heap.size w w') (fun jq vs w' => match jq with
    | 0 => vs 0 = .agg (cL c (.slice A ns.length cap)).toArray
    | 1 => vs 1 = .agg (cL c (.slice A ns.length cap)).toArray
    | 2 => ∃ (A2 : Option Addr) (cap2 : Nat) (vs2 : List Value), (vs 2) = .agg (cL c (.slice A2 ns.length cap2)).toArray ∧ ns.length ≤ cap2 ∧ Own w' w1.heap.size (.slice A2 ns.length cap2) ns vs2
    | 3 => ∃ (A2 : Option Addr) (cap2 : Nat) (vs2 : List Value), (vs 3) = .agg (hL c (.slice A ns.length cap) (.slice A2 ns.length cap2) (.slice none 0 0) (.slice none 0 0)).toArray ∧ ns.length ≤ cap2 ∧ Own w' w1.heap.size (.slice A2 ns.length cap2) ns vs2
    | 4 => ∃ (g : Nat) (A2 : Option Addr) (cap2 : Nat) (vs2 : List Value), (vs 4) = .pointer (some ⟨g, 0, none⟩) ∧ w1.heap.size ≤ g ∧ w'.heap[g]? = some (.cells (hL c (.slice A ns.length cap) (.slice A2 ns.length cap2) (.slice none 0 0) (.slice none 0 0)).toArray 31 (0, 0)) ∧ ns.length ≤ cap2 ∧ Own w' w1.heap.size (.slice A2 ns.length cap2) ns vs2
    | 5 => ∃ (g : Nat) (A2 : Option Addr) (cap2 : Nat) (vs2 : List Value), (vs 5) = .pointer (some ⟨g, 0, none⟩) ∧ w1.heap.size ≤ g ∧ w'.heap[g]? = some (.cells (hL c (.slice A ns.length cap) (.slice A2 ns.length cap2) (.slice none 0 0) (.slice none 0 0)).toArray 31 (0, 0)) ∧ ns.length ≤ cap2 ∧ Own w' w1.heap.size (.slice A2 ns.length cap2) ns vs2
    | _ => True) (below_drew (Below.refl _ _)) ?_ ?_ ?_ ?_
  · intro i j vs w0 w' hij hI hR hb
    rcases j with _ | j
    · exact hR
    rcases j with _ | j
    · exact hR
    rcases j with _ | j
    · obtain ⟨A2, cap2, vs2, hv, hle, how⟩ := hR
      exact ⟨A2, cap2, vs2, hv, hle, how.below hb⟩
    rcases j with _ | j
    · obtain ⟨A2, cap2, vs2, hv, hle, how⟩ := hR
      exact ⟨A2, cap2, vs2, hv, hle, how.below hb⟩
    rcases j with _ | j
    · obtain ⟨g, A2, cap2, vs2, hv, hg, hblk, hle, how⟩ := hR
      exact ⟨g, A2, cap2, vs2, hv, hg, (hb.block _ (blk_lt hblk)).trans hblk, hle, how.below hb⟩
    rcases j with _ | j
    · obtain ⟨g, A2, cap2, vs2, hv, hg, hblk, hle, how⟩ := hR
      exact ⟨g, A2, cap2, vs2, hv, hg, (hb.block _ (blk_lt hblk)).trans hblk, hle, how.below hb⟩
    exact trivial
  · intro j o vs vs1 w0 ho he hp hR
    rcases j with _ | j
    · exact he.trans hR
    rcases j with _ | j
    · exact he.trans hR
    rcases j with _ | j
    · show ∃ (A2 : Option Addr) (cap2 : Nat) (vs2 : List Value), (vs1 2) = .agg (cL c (.slice A2 ns.length cap2)).toArray ∧ ns.length ≤ cap2 ∧ Own w0 w1.heap.size (.slice A2 ns.length cap2) ns vs2
      rw [he]; exact hR
    rcases j with _ | j
    · show ∃ (A2 : Option Addr) (cap2 : Nat) (vs2 : List Value), (vs1 3) = .agg (hL c (.slice A ns.length cap) (.slice A2 ns.length cap2) (.slice none 0 0) (.slice none 0 0)).toArray ∧ ns.length ≤ cap2 ∧ Own w0 w1.heap.size (.slice A2 ns.length cap2) ns vs2
      rw [he]; exact hR
    rcases j with _ | j
    · show ∃ (g : Nat) (A2 : Option Addr) (cap2 : Nat) (vs2 : List Value), (vs1 4) = .pointer (some ⟨g, 0, none⟩) ∧ w1.heap.size ≤ g ∧ w0.heap[g]? = some (.cells (hL c (.slice A ns.length cap) (.slice A2 ns.length cap2) (.slice none 0 0) (.slice none 0 0)).toArray 31 (0, 0)) ∧ ns.length ≤ cap2 ∧ Own w0 w1.heap.size (.slice A2 ns.length cap2) ns vs2
      rw [he]; exact hR
    rcases j with _ | j
    · show ∃ (g : Nat) (A2 : Option Addr) (cap2 : Nat) (vs2 : List Value), (vs1 5) = .pointer (some ⟨g, 0, none⟩) ∧ w1.heap.size ≤ g ∧ w0.heap[g]? = some (.cells (hL c (.slice A ns.length cap) (.slice A2 ns.length cap2) (.slice none 0 0) (.slice none 0 0)).toArray 31 (0, 0)) ∧ ns.length ≤ cap2 ∧ Own w0 w1.heap.size (.slice A2 ns.length cap2) ns vs2
      rw [he]; exact hR
    exact trivial
  · skip
    refine Reg.allOps_cons ?_ ?_
    · intro vs w0 ρ hρ hcst hglb hfun hI hp
      have e1 : ρ (.tmp 1) = .pointer (some ⟨ga, 0, none⟩) := hρ (.tmp 1)
      clear hρ hp
      refine Reg.rel_value (.agg (cL c (.slice A ns.length cap)).toArray) (exec_load_mid 24 (.tmp 1) rfl ga 0 e1 _ _ (blk_range (HC.out.below hI HC.out.lt).row) Tryd.underlying24 rfl infoC23) ⟨hI, rfl⟩
    refine Reg.allOps_cons ?_ ?_
    · intro vs w0 ρ hρ hcst hglb hfun hI hp
      have e1 : ρ (.tmp 1) = .pointer (some ⟨ga, 0, none⟩) := hρ (.tmp 1)
      clear hρ hp
      refine Reg.rel_value (.agg (cL c (.slice A ns.length cap)).toArray) (exec_load_mid 24 (.tmp 1) rfl ga 0 e1 _ _ (blk_range (HC.out.below hI HC.out.lt).row) Tryd.underlying24 rfl infoC23) ⟨hI, rfl⟩
    refine Reg.allOps_cons ?_ ?_
    · intro vs w0 ρ hρ hcst hglb hfun hI hp
      have e9 : ρ (.tmp 9) = .agg (cL c (.slice A ns.length cap)).toArray := (hρ (.tmp 9)).trans (show vs 1 = .agg (cL c (.slice A ns.length cap)).toArray from hp 1 rfl)
      clear hρ hp
      refine Reg.rel_call Tryd.func25 (by kernel_rfl) rfl #[.agg (cL c (.slice A ns.length cap)).toArray] rfl (hfun _) (by simp [e9]) ?_
      refine (twin_any c A cap ns w0 (HN.out.below hI) hcap hl hc).mono ?_
      rintro e w3 ⟨hb, A2, cap2, vs2, rfl, hle, how⟩
      exact ⟨_, rfl, hb, hI.trans (hb.mono hI.size), A2, cap2, vs2, rfl, hle, own_lower how hI.size⟩
    refine Reg.allOps_cons ?_ ?_
    · intro vs w0 ρ hρ hcst hglb hfun hI hp
      have e8 : ρ (.tmp 8) = .agg (cL c (.slice A ns.length cap)).toArray := (hρ (.tmp 8)).trans (show vs 0 = .agg (cL c (.slice A ns.length cap)).toArray from hp 0 rfl)
      have r2 : ∃ (A2 : Option Addr) (cap2 : Nat) (vs2 : List Value), (vs 2) = .agg (cL c (.slice A2 ns.length cap2)).toArray ∧ ns.length ≤ cap2 ∧ Own w0 w1.heap.size (.slice A2 ns.length cap2) ns vs2 := hp 2 rfl
      have e10 : ρ (.tmp 10) = vs 2 := hρ (.tmp 10)
      obtain ⟨A2, cap2, vs2, hv, hle, how⟩ := r2
      rw [hv] at e10
      clear hρ hp
      refine Reg.rel_value (.agg (hL c (.slice A ns.length cap) (.slice A2 ns.length cap2) (.slice none 0 0) (.slice none 0 0)).toArray) ?_ ⟨hI, A2, cap2, vs2, rfl, hle, how⟩
      exact exec_build 31 _ rfl _ (by simp only [List.map_toArray, List.map_cons, List.map_nil, e8, e10]; exact built_hand c (.slice A ns.length cap) (.slice A2 ns.length cap2))
    refine Reg.allOps_cons ?_ ?_
    · intro vs w0 ρ hρ hcst hglb hfun hI hp
      have r3 : ∃ (A2 : Option Addr) (cap2 : Nat) (vs2 : List Value), (vs 3) = .agg (hL c (.slice A ns.length cap) (.slice A2 ns.length cap2) (.slice none 0 0) (.slice none 0 0)).toArray ∧ ns.length ≤ cap2 ∧ Own w0 w1.heap.size (.slice A2 ns.length cap2) ns vs2 := hp 3 rfl
      have e11 : ρ (.tmp 11) = vs 3 := hρ (.tmp 11)
      obtain ⟨A2, cap2, vs2, hv, hle, how⟩ := r3
      rw [hv] at e11
      clear hρ hp
      refine Reg.rel_made (.pointer (some ⟨w0.heap.size, 0, none⟩)) (w' := w0.alloc (.cells (hL c (.slice A ns.length cap) (.slice A2 ns.length cap2) (.slice none 0 0) (.slice none 0 0)).toArray 31)) ?_ ((Below.refl _ _).alloc (Nat.le_refl _) _) ⟨hI.alloc hI.size _, w0.heap.size, A2, cap2, vs2, rfl, hI.size, Go.heap_alloc_new _ _, hle, how.below ((Below.refl _ _).alloc (Nat.le_refl _) _)⟩
      go_simp
    refine Reg.allOps_cons ?_ ?_
    · intro vs w0 ρ hρ hcst hglb hfun hI hp
      have r4 : ∃ (g : Nat) (A2 : Option Addr) (cap2 : Nat) (vs2 : List Value), (vs 4) = .pointer (some ⟨g, 0, none⟩) ∧ w1.heap.size ≤ g ∧ w0.heap[g]? = some (.cells (hL c (.slice A ns.length cap) (.slice A2 ns.length cap2) (.slice none 0 0) (.slice none 0 0)).toArray 31 (0, 0)) ∧ ns.length ≤ cap2 ∧ Own w0 w1.heap.size (.slice A2 ns.length cap2) ns vs2 := hp 4 rfl
      have e12 : ρ (.tmp 12) = vs 4 := hρ (.tmp 12)
      obtain ⟨g, A2, cap2, vs2, hv, hg, hblk, hle, how⟩ := r4
      rw [hv] at e12
      clear hρ hp
      refine Reg.rel_value (.pointer (some ⟨g, 0, none⟩)) ?_ ⟨hI, g, A2, cap2, vs2, rfl, hg, hblk, hle, how⟩
      go_simp
    exact Reg.allOps_nil
  intro vs w0 hI hR
  have r0 : vs 0 = .agg (cL c (.slice A ns.length cap)).toArray := hR 0 (by decide)
  have r1 : vs 1 = .agg (cL c (.slice A ns.length cap)).toArray := hR 1 (by decide)
  obtain ⟨gh, A2, cap2, vs2, r5, hgh, hblk, hle, how⟩ := hR 5 (by decide)
  simp only [Reg.fillFrom, Act.put, List.setIfInBounds_toArray, List.set_cons_zero, List.set_cons_succ, r0, r1]
  clear hR r0 r1
  rw [show vs 5 = .pointer (some ⟨gh, 0, none⟩) from r5]
  clear r5
  have HGH := Aside0.mk hgh
  generalize w0 = wz at hI hblk how ⊢
  generalize vs (0 + 1 + 1) = q1
  generalize vs (0 + 1 + 1 + 1) = q2
  generalize vs (0 + 1 + 1 + 1 + 1) = q3
  obtain ⟨tv, htv⟩ : ∃ tv, tv = Value.slice A2 ns.length cap2 := ⟨_, rfl⟩
  rw [← htv] at hblk how
  have HTV := Aside0.mk htv
  have HLE := Aside0.mk hle
  have HGB := Aside0.mk (HC.out.lt)
  have HR0 := Aside0.mk hI
  have HH0 : Aside0 (HInv wz wz.heap.size gh c (.slice A ns.length cap) tv (.slice none 0 0) (.slice none 0 0) [] [] [] 0) :=
    ⟨rfl, hblk, World.ownsRow_nil _ _ _ _, World.ownsRow_nil _ _ _ _, fun i n g h => by simp at h⟩
  have HT0 := Aside0.mk how
  have HTB : Aside0 (∀ k, tv.ownBlock = some k → k < wz.heap.size) := ⟨own_lt how.row⟩
  have HW1 := Aside0.mk hI.size
  clear htv hle hI hblk how hgh
  go_wp2_with fail
  go_loopw [4, 5, 6] (fun v4 _ _ wr => ∃ (k : Nat) (gs : List G) (nv pv : Value), k ≤ ns.length ∧ v4 = .int .i64 (k : Nat) ∧ Aside0 (Below w1.heap.size w1 wr) ∧ Aside0 (HInv wr wz.heap.size gh c (.slice A ns.length cap) tv nv pv (ns.take k) gs [] 0) ∧ Aside0 (Own wr w1.heap.size tv ns vs2) ∧ Aside0 (wz.heap.size ≤ wr.heap.size)) (fun v4 _ _ _ => ns.length - (intOf v4).toNat)
  case atStart => exact ⟨0, [], _, _, Nat.zero_le _, rfl, HR0, HH0, HT0, ⟨Nat.le_refl _⟩⟩
  case round =>
    clear HR0 HH0 HT0
    obtain ⟨k, gs, nv, pv, hk, rfl, HR, HH, HT, HSZ⟩ := hrel
    obtain ⟨wo, rfl⟩ : ∃ wo : World, wo = wr := ⟨_, rfl⟩
    have h22 : wo.cell? ⟨ga, 22, none⟩ = some (.slice A ns.length cap) := (HC.out.below HR.out HC.out.lt).c 22
    by_cases hlt : k < ns.length
    · obtain ⟨n, hn⟩ : ∃ n, ns[k]? = some n := ⟨_, List.getElem?_eq_getElem hlt⟩
      obtain ⟨b, o, rfl, hz0, B, cp, hp0, hcp, hnm⟩ := HN.out.get hn
      have hz := cell_below HR.out (Nat.le_refl _) hz0
      have hp := cell_below HR.out (Nat.le_refl _) hp0
      have HSRC := Aside0.mk (nums_src (hnm.below HR.out) hcp.2)
      have hbl : b < w1.heap.size := World.block_lt_of_cell? w1 _ hz0
      have hkl : (ns.take k).length = k := by rw [List.length_take]; omega
      have hnl := cnt_snoc ns k n hn
      have hct := HCT.out (k + 1)
      have hnlb : n.2.length ≤ 1073741824 := by omega
      have HNI := Aside0.mk hn
      have HZ0 := Aside0.mk hz0
      clear hz0 hp0 hn hnm hnl hct hcp
      go_wp2_with ((with_reducible refine gate_call (args := #[.const (.slice none 0 0), .tmp 25]) rfl ?_); refine Hid.out ?_)
      refine Lib.hid ?_
      refine list_append_any (P := Tryd.prog) rfl wo.heap.size (.const (.slice none 0 0)) (.tmp 25) 36 3 _ 1 8 rfl Tryd.underlying36 infoI rfl (by decide) (by decide) (.slice none 0 0) 0 [] B n.2.length cp (nums .i64 n.2) ?hs ?hx (by simp [nums]) (nums_one _) HSRC.out (World.ownsRow_nil _ _ _ _) (Nat.le_refl _) (by omega) n.2.length (Nat.zero_add _) ?_
      case hs => rfl
      case hx => rfl
      intro A1 c1 w2 hle1 hown1 hg1
      have HO1 : Aside0 (w2.ownsRow wo.heap.size 3 1 (.slice A1 n.2.length c1) n.2.length (nums .i64 n.2)) := ⟨by rw [List.nil_append] at hown1; exact hown1⟩
      have HB1 : Aside0 (Below wo.heap.size wo w2) := ⟨(Below.refl wo.heap.size wo).grown hg1 (Nat.le_refl _) (fun k hk => by simp [Value.ownBlock] at hk)⟩
      clear hown1 hg1 HSRC
      have HNW := Aside0.mk (news w2 [.int .i64 701, .int .i64 702, .int .i64 703] 3)
      have HBS := Aside0.mk HB1.out.size
      go_wp2_with ((with_reducible refine gate_call (args := #[.tmp 29, .tmp 30]) rfl ?_); refine Hid.out ?_)
      refine Lib.hid ?_
      refine list_append_any (P := Tryd.prog) rfl wo.heap.size (.tmp 29) (.tmp 30) 36 3 _ 1 8 rfl Tryd.underlying36 infoI rfl (by decide) (by decide) (.slice A1 n.2.length c1) n.2.length (nums .i64 n.2) (some ⟨w2.heap.size, 0, none⟩) 3 3 [.int .i64 701, .int .i64 702, .int .i64 703] ?hs ?hx rfl (by simp [Value.oneCell']) (.inr ⟨_, rfl, fun j u hj => by have := HNW.out j u hj; rwa [show (⟨w2.heap.size, 0, none⟩ : Addr).add j = ⟨w2.heap.size, j, none⟩ by unfold Addr.add; split <;> simp_all]⟩) (HO1.out.alloc _) (by have := HBS.out; simp; omega) (by omega) (n.2.length + 3) rfl ?_
      case hs => rfl
      case hx => rfl
      intro A3 c3 w3 hle3 hown3 hg3
      obtain ⟨g, rfl⟩ : ∃ g, A3 = some ⟨g, 0, none⟩ := by
        rcases hown3.2 with ⟨_, h0⟩ | ⟨g, cap', cs, e, _⟩
        · omega
        · injection e with e; exact ⟨g, e⟩
      have HB3 : Aside0 (Below wo.heap.size wo w3) := ⟨(HB1.out.alloc HB1.out.size _).grown hg3 (by have := HBS.out; simp; omega) (own_base HO1.out)⟩
      have HO3 : Aside0 (w3.ownsRow wz.heap.size 3 1 (pV n (g, c3)) (n.2.length + 3) (nums .i64 (n.2 ++ marks))) := ⟨own_weaken (by rw [nums_append]; exact hown3) HSZ.out⟩
      have HH3 := Aside0.mk (HH.out.below HB3.out)
      have HT3 := Aside0.mk (HT.out.below HB3.out)
      have HR3 := Aside0.mk (HR.out.trans (HB3.out.mono HR.out.size))
      have HS3 := Aside0.mk (Nat.le_trans HSZ.out HB3.out.size)
      have h22' : w3.cell? ⟨ga, 22, none⟩ = some (.slice (some ⟨b, o, none⟩) ns.length cap) := (HC.out.below HR3.out HC.out.lt).c 22
      have hz' := cell_below HR3.out (Nat.le_refl _) HZ0.out
      have h46 : w3.cell? ⟨gh, 46, none⟩ = some nv := by rw [blk_cell HH3.out.box]; rfl
      have h47 : w3.cell? ⟨gh, 47, none⟩ = some pv := by rw [blk_cell HH3.out.box]; rfl
      have hlen4 := HH3.out.parts
      rw [hkl] at hlen4
      have HP3 := Aside0.mk hlen4
      have hsl : (n.2.length : Int) ≤ (c3 : Int) := by omega
      clear hown3 hg3 HO1 HB1 HNW HBS HH HT h22 hz hp hlen4
      go_wp2_with ((with_reducible refine gate_call (args := #[.tmp 36, .tmp 38]) rfl ?_); refine Hid.out ?_)
      refine Lib.hid ?_
      refine list_append_any (P := Tryd.prog) rfl wz.heap.size (.tmp 36) (.tmp 38) 29 36 _ 1 24 rfl Tryd.underlying29 infoL rfl (by decide) (by decide) pv k (pVs (ns.take k) gs) (some ⟨w3.heap.size, 0, none⟩) 1 1 [pV n (g, c3)] ?hs ?hx rfl (by simp [pV, Value.oneCell']) (.inr ⟨_, rfl, fun j u hj => by have := news w3 [pV n (g, c3)] 36 j u hj; rwa [show (⟨w3.heap.size, 0, none⟩ : Addr).add j = ⟨w3.heap.size, j, none⟩ by unfold Addr.add; split <;> simp_all]⟩) (HP3.out.alloc _) (by have := HS3.out; simp; omega) (by omega) (k + 1) rfl ?_
      case hs => rfl
      case hx => rfl
      intro A4 c4 w4 hle4 hown4 hg4
      have hstep := part_step HH3.out HO3.out HT3.out hg4 (by rw [hkl]) hown4
      have hr4 : Below w1.heap.size w1 w4 := (HR3.out.alloc HR3.out.size _).grown hg4 (by have := HS3.out; have := HW1.out; simp; omega) (fun q hq => Nat.le_trans HW1.out (own_base HP3.out q hq))
      have HR5 : Aside0 (Below w1.heap.size w1 (w4.setCell ⟨gh, 47, none⟩ (.slice A4 (k + 1) c4))) := ⟨hr4.setCell HGH.out _⟩
      have HM5 := Aside0.mk hstep.2
      have HS5 : Aside0 (wz.heap.size ≤ (w4.setCell ⟨gh, 47, none⟩ (.slice A4 (k + 1) c4)).heap.size) := ⟨by have h1 := hg4.size; have := HS3.out; simp at h1 ⊢; omega⟩
      have h47 : w4.cell? ⟨gh, 47, none⟩ = some pv := by rw [blk_cell hstep.1]; rfl
      have hfz : w4.frozen? ⟨gh, 47, none⟩ = false := blk_frozen hstep.1 47
      clear hown4 hg4 hstep hr4 HP3 HH3 HT3 HO3 HR3 HS3 h22' hz' h46
      go_upto_region 9 with fail
      clear h47 hfz
      generalize w4.setCell ⟨gh, 47, none⟩ (.slice A4 (k + 1) c4) = w5 at HR5 HM5 HS5 ⊢
      have h22 : w5.cell? ⟨ga, 22, none⟩ = some (.slice (some ⟨b, o, none⟩) ns.length cap) := (HC.out.below HR5.out HC.out.lt).c 22
      have hz := cell_below HR5.out (Nat.le_refl _) HZ0.out
      have h46 : w5.cell? ⟨gh, 46, none⟩ = some nv := by rw [blk_cell HM5.out.box]; rfl
      have hlen5 := HM5.out.nodes
      rw [hkl] at hlen5
      have HN5 := Aside0.mk hlen5
      have hne1 : some ga ≠ nv.ownBlock := own_far hlen5 (Nat.lt_of_lt_of_le HC.out.lt HW1.out)
      have hne2 : some b ≠ nv.ownBlock := own_far hlen5 (Nat.lt_of_lt_of_le hbl HW1.out)
      have hs5 := HS5.out
      have hkb : k ≤ 1073741824 := by omega
      obtain ⟨nA, nc, rfl, hnc⟩ := own_form hlen5
      have HTN : Aside0 (tv.ownBlock = none ∨ tv.ownBlock ≠ (Value.slice nA k nc).ownBlock) := ⟨by
        cases e : tv.ownBlock with
        | none => exact .inl rfl
        | some q => exact .inr (own_far HN5.out (HTB.out q e))⟩
      have h46a : ∀ o, (w5.alloc o).cell? ⟨gh, 46, none⟩ = some (.slice nA k nc) := fun o => pw_cell_below ((Below.refl w5.heap.size w5).alloc (Nat.le_refl _) o) h46
      have h46b : ∀ o, (w5.drew.alloc o).cell? ⟨gh, 46, none⟩ = some (.slice nA k nc) := fun o => h46a o
      have hgx1 : (⟨gh, 46, none⟩ : Addr).block ≠ (⟨ga, 22, none⟩ : Addr).block := by have := HGH.out; have := HC.out.lt; show gh ≠ ga; omega
      have hgx2 : (⟨gh, 46, none⟩ : Addr).block ≠ (⟨b, o + k * 2, none⟩ : Addr).block := by have := HGH.out; show gh ≠ b; omega
      clear hlen5
      refine start_ (n := 20) (S := fun w' => w'.cell? ⟨ga, 22, none⟩ = some (.slice (some ⟨b, o, none⟩) ns.length cap) ∧ w'.cell? ⟨b, o + k * 2, none⟩ = some (.int .i64 n.1) ∧ w'.cell? ⟨gh, 46, none⟩ = some (.slice nA k nc)) (ds := [19]) #[false, false, false, false, false, false, false, false, false, false, false, false, false, false, false, false, false, false, false, false] (by kernel_rfl) rfl rfl ⟨h22, hz, h46⟩ (fun hHeld => ?_)
      refine pure_ (i := 0) (N := some 42) (v := ?_) (a' := ?_) #[true, false, false, false, false, false, false, false, false, false, false, false, false, false, false, false, false, false, false, false] rfl rfl (by kernel_rfl) (fun _ _ _ h => h) (Or.inl ⟨by rfl, ?_⟩) ?_ ?_
      rotate_left
      · intro w'
        go_simp
        with_reducible rfl
      rotate_left
      · simp only [Act.put, List.setIfInBounds_toArray, List.set_cons_zero, List.set_cons_succ, i64_w, i32_w]
        rfl
      refine pure_ (i := 1) (N := some 43) (v := ?_) (a' := ?_) #[true, true, false, false, false, false, false, false, false, false, false, false, false, false, false, false, false, false, false, false] rfl rfl (by kernel_rfl) (fun _ _ _ h => h) (Or.inl ⟨by rfl, ?_⟩) ?_ ?_
      rotate_left
      · intro w'
        go_simp
        with_reducible rfl
      rotate_left
      · simp only [Act.put, List.setIfInBounds_toArray, List.set_cons_zero, List.set_cons_succ, i64_w, i32_w]
        rfl
      refine pure_ (i := 2) (N := some 44) (v := ?_) (a' := ?_) #[true, true, true, false, false, false, false, false, false, false, false, false, false, false, false, false, false, false, false, false] rfl rfl (by kernel_rfl) (fun _ _ _ h => h) (Or.inl ⟨by rfl, ?_⟩) ?_ ?_
      rotate_left
      · intro w'
        go_simp
        with_reducible rfl
      rotate_left
      · simp only [Act.put, List.setIfInBounds_toArray, List.set_cons_zero, List.set_cons_succ, i64_w, i32_w]
        rfl
      refine pure_ (i := 3) (N := some 45) (v := ?_) (a' := ?_) #[true, true, true, true, false, false, false, false, false, false, false, false, false, false, false, false, false, false, false, false] rfl rfl (by kernel_rfl) (fun _ _ _ h => h) (Or.inl ⟨by rfl, ?_⟩) ?_ ?_
      rotate_left
      · intro w'
        go_simp
        with_reducible rfl
      rotate_left
      · simp only [Act.put, List.setIfInBounds_toArray, List.set_cons_zero, List.set_cons_succ, i64_w, i32_w]
        rfl
      refine pure_ (i := 5) (N := some 47) (v := ?_) (a' := ?_) #[true, true, true, true, false, true, false, false, false, false, false, false, false, false, false, false, false, false, false, false] rfl rfl (by kernel_rfl) (fun _ _ _ h => h) (Or.inl ⟨by rfl, ?_⟩) ?_ ?_
      rotate_left
      · intro w'
        go_simp
        with_reducible rfl
      rotate_left
      · simp only [Act.put, List.setIfInBounds_toArray, List.set_cons_zero, List.set_cons_succ, i64_w, i32_w]
        rfl
      refine pure_ (i := 7) (N := some 49) (v := ?_) (a' := ?_) #[true, true, true, true, false, true, false, true, false, false, false, false, false, false, false, false, false, false, false, false] rfl rfl (by kernel_rfl) (fun _ _ _ h => h) (Or.inl ⟨by rfl, ?_⟩) ?_ ?_
      rotate_left
      · intro w'
        go_simp
        with_reducible rfl
      rotate_left
      · simp only [Act.put, List.setIfInBounds_toArray, List.set_cons_zero, List.set_cons_succ, i64_w, i32_w]
        rfl
      refine pure_ (i := 11) (N := some 53) (v := ?_) (a' := ?_) #[true, true, true, true, false, true, false, true, false, false, false, true, false, false, false, false, false, false, false, false] rfl rfl (by kernel_rfl) (fun _ _ _ h => h) (Or.inl ⟨by rfl, ?_⟩) ?_ ?_
      rotate_left
      · intro w'
        go_simp
        with_reducible rfl
      rotate_left
      · simp only [Act.put, List.setIfInBounds_toArray, List.set_cons_zero, List.set_cons_succ, i64_w, i32_w]
        rfl
      refine pure_ (i := 12) (N := some 54) (v := ?_) (a' := ?_) #[true, true, true, true, false, true, false, true, false, false, false, true, true, false, false, false, false, false, false, false] rfl rfl (by kernel_rfl) (fun _ _ _ h => h) (Or.inl ⟨by rfl, ?_⟩) ?_ ?_
      rotate_left
      · intro w'
        go_simp
        with_reducible rfl
      rotate_left
      · simp only [Act.put, List.setIfInBounds_toArray, List.set_cons_zero, List.set_cons_succ, i64_w, i32_w]
        rfl
      refine pure_ (i := 13) (N := some 55) (v := ?_) (a' := ?_) #[true, true, true, true, false, true, false, true, false, false, false, true, true, true, false, false, false, false, false, false] rfl rfl (by kernel_rfl) (fun _ _ _ h => h) (Or.inl ⟨by rfl, ?_⟩) ?_ ?_
      rotate_left
      · intro w'
        go_simp
        with_reducible rfl
      rotate_left
      · simp only [Act.put, List.setIfInBounds_toArray, List.set_cons_zero, List.set_cons_succ, i64_w, i32_w]
        rfl
      refine take_ (i := 4) (N := some 46) (v := ?_) (a' := ?_) #[true, true, true, true, true, true, false, true, false, false, false, true, true, true, false, false, false, false, false, false] rfl rfl (by kernel_rfl) (fun _ _ _ h => h) (Or.inl ⟨by rfl, ?_⟩) hHeld ?_ ?_
      rotate_left
      · rintro w' ⟨s0, s1, s2⟩
        go_simp
        with_reducible rfl
      rotate_left
      · simp only [Act.put, List.setIfInBounds_toArray, List.set_cons_zero, List.set_cons_succ, i64_w, i32_w]
        rfl
      refine take_ (i := 6) (N := some 48) (v := ?_) (a' := ?_) #[true, true, true, true, true, true, true, true, false, false, false, true, true, true, false, false, false, false, false, false] rfl rfl (by kernel_rfl) (fun _ _ _ h => h) (Or.inl ⟨by rfl, ?_⟩) hHeld ?_ ?_
      rotate_left
      · rintro w' ⟨s0, s1, s2⟩
        go_simp
        with_reducible rfl
      rotate_left
      · simp only [Act.put, List.setIfInBounds_toArray, List.set_cons_zero, List.set_cons_succ, i64_w, i32_w]
        rfl
      refine pure_ (i := 8) (N := some 50) (v := ?_) (a' := ?_) #[true, true, true, true, true, true, true, true, true, false, false, true, true, true, false, false, false, false, false, false] rfl rfl (by kernel_rfl) (fun _ _ _ h => h) (Or.inl ⟨by rfl, ?_⟩) ?_ ?_
      rotate_left
      · intro w'
        go_simp
        with_reducible rfl
      rotate_left
      · simp only [Act.put, List.setIfInBounds_toArray, List.set_cons_zero, List.set_cons_succ, i64_w, i32_w]
        rfl
      refine pure_ (i := 9) (N := some 51) (v := ?_) (a' := ?_) #[true, true, true, true, true, true, true, true, true, true, false, true, true, true, false, false, false, false, false, false] rfl rfl (by kernel_rfl) (fun _ _ _ h => h) (Or.inl ⟨by rfl, ?_⟩) ?_ ?_
      rotate_left
      · intro w'
        go_simp
        with_reducible rfl
      rotate_left
      · simp only [Act.put, List.setIfInBounds_toArray, List.set_cons_zero, List.set_cons_succ, i64_w, i32_w]
        rfl
      refine take_ (i := 10) (N := some 52) (v := ?_) (a' := ?_) #[true, true, true, true, true, true, true, true, true, true, true, true, true, true, false, false, false, false, false, false] rfl rfl (by kernel_rfl) (fun _ _ _ h => h) (Or.inl ⟨by rfl, ?_⟩) hHeld ?_ ?_
      rotate_left
      · rintro w' ⟨s0, s1, s2⟩
        go_simp
        with_reducible rfl
      rotate_left
      · simp only [Act.put, List.setIfInBounds_toArray, List.set_cons_zero, List.set_cons_succ, i64_w, i32_w]
        rfl
      refine pure_ (i := 14) (N := some 56) (v := ?_) (a' := ?_) #[true, true, true, true, true, true, true, true, true, true, true, true, true, true, true, false, false, false, false, false] rfl rfl (by kernel_rfl) (fun _ _ _ h => h) (Or.inl ⟨by rfl, ?_⟩) ?_ ?_
      rotate_left
      · intro w'
        go_simp
        with_reducible rfl
      rotate_left
      · simp only [Act.put, List.setIfInBounds_toArray, List.set_cons_zero, List.set_cons_succ, i64_w, i32_w]
        rfl
      refine one_ (i := 15) (N := some 57) #[true, true, true, true, true, true, true, true, true, true, true, true, true, true, true, true, false, false, false, false] rfl rfl (by kernel_rfl) (by decide) (fun K hK => ?_)
      refine value_ (w1 := ?_) (v := ?_) (by rfl) rfl ?_ ?_
      rotate_left 2
      · go_simp
        constructor
        · rfl
        · rfl
      refine hK.out _ _ ⟨pw_cell_below ((Below.refl w5.drew.heap.size w5.drew).alloc (Nat.le_refl _) _) hHeld.1, pw_cell_below ((Below.refl w5.drew.heap.size w5.drew).alloc (Nat.le_refl _) _) hHeld.2.1, pw_cell_below ((Below.refl w5.drew.heap.size w5.drew).alloc (Nat.le_refl _) _) hHeld.2.2⟩ (fun hHeld => ?_)
      clear hK K
      refine norm_ (a' := ?_) ?_ ?_
      rotate_left
      · show Act.put _ (some 57) _ = _
        simp only [Act.put, List.setIfInBounds_toArray, List.set_cons_zero, List.set_cons_succ, i64_w, i32_w]
        rfl
      refine one_ (i := 16) (N := some 58) #[true, true, true, true, true, true, true, true, true, true, true, true, true, true, true, true, true, false, false, false] rfl rfl (by kernel_rfl) (by decide) (fun K hK => ?_)
      refine step_append_any rfl wz.heap.size (.tmp 46) (.tmp 57) 22 56 _ 2 32 (by rfl) Tryd.underlying22 infoN rfl (by decide) (by decide) (.slice nA k nc) k (ndsC (ns.take k) (lVs (ns.take k) gs)) (some ⟨w5.heap.size, 0, none⟩) 1 1 [.int .i64 n.1, lV n (g, c3)] (by rfl) (by rfl) rfl (by simp [Value.oneCell', lV]) (.inr ⟨_, rfl, World.news_of_block (cs := #[.int .i64 n.1, lV n (g, c3)]) (t := 56) (fr := (0, 0)) (heap_alloc_new w5.drew _)⟩) (HN5.out.drew.alloc _) (by have : wz.heap.size ≤ w5.drew.heap.size := hs5; simp; omega) (by omega) (k + 1) rfl ?_
      intro A6 c6 w6 hle6 hown6 hg6
      have hbx := (node_step HM5.out hg6 (by rw [hkl]) hown6 HTN.out).1
      have hx46 : w6.cell? ⟨gh, 46, none⟩ = some (.slice nA k nc) := (by rw [blk_cell hbx]; rfl)
      have hf46 : w6.frozen? ⟨gh, 46, none⟩ = false := blk_frozen hbx 46
      clear hbx
      refine hK.out _ _ ⟨hg6.cell hHeld.1 hne1, hg6.cell hHeld.2.1 hne2, hx46⟩ (fun hHeld => ?_)
      clear hK K
      refine norm_ (a' := ?_) ?_ ?_
      rotate_left
      · show Act.put _ (some 58) _ = _
        simp only [Act.put, List.setIfInBounds_toArray, List.set_cons_zero, List.set_cons_succ, i64_w, i32_w]
        rfl
      refine pure_ (i := 17) (N := some 59) (v := ?_) (a' := ?_) #[true, true, true, true, true, true, true, true, true, true, true, true, true, true, true, true, true, true, false, false] rfl rfl (by kernel_rfl) (fun _ _ _ h => h) (Or.inl ⟨by rfl, ?_⟩) ?_ ?_
      rotate_left
      · intro w'
        go_simp
        with_reducible rfl
      rotate_left
      · simp only [Act.put, List.setIfInBounds_toArray, List.set_cons_zero, List.set_cons_succ, i64_w, i32_w]
        rfl
      refine pure_ (i := 18) (N := some 60) (v := ?_) (a' := ?_) #[true, true, true, true, true, true, true, true, true, true, true, true, true, true, true, true, true, true, true, false] rfl rfl (by kernel_rfl) (fun _ _ _ h => h) (Or.inl ⟨by rfl, ?_⟩) ?_ ?_
      rotate_left
      · intro w'
        go_simp
        with_reducible rfl
      rotate_left
      · simp only [Act.put, List.setIfInBounds_toArray, List.set_cons_zero, List.set_cons_succ, i64_w, i32_w]
        rfl
      refine last_ (i := 19) (N := none) #[true, true, true, true, true, true, true, true, true, true, true, true, true, true, true, true, true, true, true, true] rfl rfl (by kernel_rfl) (by decide) (fun K hK => ?_)
      refine skip_ (w1 := ?_) (by rfl) rfl ?_ ?_
      rotate_left
      · go_simp
        rfl
      refine hK.out _ _ ?_
      clear hK K
      refine done_ (by kernel_rfl) ?_
      all_goals
        clear h46a h46b hx46 hf46 hgx1 hgx2
        have hstep := node_step HM5.out hg6 (by rw [hkl]) hown6 HTN.out
        have hr6 : Below w1.heap.size w1 w6 := ((below_drew HR5.out).alloc (show w1.heap.size ≤ w5.drew.heap.size from HR5.out.size) _).grown hg6 (by have h1 : w1.heap.size ≤ w5.heap.size := HR5.out.size; simp; omega) (fun q hq => Nat.le_trans HW1.out (own_base HN5.out q hq))
        have HR7 : Aside0 (Below w1.heap.size w1 (w6.setCell ⟨gh, 46, none⟩ (.slice A6 (k + 1) c6))) := ⟨hr6.setCell HGH.out _⟩
        have HH7 : Aside0 (HInv (w6.setCell ⟨gh, 46, none⟩ (.slice A6 (k + 1) c6)) wz.heap.size gh c (.slice (some ⟨b, o, none⟩) ns.length cap) tv (.slice A6 (k + 1) c6) (.slice A4 (k + 1) c4) (ns.take (k + 1)) (gs ++ [(g, c3)]) [] 0) := ⟨by
          rw [take_snoc ns k n HNI.out]; exact hstep.2.1⟩
        have HT7 := Aside0.mk hstep.2.2
        have HS7 : Aside0 (wz.heap.size ≤ (w6.setCell ⟨gh, 46, none⟩ (.slice A6 (k + 1) c6)).heap.size) := ⟨by
          have h1 : (w5.drew.alloc (.cells #[.int .i64 n.1, lV n (g, c3)] 56)).heap.size ≤ w6.heap.size := hg6.size
          have h2 : wz.heap.size ≤ w5.heap.size := HS5.out
          simp at h1 ⊢; omega⟩
        clear hown6 hg6 hstep hr6
        go_wp2_with fail
        go_roundw
        case rel => exact ⟨k + 1, _, _, _, by omega, by go_num, HR7, HH7, HT7, HS7⟩
        case measure => simp [intOf]; omega
    · obtain rfl : k = ns.length := by omega
      rw [List.take_length] at HH
      obtain ⟨nA, nc, rfl, hnc⟩ := own_form HH.out.nodes
      rw [Nat.add_zero] at HH hnc
      have h46 : wo.cell? ⟨gh, 46, none⟩ = some (.slice nA ns.length nc) := by rw [blk_cell HH.out.box]; rfl
      have hnod := HH.out.nodes
      rw [List.append_nil, Nat.add_zero] at hnod
      have HN6 := Aside0.mk hnod
      have HTN : Aside0 (tv.ownBlock = none ∨ tv.ownBlock ≠ (Value.slice nA ns.length nc).ownBlock) := ⟨by
        cases e : tv.ownBlock with
        | none => exact .inl rfl
        | some q => exact .inr (own_far hnod (HTB.out q e))⟩
      have hs6 := HSZ.out
      clear hnod hlt hk
      go_wp2_with ((with_reducible refine gate_call (args := #[.tmp 70, .tmp 73]) rfl ?_); refine Hid.out ?_)
      refine Lib.hid ?_
      refine list_append_any (P := Tryd.prog) rfl wz.heap.size (.tmp 70) (.tmp 73) 22 56 _ 2 32 rfl Tryd.underlying22 infoN rfl (by decide) (by decide) (.slice nA ns.length nc) ns.length (ndsC ns (lVs ns gs)) (some ⟨wo.heap.size, 0, none⟩) 2 2 ends ?hs ?hx rfl (by simp [ends, Value.oneCell']) (.inr ⟨_, rfl, fun j u hj => by have := news wo ends 56 j u hj; rwa [show (⟨wo.heap.size, 0, none⟩ : Addr).add j = ⟨wo.heap.size, j, none⟩ by unfold Addr.add; split <;> simp_all]⟩) (HN6.out.alloc _) (by simp; omega) (by omega) (ns.length + 2) rfl ?_
      case hs => rfl
      case hx => rfl
      intro A6 c6 w6 hle6 hown6 hg6
      obtain ⟨gn, rfl⟩ : ∃ g, A6 = some ⟨g, 0, none⟩ := by
        rcases hown6.2 with ⟨_, h0⟩ | ⟨g, cap', cs, e, _⟩
        · omega
        · injection e with e; exact ⟨g, e⟩
      have hstep := last_step (v := .slice (some ⟨gn, 0, none⟩) ns.length c6) HH.out HT.out hg6 rfl hown6 HTN.out
      have hr6 : Below w1.heap.size w1 w6 := (HR.out.alloc HR.out.size _).grown hg6 (by have := HR.out.size; simp; omega) (fun q hq => Nat.le_trans HW1.out (own_base HN6.out q hq))
      have HR7 : Aside0 (Below w1.heap.size w1 ((w6.setCell ⟨gh, 46, none⟩ (.slice (some ⟨gn, 0, none⟩) (ns.length + 2) c6)).setCell ⟨gh, 22, none⟩ (.slice (some ⟨gn, 0, none⟩) ns.length c6))) := ⟨(hr6.setCell HGH.out _).setCell HGH.out _⟩
      have HST := Aside0.mk hstep
      have hx46 : w6.cell? ⟨gh, 46, none⟩ = some (.slice nA ns.length nc) := by rw [blk_cell hstep.1]; rfl
      have hf46 : w6.frozen? ⟨gh, 46, none⟩ = false := blk_frozen hstep.1 46
      have hy46 : (w6.setCell ⟨gh, 46, none⟩ (.slice (some ⟨gn, 0, none⟩) (ns.length + 2) c6)).cell? ⟨gh, 46, none⟩ = some (.slice (some ⟨gn, 0, none⟩) (ns.length + 2) c6) := by rw [blk_cell hstep.2.1]; rfl
      have hy22 : (w6.setCell ⟨gh, 46, none⟩ (.slice (some ⟨gn, 0, none⟩) (ns.length + 2) c6)).cell? ⟨gh, 22, none⟩ = some (.slice A ns.length cap) := by rw [blk_cell hstep.2.1]; rfl
      have hg22 : (w6.setCell ⟨gh, 46, none⟩ (.slice (some ⟨gn, 0, none⟩) (ns.length + 2) c6)).frozen? ⟨gh, 22, none⟩ = false := blk_frozen hstep.2.1 22
      clear hown6 hg6 hstep hr6 h46
      have hcl : (ns.length : Int) ≤ (c6 : Int) := by omega
      go_wp2_with fail
      go_ret
      have htv := HTV.out
      have hh := HST.out.2.2.1
      have ht := HST.out.2.2.2
      rw [htv] at hh ht
      exact ⟨HB.out.trans (HR7.out.mono HB.out.size), gh, gn, c6, A2, cap2, pv, gs, vs2, _, _, rfl, hh, ht, HLE.out, hle6⟩
end Go.Proofs.YtljjpdjknnhceaaDoor.HandW
