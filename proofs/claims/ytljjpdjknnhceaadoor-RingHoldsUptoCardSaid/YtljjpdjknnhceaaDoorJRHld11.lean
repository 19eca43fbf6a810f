/- Joined texts of this claim: TwinW -/
import Derived.Test.YtljjpdjknnhceaaDoorJRHld10
set_option linter.unusedVariables false
set_option linter.unusedSimpArgs false
/- twin walked. -/
set_option linter.unusedVariables false
set_option linter.unusedSimpArgs false
namespace Go.Proofs.YtljjpdjknnhceaaDoor.TwinW
open Go.RowKit Go.Proofs.YtljjpdjknnhceaaDoorW.PrintWords Go.Proofs.YtljjpdjknnhceaaDoorW.PrintLast Go.Proofs.YtljjpdjknnhceaaDoorW.PrintMore
open Go.Proofs.YtljjpdjknnhceaaDoor.Base Go.Proofs.YtljjpdjknnhceaaDoor.App Go.Proofs.YtljjpdjknnhceaaDoor.RingPure Go.Proofs.YtljjpdjknnhceaaDoor.ChkPure Go.Proofs.YtljjpdjknnhceaaDoor.Clus Go.Proofs.YtljjpdjknnhceaaDoor.Mids Go.Proofs.YtljjpdjknnhceaaDoor.Chkd Go.Proofs.YtljjpdjknnhceaaDoor.AppR Go.Proofs.YtljjpdjknnhceaaDoor.Twin
theorem own_far {w : World} {base : Nat} {e : TypeId} {size n : Nat} {v : Value} {xs : List Value} (h : w.ownsRow base e size v n xs) {b : Nat} (hb : b < base) : some b ≠ v.ownBlock := by
  intro e
  have := own_base h b e.symm
  omega
theorem own_or (v : Value) : v.ownBlock = none ∨ v.ownBlock ≠ (Value.slice none 0 0).ownBlock := by cases h : v.ownBlock <;> simp [Value.ownBlock]
theorem nums_one (l : List Int) : ∀ u ∈ nums .i64 l, u.oneCell' = true := by
  intro u hu
  simp only [nums, List.mem_map] at hu
  obtain ⟨x, _, rfl⟩ := hu
  rfl
theorem own_grown {w w1 : World} {base : Nat} {lv : Value} {ns : List Nd} {vs : List Value} (h : Own w base lv ns vs) (hg : w.drew.grownBy w1 (Value.slice none 0 0).ownBlock) : Own w1 base lv ns vs :=
  ⟨h.len, h.row.drew.kept hg (own_or _), fun i n v h1 h2 => (h.each i n v h1 h2).drew.kept hg (own_or _)⟩
theorem below_grown2 {B : Nat} {w1 w w2 w3 : World} {o : Obj} {v : Value} (h : Below B w1 w) (hg1 : w.drew.grownBy w2 (Value.slice none 0 0).ownBlock) (hg2 : (w2.alloc o).grownBy w3 v.ownBlock) (hB : B ≤ w.heap.size) (hv : ∀ k, v.ownBlock = some k → B ≤ k) : Below B w1 w3 := by
  have h1 : Below B w1 w2 := (below_drew h).grown hg1 (by simpa using hB) (fun k hk => by simp [Value.ownBlock] at hk)
  have h2 : B ≤ w2.heap.size := Nat.le_trans hB (show w.heap.size ≤ w2.heap.size from hg1.size)
  exact (h1.alloc h2 o).grown hg2 (by simp; omega) hv
theorem take_snoc {α : Type} (l : List α) (k : Nat) (x : α) (h : l[k]? = some x) : l.take (k + 1) = l.take k ++ [x] := by rw [List.take_add_one, h]; rfl
theorem own_lower {w : World} {base b2 : Nat} {lv : Value} {ns : List Nd} {vs : List Value} (h : Own w base lv ns vs) (hb : b2 ≤ base) : Own w b2 lv ns vs :=
  ⟨h.len, own_weaken h.row hb, fun i n v h1 h2 => own_weaken (h.each i n v h1 h2) hb⟩
/-- a definition of zeros -/
def zL : List Value := [.string { data := #[] }, .int .i64 0, .int .i64 0, .int .i64 0, .int .i64 0, .int .i64 0, .int .i64 0, .int .i64 0, .int .i64 0, .int .i64 0, .int .i64 0, .int .i64 0, .int .i64 0, .int .i64 0, .int .i64 0, .int .i64 0, .int .i64 0, .int .i64 0, .int .i64 0, .int .i64 0, .int .i64 0, .int .i64 0, .slice none 0 0]
theorem own_at {w w1 : World} {base : Nat} {lv : Value} {ns : List Nd} {vs : List Value} (h : Own w base lv ns vs) {g : Nat} {cs : Array Value} (hg : w.heap[g]? = some (.cells cs 24 (0, 0))) (hm : ∀ k, k ≠ g → w1.heap[k]? = w.heap[k]?) : Own w1 base lv ns vs := by
  have key : ∀ {e : TypeId} {size n : Nat} {v : Value} {xs : List Value}, e ≠ 24 → w.ownsRow base e size v n xs → w1.ownsRow base e size v n xs := fun he ho => own_move ho (fun k hk => hm k (fun ek => by
    obtain ⟨cs', hc⟩ := own_typed ho k hk
    rw [ek, hg] at hc
    simp only [Option.some.injEq, Obj.cells.injEq] at hc
    exact he hc.2.1.symm))
  exact ⟨h.len, key (by decide) h.row, fun i n v h1 h2 => key (by decide) (h.each i n v h1 h2)⟩
theorem cl_there (W : World) : (W.alloc (.cells #[.string { data := #[] }, .int .i64 0, .int .i64 0, .int .i64 0, .int .i64 0, .int .i64 0, .int .i64 0, .int .i64 0, .int .i64 0, .int .i64 0, .int .i64 0, .int .i64 0, .int .i64 0, .int .i64 0, .int .i64 0, .int .i64 0, .int .i64 0, .int .i64 0, .int .i64 0, .int .i64 0, .int .i64 0, .int .i64 0, .slice none 0 0] 24)).there W.heap.size 0 23 := blk_there (cs := zL) (Go.heap_alloc_new W _)
theorem cl_new (W : World) (c : Cl) (nv : Value) : ((W.alloc (.cells #[.string { data := #[] }, .int .i64 0, .int .i64 0, .int .i64 0, .int .i64 0, .int .i64 0, .int .i64 0, .int .i64 0, .int .i64 0, .int .i64 0, .int .i64 0, .int .i64 0, .int .i64 0, .int .i64 0, .int .i64 0, .int .i64 0, .int .i64 0, .int .i64 0, .int .i64 0, .int .i64 0, .int .i64 0, .int .i64 0, .slice none 0 0] 24)).setCells W.heap.size 0 (cL c nv)).heap[W.heap.size]? = some (.cells (cL c nv).toArray 24 (0, 0)) :=
  setCells_whole (old := zL) (Go.heap_alloc_new W _) rfl
theorem cl_below (W : World) (c : Cl) (nv : Value) : Below W.heap.size W ((W.alloc (.cells #[.string { data := #[] }, .int .i64 0, .int .i64 0, .int .i64 0, .int .i64 0, .int .i64 0, .int .i64 0, .int .i64 0, .int .i64 0, .int .i64 0, .int .i64 0, .int .i64 0, .int .i64 0, .int .i64 0, .int .i64 0, .int .i64 0, .int .i64 0, .int .i64 0, .int .i64 0, .int .i64 0, .int .i64 0, .int .i64 0, .slice none 0 0] 24)).setCells W.heap.size 0 (cL c nv)) :=
  below_setCells ((Below.refl _ _).alloc (Nat.le_refl _) _) (Nat.le_refl _) _ _
theorem cl_one (c : Cl) (A : Option Addr) (n m : Nat) : (cL c (.slice A n m)).toArray.all (·.oneCell') = true := all_oneCell_toArray (by simp [cL, Value.oneCell'])
/-- the world behind the boxes -/
structure TW (c : Cl) (nv : Value) (w w1 : World) : Prop where mk ::
  (box : CBox w1 w.heap.size c nv) (res : w1.heap[w.heap.size + 1]? = some (.cells zL.toArray 24 (0, 0))) (bel : Below w.heap.size w w1)
theorem tw_of (c : Cl) (nv : Value) (w : World) : TW c nv w ((w.alloc (.cells (cL c nv).toArray 24)).alloc (.cells #[.string { data := #[] }, .int .i64 0, .int .i64 0, .int .i64 0, .int .i64 0, .int .i64 0, .int .i64 0, .int .i64 0, .int .i64 0, .int .i64 0, .int .i64 0, .int .i64 0, .int .i64 0, .int .i64 0, .int .i64 0, .int .i64 0, .int .i64 0, .int .i64 0, .int .i64 0, .int .i64 0, .int .i64 0, .int .i64 0, .slice none 0 0] 24)) := by
  obtain ⟨w0, hw0⟩ : ∃ w0, w0 = w.alloc (.cells (cL c nv).toArray 24) := ⟨_, rfl⟩
  rw [← hw0]
  have hb0 : Below w.heap.size w w0 := by rw [hw0]; exact (Below.refl _ _).alloc (Nat.le_refl _) _
  have hs0 : w0.heap.size = w.heap.size + 1 := by rw [hw0]; simp
  have hb1 : Below w0.heap.size w0 (w0.alloc (.cells #[.string { data := #[] }, .int .i64 0, .int .i64 0, .int .i64 0, .int .i64 0, .int .i64 0, .int .i64 0, .int .i64 0, .int .i64 0, .int .i64 0, .int .i64 0, .int .i64 0, .int .i64 0, .int .i64 0, .int .i64 0, .int .i64 0, .int .i64 0, .int .i64 0, .int .i64 0, .int .i64 0, .int .i64 0, .int .i64 0, .slice none 0 0] 24)) := (Below.refl _ _).alloc (Nat.le_refl _) _
  have hc : CBox w0 w.heap.size c nv := ⟨by rw [hw0]; exact Go.heap_alloc_new w _⟩
  exact ⟨hc.below hb1 hc.lt, by rw [← hs0]; exact Go.heap_alloc_new w0 _, hb0.trans (hb1.mono hb0.size)⟩
set_option maxRecDepth 100000 in
set_option maxHeartbeats 8000000 in
theorem twin_any (c : Cl) (A : Option Addr) (cap : Nat) (ns : List Nd) (w : World) (hN : NodesAt w A ns) (hcap : ns.length ≤ cap) (hl : ns.length ≤ 1099511627776) (hc : cnt ns ≤ 1099511627776) :
    Calls Tryd.prog 25 #[.agg (cL c (.slice A ns.length cap)).toArray] w (TwinPost c ns w) := by
  have HT := Aside0.mk (tw_of c (.slice A ns.length cap) w)
  have HN := Aside0.mk hN
  have HCT := Aside0.mk (fun k => cnt_take ns k)
  clear hN
  go_enter Tryd.func25, Tryd.ntmps25
  go_upto_region 1 with fail
  generalize (w.alloc (.cells (cL c (.slice A ns.length cap)).toArray 24)).alloc (.cells #[.string { data := #[] }, .int .i64 0, .int .i64 0, .int .i64 0, .int .i64 0, .int .i64 0, .int .i64 0, .int .i64 0, .int .i64 0, .int .i64 0, .int .i64 0, .int .i64 0, .int .i64 0, .int .i64 0, .int .i64 0, .int .i64 0, .int .i64 0, .int .i64 0, .int .i64 0, .int .i64 0, .int .i64 0, .int .i64 0, .slice none 0 0] 24) = w1 at HT ⊢
  have HN1 := Aside0.mk (HN.out.below HT.out.bel)
  have HO0 := Aside0.mk (Own.nil w1 w1.heap.size)
  have HS := Aside0.mk HT.out.bel.size
  have HGB := Aside0.mk HT.out.box.lt
  obtain ⟨gb, hgb⟩ : ∃ gb, gb = w.heap.size := ⟨_, rfl⟩
  rw [← hgb] at HGB ⊢
  have HGE := Aside0.mk hgb
  clear hgb HN
  go_wp2_with fail
  go_loopw [3, 4] (fun v3 v4 wr => ∃ (k : Nat) (vs : List Value), k ≤ ns.length ∧ v4 = .int .i64 (k : Nat) ∧ Aside0 (Below w1.heap.size w1 wr) ∧ Aside0 (Own wr w1.heap.size v3 (ns.take k) vs)) (fun _ v4 _ => ns.length - (intOf v4).toNat)
  case atStart => exact ⟨0, [], Nat.zero_le _, rfl, ⟨Below.refl _ _⟩, HO0⟩
  case round =>
    clear HO0
    obtain ⟨k, vs, hk, rfl, HR, HO⟩ := hrel
    obtain ⟨wo, rfl⟩ : ∃ wo : World, wo = wr := ⟨_, rfl⟩
    have h22 : wo.cell? ⟨gb, 22, none⟩ = some (.slice A ns.length cap) := by rw [HGE.out]; exact (HT.out.box.below HR.out (by rw [← HGE.out]; exact HGB.out)).c 22
    by_cases hlt : k < ns.length
    · obtain ⟨n, hn⟩ : ∃ n, ns[k]? = some n := ⟨_, List.getElem?_eq_getElem hlt⟩
      obtain ⟨b, o, rfl, hz0, B, cp, hp0, hcp, hnm⟩ := HN1.out.get hn
      have hz := cell_below HR.out (Nat.le_refl _) hz0
      have hp := cell_below HR.out (Nat.le_refl _) hp0
      have HSRC := Aside0.mk (nums_src (hnm.below HR.out) hcp.2)
      have hbl : b < w1.heap.size := World.block_lt_of_cell? w1 _ hz0
      have hgl := HGB.out
      have hkl : (ns.take k).length = k := by rw [List.length_take]; omega
      have hnl := cnt_snoc ns k n hn
      have hct := HCT.out (k + 1)
      have HNL : Aside0 (n.2.length ≤ 1099511627776) := ⟨by omega⟩
      obtain ⟨lA, lc, rfl, hlc⟩ := own_form HO.out.row
      rw [hkl] at hlc HO ⊢
      have hne1 : some gb ≠ (Value.slice lA k lc).ownBlock := own_far HO.out.row hgl
      have hne2 : some b ≠ (Value.slice lA k lc).ownBlock := own_far HO.out.row hbl
      have hRS := HR.out.size
      have HROW := HO.out.row
      rw [hkl] at HROW
      have HRW := Aside0.mk HROW
      have HSP := Aside0.mk hcp
      have HNM := Aside0.mk hnm
      have HNI := Aside0.mk hn
      have hkb : k ≤ 1099511627776 := by omega
      clear hz0 hp0 hn hnm hnl hct HROW hcp
      go_upto_region 5 with fail
      go_region_held3 (fun w' => w'.cell? ⟨gb, 22, none⟩ = some (.slice (some ⟨b, o, none⟩) ns.length cap) ∧ w'.cell? ⟨b, o + k * 2, none⟩ = some (.int .i64 n.1) ∧ w'.cell? ⟨b, o + k * 2 + 1, none⟩ = some (.slice B n.2.length cp))
        (first | go_keep | (go_split_ands; refine ⟨?_, ?_, ?_⟩ <;> (first | exact hg1.cell (by assumption) (by simp [Value.ownBlock]) | exact hg2.cell (by assumption) (by assumption))))
        (first
          | (refine step_append_any rfl w1.heap.size (.const (.slice none 0 0)) (.tmp 25) 36 3 _ 1 8 (by rfl) Tryd.underlying36 infoI rfl (by decide) (by decide) (.slice none 0 0) 0 [] B n.2.length cp (nums .i64 n.2) (by rfl) (by rfl) (by simp [nums]) (nums_one _) HSRC.out (World.ownsRow_nil _ _ _ _) hRS (by have := HNL.out; omega) n.2.length (Nat.zero_add _) ?_; intro A1 c1 w2 hle1 hown1 hg1)
          | (refine step_append_any rfl w1.heap.size (.tmp 13) (.tmp 28) 22 56 _ 2 32 (by rfl) Tryd.underlying22 infoN rfl (by decide) (by decide) (.slice lA k lc) k (ndsC (ns.take k) vs) (some ⟨w2.heap.size, 0, none⟩) 1 1 [.int .i64 n.1, .slice A1 n.2.length c1] (by rfl) (by rfl) rfl (by simp [Value.oneCell']) (.inr ⟨_, rfl, World.news_of_block (cs := #[.int .i64 n.1, .slice A1 n.2.length c1]) (t := 56) (fr := (0, 0)) (heap_alloc_new w2 _)⟩) ((HRW.out.drew.kept hg1 (own_or _)).alloc _) (by have h9 : wo.heap.size ≤ w2.heap.size := hg1.size; simp; omega) (by omega) (k + 1) rfl ?_; intro A2 c2 w3 hle2 hown2 hg2))
      have HOW3 : Aside0 (Own w3 w1.heap.size (.slice A2 (k + 1) c2) (ns.take (k + 1)) (vs ++ [.slice A1 n.2.length c1])) := ⟨by
        rw [take_snoc ns k n HNI.out]
        refine Own.snoc ((own_grown HO.out hg1).below ((Below.refl _ _).alloc (Nat.le_refl _) _)) ?_ (by rw [hkl]; exact hown2) hg2
        have := hown1.alloc (.cells #[.int .i64 n.1, .slice A1 n.2.length c1] 56)
        rwa [List.nil_append] at this⟩
      have HR3 : Aside0 (Below w1.heap.size w1 w3) := ⟨below_grown2 HR.out hg1 hg2 HR.out.size (own_base HRW.out)⟩
      clear hown1 hown2 hg1 hg2
      go_wp2_with fail
      go_roundw
      case rel => exact ⟨k + 1, _, by omega, by go_num, HR3, HOW3⟩
      case measure => simp [intOf]; omega
    · obtain rfl : k = ns.length := by omega
      rw [List.take_length] at HO
      obtain ⟨lA, lc, rfl, hlc⟩ := own_form HO.out.row
      have HC1 : Aside0 (CBox wo gb c (.slice A ns.length cap)) := ⟨by rw [HGE.out]; exact HT.out.box.below HR.out (by rw [← HGE.out]; exact HGB.out)⟩
      have HR1 : Aside0 (wo.heap[gb + 1]? = some (.cells zL.toArray 24 (0, 0))) := ⟨by rw [HGE.out]; exact (HR.out.block _ (blk_lt HT.out.res)).trans HT.out.res⟩
      have hrg := blk_range HC1.out.row
      have hth := cl_there wo
      have hone := cl_one c A ns.length cap
      have HX := Aside0.mk (cl_new wo c (.slice A ns.length cap))
      have hzb := cl_below wo c (.slice A ns.length cap)
      have HO5 := Aside0.mk (HO.out.below hzb)
      have HB5 := Aside0.mk (HR.out.trans (hzb.mono HR.out.size))
      have HR5 : Aside0 (((wo.alloc (.cells #[.string { data := #[] }, .int .i64 0, .int .i64 0, .int .i64 0, .int .i64 0, .int .i64 0, .int .i64 0, .int .i64 0, .int .i64 0, .int .i64 0, .int .i64 0, .int .i64 0, .int .i64 0, .int .i64 0, .int .i64 0, .int .i64 0, .int .i64 0, .int .i64 0, .int .i64 0, .int .i64 0, .int .i64 0, .int .i64 0, .slice none 0 0] 24)).setCells wo.heap.size 0 (cL c (.slice A ns.length cap))).heap[gb + 1]? = some (.cells zL.toArray 24 (0, 0))) := ⟨(hzb.block _ (blk_lt HR1.out)).trans HR1.out⟩
      have HNE : Aside0 (gb + 1 ≠ wo.heap.size) := ⟨by have := blk_lt HR1.out; omega⟩
      have HSZ : Aside0 (w1.heap.size ≤ wo.heap.size) := ⟨HR.out.size⟩
      clear hzb hlt hk
      go_upto_region 7 with (first | ((with_reducible refine gate_load (ty := 24) (x := .tmp 1) rfl ?_); refine wpList_load_mid rfl 24 (.tmp 1) rfl gb 0 rfl (cL c (.slice A ns.length cap)) _ hrg Tryd.underlying24 rfl infoC23 ?_) | ((with_reducible refine gate_store (ty := 24) (x := .tmp 5) (y := .tmp 30) rfl ?_); go_loud (refine wpList_store_mid rfl 24 (.tmp 5) (.tmp 30) rfl wo.heap.size 0 (cL c (.slice A ns.length cap)).toArray rfl rfl hth infoC23 hone ?_)))
      clear hrg hth hone h22
      generalize hwb : (wo.alloc (.cells #[.string { data := #[] }, .int .i64 0, .int .i64 0, .int .i64 0, .int .i64 0, .int .i64 0, .int .i64 0, .int .i64 0, .int .i64 0, .int .i64 0, .int .i64 0, .int .i64 0, .int .i64 0, .int .i64 0, .int .i64 0, .int .i64 0, .int .i64 0, .int .i64 0, .int .i64 0, .int .i64 0, .int .i64 0, .int .i64 0, .slice none 0 0] 24)).setCells wo.heap.size 0 (cL c (.slice A ns.length cap)) = wb at HX HO5 HB5 HR5 ⊢
      generalize wo.heap.size = g5 at HX HNE HSZ hwb ⊢
      clear hwb HO HR HC1 HR1
      have hc22 : wb.cell? ⟨g5, 22, none⟩ = some (.slice A ns.length cap) := by rw [blk_cell HX.out]; rfl
      have hfz : wb.frozen? ⟨g5, 22, none⟩ = false := blk_frozen HX.out 22
      go_upto_region 8 with fail
      clear hc22 hfz
      have HX6 : Aside0 ((wb.setCell ⟨g5, 22, none⟩ (.slice lA ns.length lc)).heap[g5]? = some (.cells (cL c (.slice lA ns.length lc)).toArray 24 (0, 0))) := ⟨(blk_set HX.out _ _).trans rfl⟩
      have HO6 : Aside0 (Own (wb.setCell ⟨g5, 22, none⟩ (.slice lA ns.length lc)) w1.heap.size (.slice lA ns.length lc) ns vs) := ⟨own_at HO5.out HX.out (fun k hk => Below.heap_setCell _ _ _ _ hk)⟩
      have HB6 : Aside0 (Below w1.heap.size w1 (wb.setCell ⟨g5, 22, none⟩ (.slice lA ns.length lc))) := ⟨HB5.out.setCell HSZ.out _⟩
      have HR6 : Aside0 ((wb.setCell ⟨g5, 22, none⟩ (.slice lA ns.length lc)).heap[gb + 1]? = some (.cells zL.toArray 24 (0, 0))) := ⟨(Below.heap_setCell _ _ _ _ HNE.out).trans HR5.out⟩
      generalize wb.setCell ⟨g5, 22, none⟩ (.slice lA ns.length lc) = wc at HX6 HO6 HB6 HR6 ⊢
      clear HX HO5 HB5 HR5
      have hrg := blk_range HX6.out
      have hth := blk_there HR6.out
      have hone := cl_one c lA ns.length lc
      have HX7 : Aside0 ((wc.setCells (gb + 1) 0 (cL c (.slice lA ns.length lc))).heap[gb + 1]? = some (.cells (cL c (.slice lA ns.length lc)).toArray 24 (0, 0))) := ⟨setCells_whole HR6.out rfl⟩
      have HO7 : Aside0 (Own (wc.setCells (gb + 1) 0 (cL c (.slice lA ns.length lc))) w1.heap.size (.slice lA ns.length lc) ns vs) := ⟨own_at HO6.out HR6.out (fun k hk => setCells_other (gb + 1) hk _ _ _)⟩
      have HB7 : Aside0 (Below w.heap.size w (wc.setCells (gb + 1) 0 (cL c (.slice lA ns.length lc)))) := ⟨below_setCells (HT.out.bel.trans (HB6.out.mono HT.out.bel.size)) (by rw [HGE.out]; omega) _ _⟩
      go_wp2_with (first | ((with_reducible refine gate_load (ty := 24) (x := .tmp 5) rfl ?_); refine wpList_load_mid rfl 24 (.tmp 5) rfl g5 0 rfl (cL c (.slice lA ns.length lc)) _ hrg Tryd.underlying24 rfl infoC23 ?_) | ((with_reducible refine gate_store (ty := 24) (x := .tmp 2) (y := .tmp 33) rfl ?_); go_loud (refine wpList_store_mid rfl 24 (.tmp 2) (.tmp 33) rfl (gb + 1) 0 (cL c (.slice lA ns.length lc)).toArray rfl rfl hth infoC23 hone ?_)))
      clear hrg hth hone
      refine bodyPost_ret (v := .agg (cL c (.slice lA ns.length lc)).toArray) ?_ rfl ⟨HB7.out, lA, lc, vs, rfl, hlc, own_lower HO7.out HS.out⟩
      exact results_c_mid rfl _ _ (gb + 1) 0 (cL c (.slice lA ns.length lc)) _ rfl (blk_range HX7.out) Tryd.underlying24 rfl infoC23
end Go.Proofs.YtljjpdjknnhceaaDoor.TwinW
