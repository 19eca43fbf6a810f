/- stable_func of the sort library, walked over any program at any length; sort.SliceStable. -/
import Derived.Test.YtbheegamibdbhaaStabAll
set_option linter.unusedVariables false
set_option linter.unusedSimpArgs false
namespace Go.Proofs.Ytbheegamibdbhaa.Stable
open Go.Shelf Go.RowKit Go.Lib Go.Sort Go.Proofs Go.Proofs.Ytbheegamibdbhaa.SymPure Go.Proofs.Ytbheegamibdbhaa.SymMerge Go.Proofs.Ytbheegamibdbhaa.StabPure Go.Proofs.Ytbheegamibdbhaa.StabWalk Go.Proofs.Ytbheegamibdbhaa.StabSym Go.Proofs.Ytbheegamibdbhaa.StabAll
variable {P : Program} {ρ : Ren} {α : Type} [Inhabited α]
/-- what the stable sort leaves -/
structure Sted (key : α → Int) (d d' : Array α) : Prop where mk ::
  (size : d'.size = d.size) (sk : SK key 0 d.size d') (same : Same key d.toList d'.toList)
def StPost (enc : α → Value) (key : α → Int) (W : World) (blk off : Nat) (d : Array α) (e : Ending) (w' : World) : Prop := e = .returned (.tuple #[]) ∧ ∃ d', SW enc W blk off d' w' ∧ Sted key d d'
set_option maxHeartbeats 8000000 in
set_option maxRecDepth 100000 in
theorem stable_any (L : LaysGt.n15 P ρ) (enc : α → Value) (key : α → Int) (g : Nat) (lb : Array Value) (sf : Nat) (sb : Array Value) (blk off : Nat) (d : Array α) (W : World)
    (eg : ∀ args w, (callFunc g args).run P w = .ok (.enter g args) w) (hless : LessReads P g lb enc (ltk key) blk off d.size W) (hswap : SwapSwaps P sf sb enc blk off d.size)
    (hH : Holds enc W blk off d) (hblk : blk < W.heap.size) (hsz : d.size < 1152921504606846976) :
    Calls P (ρ.f 15) #[.agg #[.func (.func g) #[] lb, .func (.func sf) #[] sb], .int .i64 d.size] W (StPost enc key W blk off d) := by
  have mixed := L.mixed; have t0 := L.t0; have a0 := L.a0; have z0 := L.z0; have v0 := L.v0; have t3 := L.t3; have a3 := L.a3; have z3 := L.z3; have v3 := L.v3; have t4 := L.t4; have a4 := L.a4; have z4 := L.z4; have v4 := L.v4; have t26 := L.t26; have a26 := L.a26; have z26 := L.z26; have v26 := L.v26; have t38 := L.t38; have a38 := L.a38; have z38 := L.z38; have v38 := L.v38; have t42 := L.t42; have a42 := L.a42; have z42 := L.z42; have v42 := L.v42; have t47 := L.t47; have a47 := L.a47; have z47 := L.z47; have v47 := L.v47
  have u42 := run_underlying L.t42
  have e29 : ∀ args w, (callFunc (ρ.f 29) args).run P w = .ok (.enter (ρ.f 29) args) w := enters_of L.f29 (by kernel_rfl) rfl
  have e30 : ∀ args w, (callFunc (ρ.f 30) args).run P w = .ok (.enter (ρ.f 30) args) w := enters_of L.f30 (by kernel_rfl) rfl
  have LI := Lib.hid (show LaysGg.n26 P ρ.viaGt from ({ L with } : LaysGt.n29 P ρ).elder)
  have LS := Lib.hid (show LaysGt.n30 P ρ from { L with })
  have HH := Lib.hid (holds_grow enc W #[.cells #[.func (.func g) #[] lb, .func (.func sf) #[] sb] (ρ.t 42)] blk off d hblk hH)
  rw [← alloc_eq_grow] at HH
  have HS1 := Lib.hid (SW.start HH.out)
  have HSWAP := Lib.hid hswap
  have HLESS := Lib.hid hless
  obtain ⟨n, hn⟩ : ∃ n, n = d.size := ⟨_, rfl⟩
  rw [← hn] at hsz ⊢
  have HN := Lib.hid hn
  have INS : Hid (∀ (dk : Array α) (wr : World) (a b : Nat), dk.size = d.size → SW enc (W.alloc (.cells #[.func (.func g) #[] lb, .func (.func sf) #[] sb] (ρ.t 42))) blk off dk wr → a ≤ b → b ≤ n →
      Calls P (ρ.f 29) #[.agg #[.func (.func g) #[] lb, .func (.func sf) #[] sb], .int .i64 a, .int .i64 b] wr (fun e w' => e = .returned (.tuple #[]) ∧ Hid (∃ d', Piece key a b dk d' ∧ SW enc (W.alloc (.cells #[.func (.func g) #[] lb, .func (.func sf) #[] sb] (ρ.t 42))) blk off d' w'))) := Lib.hid (fun dk wr a b hd hs hab hbn => by
    have hsw := sw_of_alloc hblk hs
    have hc : Calls P (ρ.f 29) #[.agg #[.func (.func g) #[] lb, .func (.func sf) #[] sb], .int .i64 a, .int .i64 b] wr fun e w' => e = .returned (.tuple #[]) ∧ ∃ n os, w' = sortWorld enc wr blk off n (Sort.insertionSort (ltk key) dk a b) os :=
      Any.insertionSort_func_w LI.out enc (ltk key) g lb sf sb blk off a b dk wr eg (by rw [hd]; exact hsw.lessReads HLESS.out hblk hd) (by rw [hd]; exact HSWAP.out) (hs.holds (by simp; omega) HH.out hd) (hs.lt (by simp; omega)) hab (by rw [hd, ← HN.out]; exact hbn) (by rw [hd, ← HN.out]; omega)
    refine hc.mono ?_
    rintro e w' ⟨rfl, m, os, rfl⟩
    have hp := ins_piece (key := key) dk a b hab (by rw [hd, ← HN.out]; exact hbn)
    exact ⟨rfl, Lib.hid ⟨_, hp, sw_trans (by simp; omega) hs ⟨m, os, rfl⟩ hp.size⟩⟩)
  have MRG : Hid (∀ (dk : Array α) (wr : World) (a m b : Nat), dk.size = d.size → SW enc (W.alloc (.cells #[.func (.func g) #[] lb, .func (.func sf) #[] sb] (ρ.t 42))) blk off dk wr → a < m → m < b → b ≤ n → SK key a m dk → SK key m b dk →
      Calls P (ρ.f 30) #[.agg #[.func (.func g) #[] lb, .func (.func sf) #[] sb], .int .i64 a, .int .i64 m, .int .i64 b] wr (fun e w' => e = .returned (.tuple #[]) ∧ Hid (∃ d', Piece key a b dk d' ∧ SW enc (W.alloc (.cells #[.func (.func g) #[] lb, .func (.func sf) #[] sb] (ρ.t 42))) blk off d' w'))) := Lib.hid (fun dk wr a m b hd hs h0 h1 h2 k1 k2 => by
    have hsw := sw_of_alloc hblk hs
    refine (sym_any LS.out enc (ltk key) g lb sf sb blk off eg d.size HSWAP.out (by rw [← HN.out]; omega) (b - a) dk wr a m b hd (hsw.lessReads HLESS.out hblk hd) (hs.holds (by simp; omega) HH.out hd) (hs.lt (by simp; omega)) h0 h1 (by rw [← HN.out]; exact h2) (Nat.le_refl _)).mono ?_
    rintro e w' ⟨rfl, HD⟩
    exact ⟨rfl, Lib.hid ⟨_, symM_piece dk (b - a) a m b (Nat.le_refl _) h0 h1 (by rw [hd, ← HN.out]; exact h2) k1 k2, sw_trans (by simp; omega) hs HD (symM_size _ _ _ _ _ _)⟩⟩)
  clear hswap hH hless hn
  go_enter L.f15, BodyGt.n15_ntmps ρ
  go_wp2
  go_loopw [5, 6] (fun v5 v6 wr => ∃ (A : Nat) (dk : Array α), v5 = .int .i64 A ∧ v6 = .int .i64 ((A : Int) + 20) ∧ A ≤ n ∧ Hid (∃ q, A = q * 20 ∧ Up key n q d dk) ∧ Hid (SW enc (W.alloc (.cells #[.func (.func g) #[] lb, .func (.func sf) #[] sb] (ρ.t 42))) blk off dk wr)) (fun v5 _ _ => n - (intOf v5).toNat)
  case atStart => exact ⟨0, d, rfl, rfl, Nat.zero_le _, Lib.hid ⟨0, rfl, Up.start n d⟩, HS1⟩
  case round =>
    obtain ⟨A, dk, rfl, rfl, hA, HU, HS⟩ := hrel
    obtain ⟨c0, c1⟩ := sw_box hblk HS.out
    have hdk := Lib.hid (show dk.size = d.size from by obtain ⟨q, _, hu⟩ := HU.out; exact hu.size)
    by_cases hlt : A + 20 ≤ n
    · have hc := INS.out dk _ A (A + 20) hdk.out HS.out (by omega) hlt
      rw [Int.natCast_add] at hc
      have hle : (A : Int) + 20 ≤ (n : Int) := by omega
      go_wp2_with (go_at_fn (ρ.f 29); refine hc.mono ?_; rintro e w1 ⟨rfl, HD⟩)
      have HD2 : Hid (∃ d', (∃ q, A + 20 = q * 20 ∧ Up key n q d d') ∧ SW enc (W.alloc (.cells #[.func (.func g) #[] lb, .func (.func sf) #[] sb] (ρ.t 42))) blk off d' w1) := Lib.hid (by
        obtain ⟨d', hp, hs⟩ := HD.out
        obtain ⟨q, rfl, hu⟩ := HU.out
        exact ⟨d', ⟨q + 1, by omega, hu.step hp⟩, hs⟩)
      clear HD HU
      go_wp2
      go_roundw
      case rel =>
        obtain ⟨d', h1, h2⟩ := HD2.out
        exact ⟨A + 20, d', by go_num, by go_num, by omega, Lib.hid h1, Lib.hid h2⟩
      case measure => simp [intOf]; omega
    · have hc := INS.out dk _ A n hdk.out HS.out (by omega) (Nat.le_refl _)
      have hge : (n : Int) < (A : Int) + 20 := by omega
      go_wp2_with (go_at_fn (ρ.f 29); refine hc.mono ?_; rintro e w1 ⟨rfl, HD⟩)
      have HD2 : Hid (∃ d', (d'.size = d.size ∧ Same key d.toList d'.toList ∧ Sb key 20 n d') ∧ SW enc (W.alloc (.cells #[.func (.func g) #[] lb, .func (.func sf) #[] sb] (ρ.t 42))) blk off d' w1) := Lib.hid (by
        obtain ⟨d', hp, hs⟩ := HD.out
        obtain ⟨q, rfl, hu⟩ := HU.out
        exact ⟨d', hu.last (by omega) hp, hs⟩)
      clear HD HU hdk HS c0 c1 INS hc
      go_wp2
      go_loopw [4] (fun v4 wr => ∃ bs : Nat, v4 = .int .i64 bs ∧ 1 ≤ bs ∧ bs ≤ 2 * n + 20 ∧ Hid (∃ dk, (dk.size = d.size ∧ Same key d.toList dk.toList ∧ Sb key bs n dk) ∧ SW enc (W.alloc (.cells #[.func (.func g) #[] lb, .func (.func sf) #[] sb] (ρ.t 42))) blk off dk wr)) (fun v4 _ => n - (intOf v4).toNat)
      case atStart => exact ⟨20, rfl, by omega, by omega, HD2⟩
      case round =>
        clear HD2
        obtain ⟨bs, rfl, hb1, hb2, HB⟩ := hrel
        obtain ⟨wo, rfl⟩ : ∃ wo : World, wo = wr := ⟨_, rfl⟩
        by_cases hbn : bs < n
        · go_wp2
          go_loopw [5, 6] (fun v5 v6 wr => ∃ (A : Nat) (dk : Array α), v5 = .int .i64 A ∧ v6 = .int .i64 ((A : Int) + 2 * (bs : Int)) ∧ A ≤ n ∧ Hid (∃ q, A = q * (2 * bs) ∧ In key bs n q d dk) ∧ Hid (SW enc (W.alloc (.cells #[.func (.func g) #[] lb, .func (.func sf) #[] sb] (ρ.t 42))) blk off dk wr)) (fun v5 _ _ => n - (intOf v5).toNat)
          case atStart =>
            obtain ⟨dk, ⟨h1, h2, h3⟩, h4⟩ := HB.out
            exact ⟨0, dk, rfl, by congr 1 <;> omega, Nat.zero_le _, Lib.hid ⟨0, by omega, In.start h1 h2 h3⟩, Lib.hid h4⟩
          case round =>
            clear HB
            obtain ⟨A, dk, rfl, rfl, hA, HI, HS⟩ := hrel
            obtain ⟨c0, c1⟩ := sw_box hblk HS.out
            have hdk := Lib.hid (show dk.size = d.size from by obtain ⟨q, _, hu⟩ := HI.out; exact hu.size)
            by_cases hlt : A + 2 * bs ≤ n
            · have hc := MRG.out dk _ A (A + bs) (A + 2 * bs) hdk.out HS.out (by omega) (by omega) hlt (by
                obtain ⟨q, rfl, hu⟩ := HI.out
                exact (hu.runs (by omega)).1) (by
                obtain ⟨q, rfl, hu⟩ := HI.out
                have := (hu.runs (by omega)).2
                rwa [Nat.min_eq_left hlt] at this)
              rw [Int.natCast_add, Int.natCast_add, Int.natCast_mul] at hc
              have hle : (A : Int) + 2 * (bs : Int) ≤ (n : Int) := by omega
              go_wp2_with (go_at_fn (ρ.f 30); refine hc.mono ?_; rintro e w1 ⟨rfl, HD⟩)
              have HD2 : Hid (∃ d', (∃ q, A + 2 * bs = q * (2 * bs) ∧ In key bs n q d d') ∧ SW enc (W.alloc (.cells #[.func (.func g) #[] lb, .func (.func sf) #[] sb] (ρ.t 42))) blk off d' w1) := Lib.hid (by
                obtain ⟨d', hp, hs⟩ := HD.out
                obtain ⟨q, rfl, hu⟩ := HI.out
                exact ⟨d', ⟨q + 1, by rw [Nat.add_mul, Nat.one_mul], hu.step hlt hp⟩, hs⟩)
              clear HD HI
              go_wp2
              go_roundw
              case rel =>
                obtain ⟨d', h1, h2⟩ := HD2.out
                exact ⟨A + 2 * bs, d', by go_num, by congr 1 <;> omega, by omega, Lib.hid h1, Lib.hid h2⟩
              case measure => simp [intOf]; omega
            · have hge : (n : Int) < (A : Int) + 2 * (bs : Int) := by omega
              by_cases hm : A + bs < n
              · have hc := MRG.out dk _ A (A + bs) n hdk.out HS.out (by omega) hm (Nat.le_refl _) (by
                  obtain ⟨q, rfl, hu⟩ := HI.out
                  exact (hu.runs (by omega)).1) (by
                  obtain ⟨q, rfl, hu⟩ := HI.out
                  have := (hu.runs (by omega)).2
                  rwa [Nat.min_eq_right (by omega)] at this)
                rw [Int.natCast_add] at hc
                have hle : (A : Int) + (bs : Int) < (n : Int) := by omega
                go_wp2_with (go_at_fn (ρ.f 30); refine hc.mono ?_; rintro e w1 ⟨rfl, HD⟩)
                have HD2 : Hid (∃ d', (d'.size = d.size ∧ Same key d.toList d'.toList ∧ Sb key (bs * 2) n d') ∧ SW enc (W.alloc (.cells #[.func (.func g) #[] lb, .func (.func sf) #[] sb] (ρ.t 42))) blk off d' w1) := Lib.hid (by
                  obtain ⟨d', hp, hs⟩ := HD.out
                  obtain ⟨q, rfl, hu⟩ := HI.out
                  exact ⟨d', by rw [Nat.mul_comm bs 2]; exact hu.last hA (by omega) hp, hs⟩)
                clear HD HI
                go_wp2
                go_roundw
                case rel => exact ⟨bs * 2, by go_num, by omega, by omega, HD2⟩
                case measure => simp [intOf]; omega
              · have hle : (n : Int) ≤ (A : Int) + (bs : Int) := by omega
                have HD2 : Hid (∃ d', (d'.size = d.size ∧ Same key d.toList d'.toList ∧ Sb key (bs * 2) n d') ∧ SW enc (W.alloc (.cells #[.func (.func g) #[] lb, .func (.func sf) #[] sb] (ρ.t 42))) blk off d' wr) := Lib.hid (by
                  obtain ⟨q, rfl, hu⟩ := HI.out
                  exact ⟨dk, by rw [Nat.mul_comm bs 2]; exact hu.none hA (by omega) hb1, HS.out⟩)
                clear HI HS
                go_wp2
                go_roundw
                case rel => exact ⟨bs * 2, by go_num, by omega, by omega, HD2⟩
                case measure => simp [intOf]; omega
        · go_wp2
          go_end0
          obtain ⟨dk, ⟨h1, h2, h3⟩, h4⟩ := HB.out
          exact ⟨rfl, dk, sw_of_alloc hblk h4, h1, by rw [← HN.out]; exact h3.all (by omega), h2⟩
def SlPost (enc : α → Value) (key : α → Int) (w : World) (blk off : Nat) (d : Array α) (e : Ending) (w' : World) : Prop := e = .returned (.tuple #[]) ∧ ∃ d', SW enc w blk off d' w' ∧ Sted key d d'
/-- sort.SliceStable at two elements or more -/
theorem sliceStable_any (L : LaysGt.n8 P ρ) (t e : TypeId) (i ie : TypeInfo) (hi : P.info? t = some i) (hd : i.desc = .slice e) (hpk : P.packed t = false) (hie : P.info? e = some ie) (ke : Nat) (hke : ∀ w, (Extern.Rtype.kind e).run P w = .ok ke w)
    (hs1 : ie.size = 1) (hagg : ∀ w, (isAgg e).run P w = .ok false w) (enc : α → Value) (h1 : ∀ x, (enc x).oneCell' = true) (key : α → Int) (g : Nat) (lb : Array Value)
    (eg : ∀ args w, (callFunc g args).run P w = .ok (.enter g args) w) (blk off c : Nat) (d : Array α) (h2 : 2 ≤ d.size) (hsz : d.size < 1152921504606846976)
    (f : Nat) (hf : P.funcs.findIdx? (·.name == "internal/reflectlite" ++ ".Swapper$" ++ toString (swapperK d.size ie ke)) = some f)
    (gS : Bool) (hx : ∀ args W, (callFunc f args).run P W = ((Extern.ReflectliteSwapper.swap gS args).run P W).andThen fun v w' => .ok (.value v) w')
    (w : World) (hless : LessReads P g lb enc (ltk key) blk off d.size w) (hH : Holds enc w blk off d) (hblk : blk < w.heap.size) :
    Calls P (ρ.f 8) #[.iface t (.slice (some ⟨blk, off, none⟩) d.size c), .func (.func g) #[] lb] w (SlPost enc key w blk off d) := by
  have hW : stableWorld P ρ t (some ⟨blk, off, none⟩) d.size c w = grow w #[.cells #[.slice (some ⟨blk, off, none⟩) d.size c] t, .cells #[.pointer (some ⟨P.globals.size, t, none⟩), .pointer (some ⟨w.heap.size, 0, none⟩), .int .u64 151] (ρ.t 36)] := by
    unfold stableWorld; rw [alloc_eq_grow, alloc_eq_grow, grow_grow]; rfl
  have hB : sliceBound P e ie ke (some ⟨blk, off, none⟩) d.size c = #[.slice (some ⟨blk, off, none⟩) d.size c, typeHandle P e] := by
    unfold sliceBound; rw [if_neg (swapperK_gt _ _ _ h2)]
  have hp := stable_any (P := P) (ρ := ρ) { L with } enc key g lb f #[.slice (some ⟨blk, off, none⟩) d.size c, typeHandle P e] blk off d (grow w #[.cells #[.slice (some ⟨blk, off, none⟩) d.size c] t, .cells #[.pointer (some ⟨P.globals.size, t, none⟩), .pointer (some ⟨w.heap.size, 0, none⟩), .int .u64 151] (ρ.t 36)]) eg (hless.grow hblk _)
    (swapSwaps_of_literal gS f hx e ie hie hs1 hagg enc h1 blk off d.size c) (holds_grow enc w _ blk off d hblk hH) (by rw [size_grow]; omega) hsz
  refine (Any.sort_SliceStable_of_stable L t e i ie hi hd hpk hie ke hke _ d.size c (by omega) f hf (.func g) #[] lb w (fun w' => ∃ d', SW enc w blk off d' w' ∧ Sted key d d') ?_)
  rw [hB, hW]
  refine hp.mono ?_
  rintro e w' ⟨rfl, d', ⟨n, os, rfl⟩, hS⟩
  exact ⟨rfl, d', ⟨n, _, by unfold sortWorld; rw [ahead_grow, putRow_grow enc (Sort.ahead w n) _ blk off _ hblk, grow_grow]⟩, hS⟩
end Go.Proofs.Ytbheegamibdbhaa.Stable
