/- Joined texts of this claim: LawStream, LaidF, LaidK -/
import Derived.Test.YtnifgokjagahfaaDoorJFStr8
import Derived.Test.YtnifgokjagahfaaDoorJFStr9
import Derived.Test.YtnifgokjagahfaaDoorJFStr7
import Derived.Test.YtnifgokjagahfaaDoorJFStr0
import Derived.Test.YtnifgokjagahfaaDoorTie
import Derived.Lib.LaidTab
/- FrameStream, walked. -/
set_option linter.unusedVariables false
set_option linter.unusedSimpArgs false
namespace Go.Proofs.YtnifgokjagahfaaDoor.LawStream
open Go.RowKit Go.Proofs.YtnifgokjagahfaaDoorW.PrintWords Go.Proofs.YtnifgokjagahfaaDoorW.PrintLast Go.Proofs.YtnifgokjagahfaaDoorW.PrintMore
open Go.Proofs.YtnifgokjagahfaaDoor.Base Go.Proofs.YtnifgokjagahfaaDoor.App Go.Proofs.YtnifgokjagahfaaDoor.Layouts Go.Proofs.YtnifgokjagahfaaDoor.Msg Go.Proofs.YtnifgokjagahfaaDoor.Put Go.Proofs.YtnifgokjagahfaaDoor.EncPure Go.Proofs.YtnifgokjagahfaaDoor.DecPure Go.Proofs.YtnifgokjagahfaaDoor.Mids Go.Proofs.YtnifgokjagahfaaDoor.Enc Go.Proofs.YtnifgokjagahfaaDoor.EqM Go.Proofs.YtnifgokjagahfaaDoor.SplitPure Go.Proofs.YtnifgokjagahfaaDoor.Pcs Go.Proofs.YtnifgokjagahfaaDoor.Reader Go.Proofs.YtnifgokjagahfaaDoor.ReadPure Go.Proofs.YtnifgokjagahfaaDoor.ReadStream Go.Proofs.YtnifgokjagahfaaDoor.CutsF Go.Proofs.YtnifgokjagahfaaDoor.StreamPure Go.Proofs.YtnifgokjagahfaaDoor.StreamKit Go.Proofs.YtnifgokjagahfaaDoor.StreamSize Go.Proofs.YtnifgokjagahfaaDoor.OpenX Go.Proofs.YtnifgokjagahfaaDoor.StreamKit2
open Go.Proofs.YtnifgokjagahfaaDoor.Crc (Nibs)
open Go.Proofs.YtnifgokjagahfaaDoor.Dec (mL_one infoM)
open Go.Proofs.YtnifgokjagahfaaDoor.Proper (properM proper_any proper_valid KTab)
open Go.Proofs.YtnifgokjagahfaaDoor.LawCuts (rows_at msL_at)
attribute [local go_sem high] eqA
def fstM : M := ⟨1, 64, 1, 5, 0, 0, 0, 0, 0, { data := #[] }, { data := #[] }⟩
theorem ends_size (p : List Pc) : (nums .i64 ((ends p).map fun n : Nat => (n : Int))).length = p.length := by simp [nums, ends]
/-- what one item more adds -/
theorem next_item (L : List It) (k : Nat) (x : It) (hx : L[k]? = some x) (S : ByteArray) (W : Nat) (p : List Pc) (hi : S = stF ByteArray.empty ((L.take k).map itm) ∧ W = was ((L.take k).map itm) ∧ p = ex 0 ((L.take k).map itm)) (m : M) (t f : ByteArray) (hm : m = properM x.1) (hf : f = frame m) (ht : t = lt x.2) :
    ∃ p2, (S ++ t ++ f = stF ByteArray.empty ((L.take (k + 1)).map itm) ∧ W + t.size = was ((L.take (k + 1)).map itm) ∧ p2 = ex 0 ((L.take (k + 1)).map itm)) ∧ p2.length = p.length + 1 ∧ msL (msgs p2) = msL (msgs p) ++ mL m ∧
      nums .i64 ((ends p2).map fun n : Nat => (n : Int)) = nums .i64 ((ends p).map fun n : Nat => (n : Int)) ++ [.int .i64 ((S ++ t ++ f).size : Nat)] := by
  subst hm hf ht
  obtain ⟨rfl, rfl, rfl⟩ := hi
  refine ⟨_, ⟨(stF_next L k x hx).symm, (was_next L k x hx).symm, rfl⟩, ?_, ?_, ?_⟩
  · rw [ex_next L k x hx, List.length_append]; rfl
  · rw [ex_next L k x hx, msgs_append, msL_append, msgs_ex]
    simp [msL, itm]
  · rw [ex_next L k x hx, ends_append, ex_one, List.map_append, nums_append]
    rfl
set_option maxRecDepth 100000 in
set_option maxHeartbeats 8000000 in
theorem law_stream (A : Option Addr) (cap : Nat) (l0 : List It) (tl : ByteArray) (B : Option Addr) (C : Nat) (cs : List Int) (w : World) (hr : SAt w A l0) (hA : l0 = [] → A = none ∧ cap = 0 ∨ ∃ a, A = some a)
    (hcap : l0.length ≤ cap) (hrc : Kd.C (Kd.int .i64) w B cs.length cs) (hC : cs.length ≤ C) (hbk : bulkL l0 + tl.size + cs.length ≤ 1048576) (hN : Nibs w) (hK : KTab w) :
    Calls Tryd.prog 12 #[.slice A l0.length cap, .string tl, .slice B cs.length C] w fun e w' => e = .returned (.bool true) ∧ Below w.heap.size w w' := by
  have HN := Aside0.mk hN
  have HK := Aside0.mk hK
  have HRC := Aside0.mk hrc
  have hl0 := bulk_len l0
  have HX : Aside0 ((A = none ∧ l0.length = 0 ∧ cap = 0) ∨ ∃ d, A = some d ∧ ∀ j u, (sLs l0)[j]? = some u → (w.alloc (.cells (sV (fstM, { data := #[] })) 76)).cell? (d.add j) = some u) := by
    refine ⟨?_⟩
    rcases hr with rfl | ⟨a, rfl, h⟩
    · rcases hA rfl with ⟨rfl, rfl⟩ | ⟨a, rfl⟩
      · exact .inl ⟨rfl, rfl, rfl⟩
      · exact .inr ⟨a, rfl, fun j u h => by simp [sLs] at h⟩
    · exact .inr ⟨a, rfl, fun j u hj => pw_cell_below ((Below.refl w.heap.size w).alloc (Nat.le_refl _) _) (h j u hj)⟩
  have HO1 := Aside0.mk (own_one w w.heap.size 76 12 (sL (fstM, { data := #[] })) (Nat.le_refl _) rfl)
  have HB1 := Aside0.mk ((Below.refl w.heap.size w).alloc (Nat.le_refl _) (.cells (sV (fstM, { data := #[] })) 76))
  have HBK := Aside0.mk hbk
  have HL0 := Aside0.mk hl0
  clear hN hK hrc hr hA hcap hbk hl0
  go_enter Tryd.func12, Tryd.ntmps12
  go_wp2_with (first | ((with_reducible refine gate_build (t := 76) (parts := #[(0, .tmp 20)]) rfl ?_); go_loud (refine list_buildS rfl 20 rfl fstM rfl ?_)) | ((with_reducible refine gate_buildSlice (t := 73) (n := 1) (parts := #[(0, .tmp 21)]) rfl ?_); go_loud (refine list_oneS rfl 21 rfl (fstM, { data := #[] }) rfl ?_)) | ((with_reducible refine gate_call (args := #[.tmp 22, .tmp 23]) rfl ?_); refine Hid.out ?_))
  refine Lib.hid ?_
  refine list_append_any (P := Tryd.prog) (w0 := w) w.heap.size rfl (.tmp 22) (.tmp 23) 73 76 _ 12 120 rfl Tryd.underlying73 infoS rfl (by decide) (by decide) (.slice (some ⟨w.heap.size, 0, none⟩) 1 1) 1 (sL (fstM, { data := #[] })) A l0.length cap (sLs l0) ?hs ?hx (sLs_len l0) (sLs_one l0) HX.out HO1.out HB1.out HB1.out.size ?hl ?_
  case hs => rfl
  case hx => rfl
  case hl => have := HL0.out; have := HBK.out; omega
  intro v1 w1 HO HB _
  clear HX HO1 HB1
  obtain ⟨L, hL⟩ : ∃ L : List It, L = (fstM, { data := #[] }) :: l0 := ⟨_, rfl⟩
  have HLB : Aside0 (bulkL L + tl.size + cs.length ≤ 1048600 ∧ L ≠ []) := ⟨by
    subst hL
    refine ⟨?_, fun h => by cases h⟩
    have h3 : bulkL ((fstM, ({ data := #[] } : ByteArray)) :: l0) = 14 + bulkL l0 := by
      simp [bulkL]
      rfl
    have := HBK.out
    omega⟩
  have HO1 : Aside0 (w1.ownsRow w.heap.size 76 12 v1 L.length (sLs L)) := ⟨by
    subst hL
    have e : 1 + l0.length = ((fstM, ({ data := #[] } : ByteArray)) :: l0).length := by simp; omega
    rw [← e]
    exact HO⟩
  have HB1 := Aside0.mk HB
  clear hL HO HB HBK HL0
  obtain ⟨g, c, rfl⟩ : ∃ g c, v1 = .slice (some ⟨g, 0, none⟩) L.length c := by
    rcases HO1.out.2 with ⟨_, h0⟩ | ⟨g, cap, cur, rfl, _⟩
    · exact absurd (List.eq_nil_of_length_eq_zero h0) HLB.out.2
    · exact ⟨g, cap, rfl⟩
  have hLn : L.length ≤ 100000 := by have := bulk_len L; have := HLB.out.1; omega
  have HSZ : Aside0 (∀ k, (stF ByteArray.empty ((L.take k).map itm)).size ≤ 5 * bulkL L) := ⟨fun k => by
    have h1 := stF_le (L.take k) ByteArray.empty
    have h2 := bulk_take L k
    have h3 : ByteArray.empty.size = 0 := rfl
    omega⟩
  have HP0 := Aside0.mk (World.ownsRow_nil w1 w.heap.size 24 11)
  have HE0 := Aside0.mk (World.ownsRow_nil w1 w.heap.size 3 1)
  go_wp2_with fail
  go_loopw [7, 8, 9, 10, 12, 13, 14, 15, 16] (fun sv wv gv ev iv _ _ _ _ wr => ∃ (k W : Nat) (S : ByteArray) (p : List Pc), k ≤ L.length ∧ iv = .int .i64 (k : Int) ∧ sv = .string S ∧ wv = .int .i64 (W : Int) ∧ Aside0 (S = stF ByteArray.empty ((L.take k).map itm) ∧ W = was ((L.take k).map itm) ∧ p = ex 0 ((L.take k).map itm)) ∧ Aside0 (wr.ownsRow w.heap.size 24 11 gv p.length (msL (msgs p))) ∧ Aside0 (wr.ownsRow w.heap.size 3 1 ev p.length (nums .i64 ((ends p).map fun n : Nat => (n : Int)))) ∧ Aside0 (wr.ownsRow w.heap.size 76 12 (.slice (some ⟨g, 0, none⟩) L.length c) L.length (sLs L)) ∧ Aside0 (Below w.heap.size w wr)) (fun _ _ _ _ iv _ _ _ _ _ => L.length - (intOf iv).toNat)
  case atStart => exact ⟨0, 0, ByteArray.empty, [], Nat.zero_le _, rfl, rfl, rfl, ⟨rfl, rfl, rfl⟩, HP0, HE0, HO1, HB1⟩
  case round =>
    clear HP0 HE0 HO1 HB1
    obtain ⟨k, W, S, p, hk, rfl, rfl, rfl, HI, HG, HE, HO, HB⟩ := hrel
    obtain ⟨wo, rfl⟩ : ∃ wo : World, wo = wr := ⟨_, rfl⟩
    by_cases hlt : k < L.length
    · obtain ⟨x, hx⟩ : ∃ x, L[k]? = some x := ⟨_, List.getElem?_eq_getElem hlt⟩
      have HX := Aside0.mk hx
      have hrg0 := rows_at HO.out (k * 12) _ (sLs_at L k x hx)
      have hrg : wo.rangeAt g (k * 12) (mL x.1) := fun i u hu => hrg0 i u (by
        have hi : i < 11 := (List.getElem?_eq_some_iff.1 hu).1
        unfold sL
        rw [List.getElem?_append_left (by rw [mL_len]; omega)]
        exact hu)
      have hbx := bulk_mem L x (List.mem_of_getElem? hx)
      have hbx2 : x.1.key.size ≤ 9223372036854775807 ∧ x.1.value.size ≤ 9223372036854775807 ∧ x.2.size ≤ 1048600 := by have := HLB.out.1; unfold blk at hbx; omega
      have HBX := Aside0.mk hbx2
      have KP := Lib.hid (proper_any x.1 wo (HK.out.below (HB.out.mono (Nat.le_refl _))) ⟨hbx2.1, hbx2.2.1⟩)
      obtain ⟨hv, hk2, _⟩ := proper_valid x.1
      obtain ⟨m, hm⟩ : ∃ m, m = properM x.1 := ⟨_, rfl⟩
      obtain ⟨f, hf⟩ : ∃ f, f = frame m := ⟨_, rfl⟩
      obtain ⟨t, ht⟩ : ∃ t, t = lt x.2 := ⟨_, rfl⟩
      have KL := fun (u : World) => Lib.hid (litter_any x.2 u (by omega))
      rw [← hm] at KP hv hk2
      rw [← ht] at KL
      have KE := fun (u : World) (hN : Nibs u) => Lib.hid (enc_good' m hv hk2 u hN)
      rw [show strOfNums (whole m) = f from hf.symm] at KE
      have hfs := Zeros.whole_size m hv hk2
      rw [show strOfNums (whole m) = f from hf.symm] at hfs
      have hts := lt_size x.2
      rw [← ht] at hts
      have HNX := Aside0.mk (next_item L k x HX.out S W p HI.out m t f hm hf ht)
      have hwas := was_le ((L.take k).map itm) ByteArray.empty
      have hszk := HSZ.out k
      rw [← HI.out.2.1] at hwas
      have hWb : W ≤ 5243000 := by have := HLB.out.1; omega
      have hpl : p.length = k := by rw [HI.out.2.2, ex_len, List.length_map, List.length_take]; omega
      have HPL := Aside0.mk hpl
      have HFS := Aside0.mk hfs
      have HTS : Aside0 (t.size ≤ 1048600) := ⟨by omega⟩
      have HWB := Aside0.mk hWb
      clear hrg0 hbx hbx2 hx hv hk2 hm hf ht hts hwas hszk hWb hpl hfs
      go_wp2_with ((with_reducible refine gate_load (ty := 24) (x := .tmp 34) rfl ?_); refine wpList_load_mid rfl 24 (.tmp 34) rfl g (k * 12) ?h34 (mL x.1) _ hrg Tryd.underlying24 rfl infoM ?_; (case h34 => first | rfl | (simp [Act.eval]; done)))
      refine KP.out.mono ?_
      rintro e w2 ⟨rfl, hb⟩
      have HB2 := Aside0.mk (HB.out.trans (hb.mono HB.out.size))
      have HG2 := Aside0.mk (own_later HG.out hb)
      have HE2 := Aside0.mk (own_later HE.out hb)
      have HO2 := Aside0.mk (own_later HO.out hb)
      clear hb KP hrg HB HG HE HO
      have hth := Zeros.zeros_there w2
      have HM4 := Aside0.mk (Zeros.zeros_new w2 m)
      have hz := Zeros.zeros_below w2 m
      have HB4 := Aside0.mk (HB2.out.trans (hz.mono HB2.out.size))
      have HG4 := Aside0.mk (own_later HG2.out hz)
      have HE4 := Aside0.mk (own_later HE2.out hz)
      have HO4 := Aside0.mk (own_later HO2.out hz)
      clear hz
      go_upto_region 10 with ((with_reducible refine gate_store (ty := 24) (x := .tmp 13) (y := .tmp 36) rfl ?_); refine wpList_store_mid rfl 24 (.tmp 13) (.tmp 36) rfl w2.heap.size 0 (mL m).toArray rfl rfl hth infoM (mL_one m) ?_)
      clear hth HB2 HG2 HE2 HO2
      generalize hw4 : (w2.alloc (.cells #[.int .i64 0, .int .i64 0, .int .i64 0, .int .i64 0, .int .i64 0, .int .i64 0, .int .i64 0, .int .i64 0, .int .i64 0, .string { data := #[] }, .string { data := #[] }] 24)).setCells w2.heap.size 0 (mL m) = w4 at HM4 HB4 HG4 HE4 HO4 ⊢
      generalize w2.heap.size = g4 at HM4 hw4 ⊢
      clear hw4
      have hc11 : w4.cell? ⟨g, k * 12 + 11, none⟩ = some (.string x.2) := rows_at HO4.out (k * 12) _ (sLs_at L k x HX.out) 11 _ rfl
      go_wp2_with fail
      refine (KL w4).out.mono ?_
      rintro e w5 ⟨rfl, hb⟩
      have HB5 := Aside0.mk (HB4.out.trans (hb.mono HB4.out.size))
      have HG5 := Aside0.mk (own_later HG4.out hb)
      have HE5 := Aside0.mk (own_later HE4.out hb)
      have HO5 := Aside0.mk (own_later HO4.out hb)
      have HM5 := Aside0.mk (HM4.out.below hb HM4.out.lt)
      clear hb hc11 HB4 HG4 HE4 HO4 HM4 KL
      have hrg5 := blk_range HM5.out.row
      go_wp2_with ((with_reducible refine gate_load (ty := 24) (x := .tmp 13) rfl ?_); refine wpList_load_mid rfl 24 (.tmp 13) rfl g4 0 rfl (mL m) _ hrg5 Tryd.underlying24 rfl infoM ?_)
      refine (KE w5 (HN.out.below HB5.out)).out.mono ?_
      rintro e w6 ⟨rfl, hb⟩
      have HB6 := Aside0.mk (HB5.out.trans (hb.mono HB5.out.size))
      have HG6 := Aside0.mk (own_later HG5.out hb)
      have HE6 := Aside0.mk (own_later HE5.out hb)
      have HO6 := Aside0.mk (own_later HO5.out hb)
      have HM6 := Aside0.mk (HM5.out.below hb HM5.out.lt)
      clear hb hrg5 HB5 HG5 HE5 HO5 HM5 KE
      go_wp2_with fail
      refine (num_any _ _).mono ?_
      rintro e w' ⟨rfl, rfl⟩
      have hp24 : ¬ (f.size : Int) < 24 := by have := HFS.out; omega
      have hw1 : wrap64 ((W : Int) + (t.size : Int)) = ((W + t.size : Nat) : Int) := Zeros.wadd W t.size (by have := HTS.out; have := HWB.out; omega)
      have hq1 : S.size ≤ 5243000 := by rw [HI.out.1]; have h1 := HSZ.out k; have := HLB.out.1; omega
      have hq2 : t.size ≤ 1048600 := HTS.out
      have hq3 : f.size ≤ 4407 := HFS.out.2
      have hrg6 := blk_range HM6.out.row
      have HBS := Aside0.mk HB6.out.size
      have HNEW := Aside0.mk (news w6 (mL m) 24)
      go_wp2_with (first | ((with_reducible refine gate_load (ty := 24) (x := .tmp 13) rfl ?_); refine wpList_load_mid rfl 24 (.tmp 13) rfl g4 0 rfl (mL m) _ hrg6 Tryd.underlying24 rfl infoM ?_) | ((with_reducible refine gate_buildSlice (t := 67) (n := 1) (parts := #[(0, .tmp 66)]) rfl ?_); go_loud (refine list_oneM rfl 66 rfl m rfl ?_)) | ((with_reducible refine gate_call (args := #[.tmp 65, .tmp 67]) rfl ?_); refine Hid.out ?_))
      refine Lib.hid ?_
      refine list_append_wide (P := Tryd.prog) (w0 := w) w.heap.size rfl (.tmp 65) (.tmp 67) 67 24 _ 11 104 rfl Tryd.underlying67 infoMs rfl (by decide) (by decide) u9 p.length (msL (msgs p)) w6.heap.size 1 1 (mL m) ?hs ?hx rfl (mL_ones _) HNEW.out (HG6.out.alloc _) (HB6.out.alloc HBS.out _) ?hz ?hl ?_
      case hs => rfl
      case hx => rfl
      case hz => have := HBS.out; simp; omega
      case hl => have := HPL.out; omega
      intro v7 w7 HG' HB' hgr
      have HG7 := Aside0.mk HG'
      have HB7 := Aside0.mk HB'
      have he6 := HE6.out.alloc (.cells (mL m).toArray 24)
      have hg6 := HG6.out.alloc (.cells (mL m).toArray 24)
      have ho6 := HO6.out.alloc (.cells (mL m).toArray 24)
      have HE7 := Aside0.mk (he6.kept hgr (rows_ne he6 hg6 (by decide)))
      have HO7 := Aside0.mk (ho6.kept hgr (rows_ne ho6 hg6 (by decide)))
      clear he6 hg6 ho6
      clear HG' HB' hgr hrg6 HBS HNEW HB6 HE6 HO6 HG6 HM6
      have hnew := news w7 [.int .i64 ((S.size : Int) + (t.size : Int) + (f.size : Int))] 3
      have HNEW := Aside0.mk hnew
      have HBS := Aside0.mk HB7.out.size
      clear hnew
      go_wp2_with ((with_reducible refine gate_call (args := #[.tmp 69, .tmp 72]) rfl ?_); refine Hid.out ?_)
      refine Lib.hid ?_
      refine list_append_wide (P := Tryd.prog) (w0 := w) w.heap.size rfl (.tmp 69) (.tmp 72) 74 3 _ 1 8 rfl Tryd.underlying74 infoI rfl (by decide) (by decide) u10 p.length (nums .i64 ((ends p).map fun n : Nat => (n : Int))) w7.heap.size 1 1 [.int .i64 ((S.size : Int) + (t.size : Int) + (f.size : Int))] ?hs ?hx rfl (by simp [Value.oneCell']) HNEW.out (HE7.out.alloc _) (HB7.out.alloc HBS.out _) ?hz ?hl ?_
      case hs => rfl
      case hx => rfl
      case hz => have := HBS.out; simp; omega
      case hl => have := HPL.out; omega
      intro v8 w8 HE' HB' hgr
      have HE8 := Aside0.mk HE'
      have HB8 := Aside0.mk HB'
      have he6 := HE7.out.alloc (.cells #[.int .i64 ((S.size : Int) + (t.size : Int) + (f.size : Int))] 3)
      have hg6 := HG7.out.alloc (.cells #[.int .i64 ((S.size : Int) + (t.size : Int) + (f.size : Int))] 3)
      have ho6 := HO7.out.alloc (.cells #[.int .i64 ((S.size : Int) + (t.size : Int) + (f.size : Int))] 3)
      have HG8 := Aside0.mk (hg6.kept hgr (rows_ne hg6 he6 (by decide)))
      have HO8 := Aside0.mk (ho6.kept hgr (rows_ne ho6 he6 (by decide)))
      clear he6 hg6 ho6
      clear HE' HB' hgr HBS HNEW HB7 HE7 HO7 HG7
      go_wp2_with fail
      go_roundw
      case rel =>
        obtain ⟨p2, hi, h1, h2, h3⟩ := HNX.out
        refine ⟨k + 1, W + t.size, S ++ t ++ f, p2, by omega, by go_num, rfl, by go_num, ⟨hi⟩, ⟨?_⟩, ⟨?_⟩, HO8, HB8⟩
        · rw [h1, h2]; exact HG8.out
        · rw [h1, h3, show (((S ++ t ++ f).size : Nat) : Int) = (S.size : Int) + (t.size : Int) + (f.size : Int) by rw [ByteArray.size_append, ByteArray.size_append]; omega]; exact HE8.out
      case measure => simp [intOf]; omega
    · have hk' : k = L.length := by omega
      have hall := whole_stream L (lt tl) (lt_clear tl)
      have hts := lt_size tl
      have hS := HI.out.1
      have hW := HI.out.2.1
      have hp := HI.out.2.2
      have hsz := HSZ.out k
      rw [← hS] at hsz
      rw [hk', List.take_length] at hS hW hp
      rw [← hS, ← hW, ← hp] at hall
      have hpl : p.length = L.length := by rw [hp, ex_len, List.length_map]
      have hwb : W ≤ S.size := by rw [hS, hW]; exact was_le _ _
      have KL := fun (u : World) => Lib.hid (litter_any tl u (by have := HLB.out.1; omega))
      obtain ⟨t, ht⟩ : ∃ t, t = lt tl := ⟨_, rfl⟩
      rw [← ht] at hall hts KL
      have HALL := Aside0.mk hall
      have HPL := Aside0.mk hpl
      have hq1 : S.size ≤ 5243000 := by have := HLB.out.1; omega
      have hq2 : t.size ≤ 1048600 := by have := HLB.out.1; omega
      have hw1 : wrap64 ((W : Int) + (t.size : Int)) = ((W + t.size : Nat) : Int) := Zeros.wadd W t.size (by omega)
      clear hall hpl hts hS hW hp hsz hwb ht hk'
      go_wp2_with fail
      refine (KL wo).out.mono ?_
      rintro e w2 ⟨rfl, hb⟩
      have HB2 := Aside0.mk (HB.out.trans (hb.mono HB.out.size))
      have HG2 := Aside0.mk (own_later HG.out hb)
      have HE2 := Aside0.mk (own_later HE.out hb)
      clear hb HB HG HE HO KL
      have hT : (S ++ t).size ≤ 8388608 := by rw [ByteArray.size_append]; omega
      have KS := Lib.hid (Split.split_any (S ++ t) w2 hT (HN.out.below HB2.out))
      rw [HALL.out.1] at KS
      have HT := Aside0.mk hT
      clear hT
      go_wp2_with fail
      refine KS.out.mono ?_
      rintro e w3 ⟨v3, rfl, ho, hb⟩
      have HB3 := Aside0.mk (HB2.out.trans (hb.mono HB2.out.size))
      have HG3 := Aside0.mk (own_later HG2.out hb)
      have HE3 := Aside0.mk (own_later HE2.out hb)
      have HQ3 := Aside0.mk ho
      clear hb ho HB2 HG2 HE2 KS
      have hne : p ≠ [] := fun h => by
        have h1 := HPL.out
        rw [h] at h1
        exact HLB.out.2 (List.eq_nil_of_length_eq_zero h1.symm)
      have HNE := Aside0.mk hne
      clear hne
      obtain ⟨g1, c1, rfl⟩ : ∃ g c, v3 = .slice (some ⟨g, 0, none⟩) p.length c := by
        rcases HQ3.out.2 with ⟨_, h0⟩ | ⟨g, cap, cur, rfl, _⟩
        · exact absurd (List.eq_nil_of_length_eq_zero h0) HNE.out
        · exact ⟨g, cap, rfl⟩
      obtain ⟨g2, c2, rfl⟩ : ∃ g c, u9 = .slice (some ⟨g, 0, none⟩) p.length c := by
        rcases HG3.out.2 with ⟨_, h0⟩ | ⟨g, cap, cur, rfl, _⟩
        · exact absurd (List.eq_nil_of_length_eq_zero h0) HNE.out
        · exact ⟨g, cap, rfl⟩
      obtain ⟨g3, c3, rfl⟩ : ∃ g c, u10 = .slice (some ⟨g, 0, none⟩) p.length c := by
        rcases HE3.out.2 with ⟨_, h0⟩ | ⟨g, cap, cur, rfl, _⟩
        · exact absurd (List.eq_nil_of_length_eq_zero h0) HNE.out
        · exact ⟨g, cap, rfl⟩
      have hl1 : ((p.length : Int) != (p.length : Int)) = false := bne_self_eq_false _
      have hpn : p.length ≤ 100000 := by have := HPL.out; omega
      go_wp2_with fail
      go_loopw [19] (fun jv wr => ∃ j : Nat, j ≤ p.length ∧ jv = .int .i64 (j : Int) ∧ Aside0 (Drawn0 w3 wr)) (fun jv _ => p.length - (intOf jv).toNat)
      case atStart => exact ⟨0, Nat.zero_le _, rfl, ⟨Drawn0.refl _⟩⟩
      case round =>
        obtain ⟨j, hj, rfl, HD⟩ := hrel
        obtain ⟨wq, rfl⟩ : ∃ wq : World, wq = wr := ⟨_, rfl⟩
        have hbd := Pieces.drawn_below (B := w3.heap.size) HD.out
        have HG4 := Aside0.mk (own_later HG3.out hbd)
        have HE4 := Aside0.mk (own_later HE3.out hbd)
        have HQ4 := Aside0.mk (own_later HQ3.out hbd)
        have HB4 := Aside0.mk (HB3.out.trans (hbd.mono HB3.out.size))
        clear hbd
        by_cases hjl : j < p.length
        · obtain ⟨y, hy⟩ : ∃ y, p[j]? = some y := ⟨_, List.getElem?_eq_getElem hjl⟩
          have hr2 : wq.rangeAt g1 (j * 13) (pL y) := rows_at HQ4.out (j * 13) _ (Pcs.psL_at p j y hy)
          have hr1 : wq.rangeAt g1 (j * 13 + 2) (mL y.2.2) := fun i u hu => by
            have := hr2 (2 + i) u (by rw [Nat.add_comm]; exact hu)
            rwa [← Nat.add_assoc] at this
          have hr3 : wq.rangeAt g2 (j * 11) (mL y.2.2) := rows_at HG4.out (j * 11) _ (msL_at p j y hy)
          have hd0 : wq.cell? ⟨g1, j * 13, none⟩ = some (.int .i64 (y.1 : Nat)) := hr2 0 _ rfl
          have hd1 : wq.cell? ⟨g1, j * 13 + 1, none⟩ = some (.int .i64 (y.2.1 : Nat)) := hr2 1 _ rfl
          have hbnd := pcs_within (S ++ t) _ 0 (Nat.le_refl _) y (by rw [HALL.out.1]; exact List.mem_of_getElem? hy)
          have hbd2 : y.1 + y.2.1 ≤ 8388608 := Nat.le_trans hbnd HT.out
          have hde : wq.cell? ⟨g3, j, none⟩ = some (.int .i64 ((y.1 : Int) + (y.2.1 : Int))) := by
            have h1 := HE4.out.cells (g := g3) rfl j (.int .i64 ((y.1 + y.2.1 : Nat) : Int)) (by simp [nums, ends, hy])
            have e2 : (⟨g3, 0, none⟩ : Addr).add j = ⟨g3, j, none⟩ := by unfold Addr.add; split <;> simp_all
            rw [e2] at h1
            rw [h1]
            rfl
          have heq := bM_same y.2.2
          have hwa : IntKind.i64.wrap ((y.1 : Int) + (y.2.1 : Int)) = (y.1 : Int) + (y.2.1 : Int) := IntWalk.i64_in _ (by omega)
          have hwb : wrap64 ((j : Int) + 1) = ((j + 1 : Nat) : Int) := Zeros.wadd j 1 (by omega)
          have hne : ((y.1 : Int) + (y.2.1 : Int) != (y.1 : Int) + (y.2.1 : Int)) = false := bne_self_eq_false _
          clear hbnd hy hr2 hw1
          go_upto_region 27 with fail
          refine wp_region_still_tail 27 (by kernel_rfl) (by kernel_rfl) ?_
          simp only [List.take_succ_cons, List.take_zero, List.drop_succ_cons, List.drop_zero]
          iterate 4 still_step
          refine still_load_mid rfl 24 (.tmp 99) rfl g1 (j * 13 + 2) ?h99 (mL y.2.2) _ hr1 Tryd.underlying24 rfl infoM ?_
          case h99 => first | rfl | (simp [Act.eval]; done)
          iterate 3 still_step
          refine still_load_mid rfl 24 (.tmp 103) rfl g2 (j * 11) ?h103 (mL y.2.2) _ hr3 Tryd.underlying24 rfl infoM ?_
          case h103 => first | rfl | (simp [Act.eval]; done)
          iterate 18 still_step
          with_reducible refine wpStill_nil ?_
          have HD2 : Aside0 (Drawn0 w3 ({ wq with drawn := wq.drawn + 1 } : World)) := ⟨(show Drawn0 w3 (wq.drewN 1) from HD.out.step 1)⟩
          generalize ({ wq with drawn := wq.drawn + 1 } : World) = wt at HD2 ⊢
          clear hr1 hr3 hd0 hd1 hde hwa hne heq hbd2
          go_wp2_with fail
          go_roundw
          case rel => exact ⟨j + 1, by omega, by go_num, HD2⟩
          case measure => simp [intOf]; omega
        · have hcl : cs.length ≤ 10000000 := by have := HLB.out.1; omega
          have kc := Comes.comes_any (S ++ t) p HALL.out.1 HALL.out.2.1 HT.out HNE.out wq w.heap.size w.heap.size _ _ HG4.out HE4.out B C cs (Kd.C_below HRC.out HB4.out) hC hcl (HN.out.below HB4.out)
          have hww : (((S ++ t).size - szs p : Nat) : Int) = (W : Int) + (t.size : Int) := by rw [← HALL.out.2.2]; omega
          rw [hww] at kc
          have KC := Lib.hid kc
          clear kc hww
          go_wp2_with fail
          refine KC.out.mono ?_
          rintro e w5 ⟨rfl, hb⟩
          have HB5 := Aside0.mk (HB4.out.trans (hb.mono HB4.out.size))
          clear hb KC
          go_wp2
          go_ret
          exact ⟨rfl, HB5.out⟩
end Go.Proofs.YtnifgokjagahfaaDoor.LawStream

/- The tables that a row lays down, as the walks ask them. -/
set_option linter.unusedVariables false
set_option linter.unusedSimpArgs false
namespace Go.Proofs.YtnifgokjagahfaaDoor.LaidF
open Go.RowKit
open Go.Proofs.YtnifgokjagahfaaDoor.Base Go.Proofs.YtnifgokjagahfaaDoor.Layouts Go.Proofs.YtnifgokjagahfaaDoor.RefF
open Go.Proofs.YtnifgokjagahfaaDoor.Crc (Nibs nib)
theorem tail {P : Program} {x : String × DataW Unit} {r : List (String × DataW Unit)} {w : World} (h : laidMet P (x :: r) w) : laidMet P r w := by
  obtain ⟨ps, ⟨g, t, cs, fuel, p, q, _, _, _, _, hq, rfl⟩, hn, hc⟩ := h
  exact ⟨q, hq, (List.nodup_append.1 hn).2.1, fun b off hm => hc b off (List.mem_append_right _ hm)⟩
def nibI : List Int := [0, 498536548, 997073096, 651767980, 1994146192, 1802195444, 1303535960, 1342533948, 3988292384, 4027552580, 3604390888, 3412177804, 2607071920, 2262029012, 2685067896, 3183342108]
theorem gNib : Tryd.prog.globalNamed "granary/digest.nibbles" = some 2 := by kernel_rfl
theorem nibs_of {W : World} {r : List (String × DataW Unit)} (h : laidMet Tryd.prog (("granary/digest.nibbles", Lib.tabData .u32 nibI) :: r) W) : Nibs W := by
  have hT := Lib.tabIs_of_head (t := 142) gNib (by kernel_rfl) Tryd.underlying142 Tryd.underlying137 (by kernel_rfl) (by kernel_rfl) h
  have hc : ∀ i, i < 16 → W.cell? ⟨2, i, none⟩ = some (.int .u32 (nib i : Nat)) := by
    intro i hi
    rw [hT.cell gNib i (by simpa [nibI] using hi)]
    have : ∀ i, i < 16 → nibI.getD i 0 = (nib i : Nat) := by decide
    rw [this i hi]
  exact ⟨hc, World.block_lt_of_cell? W ⟨2, 0, none⟩ (hc 0 (by decide))⟩
theorem cells_of_strs {H : Type} {enc : TypeId × Value → H} {P : Program} {w : World} {base : Nat} {sp : Nat → Bool} {held : Bool} {fuel : Nat} {t e : TypeId} {n : Nat} {cs : List Value} {rows : List (List UInt8)} {p : List MemPlace}
    (ht : P.underlying t = some (.array n e)) (he : P.underlying e = some .string) (hce : P.cellsOf e = 1)
    (h : DataW.trod enc P w base sp held fuel t cs = some (.agg (rows.map fun l => DataW.lit (Lit.string l)), p)) (hr : rows.length = n) : ∀ (i : Nat) (l : List UInt8), rows[i]? = some l → cs[i]? = some (Value.string ⟨l.toArray⟩) := by
  cases fuel with
  | zero => simp [DataW.trod] at h
  | succ fuel =>
    simp only [DataW.trod, ht, hce] at h
    split at h
    · rename_i hl
      obtain ⟨xs, hm, hx⟩ := Option.map_eq_some_iff.1 h
      have hxs : xs.map (·.1) = rows.map (fun l => (DataW.lit (H := H) (Lit.string l))) := by
        have := congrArg Prod.fst hx
        simpa using this
      intro i l hi
      have hin : i < n := by
        rcases Nat.lt_or_ge i n with h | h
        · exact h
        · rw [List.getElem?_eq_none (by omega)] at hi; cases hi
      obtain ⟨b, hb, hf⟩ := Lib.mapM_at hm i i (by simp [hin])
      have h2 : (xs.map (·.1))[i]? = some (DataW.lit (Lit.string l)) := by rw [hxs, List.getElem?_map, hi]; rfl
      rw [List.getElem?_map, hb] at h2
      simp only [Option.map_some, Option.some.injEq] at h2
      obtain ⟨b1, b2⟩ := b
      simp only at h2
      subst h2
      obtain ⟨s, hs, hx2, _⟩ := DataW.trod_string he hf
      simp only [Prod.mk.injEq, DataW.lit.injEq, Lit.string.injEq] at hx2
      have h3 := congrArg (·[0]?) hs
      simp only [List.getElem?_take, List.getElem?_drop, Nat.mul_one, Nat.add_zero, List.getElem?_cons_zero] at h3
      have e : s = ⟨l.toArray⟩ := by rw [hx2.1]
      rw [e] at h3
      simpa using h3
    · cases h
def fldI : List (List UInt8) := [[], [], [], [69, 86], [69, 86, 67], [69, 83, 86], [69, 83, 86, 80, 67], [69, 83], [69, 83, 86, 80, 67], [], [69, 83, 86, 80, 67], [75], [86, 67, 75, 87], [83, 86], [83, 86, 80, 67, 87], [83, 86, 80], [83, 86, 80, 67, 75, 87]]
theorem gFld : Tryd.prog.globalNamed "granary/granaryref5.fields" = some 1 := by kernel_rfl
theorem strs_of {nm : String} {g : Nat} {W : World} {r : List (String × DataW Unit)} (hgn : Tryd.prog.globalNamed nm = some g) (hgt : (Tryd.prog.globals[g]?).map (·.type) = some 105)
    (h : laidMet Tryd.prog ((nm, .agg (fldI.map fun l => DataW.lit (Lit.string l))) :: r) W) (i : Nat) (hi : i < 17) : W.cell? ⟨g, i, none⟩ = some (.string (fstr i)) := by
  obtain ⟨ps, ⟨g', t', cs, fuel, p, q, hg', ht', hvar, hd, _, _⟩, _⟩ := h
  obtain rfl := Option.some.inj (hgn.symm.trans hg')
  obtain rfl := Option.some.inj (hgt.symm.trans ht')
  have hc := cells_of_strs Tryd.underlying105 Tryd.underlying9 (by kernel_rfl) hd rfl
  rw [World.var?_cell hgn hvar i, ← Array.getElem?_toList]
  have hf : fldI[i]? = some ((fieldsOf i).map fun f => UInt8.ofNat (chOf f)) := by
    have : ∀ i, i < 17 → fldI[i]? = some ((fieldsOf i).map fun f => UInt8.ofNat (chOf f)) := by decide
    exact this i hi
  exact hc i _ hf
theorem rtab_of {W : World} {r : List (String × DataW Unit)} (h : laidMet Tryd.prog (("granary/granaryref5.fields", .agg (fldI.map fun l => DataW.lit (Lit.string l))) :: r) W) : RTab W :=
  ⟨fun i hi => strs_of gFld (by kernel_rfl) h i hi, World.block_lt_of_cell? W ⟨1, 0, none⟩ (strs_of gFld (by kernel_rfl) h 0 (by decide))⟩
end Go.Proofs.YtnifgokjagahfaaDoor.LaidF

/- The table of kinds that a row lays down. -/
set_option linter.unusedVariables false
namespace Go.Proofs.YtnifgokjagahfaaDoor.LaidF
open Go.RowKit
open Go.Proofs.YtnifgokjagahfaaDoor.Base Go.Proofs.YtnifgokjagahfaaDoor.Layouts Go.Proofs.YtnifgokjagahfaaDoor.RefF
theorem gKind : Tryd.prog.globalNamed "granary/granarylaw5.kindHas" = some 0 := by kernel_rfl
theorem ktab_of {W : World} {r : List (String × DataW Unit)} (h : laidMet Tryd.prog (("granary/granarylaw5.kindHas", .agg (fldI.map fun l => DataW.lit (Lit.string l))) :: r) W) : Proper.KTab W :=
  ⟨fun i hi => strs_of gKind (by kernel_rfl) h i hi, World.block_lt_of_cell? W ⟨0, 0, none⟩ (strs_of gKind (by kernel_rfl) h 0 (by decide))⟩
end Go.Proofs.YtnifgokjagahfaaDoor.LaidF
