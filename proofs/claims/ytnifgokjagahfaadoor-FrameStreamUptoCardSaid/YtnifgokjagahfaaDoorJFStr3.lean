/- Joined texts of this claim: ReadPure, ReadStream, Zeros, StreamPure, StreamPure2, Pcs -/
import Derived.Test.YtnifgokjagahfaaDoorJFStr2
import Derived.Test.YtnifgokjagahfaaDoorJFStr1
import Derived.Test.YtnifgokjagahfaaDoorJFStr0
import Derived.Great.BuildSlice
/- What a Reader tells of a stream that comes in parts; plain. -/
set_option linter.unusedVariables false
set_option linter.unusedSimpArgs false
namespace Go.Proofs.YtnifgokjagahfaaDoor.ReadPure
open Go.RowKit Go.Proofs.YtnifgokjagahfaaDoorW.PrintWords Go.Proofs.YtnifgokjagahfaaDoorW.PrintLast Go.Proofs.YtnifgokjagahfaaDoorW.PrintMore
open Go.Proofs.YtnifgokjagahfaaDoor.Base Go.Proofs.YtnifgokjagahfaaDoor.Layouts Go.Proofs.YtnifgokjagahfaaDoor.Msg Go.Proofs.YtnifgokjagahfaaDoor.Put Go.Proofs.YtnifgokjagahfaaDoor.EncPure Go.Proofs.YtnifgokjagahfaaDoor.DecPure Go.Proofs.YtnifgokjagahfaaDoor.Num Go.Proofs.YtnifgokjagahfaaDoor.Mids Go.Proofs.YtnifgokjagahfaaDoor.Beg Go.Proofs.YtnifgokjagahfaaDoor.Frm Go.Proofs.YtnifgokjagahfaaDoor.Next Go.Proofs.YtnifgokjagahfaaDoor.SplitPure
theorem bodyN_append (L X : List Int) (h : 20 ≤ L.length) : bodyN (L ++ X) = bodyN L := by
  unfold bodyN
  rw [List.drop_append_of_le_length (by omega), List.take_append_of_le_length (by rw [List.length_drop]; omega)]
theorem frm_append {L : List Int} (X : List Int) (hb : Byt L) {r : Nat × M} (h : frm L = some r) : frm (L ++ X) = some r := by
  unfold frm at h ⊢
  split at h
  · rename_i hc
    obtain ⟨c1, c2, c3, c4⟩ := hc
    have hn0 : 0 ≤ bodyN L := val_nonneg _ (byt_take (byt_drop hb _) _)
    have hB := bodyN_append L X (by omega)
    have hT : (L ++ X).take (24 + bodyN L).toNat = L.take (24 + bodyN L).toNat := List.take_append_of_le_length (by omega)
    rw [hB, hT, if_pos ⟨by rw [List.length_append]; omega, c2, by rw [List.length_append]; omega, c4⟩]
    exact h
  · cases h
theorem kindL_append (L X : List Int) (h : 3 < L.length) : kindL (L ++ X) = kindL L := by
  unfold kindL
  rw [List.getD_eq_getElem?_getD, List.getD_eq_getElem?_getD, List.getElem?_append_left h]
/-- what is refused is refused of whatever longer text -/
theorem refused {L : List Int} (X : List Int) (hb : Byt L) (hX : Byt X) (h : (begP L).1 = 0) : frm (L ++ X) = none := by
  cases hf : frm (L ++ X) with
  | none => rfl
  | some r =>
    exfalso
    obtain ⟨n, m⟩ := r
    have hbx : Byt (L ++ X) := byt_append.2 ⟨hb, hX⟩
    obtain ⟨b1, b2, b3, bp⟩ := frm_bounds hbx hf
    have hf0 := hf
    unfold frm at hf
    split at hf
    · rename_i hc
      obtain ⟨c1, c2, c3, c4⟩ := hc
      have hn0 : 0 ≤ bodyN (L ++ X) := val_nonneg _ (byt_take (byt_drop hbx _) _)
      obtain ⟨p1, p2⟩ := head_of_ok (L ++ X) (24 + bodyN (L ++ X)).toNat (by omega) (by omega) hbx c4
      have q1 : pre3 L = true := by
        unfold pre3 at p1 ⊢
        rw [Nat.min_eq_right (by omega)] at p1
        have p1 := of_decide_eq_true p1
        refine decide_eq_true ?_
        have e : L.take (min L.length 3) = ((L ++ X).take 3).take (min L.length 3) := by
          rw [List.take_take, Nat.min_eq_left (Nat.min_le_right _ _), List.take_append_of_le_length (Nat.min_le_left _ _)]
        rw [e, p1]
        congr 1
      unfold begP at h
      rw [q1, if_neg (by decide)] at h
      by_cases d1 : L.length ≤ 3
      · rw [if_pos d1] at h; exact absurd h (by decide)
      rw [if_neg d1] at h
      rw [kindL_append L X (by omega)] at p2
      rw [if_neg (fun hh => hh p2)] at h
      by_cases d2 : L.length < 20
      · rw [if_pos d2] at h; exact absurd h (by decide)
      rw [if_neg d2] at h
      have hB := bodyN_append L X (by omega)
      rw [hB] at c2 c3 c4 hn0
      have hz : sizeL L = 24 + bodyN L := by rw [Dec.sizeL_eq, if_neg (by omega)]
      rw [hz, if_neg (by omega)] at h
      by_cases d3 : (L.length : Int) < 24 + bodyN L
      · rw [if_pos d3] at h; exact absurd h (by decide)
      rw [if_neg d3] at h
      have hT : (L ++ X).take (24 + bodyN L).toNat = L.take (24 + bodyN L).toNat := List.take_append_of_le_length (by omega)
      rw [hT] at c4
      rw [if_neg (fun hh => hh c4)] at h
      simp at h
    · cases hf
/-- what begins says at a place: 0: none, 1: wait, 2: a frame -/
def bg (s : ByteArray) (i : Nat) : Int := (begP ((bytesOf s).drop i)).1
theorem bg_cases (L : List Int) : (begP L).1 = 0 ∨ (begP L).1 = 1 ∨ (begP L).1 = 2 := by
  unfold begP
  repeat' split
  all_goals simp
theorem bg_full {s : ByteArray} {i n : Nat} {m : M} (h : fr s i = some (n, m)) : bg s i = 2 := by
  unfold bg
  rw [begP_full _ (byt_at s i) n m h]
theorem bg_some {s : ByteArray} {i : Nat} (h : bg s i = 2) : ∃ n m, fr s i = some (n, m) := by
  cases hf : fr s i with
  | none => exact absurd h (begP_none _ (byt_at s i) hf)
  | some r => exact ⟨r.1, r.2, rfl⟩
/-- what a Feed tells of its text from a place on -/
def fd (s : ByteArray) : Nat → Nat → List Pc × Nat
  | 0, i => ([], i)
  | k + 1, i => if i < s.size then (match fr s i with
      | some (n, m) => ((i, n, m) :: (fd s k (i + n)).1, (fd s k (i + n)).2)
      | none => if bg s i = 1 then ([], i) else fd s k (nxt s (i + 1))) else ([], i)
theorem fd_enough (s : ByteArray) : ∀ (k i : Nat), s.size - i ≤ k → fd s k i = fd s (s.size - i) i := by
  intro k
  induction k using Nat.strongRecOn with
  | ind k ih =>
    intro i hk
    by_cases hi : i < s.size
    · obtain ⟨j, hj⟩ : ∃ j, s.size - i = j + 1 := ⟨s.size - i - 1, by omega⟩
      obtain ⟨k', rfl⟩ : ∃ k', k = k' + 1 := ⟨k - 1, by omega⟩
      rw [hj]
      simp only [fd, if_pos hi]
      cases hf : fr s i with
      | none =>
        have hx := nxt_le s (i + 1) (by omega)
        simp only
        rw [ih k' (by omega) (nxt s (i + 1)) (by omega), ← ih j (by omega) (nxt s (i + 1)) (by omega)]
      | some r =>
        obtain ⟨n, m⟩ := r
        obtain ⟨h1, _, _⟩ := fr_bounds hf
        simp only
        rw [ih k' (by omega) (i + n) (by omega), ← ih j (by omega) (i + n) (by omega)]
    · have h0 : s.size - i = 0 := by omega
      rw [h0]
      cases k with
      | zero => rfl
      | succ k => simp only [fd, if_neg hi]
def fdL (s : ByteArray) (i : Nat) : List Pc := (fd s (s.size - i) i).1
def fdE (s : ByteArray) (i : Nat) : Nat := (fd s (s.size - i) i).2
theorem fd_end {s : ByteArray} {i : Nat} (h : s.size ≤ i) : fdL s i = [] ∧ fdE s i = i := by
  unfold fdL fdE
  rw [show s.size - i = 0 by omega]
  exact ⟨rfl, rfl⟩
theorem fd_wait {s : ByteArray} {i : Nat} (h : bg s i = 1) : fdL s i = [] ∧ fdE s i = i := by
  unfold fdL fdE
  cases hk : s.size - i with
  | zero => exact ⟨rfl, rfl⟩
  | succ j =>
    have hf : fr s i = none := by
      cases hf : fr s i with
      | none => rfl
      | some r => have := bg_full (n := r.1) (m := r.2) hf; rw [h] at this; exact absurd this (by decide)
    simp only [fd, if_pos (show i < s.size by omega), hf, if_pos h]
    exact ⟨trivial, trivial⟩
theorem fd_some {s : ByteArray} {i n : Nat} {m : M} (hf : fr s i = some (n, m)) : fdL s i = (i, n, m) :: fdL s (i + n) ∧ fdE s i = fdE s (i + n) := by
  obtain ⟨h1, _, h3⟩ := fr_bounds hf
  unfold fdL fdE
  obtain ⟨j, hj⟩ : ∃ j, s.size - i = j + 1 := ⟨s.size - i - 1, by omega⟩
  rw [hj]
  simp only [fd, if_pos (show i < s.size by omega), hf]
  rw [fd_enough s j (i + n) (by omega)]
  exact ⟨rfl, rfl⟩
theorem fd_none {s : ByteArray} {i : Nat} (hi : i < s.size) (hf : bg s i = 0) : fdL s i = fdL s (nxt s (i + 1)) ∧ fdE s i = fdE s (nxt s (i + 1)) := by
  have hx := nxt_le s (i + 1) (by omega)
  have hn : fr s i = none := by
    cases h : fr s i with
    | none => rfl
    | some r => have := bg_full (n := r.1) (m := r.2) h; rw [hf] at this; exact absurd this (by decide)
  unfold fdL fdE
  obtain ⟨j, hj⟩ : ∃ j, s.size - i = j + 1 := ⟨s.size - i - 1, by omega⟩
  rw [hj]
  simp only [fd, if_pos hi, hn, if_neg (show ¬ bg s i = 1 by rw [hf]; decide)]
  rw [fd_enough s j (nxt s (i + 1)) (by omega)]
  exact ⟨rfl, rfl⟩
theorem fdE_le (s : ByteArray) : ∀ (k i : Nat), s.size - i ≤ k → i ≤ s.size → i ≤ fdE s i ∧ fdE s i ≤ s.size := by
  intro k
  induction k with
  | zero => intro i h hi; rw [(fd_end (show s.size ≤ i by omega)).2]; omega
  | succ k ih =>
    intro i h hi
    by_cases hl : i < s.size
    · rcases bg_cases ((bytesOf s).drop i) with hb | hb | hb
      · have hx := nxt_le s (i + 1) (by omega)
        have := ih (nxt s (i + 1)) (by omega) hx.2
        rw [(fd_none hl hb).2]; omega
      · rw [(fd_wait hb).2]; omega
      · obtain ⟨n, m, hf⟩ := bg_some (s := s) (i := i) hb
        obtain ⟨h1, _, h3⟩ := fr_bounds hf
        have := ih (i + n) (by omega) h3
        rw [(fd_some hf).2]; omega
    · rw [(fd_end (show s.size ≤ i by omega)).2]; omega
theorem fdE_bounds (s : ByteArray) (i : Nat) (h : i ≤ s.size) : i ≤ fdE s i ∧ fdE s i ≤ s.size := fdE_le s _ i (Nat.le_refl _) h
/-- the sizes of pieces, all together -/
def szs (l : List Pc) : Nat := (l.map (fun p => p.2.1)).sum
theorem szs_cons (p : Pc) (l : List Pc) : szs (p :: l) = p.2.1 + szs l := by simp [szs]
theorem szs_append (a b : List Pc) : szs (a ++ b) = szs a + szs b := by simp [szs]
theorem fd_szs (s : ByteArray) : ∀ (k i : Nat), s.size - i ≤ k → i ≤ s.size → i + szs (fdL s i) ≤ fdE s i := by
  intro k
  induction k with
  | zero => intro i h hi; rw [(fd_end (show s.size ≤ i by omega)).2, (fd_end (show s.size ≤ i by omega)).1]; simp [szs]
  | succ k ih =>
    intro i h hi
    by_cases hl : i < s.size
    · rcases bg_cases ((bytesOf s).drop i) with hb | hb | hb
      · have hx := nxt_le s (i + 1) (by omega)
        have := ih (nxt s (i + 1)) (by omega) hx.2
        rw [(fd_none hl hb).2, (fd_none hl hb).1]; omega
      · rw [(fd_wait hb).2, (fd_wait hb).1]; simp [szs]
      · obtain ⟨n, m, hf⟩ := bg_some (s := s) (i := i) hb
        obtain ⟨h1, _, h3⟩ := fr_bounds hf
        have := ih (i + n) (by omega) h3
        rw [(fd_some hf).2, (fd_some hf).1, szs_cons]; simp only; omega
    · rw [(fd_end (show s.size ≤ i by omega)).2, (fd_end (show s.size ≤ i by omega)).1]; simp [szs]
theorem fd_room (s : ByteArray) (i : Nat) (h : i ≤ s.size) : i + szs (fdL s i) ≤ fdE s i := fd_szs s _ i (Nat.le_refl _) h
theorem fd_lens (s : ByteArray) : ∀ (k i : Nat), s.size - i ≤ k → i ≤ s.size → i + 24 * (fdL s i).length ≤ fdE s i := by
  intro k
  induction k with
  | zero => intro i h hi; rw [(fd_end (show s.size ≤ i by omega)).2, (fd_end (show s.size ≤ i by omega)).1]; simp
  | succ k ih =>
    intro i h hi
    by_cases hl : i < s.size
    · rcases bg_cases ((bytesOf s).drop i) with hb | hb | hb
      · have hx := nxt_le s (i + 1) (by omega)
        have := ih (nxt s (i + 1)) (by omega) hx.2
        rw [(fd_none hl hb).2, (fd_none hl hb).1]; omega
      · rw [(fd_wait hb).2, (fd_wait hb).1]; simp
      · obtain ⟨n, m, hf⟩ := bg_some (s := s) (i := i) hb
        obtain ⟨h1, _, h3⟩ := fr_bounds hf
        have := ih (i + n) (by omega) h3
        rw [(fd_some hf).2, (fd_some hf).1, List.length_cons]; omega
    · rw [(fd_end (show s.size ≤ i by omega)).2, (fd_end (show s.size ≤ i by omega)).1]; simp
theorem fd_count (s : ByteArray) : 24 * (fdL s 0).length ≤ s.size := by
  have h1 := fd_lens s _ 0 (Nat.le_refl _) (Nat.zero_le _)
  have h2 := fdE_bounds s 0 (Nat.zero_le _)
  omega
end Go.Proofs.YtnifgokjagahfaaDoor.ReadPure

/- What a Reader tells of a stream that comes in parts is what Split tells of the whole; plain. -/
set_option linter.unusedVariables false
set_option linter.unusedSimpArgs false
namespace Go.Proofs.YtnifgokjagahfaaDoor.ReadStream
open Go.RowKit Go.Proofs.YtnifgokjagahfaaDoorW.PrintWords Go.Proofs.YtnifgokjagahfaaDoorW.PrintLast Go.Proofs.YtnifgokjagahfaaDoorW.PrintMore
open Go.Proofs.YtnifgokjagahfaaDoor.Base Go.Proofs.YtnifgokjagahfaaDoor.Layouts Go.Proofs.YtnifgokjagahfaaDoor.Msg Go.Proofs.YtnifgokjagahfaaDoor.Put Go.Proofs.YtnifgokjagahfaaDoor.EncPure Go.Proofs.YtnifgokjagahfaaDoor.DecPure Go.Proofs.YtnifgokjagahfaaDoor.Num Go.Proofs.YtnifgokjagahfaaDoor.Mids Go.Proofs.YtnifgokjagahfaaDoor.Beg Go.Proofs.YtnifgokjagahfaaDoor.Frm Go.Proofs.YtnifgokjagahfaaDoor.Next Go.Proofs.YtnifgokjagahfaaDoor.SplitPure Go.Proofs.YtnifgokjagahfaaDoor.ReadPure
theorem data_append (s X : ByteArray) : (s ++ X).data.toList = s.data.toList ++ X.data.toList := by
  rw [ByteArray.data_append, Array.toList_append]
theorem ext_list {a b : ByteArray} (h : a.data.toList = b.data.toList) : a = b := ByteArray.ext (Array.ext' h)
theorem bytesOf_append (s X : ByteArray) : bytesOf (s ++ X) = bytesOf s ++ bytesOf X := by
  unfold bytesOf
  rw [data_append, List.map_append]
theorem drop_append (s X : ByteArray) (i : Nat) (h : i ≤ s.size) : (bytesOf (s ++ X)).drop i = (bytesOf s).drop i ++ bytesOf X := by
  rw [bytesOf_append, List.drop_append_of_le_length (by rw [bytesOf_length]; exact h)]
theorem fr_append {s : ByteArray} (X : ByteArray) {i : Nat} {r : Nat × M} (hi : i ≤ s.size) (h : fr s i = some r) : fr (s ++ X) i = some r := by
  unfold fr
  rw [drop_append s X i hi]
  exact frm_append _ (byt_at s i) h
theorem fr_refused {s : ByteArray} (X : ByteArray) {i : Nat} (hi : i ≤ s.size) (h : bg s i = 0) : fr (s ++ X) i = none := by
  unfold fr
  rw [drop_append s X i hi]
  exact refused _ (byt_at s i) (byt_bytesOf X) h
theorem skip_ne : ∀ (l : List UInt8) (j : Nat), j < skip l → ∃ b, l[j]? = some b ∧ b ≠ 71 := by
  intro l
  induction l with
  | nil => intro j h; simp [skip] at h
  | cons b l ih =>
    intro j h
    unfold skip at h
    by_cases hb : (b == 71) = true
    · rw [if_pos hb] at h; omega
    · rw [if_neg hb] at h
      cases j with
      | zero => exact ⟨b, rfl, fun e => hb (beq_iff_eq.2 e)⟩
      | succ j => exact ih j (by omega)
theorem nxt_gap {s : ByteArray} (X : ByteArray) {a j : Nat} (ha : a ≤ j) (h : j < nxt s a) (hs : a ≤ s.size) : fr (s ++ X) j = none := by
  have hle := nxt_le s a hs
  unfold nxt at h
  obtain ⟨b, hb, hne⟩ := skip_ne (s.data.toList.drop a) (j - a) (by omega)
  rw [List.getElem?_drop, show a + (j - a) = j by omega] at hb
  cases hf : fr (s ++ X) j with
  | none => rfl
  | some r =>
    exfalso
    obtain ⟨n, m⟩ := r
    have hj : j < s.size := by unfold nxt at hle; omega
    have hjx : j < (s ++ X).size := by rw [ByteArray.size_append]; omega
    have h71 := fr_byte hjx hf
    have e : (s ++ X).data.toList[j]? = some ((s ++ X)[j]'hjx) := by
      rw [List.getElem?_eq_getElem (by rw [data_length]; exact hjx)]
      rfl
    rw [data_append, List.getElem?_append_left (by rw [data_length]; exact hj), hb] at e
    simp only [Option.some.injEq] at e
    rw [← e] at h71
    exact hne (UInt8.toNat_inj.1 h71)
theorem pcs_skip {t : ByteArray} : ∀ (k a c : Nat), c - a ≤ k → a ≤ c → c ≤ t.size → (∀ j, a ≤ j → j < c → fr t j = none) → pcs t a = pcs t c := by
  intro k
  induction k with
  | zero => intro a c h h1 _ _; rw [show a = c by omega]
  | succ k ih =>
    intro a c h h1 h2 hz
    by_cases e : a = c
    · rw [e]
    · rw [pcs_none (by omega) (hz a (Nat.le_refl _) (by omega)), ih (a + 1) c (by omega) (by omega) h2 (fun j h3 h4 => hz j (by omega) h4)]
theorem feed_pcs (s X : ByteArray) : ∀ (k i : Nat), s.size - i ≤ k → i ≤ s.size → pcs (s ++ X) i = fdL s i ++ pcs (s ++ X) (fdE s i) := by
  intro k
  induction k with
  | zero => intro i h hi; rw [(fd_end (show s.size ≤ i by omega)).1, (fd_end (show s.size ≤ i by omega)).2]; rfl
  | succ k ih =>
    intro i h hi
    by_cases hl : i < s.size
    · rcases bg_cases ((bytesOf s).drop i) with hb | hb | hb
      · have hx := nxt_le s (i + 1) (by omega)
        rw [(fd_none hl hb).1, (fd_none hl hb).2, ← ih (nxt s (i + 1)) (by omega) hx.2]
        rw [pcs_none (by rw [ByteArray.size_append]; omega) (fr_refused X hi hb)]
        exact pcs_skip _ _ _ (Nat.le_refl _) hx.1 (by rw [ByteArray.size_append]; omega) (fun j h1 h2 => nxt_gap X h1 h2 (by omega))
      · rw [(fd_wait hb).1, (fd_wait hb).2]; rfl
      · obtain ⟨n, m, hf⟩ := bg_some (s := s) (i := i) hb
        obtain ⟨h1, _, h3⟩ := fr_bounds hf
        rw [(fd_some hf).1, (fd_some hf).2, pcs_some (fr_append X hi hf), ih (i + n) (by omega) h3]
        rfl
    · rw [(fd_end (show s.size ≤ i by omega)).1, (fd_end (show s.size ≤ i by omega)).2]; rfl
/-- pieces, so many places further on -/
def sh (p : Nat) (l : List Pc) : List Pc := l.map (fun x => (p + x.1, x.2))
theorem sh_append (p : Nat) (a b : List Pc) : sh p (a ++ b) = sh p a ++ sh p b := by simp [sh]
theorem szs_sh (p : Nat) (l : List Pc) : szs (sh p l) = szs l := by simp [szs, sh, Function.comp_def]
def msgs (l : List Pc) : List M := l.map (fun x => x.2.2)
theorem msgs_sh (p : Nat) (l : List Pc) : msgs (sh p l) = msgs l := by simp [msgs, sh, Function.comp_def]
theorem msgs_append (a b : List Pc) : msgs (a ++ b) = msgs a ++ msgs b := by simp [msgs]
theorem tail_size (t : ByteArray) (p : Nat) (h : p ≤ t.size) : (t.extract p t.size).size = t.size - p := by rw [ByteArray.size_extract]; omega
theorem fr_shift (t : ByteArray) (p i : Nat) (h : p ≤ t.size) : fr (t.extract p t.size) i = fr t (p + i) := by
  unfold fr
  rw [drop_bytesOf t p h, List.drop_drop]
theorem pcs_shift (t : ByteArray) (p : Nat) (h : p ≤ t.size) : ∀ (k i : Nat), t.size - p - i ≤ k → pcs t (p + i) = sh p (pcs (t.extract p t.size) i) := by
  intro k
  have hz := tail_size t p h
  induction k with
  | zero => intro i hk; rw [pcs_end (by omega), pcs_end (by omega)]; rfl
  | succ k ih =>
    intro i hk
    by_cases hi : i < t.size - p
    · cases hf : fr t (p + i) with
      | none =>
        have hf' : fr (t.extract p t.size) i = none := by rw [fr_shift t p i h]; exact hf
        have e1 := pcs_none (by omega) hf
        have e2 := pcs_none (by omega) hf'
        rw [e1, e2, ← ih (i + 1) (by omega)]
        rfl
      | some r =>
        obtain ⟨n, m⟩ := r
        obtain ⟨h1, _, h3⟩ := fr_bounds hf
        rw [pcs_some hf, pcs_some (s := t.extract p t.size) (by rw [fr_shift t p i h]; exact hf)]
        have := ih (i + n) (by omega)
        rw [show p + i + n = p + (i + n) by omega, this]
        rfl
    · rw [pcs_end (by omega), pcs_end (by omega)]; rfl
theorem pcs_tail (t : ByteArray) (p i : Nat) (h : p ≤ t.size) : pcs t (p + i) = sh p (pcs (t.extract p t.size) i) := pcs_shift t p h _ i (Nat.le_refl _)
theorem tail_append (W s : ByteArray) (p : Nat) (h : p ≤ W.size) : (W ++ s).extract p (W ++ s).size = W.extract p W.size ++ s := by
  apply ext_list
  rw [extract_list, data_append, data_append, extract_list, List.drop_append_of_le_length (by rw [data_length]; exact h)]
theorem tail_tail (t : ByteArray) (p q : Nat) : (t.extract p t.size).extract q (t.extract p t.size).size = t.extract (p + q) t.size := by
  apply ext_list
  rw [extract_list, extract_list, extract_list, List.drop_drop]
theorem append_assoc' (a b c : ByteArray) : a ++ b ++ c = a ++ (b ++ c) := by
  apply ext_list
  simp only [data_append, List.append_assoc]
theorem append_nil' (a : ByteArray) : a ++ ByteArray.empty = a := by
  apply ext_list
  rw [data_append]
  exact List.append_nil _
/-- so far a stream W has come; the pieces pre were told; behind the place p it is held -/
structure Fed (W : ByteArray) (pre : List Pc) (p : Nat) : Prop where mk ::
  (le : p ≤ W.size) (room : szs pre ≤ p) (all : ∀ X, pcs (W ++ X) 0 = pre ++ pcs (W ++ X) p)
theorem Fed.init : Fed ByteArray.empty [] 0 := ⟨Nat.le_refl _, Nat.le_refl _, fun _ => rfl⟩
theorem Fed.step {W : ByteArray} {pre : List Pc} {p : Nat} (h : Fed W pre p) (s : ByteArray) :
    Fed (W ++ s) (pre ++ sh p (fdL (W.extract p W.size ++ s) 0)) (p + fdE (W.extract p W.size ++ s) 0) := by
  have hb := fdE_bounds (W.extract p W.size ++ s) 0 (Nat.zero_le _)
  have hr := fd_room (W.extract p W.size ++ s) 0 (Nat.zero_le _)
  rw [ByteArray.size_append, tail_size W p h.le] at hb
  refine ⟨by rw [ByteArray.size_append]; have := h.le; omega, by rw [szs_append, szs_sh]; have := h.room; omega, fun X => ?_⟩
  have e1 : pcs (W ++ s ++ X) p = sh p (pcs (W.extract p W.size ++ s ++ X) 0) := by
    have h1 := pcs_tail (W ++ s ++ X) p 0 (by rw [ByteArray.size_append, ByteArray.size_append]; have := h.le; omega)
    rw [append_assoc', tail_append W (s ++ X) p h.le, ← append_assoc'] at h1
    rw [← append_assoc'] at h1
    exact h1
  have e2 : pcs (W ++ s ++ X) (p + fdE (W.extract p W.size ++ s) 0) = sh p (pcs (W.extract p W.size ++ s ++ X) (fdE (W.extract p W.size ++ s) 0)) := by
    have h1 := pcs_tail (W ++ s ++ X) p (fdE (W.extract p W.size ++ s) 0) (by rw [ByteArray.size_append, ByteArray.size_append]; have := h.le; omega)
    rw [append_assoc' W s X, tail_append W (s ++ X) p h.le, ← append_assoc', ← append_assoc'] at h1
    exact h1
  have h0 := h.all (s ++ X)
  rw [← append_assoc'] at h0
  rw [h0, e1, feed_pcs (W.extract p W.size ++ s) X _ 0 (Nat.le_refl _) (Nat.zero_le _), sh_append, ← e2, List.append_assoc]
theorem Fed.held {W : ByteArray} {pre : List Pc} {p : Nat} (h : Fed W pre p) (s : ByteArray) :
    (W.extract p W.size ++ s).extract (fdE (W.extract p W.size ++ s) 0) (W.extract p W.size ++ s).size = (W ++ s).extract (p + fdE (W.extract p W.size ++ s) 0) (W ++ s).size := by
  rw [← tail_append W s p h.le, tail_tail]
theorem Fed.close {W : ByteArray} {pre : List Pc} {p : Nat} (h : Fed W pre p) : pcs W 0 = pre ++ sh p (pcs (W.extract p W.size) 0) := by
  have h0 := h.all ByteArray.empty
  rw [append_nil'] at h0
  rw [h0, ← pcs_tail W p 0 h.le]
  rfl
/-- pieces lie within their text -/
theorem pcs_szs (s : ByteArray) : ∀ (k i : Nat), s.size - i ≤ k → szs (pcs s i) ≤ s.size - i := by
  intro k
  induction k with
  | zero => intro i h; rw [pcs_end (by omega)]; exact Nat.zero_le _
  | succ k ih =>
    intro i h
    by_cases hi : i < s.size
    · cases hf : fr s i with
      | none => rw [pcs_none hi hf]; have := ih (i + 1) (by omega); omega
      | some r =>
        obtain ⟨n, m⟩ := r
        obtain ⟨h1, _, h3⟩ := fr_bounds hf
        rw [pcs_some hf, szs_cons]
        have := ih (i + n) (by omega)
        simp only
        omega
    · rw [pcs_end (by omega)]; exact Nat.zero_le _
end Go.Proofs.YtnifgokjagahfaaDoor.ReadStream

/- A fresh message box that is stored into; small sums. -/
set_option linter.unusedVariables false
set_option linter.unusedSimpArgs false
namespace Go.Proofs.YtnifgokjagahfaaDoor.Zeros
open Go.RowKit Go.Proofs.YtnifgokjagahfaaDoorW.PrintWords Go.Proofs.YtnifgokjagahfaaDoorW.PrintLast Go.Proofs.YtnifgokjagahfaaDoorW.PrintMore
open Go.Proofs.YtnifgokjagahfaaDoor.Base Go.Proofs.YtnifgokjagahfaaDoor.Layouts Go.Proofs.YtnifgokjagahfaaDoor.Msg Go.Proofs.YtnifgokjagahfaaDoor.Put Go.Proofs.YtnifgokjagahfaaDoor.EncPure Go.Proofs.YtnifgokjagahfaaDoor.DecPure Go.Proofs.YtnifgokjagahfaaDoor.Mids
open Go.Proofs.YtnifgokjagahfaaDoor.Dec (mL_one)
theorem wadd (a b : Nat) (h : a + b ≤ 9223372036854775807) : wrap64 ((a : Int) + (b : Int)) = ((a + b : Nat) : Int) := by rw [w64 _ (by omega) (by omega)]; omega
theorem wsub (a b : Nat) (h : b ≤ a) (h2 : a ≤ 9223372036854775807) : wrap64 ((a : Int) - (b : Int)) = ((a - b : Nat) : Int) := by rw [w64 _ (by omega) (by omega)]; omega
theorem zeros_new (W : World) (m : M) : MBox ((W.alloc (.cells #[.int .i64 0, .int .i64 0, .int .i64 0, .int .i64 0, .int .i64 0, .int .i64 0, .int .i64 0, .int .i64 0, .int .i64 0, .string { data := #[] }, .string { data := #[] }] 24)).setCells W.heap.size 0 (mL m)) W.heap.size m :=
  ⟨setCells_whole (old := mL zeroM) (Go.heap_alloc_new W _) rfl, by rw [setCells_size]; simp⟩
theorem zeros_there (W : World) : (W.alloc (.cells #[.int .i64 0, .int .i64 0, .int .i64 0, .int .i64 0, .int .i64 0, .int .i64 0, .int .i64 0, .int .i64 0, .int .i64 0, .string { data := #[] }, .string { data := #[] }] 24)).there W.heap.size 0 11 :=
  blk_there (cs := mL zeroM) (Go.heap_alloc_new W _)
theorem zeros_below (W : World) (m : M) : Below W.heap.size W ((W.alloc (.cells #[.int .i64 0, .int .i64 0, .int .i64 0, .int .i64 0, .int .i64 0, .int .i64 0, .int .i64 0, .int .i64 0, .int .i64 0, .string { data := #[] }, .string { data := #[] }] 24)).setCells W.heap.size 0 (mL m)) :=
  below_setCells ((Below.refl _ _).alloc (Nat.le_refl _) _) (Nat.le_refl _) _ _
theorem whole_size (m : M) (vm : vB m = true) (km : 1 ≤ m.kind ∧ m.kind < 17) : 24 ≤ (strOfNums (whole m)).size ∧ (strOfNums (whole m)).size ≤ 4407 := by
  have := body_length_le m vm km
  rw [strOfNums_size, whole_length]
  omega
end Go.Proofs.YtnifgokjagahfaaDoor.Zeros

/- A stream of frames with litter between: what Split tells of it, and what a Reader has told when a part has come; plain. -/
set_option linter.unusedVariables false
set_option linter.unusedSimpArgs false
namespace Go.Proofs.YtnifgokjagahfaaDoor.StreamPure
open Go.RowKit Go.Proofs.YtnifgokjagahfaaDoorW.PrintWords Go.Proofs.YtnifgokjagahfaaDoorW.PrintLast Go.Proofs.YtnifgokjagahfaaDoorW.PrintMore
open Go.Proofs.YtnifgokjagahfaaDoor.Base Go.Proofs.YtnifgokjagahfaaDoor.Layouts Go.Proofs.YtnifgokjagahfaaDoor.Msg Go.Proofs.YtnifgokjagahfaaDoor.Put Go.Proofs.YtnifgokjagahfaaDoor.EncPure Go.Proofs.YtnifgokjagahfaaDoor.DecPure Go.Proofs.YtnifgokjagahfaaDoor.Num Go.Proofs.YtnifgokjagahfaaDoor.Mids Go.Proofs.YtnifgokjagahfaaDoor.Beg Go.Proofs.YtnifgokjagahfaaDoor.Frm Go.Proofs.YtnifgokjagahfaaDoor.Next Go.Proofs.YtnifgokjagahfaaDoor.SplitPure Go.Proofs.YtnifgokjagahfaaDoor.ReadPure Go.Proofs.YtnifgokjagahfaaDoor.ReadStream
/-- the frame of a message -/
def frame (m : M) : ByteArray := strOfNums (whole m)
theorem frm_whole (m : M) (vm : vB m = true) (km : 1 ≤ m.kind ∧ m.kind < 17) : frm (whole m) = some ((frame m).size, m) := by
  have hd := dec_whole m vm km
  have hl : (whole m).length = (frame m).size := by unfold frame; rw [strOfNums_size]
  have h1 := Zeros.whole_size m vm km
  have h24 : 24 ≤ (whole m).length := by rw [hl]; exact h1.1
  have hbody : 24 + bodyN (whole m) = ((whole m).length : Int) ∧ bodyN (whole m) ≤ 4383 := by
    have h2 : (decP (whole m)).2 = 0 := by rw [hd]
    unfold decP at h2
    by_cases c4 : 4383 < bodyN (whole m) ∨ 24 + bodyN (whole m) ≠ (whole m).length
    · rw [if_pos c4] at h2
      repeat' split at h2
      all_goals exact absurd h2 (by decide)
    · omega
  unfold frm
  have ht : (24 + bodyN (whole m)).toNat = (whole m).length := by omega
  rw [ht, List.take_length, hd, if_pos ⟨by omega, hbody.2, by omega, rfl⟩, hl]
theorem bytes_frame (m : M) (km : 1 ≤ m.kind ∧ m.kind < 17) : bytesOf (frame m) = whole m := bytesOf_strOfNums _ (byt_whole _ km)
/-- a message that may be sent -/
def Good (m : M) : Prop := vB m = true ∧ 1 ≤ m.kind ∧ m.kind < 17
/-- no byte 71 -/
def Clear (s : ByteArray) : Prop := ∀ b ∈ s.data.toList, b ≠ 71
theorem fr_mid (W X : ByteArray) (m : M) (h : Good m) : fr (W ++ frame m ++ X) W.size = some ((frame m).size, m) := by
  have e : (bytesOf (W ++ frame m ++ X)).drop W.size = whole m ++ bytesOf X := by
    rw [append_assoc', bytesOf_append, bytesOf_append, List.drop_append_of_le_length (by rw [bytesOf_length]; exact Nat.le_refl _), List.drop_of_length_le (by rw [bytesOf_length]; exact Nat.le_refl _), List.nil_append, bytes_frame m h.2]
  unfold fr
  rw [e]
  exact frm_append _ (byt_whole _ h.2) (frm_whole m h.1 h.2)
theorem byte_none {t : ByteArray} {j : Nat} (hj : j < t.size) (h : t[j]'hj ≠ 71) : fr t j = none := by
  cases hf : fr t j with
  | none => rfl
  | some r =>
    obtain ⟨n, m⟩ := r
    exact absurd (UInt8.toNat_inj.1 (fr_byte hj hf)) h
theorem byte_at {t : ByteArray} {j : Nat} (hj : j < t.size) : t.data.toList[j]? = some (t[j]'hj) := by
  rw [List.getElem?_eq_getElem (by rw [data_length]; exact hj)]
  rfl
/-- the bytes of the middle part of three -/
theorem mid_clear (W l X : ByteArray) (hl : Clear l) (j : Nat) (h1 : W.size ≤ j) (h2 : j < W.size + l.size) (hj : j < (W ++ l ++ X).size) : (W ++ l ++ X)[j]'hj ≠ 71 := by
  have e := byte_at hj
  generalize (W ++ l ++ X)[j]'hj = v at e ⊢
  rw [append_assoc', data_append, data_append, List.getElem?_append_right (by rw [data_length]; exact h1), data_length, List.getElem?_append_left (by rw [data_length]; omega)] at e
  exact hl _ (List.mem_of_getElem? e)
/-- from a place on: litter and frames, by turns -/
inductive Cl (t : ByteArray) : Nat → Prop
  | done {a : Nat} (h : ∀ j (hj : j < t.size), a ≤ j → t[j]'hj ≠ 71) : Cl t a
  | item {a b n : Nat} {m : M} (hab : a ≤ b) (h : ∀ j (hj : j < t.size), a ≤ j → j < b → t[j]'hj ≠ 71) (hf : fr t b = some (n, m)) (r : Cl t (b + n)) : Cl t a
theorem pcs_ge (t : ByteArray) : ∀ (k a : Nat), t.size - a ≤ k → ∀ x ∈ pcs t a, a ≤ x.1 := by
  intro k
  induction k with
  | zero => intro a h x hx; rw [pcs_end (by omega)] at hx; cases hx
  | succ k ih =>
    intro a h x hx
    by_cases hi : a < t.size
    · cases hf : fr t a with
      | none => rw [pcs_none hi hf] at hx; have := ih (a + 1) (by omega) x hx; omega
      | some r =>
        obtain ⟨n, m⟩ := r
        obtain ⟨h1, _, h3⟩ := fr_bounds hf
        rw [pcs_some hf] at hx
        rcases List.mem_cons.1 hx with e | e
        · subst e; exact Nat.le_refl _
        · have := ih (a + n) (by omega) x e; omega
    · rw [pcs_end (by omega)] at hx; cases hx
theorem pcs_from {t : ByteArray} {a : Nat} {x : Pc} (h : x ∈ pcs t a) : a ≤ x.1 := pcs_ge t _ a (Nat.le_refl _) x h
theorem pcs_gap {t : ByteArray} {a b : Nat} (hab : a ≤ b) (hb : b ≤ t.size) (h : ∀ j (hj : j < t.size), a ≤ j → j < b → t[j]'hj ≠ 71) : pcs t a = pcs t b :=
  pcs_skip _ a b (Nat.le_refl _) hab hb (fun j h1 h2 => byte_none (by omega) (h j (by omega) h1 h2))
/-- a place between the pieces that holds a 71 begins a frame -/
theorem cl_between {t : ByteArray} {a : Nat} (c : Cl t a) : ∀ (p : Nat) (pre : List Pc), a ≤ p → (∀ x ∈ pre, x.1 + x.2.1 ≤ p) → pcs t a = pre ++ pcs t p → ∀ (hp : p < t.size), t[p]'hp = 71 → fr t p ≠ none := by
  induction c with
  | done h => intro p pre hap _ _ hp h71; exact absurd h71 (h p hp hap)
  | @item a b n m hab h hf r ih =>
    intro p pre hap hpre he hp h71
    have hbd := fr_bounds hf
    rw [pcs_gap hab (by omega) h, pcs_some hf] at he
    cases pre with
    | nil =>
      rw [List.nil_append] at he
      have hx : (b, n, m) ∈ pcs t p := by rw [← he]; exact List.mem_cons_self
      have hpb := pcs_from hx
      simp only at hpb
      by_cases e : p = b
      · subst e; rw [hf]; exact Option.some_ne_none _
      · exact absurd h71 (h p hp hap (by omega))
    | cons x pre =>
      rw [List.cons_append, List.cons.injEq] at he
      obtain ⟨rfl, he⟩ := he
      have := hpre _ List.mem_cons_self
      simp only at this
      exact ih p pre (by omega) (fun y hy => hpre y (List.mem_cons_of_mem _ hy)) he hp h71
/-- how a Feed leaves off: all is read, or what is held may begin a frame -/
theorem fdE_wait (s : ByteArray) : ∀ (k i : Nat), s.size - i ≤ k → i ≤ s.size → fdE s i = s.size ∨ bg s (fdE s i) = 1 := by
  intro k
  induction k with
  | zero => intro i h hi; rw [(fd_end (show s.size ≤ i by omega)).2]; left; omega
  | succ k ih =>
    intro i h hi
    by_cases hl : i < s.size
    · rcases bg_cases ((bytesOf s).drop i) with hb | hb | hb
      · have hx := nxt_le s (i + 1) (by omega)
        rw [(fd_none hl hb).2]
        exact ih _ (by omega) hx.2
      · rw [(fd_wait hb).2]; right; exact hb
      · obtain ⟨n, m, hf⟩ := bg_some (s := s) (i := i) hb
        obtain ⟨h1, _, h3⟩ := fr_bounds hf
        rw [(fd_some hf).2]
        exact ih _ (by omega) h3
    · rw [(fd_end (show s.size ≤ i by omega)).2]; left; omega
theorem bg_tail (t : ByteArray) (p i : Nat) (h : p ≤ t.size) : bg (t.extract p t.size) i = bg t (p + i) := by
  unfold bg
  rw [drop_bytesOf t p h, List.drop_drop]
/-- what is told ends where the held part begins -/
theorem fd_ends (s : ByteArray) : ∀ (k i : Nat), s.size - i ≤ k → i ≤ s.size → ∀ x ∈ fdL s i, x.1 + x.2.1 ≤ fdE s i := by
  intro k
  induction k with
  | zero => intro i h hi x hx; rw [(fd_end (show s.size ≤ i by omega)).1] at hx; cases hx
  | succ k ih =>
    intro i h hi x hx
    by_cases hl : i < s.size
    · rcases bg_cases ((bytesOf s).drop i) with hb | hb | hb
      · have hn := nxt_le s (i + 1) (by omega)
        rw [(fd_none hl hb).1] at hx
        rw [(fd_none hl hb).2]
        exact ih _ (by omega) hn.2 x hx
      · rw [(fd_wait hb).1] at hx; cases hx
      · obtain ⟨n, m, hf⟩ := bg_some (s := s) (i := i) hb
        obtain ⟨h1, _, h3⟩ := fr_bounds hf
        rw [(fd_some hf).1] at hx
        rw [(fd_some hf).2]
        rcases List.mem_cons.1 hx with e | e
        · subst e; exact (fdE_bounds s (i + n) h3).1
        · exact ih _ (by omega) h3 x e
    · rw [(fd_end (show s.size ≤ i by omega)).1] at hx; cases hx
/-- Fed, and how it was left -/
structure Fed2 (W : ByteArray) (pre : List Pc) (p : Nat) : Prop extends Fed W pre p where
  (wait : p = W.size ∨ bg W p = 1) (ends : ∀ x ∈ pre, x.1 + x.2.1 ≤ p)
theorem Fed2.init : Fed2 ByteArray.empty [] 0 := ⟨Fed.init, .inl rfl, fun x hx => by cases hx⟩
theorem Fed2.step {W : ByteArray} {pre : List Pc} {p : Nat} (h : Fed2 W pre p) (s : ByteArray) :
    Fed2 (W ++ s) (pre ++ sh p (fdL (W.extract p W.size ++ s) 0)) (p + fdE (W.extract p W.size ++ s) 0) := by
  have hts := tail_append W s p h.le
  have hle := h.le
  refine ⟨h.toFed.step s, ?_, ?_⟩
  · rcases fdE_wait (W.extract p W.size ++ s) _ 0 (Nat.le_refl _) (Nat.zero_le _) with e | e
    · left; rw [e, ByteArray.size_append, ByteArray.size_append, tail_size W p h.le]; omega
    · right
      rw [← hts, bg_tail (W ++ s) p _ (by rw [ByteArray.size_append]; omega)] at e
      rw [← hts]
      exact e
  · intro x hx
    rcases List.mem_append.1 hx with hx | hx
    · have := h.ends x hx; omega
    · unfold sh at hx
      obtain ⟨y, hy, rfl⟩ := List.mem_map.1 hx
      have := fd_ends _ _ 0 (Nat.le_refl _) (Nat.zero_le _) y hy
      simp only
      omega
theorem fr_prefix {W X : ByteArray} {p n : Nat} {m : M} (h : fr (W ++ X) p = some (n, m)) (hp : p + n ≤ W.size) : fr W p = some (n, m) := by
  have hpw : p ≤ W.size := by omega
  have hbx : Byt ((bytesOf (W ++ X)).drop p) := byt_at _ _
  have hn0 : 0 ≤ bodyN ((bytesOf (W ++ X)).drop p) := val_nonneg _ (byt_take (byt_drop hbx _) _)
  unfold fr at h ⊢
  rw [drop_append W X p hpw] at h hn0
  have hL : ((bytesOf W).drop p).length = W.size - p := by rw [List.length_drop, bytesOf_length]
  generalize (bytesOf W).drop p = L at h hL hn0
  unfold frm at h
  split at h
  · rename_i hc
    obtain ⟨c1, c2, c3, c4⟩ := hc
    simp only [Option.some.injEq, Prod.mk.injEq] at h
    obtain ⟨h1, h2⟩ := h
    have hB := bodyN_append L (bytesOf X) (by omega)
    rw [hB] at c2 c3 c4 h1 h2 hn0
    have hT : (L ++ bytesOf X).take (24 + bodyN L).toNat = L.take (24 + bodyN L).toNat := List.take_append_of_le_length (by omega)
    rw [hT] at c4 h2
    unfold frm
    rw [if_pos ⟨by omega, c2, by omega, c4⟩, h2, h1]
  · cases h
theorem wait_byte {s : ByteArray} {i : Nat} (hi : i < s.size) (h : bg s i = 1) : s[i]'hi = 71 := by
  have hL : ((bytesOf s).drop i).length = s.size - i := by rw [List.length_drop, bytesOf_length]
  have hp : pre3 ((bytesOf s).drop i) = true := by
    unfold bg begP at h
    cases hq : pre3 ((bytesOf s).drop i) with
    | true => rfl
    | false => rw [hq, if_pos rfl] at h; exact absurd h (by decide)
  unfold pre3 at hp
  have hp := of_decide_eq_true hp
  have h0 : ((bytesOf s).drop i)[0]? = some 71 := by
    have h1 : 0 < min ((bytesOf s).drop i).length 3 := by omega
    have h2 := congrArg (·[0]?) hp
    simp only [List.getElem?_take_of_lt h1] at h2
    rw [h2]
    rfl
  rw [List.getElem?_drop, bytesOf, List.getElem?_map, Nat.add_zero, byte_at hi] at h0
  simp only [Option.map_some, Option.some.injEq] at h0
  exact UInt8.toNat_inj.1 (by have : (71 : UInt8).toNat = 71 := rfl; omega)
/-- the next piece has not wholly come -/
theorem next_late {W X : ByteArray} {pre : List Pc} {p : Nat} (h : Fed2 W pre p) (c : Cl (W ++ X) 0) {x : Pc} {rest : List Pc} (hx : pcs (W ++ X) p = x :: rest) : W.size < x.1 + x.2.1 := by
  have hle := h.le
  have hxm : x ∈ pcs (W ++ X) p := by rw [hx]; exact List.mem_cons_self
  have hxp := pcs_from hxm
  have h24 : 24 ≤ x.2.1 := by
    have := pcs_len (W ++ X) _ p (Nat.le_refl _)
    clear this
    have key : ∀ (k a : Nat), (W ++ X).size - a ≤ k → ∀ y ∈ pcs (W ++ X) a, 24 ≤ y.2.1 := by
      intro k
      induction k with
      | zero => intro a h y hy; rw [pcs_end (by omega)] at hy; cases hy
      | succ k ih =>
        intro a h y hy
        by_cases hi : a < (W ++ X).size
        · cases hf : fr (W ++ X) a with
          | none => rw [pcs_none hi hf] at hy; exact ih (a + 1) (by omega) y hy
          | some r =>
            obtain ⟨n, m⟩ := r
            obtain ⟨h1, _, h3⟩ := fr_bounds hf
            rw [pcs_some hf] at hy
            rcases List.mem_cons.1 hy with e | e
            · subst e; exact h1
            · exact ih (a + n) (by omega) y e
        · rw [pcs_end (by omega)] at hy; cases hy
    exact key _ p (Nat.le_refl _) x hxm
  by_cases hpe : p = W.size
  · omega
  have hpl : p < W.size := by omega
  have e := h.wait.resolve_left hpe
  have hpx : p < (W ++ X).size := by rw [ByteArray.size_append]; omega
  have h71 := wait_byte hpl e
  have hb : (W ++ X)[p]'hpx = W[p]'hpl := by
    have e1 := byte_at hpx
    have e2 := byte_at hpl
    generalize (W ++ X)[p]'hpx = v at e1 ⊢
    rw [data_append, List.getElem?_append_left (by rw [data_length]; exact hpl), e2] at e1
    exact (Option.some.inj e1).symm
  have hne := cl_between c p pre (Nat.zero_le _) h.ends (h.all X) hpx (by rw [hb]; exact h71)
  cases hf : fr (W ++ X) p with
  | none => exact absurd hf hne
  | some r =>
    obtain ⟨n, m⟩ := r
    rw [pcs_some hf, List.cons.injEq] at hx
    obtain ⟨rfl, _⟩ := hx
    simp only
    rcases Nat.lt_or_ge W.size (p + n) with h1 | h1
    · exact h1
    · have := bg_full (fr_prefix hf h1)
      rw [e] at this
      exact absurd this (by decide)
end Go.Proofs.YtnifgokjagahfaaDoor.StreamPure

/- The stream that FrameStream lays; plain. -/
set_option linter.unusedVariables false
set_option linter.unusedSimpArgs false
namespace Go.Proofs.YtnifgokjagahfaaDoor.StreamPure
open Go.RowKit Go.Proofs.YtnifgokjagahfaaDoorW.PrintWords Go.Proofs.YtnifgokjagahfaaDoorW.PrintLast Go.Proofs.YtnifgokjagahfaaDoorW.PrintMore
open Go.Proofs.YtnifgokjagahfaaDoor.Base Go.Proofs.YtnifgokjagahfaaDoor.Layouts Go.Proofs.YtnifgokjagahfaaDoor.Msg Go.Proofs.YtnifgokjagahfaaDoor.Put Go.Proofs.YtnifgokjagahfaaDoor.EncPure Go.Proofs.YtnifgokjagahfaaDoor.DecPure Go.Proofs.YtnifgokjagahfaaDoor.Num Go.Proofs.YtnifgokjagahfaaDoor.Mids Go.Proofs.YtnifgokjagahfaaDoor.Beg Go.Proofs.YtnifgokjagahfaaDoor.Frm Go.Proofs.YtnifgokjagahfaaDoor.Next Go.Proofs.YtnifgokjagahfaaDoor.SplitPure Go.Proofs.YtnifgokjagahfaaDoor.ReadPure Go.Proofs.YtnifgokjagahfaaDoor.ReadStream
/-- a message and the litter ahead of it -/
abbrev It := M × ByteArray
def GoodIt (x : It) : Prop := Good x.1 ∧ Clear x.2
def stF (W : ByteArray) (l : List It) : ByteArray := l.foldl (fun a x => a ++ x.2 ++ frame x.1) W
/-- the pieces from a place on -/
def ex : Nat → List It → List Pc
  | _, [] => []
  | a, x :: r => (a + x.2.size, (frame x.1).size, x.1) :: ex (a + x.2.size + (frame x.1).size) r
theorem stF_starts : ∀ (l : List It) (W : ByteArray), ∃ Y, stF W l = W ++ Y := by
  intro l
  unfold stF
  induction l with
  | nil => intro W; exact ⟨ByteArray.empty, (append_nil' W).symm⟩
  | cons x l ih =>
    intro W
    obtain ⟨Y, hY⟩ := ih (W ++ x.2 ++ frame x.1)
    exact ⟨x.2 ++ frame x.1 ++ Y, by rw [List.foldl_cons, hY, append_assoc' W, append_assoc', append_assoc' x.2]⟩
theorem stF_all (tl : ByteArray) (ht : Clear tl) : ∀ (l : List It) (W : ByteArray), (∀ x ∈ l, GoodIt x) → pcs (stF W l ++ tl) W.size = ex W.size l ∧ Cl (stF W l ++ tl) W.size := by
  intro l
  induction l with
  | nil =>
    intro W _
    show pcs (W ++ tl) W.size = [] ∧ Cl (W ++ tl) W.size
    have hc : ∀ j (hj : j < (W ++ tl).size), W.size ≤ j → (W ++ tl)[j]'hj ≠ 71 := by
      intro j hj h1
      have e := byte_at hj
      generalize (W ++ tl)[j]'hj = v at e ⊢
      rw [data_append, List.getElem?_append_right (by rw [data_length]; exact h1)] at e
      exact ht _ (List.mem_of_getElem? e)
    refine ⟨?_, Cl.done hc⟩
    rw [pcs_gap (b := (W ++ tl).size) (by rw [ByteArray.size_append]; omega) (Nat.le_refl _) (fun j hj h1 _ => hc j hj h1), pcs_end (Nat.le_refl _)]
  | cons x l ih =>
    intro W hg
    have hx := hg x List.mem_cons_self
    have hstep : stF W (x :: l) = stF (W ++ x.2 ++ frame x.1) l := rfl
    obtain ⟨ihp, ihc⟩ := ih (W ++ x.2 ++ frame x.1) (fun y hy => hg y (List.mem_cons_of_mem _ hy))
    obtain ⟨Y, hY⟩ := stF_starts l (W ++ x.2 ++ frame x.1)
    have hsz : (W ++ x.2 ++ frame x.1).size = W.size + x.2.size + (frame x.1).size := by rw [ByteArray.size_append, ByteArray.size_append]
    rw [hsz] at ihp ihc
    rw [hstep]
    rw [hY] at ihp ihc ⊢
    have e1 : W ++ x.2 ++ frame x.1 ++ Y ++ tl = W ++ x.2 ++ frame x.1 ++ (Y ++ tl) := append_assoc' _ _ _
    have e2 : W ++ x.2 ++ frame x.1 ++ (Y ++ tl) = W ++ x.2 ++ (frame x.1 ++ (Y ++ tl)) := append_assoc' _ _ _
    have hf : fr (W ++ x.2 ++ frame x.1 ++ Y ++ tl) (W.size + x.2.size) = some ((frame x.1).size, x.1) := by
      have := fr_mid (W ++ x.2) (Y ++ tl) x.1 hx.1
      rw [ByteArray.size_append] at this
      rw [e1]
      exact this
    have hcl : ∀ j (hj : j < (W ++ x.2 ++ frame x.1 ++ Y ++ tl).size), W.size ≤ j → j < W.size + x.2.size → (W ++ x.2 ++ frame x.1 ++ Y ++ tl)[j]'hj ≠ 71 := by
      rw [e1, e2]
      intro j hj h1 h2
      exact mid_clear W x.2 _ hx.2 j h1 h2 hj
    have hb := fr_bounds hf
    refine ⟨?_, Cl.item (Nat.le_add_right _ _) hcl hf ihc⟩
    rw [pcs_gap (Nat.le_add_right _ _) (by omega) hcl, pcs_some hf, ihp]
    rfl
theorem ex_append : ∀ (a : List It) (n : Nat) (W : ByteArray), W.size = n → ∀ b, ex n (a ++ b) = ex n a ++ ex (stF W a).size b := by
  intro a
  induction a with
  | nil => intro n W h b; subst h; rfl
  | cons x a ih =>
    intro n W h b
    subst h
    have := ih (W.size + x.2.size + (frame x.1).size) (W ++ x.2 ++ frame x.1) (by rw [ByteArray.size_append, ByteArray.size_append]) b
    show _ :: ex _ (a ++ b) = _ :: (ex _ a ++ ex _ b)
    rw [this]
    rfl
/-- the litter's bytes, all together -/
def was (l : List It) : Nat := (l.map (fun x => x.2.size)).sum
theorem stF_size : ∀ (l : List It) (W : ByteArray), (stF W l).size = W.size + was l + szs (ex W.size l) := by
  intro l
  induction l with
  | nil => intro W; simp [stF, was, ex, szs]
  | cons x l ih =>
    intro W
    have h1 := ih (W ++ x.2 ++ frame x.1)
    have hsz : (W ++ x.2 ++ frame x.1).size = W.size + x.2.size + (frame x.1).size := by rw [ByteArray.size_append, ByteArray.size_append]
    rw [hsz] at h1
    show (stF (W ++ x.2 ++ frame x.1) l).size = _
    rw [h1]
    simp only [was, ex, szs_cons, List.map_cons, List.sum_cons]
    omega
/-- the ends of pieces -/
def ends (l : List Pc) : List Nat := l.map (fun x => x.1 + x.2.1)
theorem ends_append (a b : List Pc) : ends (a ++ b) = ends a ++ ends b := by simp [ends]
theorem ex_one (W : ByteArray) (x : It) : ends (ex W.size [x]) = [(W ++ x.2 ++ frame x.1).size] := by
  simp only [ex, ends, List.map_cons, List.map_nil]
  rw [ByteArray.size_append, ByteArray.size_append]
theorem msgs_ex (n : Nat) (x : It) : msgs (ex n [x]) = [x.1] := rfl
/-! a part of a text -/
def tk (t : ByteArray) (c : Nat) : ByteArray := t.extract 0 c
theorem tk_list (t : ByteArray) (c : Nat) : (tk t c).data.toList = t.data.toList.take c := by
  unfold tk
  rw [ByteArray.data_extract, Array.toList_extract, List.extract_eq_take_drop, List.drop_zero, Nat.sub_zero]
theorem mid_list (t : ByteArray) (a b : Nat) : (t.extract a b).data.toList = (t.data.toList.drop a).take (b - a) := by
  rw [ByteArray.data_extract, Array.toList_extract, List.extract_eq_take_drop]
theorem tk_next (t : ByteArray) (c n : Nat) : tk t c ++ t.extract c (c + n) = tk t (c + n) := by
  apply ext_list
  rw [data_append, tk_list, tk_list, mid_list, Nat.add_sub_cancel_left, List.take_add]
theorem tk_rest (t : ByteArray) (c : Nat) : tk t c ++ t.extract c t.size = t := by
  apply ext_list
  rw [data_append, tk_list, extract_list, List.take_append_drop]
theorem tk_size (t : ByteArray) (c : Nat) (h : c ≤ t.size) : (tk t c).size = c := by
  rw [← data_length, tk_list, List.length_take, data_length]; omega
theorem tk_all (t : ByteArray) : tk t t.size = t := by
  apply ext_list
  rw [tk_list, List.take_of_length_le (by rw [data_length]; exact Nat.le_refl _)]
/-- what was told when c bytes had come is a first part of all pieces; the next one ends later -/
theorem told {t : ByteArray} {c : Nat} {pre : List Pc} {p : Nat} (hc : c ≤ t.size) (h : Fed2 (tk t c) pre p) (cl : Cl t 0) :
    ∃ rest, pcs t 0 = pre ++ rest ∧ (∀ x ∈ pre, x.1 + x.2.1 ≤ c) ∧ (∀ x r, rest = x :: r → c < x.1 + x.2.1) := by
  have hall := h.all (t.extract c t.size)
  rw [tk_rest] at hall
  refine ⟨_, hall, fun x hx => ?_, fun x r hx => ?_⟩
  · have h1 := h.ends x hx
    have h2 := h.le
    rw [tk_size t c hc] at h2
    omega
  · have hcl : Cl (tk t c ++ t.extract c t.size) 0 := by rw [tk_rest]; exact cl
    have h3 := next_late (X := t.extract c t.size) h hcl (x := x) (rest := r) (by rw [tk_rest]; exact hx)
    rwa [tk_size t c hc] at h3
theorem pcs_within (t : ByteArray) : ∀ (k a : Nat), t.size - a ≤ k → ∀ x ∈ pcs t a, x.1 + x.2.1 ≤ t.size := by
  intro k
  induction k with
  | zero => intro a h x hx; rw [pcs_end (by omega)] at hx; cases hx
  | succ k ih =>
    intro a h x hx
    by_cases hi : a < t.size
    · cases hf : fr t a with
      | none => rw [pcs_none hi hf] at hx; exact ih (a + 1) (by omega) x hx
      | some r =>
        obtain ⟨n, m⟩ := r
        obtain ⟨h1, _, h3⟩ := fr_bounds hf
        rw [pcs_some hf] at hx
        rcases List.mem_cons.1 hx with e | e
        · subst e; exact h3
        · exact ih (a + n) (by omega) x e
    · rw [pcs_end (by omega)] at hx; cases hx
/-- all has come: all is told -/
theorem told_all {t : ByteArray} {pre : List Pc} {p : Nat} (h : Fed2 (tk t t.size) pre p) (cl : Cl t 0) : pcs t 0 = pre ∧ pcs (t.extract p t.size) 0 = [] := by
  obtain ⟨rest, h1, _, h3⟩ := told (Nat.le_refl _) h cl
  have hr : rest = [] := by
    cases rest with
    | nil => rfl
    | cons x r =>
      have h4 := h3 x r rfl
      have h5 := pcs_within t _ 0 (Nat.le_refl _) x (by rw [h1]; exact List.mem_append_right _ List.mem_cons_self)
      omega
  subst hr
  rw [List.append_nil] at h1
  refine ⟨h1, ?_⟩
  have h2 := h.toFed.close
  rw [tk_all] at h2
  rw [h1] at h2
  have h3 : sh p (pcs (t.extract p t.size) 0) = [] := by
    have h4 : pre ++ sh p (pcs (t.extract p t.size) 0) = pre ++ [] := by rw [List.append_nil]; exact h2.symm
    exact List.append_cancel_left h4
  unfold sh at h3
  exact List.map_eq_nil_iff.1 h3
end Go.Proofs.YtnifgokjagahfaaDoor.StreamPure

/- Pieces in memory; appending to a list of them. -/
set_option linter.unusedVariables false
set_option linter.unusedSimpArgs false
namespace Go.Proofs.YtnifgokjagahfaaDoor.Pcs
open Go.RowKit Go.Proofs.YtnifgokjagahfaaDoorW.PrintWords Go.Proofs.YtnifgokjagahfaaDoorW.PrintLast Go.Proofs.YtnifgokjagahfaaDoorW.PrintMore
open Go.Proofs.YtnifgokjagahfaaDoor.Base Go.Proofs.YtnifgokjagahfaaDoor.App Go.Proofs.YtnifgokjagahfaaDoor.Layouts Go.Proofs.YtnifgokjagahfaaDoor.Msg Go.Proofs.YtnifgokjagahfaaDoor.Mids Go.Proofs.YtnifgokjagahfaaDoor.SplitPure
/-- a piece's cells -/
def pL (p : Pc) : List Value := .int .i64 (p.1 : Nat) :: .int .i64 (p.2.1 : Nat) :: mL p.2.2
def psL (l : List Pc) : List Value := l.flatMap pL
theorem pL_length (p : Pc) : (pL p).length = 13 := rfl
theorem psL_length (l : List Pc) : (psL l).length = l.length * 13 := by
  induction l with
  | nil => rfl
  | cons p l ih => unfold psL at ih ⊢; rw [List.flatMap_cons, List.length_append, ih, pL_length, List.length_cons]; omega
theorem psL_snoc (l : List Pc) (p : Pc) : psL (l ++ [p]) = psL l ++ pL p := by simp [psL]
theorem pL_one (p : Pc) : ∀ u ∈ pL p, u.oneCell' = true := by simp [pL, mL, Value.oneCell']
theorem pL_all (p : Pc) : (pL p).toArray.all (·.oneCell') = true := all_oneCell_toArray (pL_one p)
theorem infoP : (Tryd.prog.info? 44).map (fun i => (i.zero, i.size, i.bytes)) = some (some (.agg #[.int .i64 0, .int .i64 0, .int .i64 0, .int .i64 0, .int .i64 0, .int .i64 0, .int .i64 0, .int .i64 0, .int .i64 0, .int .i64 0, .int .i64 0, .string { data := #[] }, .string { data := #[] }]), 13, 120) := by kernel_rfl
section
variable {P : Program} {ops : Array Oper} {rest : List Oper} {o : Oper} {a : Act} {Q : Exit → Act → World → Prop} {K : Act → World → Prop}
/-- append onto a slice of the call's own, elements of any size -/
theorem append_wp {w0 W : World} (base : Nat) (s x : Operand) (t e : TypeId) (z : Value) (size bytes : Nat)
    (ho : o.op = .call { callee := .builtin .append, args := #[s, x], argTypes := #[t, t] })
    (ht : P.underlying t = some (.slice e)) (hinfo : (P.info? e).map (fun i => (i.zero, i.size, i.bytes)) = some (some z, size, bytes)) (hz : z.cells.size = size) (hs0 : 0 < size) (hb0 : 0 < bytes)
    (v : Value) (n : Nat) (xs : List Value) (b m c : Nat) (ys : List Value) (hs : a.eval s = v) (hx : a.eval x = .slice (some ⟨b, 0, none⟩) m c) (hm : ys.length = m * size) (h1 : ∀ u ∈ ys, u.oneCell' = true)
    (hc : ∀ j u, ys[j]? = some u → W.cell? ⟨b, j, none⟩ = some u)
    (HO : W.ownsRow base e size v n xs) (HB : Below base w0 W) (hbase : base ≤ W.heap.size) (hl : (n + m) * bytes ≤ 140737488355328)
    (h : ∀ v1 w1, w1.ownsRow base e size v1 (n + m) (xs ++ ys) → Below base w0 w1 → W.grownBy w1 v.ownBlock → K (a.put o.dst v1) w1) :
    Oper.wp P o a W K Q := by
  obtain ⟨i0, hi, hzz⟩ := Option.map_eq_some_iff.1 hinfo
  simp only [Prod.mk.injEq] at hzz
  obtain ⟨hz0, hz1, hz2⟩ := hzz
  have hlen : n + m ≤ 140737488355328 := Nat.le_trans (Nat.le_mul_of_pos_right _ hb0) hl
  obtain ⟨v1, w1, hr, hown, hg, _⟩ := run_append_own (P := P) W base t o.type e i0 z size bytes ht hi hz0 hz1 hz2 hz hs0 v n xs HO ⟨b, 0, none⟩ m c ys hm
    (by intro j u hj; have := hc j u hj; have e : (⟨b, 0, none⟩ : Addr).add j = ⟨b, j, none⟩ := by unfold Addr.add; split <;> simp_all
        rw [e]; exact this) h1 (by simp only [maxLen]; omega) hl hbase
  unfold Oper.wp execOp
  simp only [ho, resolve, invoke, builtin, Sem.run_bind, Sem.run_pure, Result.andThen_ok, List.map_toArray, List.map_cons, List.map_nil, hs, hx, hr]
  exact h v1 w1 hown (HB.grown hg hbase (fun k hk => (HO.lt k hk).1)) hg
theorem gate_call {fn : Callee} {args : Array Operand} {ts : Array TypeId} {w : World} (_ho : o.op = .call { callee := fn, args := args, argTypes := ts }) (h : wpList P ops Q (o :: rest) a w) : wpList P ops Q (o :: rest) a w := h
theorem list_append_wide {w0 W : World} (base : Nat) (hgd : o.guard = none) (s x : Operand) (t e : TypeId) (z : Value) (size bytes : Nat)
    (ho : o.op = .call { callee := .builtin .append, args := #[s, x], argTypes := #[t, t] })
    (ht : P.underlying t = some (.slice e)) (hinfo : (P.info? e).map (fun i => (i.zero, i.size, i.bytes)) = some (some z, size, bytes)) (hz : z.cells.size = size) (hs0 : 0 < size) (hb0 : 0 < bytes)
    (v : Value) (n : Nat) (xs : List Value) (b m c : Nat) (ys : List Value) (hs : a.eval s = v) (hx : a.eval x = .slice (some ⟨b, 0, none⟩) m c) (hm : ys.length = m * size) (h1 : ∀ u ∈ ys, u.oneCell' = true)
    (hc : ∀ j u, ys[j]? = some u → W.cell? ⟨b, j, none⟩ = some u)
    (HO : W.ownsRow base e size v n xs) (HB : Below base w0 W) (hbase : base ≤ W.heap.size) (hl : (n + m) * bytes ≤ 140737488355328)
    (h : ∀ v1 w1, w1.ownsRow base e size v1 (n + m) (xs ++ ys) → Below base w0 w1 → W.grownBy w1 v.ownBlock → wpList P ops Q rest (a.put o.dst v1) w1) :
    wpList P ops Q (o :: rest) a W :=
  wpList_plain hgd fun _ hK => append_wp base s x t e z size bytes ho ht hinfo hz hs0 hb0 v n xs b m c ys hs hx hm h1 hc HO HB hbase hl (fun v1 w1 a b c => hK _ _ (h v1 w1 a b c))
end
/-- a piece as a value -/
def pV (a b : Int) (m : M) : Array Value := (.int .i64 a :: .int .i64 b :: mL m).toArray
theorem built_piece (a b : Int) (m : M) : Tryd.prog.built 44 [(0, .int .i64 a), (1, .int .i64 b), (2, .agg (mL m).toArray)] = some (pV a b m) := by kernel_rfl
theorem run_buildP (w : World) (a b : Int) (m : M) : (Instr.build 44 #[(0, .int .i64 a), (1, .int .i64 b), (2, .agg (mL m).toArray)]).run Tryd.prog w = .ok (.agg (pV a b m)) w := run_build w _ _ _ (built_piece a b m)
theorem run_oneP (w : World) (a b : Int) (m : M) : (Instr.buildSlice 38 1 #[(0, .agg (pV a b m))]).run Tryd.prog w = .ok (.slice (some ⟨w.heap.size, 0, none⟩) 1 1) (w.alloc (.cells (pV a b m) 44)) := by
  obtain ⟨i0, hi, hzz⟩ := Option.map_eq_some_iff.1 infoP
  simp only [Prod.mk.injEq] at hzz
  obtain ⟨hz0, hz1, hz2⟩ := hzz
  refine run_buildSlice w _ _ 1 _ (pV a b m) i0 _ Tryd.underlying38 hi hz0 ?_ ?_ ?_
  · rw [hz1]; decide
  · rw [hz1]; decide
  · rw [hz1]; kernel_rfl
section
variable {ops : Array Oper} {rest : List Oper} {o : Oper} {act : Act} {Q : Exit → Act → World → Prop} {w : World}
theorem list_buildP (hg : o.guard = none) (x y z : Tmp) (ho : o.op = .build 44 #[(0, .tmp x), (1, .tmp y), (2, .tmp z)]) (a b : Int) (m : M)
    (hx : act.eval (.tmp x) = .int .i64 a) (hy : act.eval (.tmp y) = .int .i64 b) (hz : act.eval (.tmp z) = .agg (mL m).toArray)
    (h : wpList Tryd.prog ops Q rest (act.put o.dst (.agg (pV a b m))) w) : wpList Tryd.prog ops Q (o :: rest) act w := by
  refine wpList_plain hg fun K hK => ?_
  unfold Oper.wp execOp
  simp only [ho, List.map_toArray, List.map_cons, List.map_nil, hx, hy, hz, Sem.run_bind, run_buildP, Result.andThen_ok]
  exact hK _ _ h
theorem list_oneP (hg : o.guard = none) (x : Tmp) (ho : o.op = .buildSlice 38 1 #[(0, .tmp x)]) (a b : Int) (m : M) (hx : act.eval (.tmp x) = .agg (pV a b m))
    (h : wpList Tryd.prog ops Q rest (act.put o.dst (.slice (some ⟨w.heap.size, 0, none⟩) 1 1)) (w.alloc (.cells (pV a b m) 44))) : wpList Tryd.prog ops Q (o :: rest) act w := by
  refine wpList_plain hg fun K hK => ?_
  unfold Oper.wp execOp
  simp only [ho, List.map_toArray, List.map_cons, List.map_nil, hx, Sem.run_bind, run_oneP, Result.andThen_ok]
  exact hK _ _ h
theorem gate_build {t : TypeId} {parts : Array (Nat × Operand)} (_ho : o.op = .build t parts) (h : wpList Tryd.prog ops Q (o :: rest) act w) : wpList Tryd.prog ops Q (o :: rest) act w := h
theorem gate_buildSlice {t : TypeId} {n : Nat} {parts : Array (Nat × Operand)} (_ho : o.op = .buildSlice t n parts) (h : wpList Tryd.prog ops Q (o :: rest) act w) : wpList Tryd.prog ops Q (o :: rest) act w := h
end
theorem own_later {w w' : World} {base : Nat} {e : TypeId} {size : Nat} {v : Value} {n : Nat} {xs : List Value} (h : w.ownsRow base e size v n xs) (hb : Below w.heap.size w w') : w'.ownsRow base e size v n xs :=
  h.kept (row := none) ⟨hb.os, hb.tape, hb.output, hb.size, fun k hk _ => hb.block k hk⟩ (by cases v.ownBlock <;> simp)
theorem psL_at : ∀ (l : List Pc) (j : Nat) (p : Pc), l[j]? = some p → ∀ (i : Nat) (u : Value), (pL p)[i]? = some u → (psL l)[j * 13 + i]? = some u := by
  intro l
  induction l with
  | nil => intro j p h; simp at h
  | cons q l ih =>
    intro j p h i u hu
    have hi : i < 13 := by
      have := (List.getElem?_eq_some_iff.1 hu).1
      rwa [pL_length] at this
    have e : psL (q :: l) = pL q ++ psL l := by unfold psL; rw [List.flatMap_cons]
    rw [e]
    cases j with
    | zero =>
      simp only [List.getElem?_cons_zero, Option.some.injEq] at h
      subst h
      rw [List.getElem?_append_left (by rw [pL_length]; omega), Nat.zero_mul, Nat.zero_add]
      exact hu
    | succ j =>
      rw [List.getElem?_cons_succ] at h
      rw [List.getElem?_append_right (by rw [pL_length]; omega), pL_length]
      have := ih j p h i u hu
      rw [← this]
      congr 1
      omega
end Go.Proofs.YtnifgokjagahfaaDoor.Pcs
