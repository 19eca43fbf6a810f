/- Joined texts of this claim: RegG -/
import Derived.Test.YtljjpdjknnhceaaDoorWWords
import Derived.Test.YtljjpdjknnhceaaDoorWLast
import Derived.Orders
import Derived.Below
set_option linter.unusedVariables false
set_option linter.unusedSimpArgs false
/- A region that draws its order, its guards all let by, walked without its order: each operation gives a value that stands in a relation to the world. -/
set_option linter.unusedVariables false
set_option linter.unusedSimpArgs false
namespace Go.Proofs.YtljjpdjknnhceaaDoor.RegG
open Go.RowKit Go.Proofs.YtljjpdjknnhceaaDoorW.PrintWords Go.Proofs.YtljjpdjknnhceaaDoorW.PrintLast
def srcFrom : List Oper → Nat → Tmp → Option Nat
  | [], _, _ => none
  | o :: l, k, t => if o.dst = some t then some k else srcFrom l (k + 1) t
theorem srcFrom_spec : ∀ (l : List Oper) (k : Nat) (t : Tmp) (j : Nat), srcFrom l k t = some j → ∃ i o, j = k + i ∧ l[i]? = some o ∧ o.dst = some t
  | [], _, _, _, h => by cases h
  | o :: l, k, t, j, h => by
    unfold srcFrom at h
    split at h
    · cases h; exact ⟨0, o, rfl, rfl, by assumption⟩
    · obtain ⟨i, o', hj, hi, hd⟩ := srcFrom_spec l (k + 1) t j h
      exact ⟨i + 1, o', by omega, hi, hd⟩
def predB (o : Oper) (j : Nat) : Bool := o.after.toList.any fun e => Region.binds .any e && (e.on == j)
def okOne (L : List Oper) (N : Nat) (o : Oper) (i : Nat) : Bool :=
  (match o.guard with | none => true | some (j, _) => predB o j && (match L[j]? with | some oj => (match oj.dst with | some d => decide (d < N) && (srcFrom L 0 d == some j) | none => false) | none => false)) && (match o.op with | .select .. => false | _ => true) && (match o.dst with | some d => decide (d < N) && (srcFrom L 0 d == some i) | none => true) &&
  o.op.operands.all (fun x => match x with
    | .tmp t => decide (t < N) && (match srcFrom L 0 t with | some j => predB o j || (match L[j]? with | some oj => predB oj i | none => false) | none => true)
    | _ => true) && o.after.all fun e => !Region.binds .any e || decide (e.on < i)
def okFrom (L : List Oper) (N : Nat) : List Oper → Nat → Bool
  | [], _ => true
  | o :: r, i => okOne L N o i && okFrom L N r (i + 1)
theorem okFrom_spec (L : List Oper) (N : Nat) : ∀ (r : List Oper) (k j : Nat) (o : Oper), okFrom L N r k = true → r[j]? = some o → okOne L N o (k + j) = true
  | [], _, _, _, _, h => by simp at h
  | o :: r, k, 0, o', h, hj => by
    simp only [okFrom, Bool.and_eq_true] at h
    simp at hj
    subst hj
    exact h.1
  | o :: r, k, j + 1, o', h, hj => by
    simp only [okFrom, Bool.and_eq_true] at h
    have := okFrom_spec L N r (k + 1) j o' h.2 (by simpa using hj)
    rw [show k + (j + 1) = k + 1 + j by omega]
    exact this
/-- an operation's operands, out of what those ahead of it gave -/
def envOf (L : List Oper) (a0 : Act) (vs : Nat → Value) (o : Oper) : Operand → Value
  | .tmp t => match srcFrom L 0 t with
    | some j => if predB o j = true then vs j else a0.tmps.getD t undef
    | none => a0.tmps.getD t undef
  | x => a0.eval x
def slotV (L : List Oper) (a0 : Act) (listed : Array Bool) (vs : Nat → Value) (t : Tmp) : Value :=
  match srcFrom L 0 t with
  | some j => if listed.getD j false = true then vs j else a0.tmps.getD t undef
  | none => a0.tmps.getD t undef
def Framed (L : List Oper) (a0 : Act) (listed : Array Bool) (vs : Nat → Value) (a : Act) : Prop :=
  a.defers = a0.defers ∧ a.tmps.size = a0.tmps.size ∧ ∀ t, t < a0.tmps.size → a.tmps[t]? = some (slotV L a0 listed vs t)
def Closed (L : List Oper) (listed : Array Bool) : Prop := ∀ i o j, L[i]? = some o → listed.getD i false = true → predB o j = true → listed.getD j false = true
def upd (vs : Nat → Value) (i : Nat) (v : Value) : Nat → Value := fun j => if j = i then v else vs j
theorem getD_set (listed : Array Bool) (i j : Nat) (hi : i < listed.size) : (listed.setIfInBounds i true).getD j false = if j = i then true else listed.getD j false := by
  simp only [Array.getD_eq_getD_getElem?, Array.getElem?_setIfInBounds]
  by_cases h : j = i
  · subst h; simp [hi]
  · rw [if_neg (fun e => h e.symm), if_neg h]
theorem framed_put {L : List Oper} {a0 a : Act} {listed : Array Bool} {vs : Nat → Value} {i : Nat} {o : Oper} (v : Value) (hok : okOne L a0.tmps.size o i = true) (hi : L[i]? = some o) (hil : i < listed.size) (hun : listed.getD i false = false)
    (h : Framed L a0 listed vs a) : Framed L a0 (listed.setIfInBounds i true) (upd vs i v) (a.put o.dst v) := by
  obtain ⟨hd, hs, hv⟩ := h
  unfold okOne at hok
  simp only [Bool.and_eq_true] at hok
  obtain ⟨⟨⟨⟨_, _⟩, hdst⟩, _⟩, _⟩ := hok
  refine ⟨?_, ?_, ?_⟩
  · cases o.dst <;> exact hd
  · cases o.dst with
    | none => exact hs
    | some d => simp only [Act.put, Array.size_setIfInBounds]; exact hs
  · intro t ht
    have hsl : ∀ (hne : srcFrom L 0 t ≠ some i), slotV L a0 (listed.setIfInBounds i true) (upd vs i v) t = slotV L a0 listed vs t := by
      intro hne
      unfold slotV
      cases hsrc : srcFrom L 0 t with
      | none => rfl
      | some j =>
        have hji : j ≠ i := fun e => hne (by rw [hsrc, e])
        simp only
        rw [getD_set _ _ _ hil, if_neg hji]
        unfold upd
        rw [if_neg hji]
    cases hod : o.dst with
    | none =>
      have hne : srcFrom L 0 t ≠ some i := by
        intro he
        obtain ⟨k, o', hk, hk2, hk3⟩ := srcFrom_spec _ _ _ _ he
        rw [Nat.zero_add] at hk
        subst hk
        rw [hi] at hk2
        cases hk2
        rw [hod] at hk3
        cases hk3
      rw [hsl hne]
      exact hv t ht
    | some d =>
      rw [hod] at hdst
      simp only [Bool.and_eq_true, decide_eq_true_eq, beq_iff_eq] at hdst
      simp only [Act.put, Array.getElem?_setIfInBounds]
      by_cases hdt : d = t
      · subst hdt
        rw [if_pos rfl, if_pos (by rw [hs]; exact ht)]
        unfold slotV
        rw [hdst.2]
        simp only
        rw [getD_set _ _ _ hil, if_pos rfl, if_pos rfl]
        unfold upd
        rw [if_pos rfl]
      · rw [if_neg hdt]
        have hne : srcFrom L 0 t ≠ some i := by
          intro he
          obtain ⟨k, o', hk, hk2, hk3⟩ := srcFrom_spec _ _ _ _ he
          rw [Nat.zero_add] at hk
          subst hk
          rw [hi] at hk2
          cases hk2
          rw [hod] at hk3
          cases hk3
          exact hdt rfl
        rw [hsl hne]
        exact hv t ht
/-- what the region leaves, in the text's order -/
def fillFrom : List Oper → Nat → Act → (Nat → Value) → Act
  | [], _, a, _ => a
  | o :: l, k, a, vs => fillFrom l (k + 1) (a.put o.dst (vs k)) vs
theorem upd_self (vs : Nat → Value) (i : Nat) : upd vs i (vs i) = vs := by
  funext j; unfold upd; split
  · subst_vars; rfl
  · rfl
def firstK (n k : Nat) : Array Bool := ((List.range n).map fun j => decide (j < k)).toArray
theorem firstK_size (n k : Nat) : (firstK n k).size = n := by simp [firstK]
theorem firstK_getD (n k j : Nat) : (firstK n k).getD j false = (decide (j < n) && decide (j < k)) := by
  unfold firstK
  simp only [Array.getD_eq_getD_getElem?, List.getElem?_toArray, List.getElem?_map]
  by_cases h : j < n
  · rw [List.getElem?_range h]; simp [h]
  · rw [List.getElem?_eq_none (by simpa using h)]; simp [h]
theorem framed_congr {L : List Oper} {a0 a : Act} {l1 l2 : Array Bool} {vs : Nat → Value} (h : Framed L a0 l1 vs a) (e : ∀ j, j < L.length → l1.getD j false = l2.getD j false) : Framed L a0 l2 vs a := by
  refine ⟨h.1, h.2.1, fun t ht => ?_⟩
  rw [h.2.2 t ht]
  unfold slotV
  cases hs : srcFrom L 0 t with
  | none => rfl
  | some j =>
    obtain ⟨k, o', hk, hk2, hk3⟩ := srcFrom_spec _ _ _ _ hs
    have : j < L.length := by rw [hk, Nat.zero_add]; exact (List.getElem?_eq_some_iff.1 hk2).1
    simp only
    rw [e j this]
theorem framed_fill {L : List Oper} {a0 : Act} (hok : okFrom L a0.tmps.size L 0 = true) (vs : Nat → Value) : ∀ (r pre : List Oper) (a : Act), L = pre ++ r → Framed L a0 (firstK L.length pre.length) vs a → Framed L a0 (firstK L.length L.length) vs (fillFrom r pre.length a vs)
  | [], pre, a, hL, h => by
    have : L.length = pre.length := by rw [hL]; simp
    rw [← this] at h
    exact h
  | o :: r, pre, a, hL, h => by
    have hi : L[pre.length]? = some o := by rw [hL]; simp
    have ho := okFrom_spec L _ L 0 pre.length o hok hi
    rw [Nat.zero_add] at ho
    have hlt : pre.length < L.length := (List.getElem?_eq_some_iff.1 hi).1
    have h2 := framed_put (vs pre.length) ho hi (by rw [firstK_size]; exact hlt) (by rw [firstK_getD]; simp) h
    rw [upd_self] at h2
    have h3 := framed_congr (l2 := firstK L.length (pre ++ [o]).length) h2 (fun j hj => by
      rw [getD_set _ _ _ (by rw [firstK_size]; exact hlt), firstK_getD, firstK_getD]
      by_cases e : j = pre.length
      · subst e; simp [hlt]
      · rw [if_neg e]
        congr 1
        rw [Bool.eq_iff_iff]
        simp only [decide_eq_true_iff, List.length_append, List.length_singleton]
        omega)
    have h4 := framed_fill hok vs r (pre ++ [o]) _ (by rw [hL]; simp) h3
    have e : (pre ++ [o]).length = pre.length + 1 := by simp
    rw [e] at h4
    exact h4
theorem framed_unique {L : List Oper} {a0 a b : Act} {listed : Array Bool} {vs : Nat → Value} (ha : Framed L a0 listed vs a) (hb : Framed L a0 listed vs b) : a = b := by
  obtain ⟨a1, a2, a3⟩ := ha
  obtain ⟨b1, b2, b3⟩ := hb
  cases a with | mk at_ ad =>
  cases b with | mk bt_ bd =>
  simp only at a1 a2 a3 b1 b2 b3
  have e : at_ = bt_ := by
    apply Array.ext_getElem?
    intro t
    by_cases ht : t < a0.tmps.size
    · rw [a3 t ht, b3 t ht]
    · rw [Array.getElem?_eq_none (by omega), Array.getElem?_eq_none (by omega)]
  subst e
  rw [a1, b1]
def cnt (f : Nat → Bool) : Nat → Nat
  | 0 => 0
  | n + 1 => cnt f n + (if f n = true then 1 else 0)
theorem cnt_congr {f g : Nat → Bool} : ∀ n, (∀ j, j < n → f j = g j) → cnt f n = cnt g n
  | 0, _ => rfl
  | n + 1, h => by
    simp only [cnt]
    rw [cnt_congr n (fun j hj => h j (by omega)), h n (by omega)]
theorem cnt_upd {f g : Nat → Bool} {i : Nat} (hf : f i = true) (hg : g i = false) (h : ∀ j, j ≠ i → f j = g j) : ∀ n, i < n → cnt g n + 1 = cnt f n
  | 0, hi => by omega
  | n + 1, hi => by
    simp only [cnt]
    by_cases e : i = n
    · subst e
      rw [cnt_congr i (fun j hj => h j (by omega)), hf, hg]
      simp
    · have := cnt_upd hf hg h n (by omega)
      rw [h n (fun e2 => e e2.symm)]
      omega
theorem cnt_zero {f : Nat → Bool} : ∀ n, cnt f n = 0 → ∀ j, j < n → f j = false
  | 0, _, j, hj => by omega
  | n + 1, h, j, hj => by
    simp only [cnt] at h
    by_cases e : j = n
    · subst e
      cases hf : f j
      · rfl
      · rw [hf] at h; simp at h
    · exact cnt_zero n (by omega) j (by omega)
/-- what an operation does: it yields a value, or calls -/
def OpRel (P : Program) (S : World → World → Prop) (ρ : Operand → Value) (o : Oper) (w : World) (K : Value → World → Prop) : Prop :=
  (∃ v w', (execOp ρ o).run P w = .ok (.value v) w' ∧ S w w' ∧ K v w') ∨
  (∃ w', (execOp ρ o).run P w = .ok .skip w' ∧ S w w' ∧ K undef w') ∨
  (∃ f args, (execOp ρ o).run P w = .ok (.enter f args) w ∧ Calls P f args w fun e w' => ∃ v, e = .returned v ∧ S w w' ∧ K v w')
section
variable {P : Program} {Q : Exit → Act → World → Prop}
theorem wpAny_rel (L : List Oper) (a0 : Act) (hok : okFrom L a0.tmps.size L 0 = true) (Inv : World → Prop) (S : Nat → World → World → Prop) (R : Nat → (Nat → Value) → World → Prop)
    (hst : ∀ i j vs w w', i ≠ j → Inv w → R j vs w → S i w w' → R j vs w')
    (hcg : ∀ j o vs vs' w, L[j]? = some o → vs' j = vs j → (∀ k, predB o k = true → vs' k = vs k) → R j vs w → R j vs' w)
    (hgd : ∀ (i : Nat) (o : Oper), L[i]? = some o → ∀ (j : Nat) (b : Bool), o.guard = some (j, b) → ∀ (vs : Nat → Value) (w : World), R j vs w → vs j = .bool b)
    (step : ∀ i o, L[i]? = some o → ∀ (vs : Nat → Value) (w : World), Inv w → (∀ j, predB o j = true → R j vs w) → OpRel P (S i) (envOf L a0 vs o) o w (fun v w' => Inv w' ∧ R i (upd vs i v) w'))
    (done : ∀ vs w, Inv w → (∀ j, j < L.length → R j vs w) → Q .normal (fillFrom L 0 a0 vs) w) :
    ∀ (fuel : Nat) (listed : Array Bool) (vs : Nat → Value) (a : Act) (w : World), listed.size = L.length → Closed L listed → Framed L a0 listed vs a → Inv w → (∀ j, listed.getD j false = true → R j vs w) →
      cnt (fun j => !listed.getD j false) L.length ≤ fuel → wpAny P .any L.toArray Q fuel listed a w := by
  have hall : ∀ (listed : Array Bool) (vs : Nat → Value) (a : Act) (w : World), listed.size = L.length → Framed L a0 listed vs a → Inv w → (∀ j, listed.getD j false = true → R j vs w) → (∀ j, j < L.length → listed.getD j false = true) → Q .normal a w := by
    intro listed vs a w hsz hF hI hR hl
    have h1 := framed_congr (l2 := firstK L.length L.length) hF (fun j hj => by rw [hl j hj, firstK_getD]; simp [hj])
    have h0 : Framed L a0 (firstK L.length ([] : List Oper).length) vs a0 := by
      refine ⟨rfl, rfl, fun t ht => ?_⟩
      have e : slotV L a0 (firstK L.length ([] : List Oper).length) vs t = a0.tmps.getD t undef := by
        unfold slotV
        cases srcFrom L 0 t with
        | none => rfl
        | some j => simp only; rw [firstK_getD]; simp
      rw [e]
      simp [Array.getD_eq_getD_getElem?, Array.getElem?_eq_getElem ht]
    have h2 := framed_fill hok vs L [] a0 rfl h0
    rw [framed_unique h1 h2]
    exact done vs w hI (fun j hj => hR j (hl j hj))
  have hready : ∀ (listed : Array Bool) (i : Nat), listed.size = L.length → i ∈ Region.ready .any L.toArray listed → ∃ o, L[i]? = some o ∧ i < L.length ∧ listed.getD i false = false ∧ ∀ j, predB o j = true → listed.getD j false = true := by
    intro listed i hsz hi
    unfold Region.ready at hi
    rw [List.mem_filter] at hi
    obtain ⟨hi1, hi2⟩ := hi
    have hlt : i < L.length := by simpa using hi1
    obtain ⟨o, ho⟩ : ∃ o, L[i]? = some o := ⟨_, List.getElem?_eq_getElem hlt⟩
    simp only [List.getElem?_toArray, ho, Option.map_some, Option.getD_some, Bool.and_eq_true, Bool.not_eq_true'] at hi2
    refine ⟨o, ho, hlt, ?_, fun j hj => ?_⟩
    · have := hi2.1
      simp only [Array.getD_eq_getD_getElem?] at this ⊢
      rw [Array.getElem?_eq_getElem (by omega)] at this ⊢
      simpa using this
    · unfold predB at hj
      obtain ⟨e, he, hj⟩ := List.any_eq_true.1 hj
      simp only [Bool.and_eq_true, beq_iff_eq] at hj
      have h3 := Array.all_eq_true'.1 hi2.2 e (by simpa using he)
      rw [hj.1] at h3
      simp only [Bool.not_true, Bool.false_or] at h3
      rw [← hj.2]
      exact h3
  have hnone : ∀ (listed : Array Bool), listed.size = L.length → Region.ready .any L.toArray listed = [] → ∀ j, j < L.length → listed.getD j false = true := by
    intro listed hsz hr
    have hs : ∀ n j, j < n → j < L.length → listed.getD j false = true := by
      intro n
      induction n with
      | zero => intro j hj; omega
      | succ n ih =>
        intro j hj hjl
        by_cases e : j < n
        · exact ih j e hjl
        · obtain rfl : j = n := by omega
          cases hb : listed.getD j false
          · exfalso
            obtain ⟨o, ho⟩ : ∃ o, L[j]? = some o := ⟨_, List.getElem?_eq_getElem hjl⟩
            have ho1 := okFrom_spec L _ L 0 j o hok ho
            rw [Nat.zero_add] at ho1
            unfold okOne at ho1
            simp only [Bool.and_eq_true] at ho1
            have haf := ho1.2
            have hm : j ∈ Region.ready .any L.toArray listed := by
              unfold Region.ready
              rw [List.mem_filter]
              refine ⟨by simpa using hjl, ?_⟩
              simp only [List.getElem?_toArray, ho, Option.map_some, Option.getD_some, Bool.and_eq_true, Bool.not_eq_true']
              refine ⟨?_, ?_⟩
              · simp only [Array.getD_eq_getD_getElem?] at hb ⊢
                rw [Array.getElem?_eq_getElem (by omega)] at hb ⊢
                simpa using hb
              · rw [Array.all_eq_true]
                intro k hk
                have h3 := Array.all_eq_true.1 haf k hk
                simp only [Bool.or_eq_true, decide_eq_true_eq] at h3 ⊢
                rcases h3 with h3 | h3
                · exact .inl h3
                · exact .inr (ih _ h3 (by omega))
            rw [hr] at hm
            cases hm
          · rfl
    intro j hj
    exact hs (j + 1) j (by omega) hj
  intro fuel
  induction fuel with
  | zero =>
    intro listed vs a w hsz hC hF hI hR hc
    have hz := cnt_zero (f := fun j => !listed.getD j false) L.length (by omega)
    have hl : ∀ j, j < L.length → listed.getD j false = true := fun j hj => by simpa using hz j hj
    refine ⟨?_, hall listed vs a w hsz hF hI hR hl⟩
    cases hr : Region.ready .any L.toArray listed with
    | nil => rfl
    | cons i r =>
      obtain ⟨o, _, hi, hun, _⟩ := hready listed i hsz (by rw [hr]; simp)
      rw [hl i hi] at hun
      cases hun
  | succ fuel ih =>
    intro listed vs a w hsz hC hF hI hR hc
    refine ⟨fun hr => hall listed vs a w hsz hF hI hR (hnone listed hsz hr), fun i hi => ?_⟩
    obtain ⟨o, ho, hil, hun, hp⟩ := hready listed i hsz hi
    have ho1 := okFrom_spec L _ L 0 i o hok ho
    rw [Nat.zero_add] at ho1
    have hok1 := ho1
    unfold okOne at ho1
    simp only [Bool.and_eq_true] at ho1
    obtain ⟨⟨⟨⟨hg, hsel⟩, hdst⟩, hops⟩, haf⟩ := ho1
    have hns : ∀ cs b, o.op ≠ .select cs b := by
      intro cs b he
      rw [he] at hsel
      cases hsel
    have hev : ∀ x ∈ o.op.operands, a.eval x = envOf L a0 vs o x := by
      intro x hx
      have hx2 := Array.all_eq_true'.1 hops x hx
      cases x with
      | tmp t =>
        simp only [Bool.and_eq_true, decide_eq_true_eq] at hx2
        have hv := hF.2.2 t hx2.1
        have he : a.eval (.tmp t) = slotV L a0 listed vs t := by
          simp [Act.eval, Array.getD_eq_getD_getElem?, hv]
        have henv : envOf L a0 vs o (.tmp t) = (match srcFrom L 0 t with | some j => if predB o j = true then vs j else a0.tmps.getD t undef | none => a0.tmps.getD t undef) := rfl
        rw [he, henv]
        unfold slotV
        have hx3 := hx2.2
        cases hs : srcFrom L 0 t with
        | none => rfl
        | some j =>
          rw [hs] at hx3
          simp only at hx3 ⊢
          by_cases hpj : predB o j = true
          · rw [if_pos hpj, if_pos (hp j hpj)]
          · rw [if_neg hpj]
            have hpf : predB o j = false := by simpa using hpj
            rw [hpf, Bool.false_or] at hx3
            rw [if_neg]
            intro hlj
            cases hoj : L[j]? with
            | none => rw [hoj] at hx3; cases hx3
            | some oj =>
              rw [hoj] at hx3
              have := hC j oj i hoj hlj hx3
              rw [hun] at this
              cases this
      | const v => rfl
      | global g => rfl
      | func f => rfl
    have hw : Region.wanted o (yielded L.toArray a.tmps) = true := by
      unfold Region.wanted
      cases hgo : o.guard with
      | none => rfl
      | some jb =>
        obtain ⟨j, b⟩ := jb
        rw [hgo] at hg
        simp only [Bool.and_eq_true] at hg
        obtain ⟨hg1, hg2⟩ := hg
        cases hoj : L[j]? with
        | none => rw [hoj] at hg2; cases hg2
        | some oj =>
          rw [hoj] at hg2
          cases hod : oj.dst with
          | none => simp only [hod] at hg2; cases hg2
          | some d =>
            simp only [hod, Bool.and_eq_true, decide_eq_true_eq, beq_iff_eq] at hg2
            have hlj := hp j hg1
            have hvj := hgd i o ho j b hgo vs w (hR j hlj)
            have hv := hF.2.2 d hg2.1
            have hsl : slotV L a0 listed vs d = vs j := by unfold slotV; rw [hg2.2]; simp only; rw [if_pos hlj]
            rw [hsl, hvj] at hv
            simp [yielded, hoj, hod, hv]
    have hnext : ∀ v w', S i w w' → Inv w' → R i (upd vs i v) w' → wpAny P .any L.toArray Q fuel (listed.setIfInBounds i true) (a.put o.dst v) w' := by
      intro v w' hb hI' hRi
      refine ih (listed.setIfInBounds i true) (upd vs i v) (a.put o.dst v) w' (by simpa using hsz) ?_ (framed_put v hok1 ho (by omega) hun hF) hI' ?_ ?_
      · intro i' o' j' ho' hl' hp'
        rw [getD_set _ _ _ (by omega)] at hl' ⊢
        by_cases e : i' = i
        · subst e
          rw [ho] at ho'
          cases ho'
          split
          · rfl
          · exact hp j' hp'
        · rw [if_neg e] at hl'
          split
          · rfl
          · exact hC i' o' j' ho' hl' hp'
      · intro j hj
        rw [getD_set _ _ _ (by omega)] at hj
        by_cases e : j = i
        · subst e; exact hRi
        · rw [if_neg e] at hj
          have hjl : j < L.length := by
            rcases Nat.lt_or_ge j L.length with h | h
            · exact h
            · rw [Array.getD_eq_getD_getElem?, Array.getElem?_eq_none (by omega)] at hj; cases hj
          have hoj : L[j]? = some L[j] := List.getElem?_eq_getElem hjl
          refine hcg j _ vs _ w' hoj (by unfold upd; rw [if_neg e]) (fun k hk => ?_) (hst i j vs w w' (fun e2 => e e2.symm) hI (hR j hj) hb)
          have hkl := hC j _ k hoj hj hk
          unfold upd
          rw [if_neg]
          intro e2
          rw [e2, hun] at hkl
          cases hkl
      · have := cnt_upd (f := fun j => !listed.getD j false) (g := fun j => !(listed.setIfInBounds i true).getD j false) (i := i) (by simp [hun]) (by show (!(listed.setIfInBounds i true).getD i false) = false; rw [getD_set _ _ _ (by omega), if_pos rfl]; rfl) (fun j hj => by show (!listed.getD j false) = !(listed.setIfInBounds i true).getD j false; rw [getD_set _ _ _ (by omega), if_neg hj]) L.length hil
        omega
    unfold wpOp
    rw [List.getElem?_toArray, ho]
    simp only
    rw [if_pos hw]
    left
    have hex : execOp a.eval o = execOp (envOf L a0 vs o) o := execOp_congr o hns hev
    unfold Oper.wp
    rw [hex]
    rcases step i o ho vs w hI (fun j hj => hR j (hp j hj)) with ⟨v, w', hrun, hb, hI', hRi⟩ | ⟨w', hrun, hb, hI', hRi⟩ | ⟨f, args, hrun, hcall⟩
    · rw [hrun]
      exact hnext v w' hb hI' hRi
    · rw [hrun]
      exact hnext undef w' hb hI' hRi
    · rw [hrun, Oper.upon_enter]
      refine hcall.mono ?_
      rintro e w' ⟨v, rfl, hb, hI', hRi⟩
      exact hnext v w' hb hI' hRi
def AllOps (F : Nat → Oper → Prop) : List Oper → Nat → Prop
  | [], _ => True
  | o :: l, k => F k o ∧ AllOps F l (k + 1)
theorem allOps_nil {F : Nat → Oper → Prop} {k : Nat} : AllOps F [] k := trivial
theorem allOps_cons {F : Nat → Oper → Prop} {o : Oper} {l : List Oper} {k : Nat} (h : F k o) (t : AllOps F l (k + 1)) : AllOps F (o :: l) k := ⟨h, t⟩
theorem allOps_spec {F : Nat → Oper → Prop} : ∀ {L : List Oper} {k : Nat}, AllOps F L k → ∀ i o, L[i]? = some o → F (k + i) o
  | [], _, _, i, o, h => by simp at h
  | o :: l, k, hA, 0, o', h => by
    simp at h
    subst h
    exact hA.1
  | o :: l, k, hA, i + 1, o', h => by
    have := allOps_spec hA.2 i o' (by simpa using h)
    rw [show k + (i + 1) = k + 1 + i by omega]
    exact this
/-- what is to be shown of one operation -/
def OneOp (P : Program) (L : List Oper) (a0 : Act) (Inv : World → Prop) (S : Nat → World → World → Prop) (R : Nat → (Nat → Value) → World → Prop) (i : Nat) (o : Oper) : Prop :=
  ∀ (vs : Nat → Value) (w : World) (ρ : Operand → Value), (∀ x, ρ x = envOf L a0 vs o x) → (∀ c, ρ (.const c) = c) → (∀ g, ρ (.global g) = .pointer (some ⟨g, 0, none⟩)) → (∀ f, ρ (.func f) = .func (.func f) #[] #[]) →
    Inv w → (∀ j, predB o j = true → R j vs w) → OpRel P (S i) ρ o w (fun v w' => Inv w' ∧ R i (upd vs i v) w')
theorem rel_value {S : World → World → Prop} {ρ : Operand → Value} {o : Oper} {w : World} {K : Value → World → Prop} (v : Value) (h : (execOp ρ o).run P w = .ok (.value v) w) (hk : K v w) (hs : S w w := by exact Below.refl _ _) : OpRel P S ρ o w K := .inl ⟨v, w, h, hs, hk⟩
theorem rel_made {S : World → World → Prop} {ρ : Operand → Value} {o : Oper} {w w' : World} {K : Value → World → Prop} (v : Value) (h : (execOp ρ o).run P w = .ok (.value v) w') (hb : S w w') (hk : K v w') : OpRel P S ρ o w K := .inl ⟨v, w', h, hb, hk⟩
theorem rel_skip {S : World → World → Prop} {ρ : Operand → Value} {o : Oper} {w w' : World} {K : Value → World → Prop} (h : (execOp ρ o).run P w = .ok .skip w') (hb : S w w') (hk : K undef w') : OpRel P S ρ o w K := .inr (.inl ⟨w', h, hb, hk⟩)
theorem rel_call {S : World → World → Prop} {ρ : Operand → Value} {oi : Oper} {w : World} {K : Value → World → Prop} {f : FuncId} {fn : Func} {ars : Array Operand} {ts : Array TypeId} (hf : P.funcs[f]? = some fn) (hname : (fn.name == "runtime.NumGoroutine") = false) (hb : fn.body.isSome = true) (args : Array Value)
    (hop : oi.op = .call { callee := .value (.func f), args := ars, argTypes := ts }) (hfun : ρ (.func f) = .func (.func f) #[] #[]) (hargs : ars.map ρ = args)
    (h : Calls P f args w fun e w' => ∃ v, e = .returned v ∧ S w w' ∧ K v w') : OpRel P S ρ oi w K := by
  refine .inr (.inr ⟨f, args, ?_, h⟩)
  have he := enters_ hf hname hb args w
  unfold execOp
  simp [hop, resolve, Deferred.ofValue, invoke, hfun, hargs, he]
/-- the law: a region that draws its order -/
theorem wp_region_rel {id : Nat} (L : List Oper) (hm : P.follows .mixedOrders = true) (N : Nat) (a0 : Act) (w0 : World) (hN : a0.tmps.size = N) (hok : okFrom L N L 0 = true) (Inv : World → Prop) (S : Nat → World → World → Prop) (R : Nat → (Nat → Value) → World → Prop) (hI : Inv w0.drew)
    (hst : ∀ i j vs w w', i ≠ j → Inv w → R j vs w → S i w w' → R j vs w')
    (hcg : ∀ j o vs vs' w, L[j]? = some o → vs' j = vs j → (∀ k, predB o k = true → vs' k = vs k) → R j vs w → R j vs' w)
    (hgd : AllOps (fun (_ : Nat) (o : Oper) => ∀ (j : Nat) (b : Bool), o.guard = some (j, b) → ∀ (vs : Nat → Value) (w : World), R j vs w → vs j = .bool b) L 0)
    (step : AllOps (OneOp P L a0 Inv S R) L 0)
    (done : ∀ vs w, Inv w → (∀ j, j < L.length → R j vs w) → Q .normal (fillFrom L 0 a0 vs) w) :
    (Code.region id L.toArray true).wp P Q a0 w0 := by
  subst hN
  have step' : ∀ i o, L[i]? = some o → ∀ (vs : Nat → Value) (w : World), Inv w → (∀ j, predB o j = true → R j vs w) → OpRel P (S i) (envOf L a0 vs o) o w (fun v w' => Inv w' ∧ R i (upd vs i v) w') := by
    intro i o ho vs w hI hp
    have h := allOps_spec step i o ho
    rw [Nat.zero_add] at h
    exact h vs w (envOf L a0 vs o) (fun _ => rfl) (fun _ => rfl) (fun _ => rfl) (fun _ => rfl) hI hp
  refine wp_region_any hm ?_
  have hgd' : ∀ (i : Nat) (o : Oper), L[i]? = some o → ∀ (j : Nat) (b : Bool), o.guard = some (j, b) → ∀ (vs : Nat → Value) (w : World), R j vs w → vs j = .bool b := fun i o ho => by
    have h := allOps_spec hgd i o ho
    exact h
  refine wpAny_rel L a0 hok Inv S R hst hcg hgd' step' done L.toArray.size (Array.replicate L.toArray.size false) (fun _ => undef) a0 _ (by simp) ?_ ?_ hI ?_ ?_
  · intro i o j _ h
    simp [Array.getD_eq_getD_getElem?, Array.getElem?_replicate] at h
    split at h <;> simp at h
  · refine ⟨rfl, rfl, fun t ht => ?_⟩
    have e : slotV L a0 (Array.replicate L.toArray.size false) (fun _ => undef) t = a0.tmps.getD t undef := by
      unfold slotV
      cases srcFrom L 0 t with
      | none => rfl
      | some j =>
        simp only
        rw [if_neg]
        simp [Array.getD_eq_getD_getElem?, Array.getElem?_replicate]
        split <;> simp
    rw [e]
    simp [Array.getD_eq_getD_getElem?, Array.getElem?_eq_getElem ht]
  · intro j h
    simp [Array.getD_eq_getD_getElem?, Array.getElem?_replicate] at h
    split at h <;> simp at h
  · have : ∀ (f : Nat → Bool) n, cnt f n ≤ n := by
      intro f n
      induction n with
      | zero => exact Nat.le_refl _
      | succ n ih => simp only [cnt]; split <;> omega
    exact Nat.le_trans (this _ _) (by simp)
end
end Go.Proofs.YtljjpdjknnhceaaDoor.RegG
