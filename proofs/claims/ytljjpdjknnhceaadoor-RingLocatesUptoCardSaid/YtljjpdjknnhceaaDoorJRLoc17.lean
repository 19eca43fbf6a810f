/- Joined texts of this claim: LocKit, RegA, RLocR, LocR, Loc, RefPure -/
import Derived.Test.YtljjpdjknnhceaaDoorJRLoc3
import Derived.Test.YtljjpdjknnhceaaDoorJRLoc9
import Derived.Test.YtljjpdjknnhceaaDoorJRLoc16
import Derived.Test.YtljjpdjknnhceaaDoorJRLoc5
import Derived.Test.YtljjpdjknnhceaaDoorJRLoc4
import Derived.Test.YtljjpdjknnhceaaDoorJRLoc14
import Derived.Test.YtljjpdjknnhceaaDoorJRLoc15
import Derived.BigQuiet
set_option linter.unusedVariables false
set_option linter.unusedSimpArgs false
/- A place: its cells. -/
set_option linter.unusedVariables false
set_option linter.unusedSimpArgs false
namespace Go.Proofs.YtljjpdjknnhceaaDoor.LocKit
open Go.RowKit Go.Proofs.YtljjpdjknnhceaaDoorW.PrintWords Go.Proofs.YtljjpdjknnhceaaDoorW.PrintLast Go.Proofs.YtljjpdjknnhceaaDoorW.PrintMore
open Go.Proofs.YtljjpdjknnhceaaDoor.Base Go.Proofs.YtljjpdjknnhceaaDoor.App Go.Proofs.YtljjpdjknnhceaaDoor.RingPure Go.Proofs.YtljjpdjknnhceaaDoor.ChkPure Go.Proofs.YtljjpdjknnhceaaDoor.Clus Go.Proofs.YtljjpdjknnhceaaDoor.Mids Go.Proofs.YtljjpdjknnhceaaDoor.Chkd Go.Proofs.YtljjpdjknnhceaaDoor.LocPure Go.Proofs.YtljjpdjknnhceaaDoor.TakeN Go.Proofs.YtljjpdjknnhceaaDoor.Sort Go.Proofs.YtljjpdjknnhceaaDoor.Name
open Go.Proofs.YtljjpdjknnhceaaDoor.Words (strOf strOf_size)
open Go.Proofs.YtljjpdjknnhceaaDoor.WithV (list_build)
def plL (r : Pl) : List Value := [.int .i64 r.part, .int .i64 r.chunk, .string (strOf r.hash)]
def plZ : List Value := [.int .i64 0, .int .i64 0, .string { data := #[] }]
def LocPost (r : Pl) (w : World) (e : Ending) (w' : World) : Prop := Below w.heap.size w w' ∧ e = .returned (.tuple #[.agg (plL r).toArray, .int .i64 r.err])
theorem infoP : (Tryd.prog.info? 44).map (·.size) = some 3 := by kernel_rfl
theorem plL_one (r : Pl) : (plL r).toArray.all (·.oneCell') = true := by simp [plL, Value.oneCell']
theorem plL_err (x : Int) : plL ⟨x, 0, 0, []⟩ = plZ := rfl
theorem plZ_one : plZ.toArray.all (·.oneCell') = true := by simp [plZ, Value.oneCell']
theorem built_z : Tryd.prog.built 44 [] = some plZ.toArray := by kernel_rfl
theorem built_pl (p c : Int) (h : ByteArray) : Tryd.prog.built 44 [(0, .int .i64 p), (1, .int .i64 c), (2, .string h)] = some #[.int .i64 p, .int .i64 c, .string h] := by kernel_rfl
/-- the world behind the boxes -/
structure LW (c : Cl) (nv : Value) (w w1 : World) : Prop where mk ::
  (box : w1.heap[w.heap.size]? = some (.cells (cL c nv).toArray 24 (0, 0))) (res : w1.heap[w.heap.size + 1]? = some (.cells plZ.toArray 44 (0, 0))) (bel : Below w.heap.size w w1)
theorem lw_of (c : Cl) (nv : Value) (w : World) : LW c nv w ((w.alloc (.cells (cL c nv).toArray 24)).alloc (.cells #[.int .i64 0, .int .i64 0, .string { data := #[] }] 44)) := by
  obtain ⟨w0, hw0⟩ : ∃ w0, w0 = w.alloc (.cells (cL c nv).toArray 24) := ⟨_, rfl⟩
  rw [← hw0]
  have hb0 : Below w.heap.size w w0 := by rw [hw0]; exact (Below.refl _ _).alloc (Nat.le_refl _) _
  have hs0 : w0.heap.size = w.heap.size + 1 := by rw [hw0]; simp
  have hb1 : Below w0.heap.size w0 (w0.alloc (.cells #[.int .i64 0, .int .i64 0, .string { data := #[] }] 44)) := (Below.refl _ _).alloc (Nat.le_refl _) _
  have hc : w0.heap[w.heap.size]? = some (.cells (cL c nv).toArray 24 (0, 0)) := by rw [hw0]; exact Go.heap_alloc_new w _
  exact ⟨(hb1.block _ (by omega)).trans hc, by rw [← hs0]; exact Go.heap_alloc_new w0 _, hb0.trans (hb1.mono hb0.size)⟩
theorem loc_results (tmps : Array Value) (W : World) (g : Nat) (cs : List Value) (x : Value) (hp : tmps.getD 4 undef = .pointer (some ⟨g, 0, none⟩)) (hx : tmps.getD 5 undef = x) (hl : cs.length = 3) (h : W.heap[g]? = some (.cells cs.toArray 44 (0, 0))) :
    (results Tryd.f22 tmps).run Tryd.prog W = .ok (.tuple #[.agg cs.toArray, x]) W := by
  subst hx
  exact results_ct_mid rfl tmps W g 0 cs _ hp (blk_range h) Tryd.underlying44 rfl (by rw [hl]; exact infoP)
theorem strs_new (w : World) (l : List ByteArray) (e : TypeId) (hl : l.length ≤ 9223372036854775807) : Kd.C Kd.string (w.alloc (.cells (l.map Value.string).toArray e)) (some ⟨w.heap.size, 0, none⟩) l.length l := by
  refine ⟨rfl, hl, fun _ => ⟨_, rfl, fun j p hj => ⟨[.string p], rfl, rfl, fun i u hu => ?_⟩⟩⟩
  have hi : i = 0 := by
    rcases i with _ | i
    · rfl
    · simp at hu
  subst hi
  have h0 : u = .string p := by simpa using hu.symm
  subst h0
  have e1 : (⟨w.heap.size, 0, none⟩ : Addr).add (j * Kd.string.sz + 0) = ⟨w.heap.size, j, none⟩ := by
    show (⟨w.heap.size, 0, none⟩ : Addr).add (j * 1 + 0) = _
    unfold Addr.add; split <;> simp_all
  rw [e1]
  exact news w (l.map Value.string) e j _ (by rw [List.getElem?_map, hj]; rfl)
theorem exec_store_mid {P : Program} {ρ : Operand → Value} {o : Oper} {w : World} (ty : TypeId) (x y : Operand) (ho : o.op = .store ty x y)
    (b p : Nat) (cells : Array Value) (hx : ρ x = .pointer (some ⟨b, p, none⟩)) (hy : ρ y = .agg cells)
    (ht : w.there b p cells.size) (hi : (P.info? ty).map (·.size) = some cells.size) (h1 : cells.all (·.oneCell') = true) : (execOp ρ o).run P w = .ok .skip (w.setCells b p cells.toList) := by
  unfold execOp
  simp only [ho, hx, hy, Instr.storeAt, Instr.sureAddr, Sem.run_bind, Sem.run_pure, Result.andThen_ok, run_storeVar_mid w b p ty cells ht hi h1]
theorem slice_end (M : List UInt8) (k : Nat) (hk : k ≤ M.length) (wx : World) : (Instr.slice 9 (.string (strOf M)) (some (.int .i64 ((k : Nat) : Int))) none none).run Tryd.prog wx = .ok (.string (strOf (M.drop k))) wx := by
  have h := run_slice_string_l (P := Tryd.prog) wx 9 (strOf M) Tryd.underlying9 .i64 ((k : Nat) : Int) (by omega) (by rw [strOf_size]; omega)
  have e : (strOf M).extract k (strOf M).size = strOf (M.drop k) := by
    rw [← Words.strOf_data ((strOf M).extract k (strOf M).size), Lib.extract_data, strOf_size, List.take_of_length_le (by rw [List.length_drop]; exact Nat.le_refl _)]; rfl
  rw [h, Int.toNat_natCast, e]
theorem slice_mid (M : List UInt8) (i j : Nat) (h1 : i ≤ j) (h2 : j ≤ M.length) (wx : World) : (Instr.slice 9 (.string (strOf M)) (some (.int .i64 ((i : Nat) : Int))) (some (.int .i64 ((j : Nat) : Int))) none).run Tryd.prog wx = .ok (.string (strOf ((M.drop i).take (j - i)))) wx := by
  have h := Go.run_slice_string (P := Tryd.prog) wx 9 (strOf M) .i64 .i64 ((i : Nat) : Int) ((j : Nat) : Int) Tryd.underlying9 (by omega) (by omega) (by rw [strOf_size]; omega)
  have e : (strOf M).extract i j = strOf ((M.drop i).take (j - i)) := by
    rw [← Words.strOf_data ((strOf M).extract i j), Lib.extract_data]; rfl
  rw [h, Int.toNat_natCast, Int.toNat_natCast, e]
end Go.Proofs.YtljjpdjknnhceaaDoor.LocKit

/- A region of a function, taken out of its code, so that it is walked in a declaration of its own. -/
set_option linter.unusedVariables false
set_option linter.unusedSimpArgs false
namespace Go.Proofs.YtljjpdjknnhceaaDoor.RegA
open Go.RowKit Go.Proofs.YtljjpdjknnhceaaDoorW.PrintWords Go.Proofs.YtljjpdjknnhceaaDoorW.PrintLast
def regOf (n : Nat) : Code → Option Code
  | .region k ops d => if k = n then some (.region k ops d) else none
  | .seq a b => match regOf n a with
    | some c => some c
    | none => regOf n b
  | .cond _ a b => match regOf n a with
    | some c => some c
    | none => regOf n b
  | .loop c => regOf n c
  | .block _ c => regOf n c
  | .scope c => regOf n c
  | _ => none
noncomputable def regC (n : Nat) (f : Func) : Code := ((f.body.bind (regOf n)).getD .skip)
def putV : List (Option Tmp × Value) → Act → Act
  | [], a => a
  | p :: l, a => putV l (a.put p.1 p.2)
end Go.Proofs.YtljjpdjknnhceaaDoor.RegA

/- The document's Locate: its region that draws its order. -/
set_option linter.unusedVariables false
set_option linter.unusedSimpArgs false
namespace Go.Proofs.YtljjpdjknnhceaaDoor.RLocR
open Go.RowKit Go.Proofs.YtljjpdjknnhceaaDoorW.PrintWords Go.Proofs.YtljjpdjknnhceaaDoorW.PrintLast Go.Proofs.YtljjpdjknnhceaaDoorW.PrintMore
open Go.Proofs.YtljjpdjknnhceaaDoor.Base Go.Proofs.YtljjpdjknnhceaaDoor.App Go.Proofs.YtljjpdjknnhceaaDoor.RingPure Go.Proofs.YtljjpdjknnhceaaDoor.ChkPure Go.Proofs.YtljjpdjknnhceaaDoor.Clus Go.Proofs.YtljjpdjknnhceaaDoor.Mids Go.Proofs.YtljjpdjknnhceaaDoor.Chkd Go.Proofs.YtljjpdjknnhceaaDoor.LocPure Go.Proofs.YtljjpdjknnhceaaDoor.RegA Go.Proofs.YtljjpdjknnhceaaDoor.LocKit Go.Proofs.YtljjpdjknnhceaaDoor.TakeN Go.Proofs.YtljjpdjknnhceaaDoor.RefCheck
open Go.Proofs.YtljjpdjknnhceaaDoor.Words (strOf strOf_size)
open Go.Proofs.YtljjpdjknnhceaaDoor.WithV (exec_build)
set_option maxRecDepth 100000 in
set_option maxHeartbeats 4000000 in
theorem rloc7 (Q : Exit → Act → World → Prop) (a0 : Act) (w wi : World) (ga cap P W C X0 X4 : Nat) (c : Cl) (A : Option Addr) (ns : List Nd) (M : List UInt8) (HN : Aside0 (NodesAt w A ns)) (hcap : ns.length ≤ cap) (hnl : ns.length ≤ 1099511627776) (hcn : cnt ns ≤ 1099511627776) (HPE : Aside0 (P = cnt ns)) (HX0E : Aside0 (X0 = beV (M.take 4))) (HX4E : Aside0 (X4 = beV ((M.drop 4).take 4))) (HB : Aside0 (Below w.heap.size w wi)) (HBX : Aside0 (wi.heap[ga]? = some (.cells (cL c (.slice A ns.length cap)).toArray 24 (0, 0)))) (HR : Aside0 (wi.heap[ga + 1]? = some (.cells plZ.toArray 44 (0, 0)))) (hga : w.heap.size ≤ ga + 1)
    (HCE : Aside0 (c.chunks = (C : Int))) (HWE : Aside0 (c.width = (W : Int))) (hP1 : 1 ≤ P) (hP2 : P ≤ 64) (hC : 1 ≤ C ∧ C ≤ 16) (hW : 1 ≤ W ∧ W ≤ 16) (hX0 : X0 < 4294967296) (hX4 : X4 < 4294967296) (hM : M.length = 16)
    (hN : a0.tmps.size = 42) (h7 : a0.tmps.getD 7 undef = .string (strOf M)) (h2 : a0.tmps.getD 2 undef = .pointer (some ⟨ga, 0, none⟩)) (h4 : a0.tmps.getD 4 undef = .pointer (some ⟨ga + 1, 0, none⟩))
    (hQ : ∀ wv : World, Below w.heap.size w wv → wv.heap[ga + 1]? = some (.cells (plL ⟨0, ((X0 % P : Nat) : Int), ((X4 % C : Nat) : Int), M.drop (16 - W)⟩).toArray 44 (0, 0)) → Q .normal (putV [(some 24, .string (strOf M)), (some 25, .string (strOf (M.take 4))), (some 26, .int .i64 ((X0 : Nat) : Int)), (some 27, .agg (cL c (.slice A ns.length cap)).toArray), (some 28, .int .i64 ((P : Nat) : Int)), (some 29, .int .i64 ((X0 % P : Nat) : Int)), (some 30, .string (strOf M)), (some 31, .string (strOf ((M.drop 4).take 4))), (some 32, .int .i64 ((X4 : Nat) : Int)), (some 33, .pointer (some ⟨ga, 3, none⟩)), (some 34, .int .i64 ((C : Nat) : Int)), (some 35, .int .i64 ((X4 % C : Nat) : Int)), (some 36, .string (strOf M)), (some 37, .pointer (some ⟨ga, 2, none⟩)), (some 38, .int .i64 ((W : Nat) : Int)), (some 39, .int .i64 ((16 - W : Nat) : Int)), (some 40, .string (strOf (M.drop (16 - W)))), (some 41, .agg (plL ⟨0, ((X0 % P : Nat) : Int), ((X4 % C : Nat) : Int), M.drop (16 - W)⟩).toArray), (none, undef), (some 5, .int .i64 0)] a0) wv) :
    Code.wp Tryd.prog (regC 7 Tryd.f23) Q a0 wi := by
  have HM1 : Aside0 ((X0 : Int) % (P : Int) = ((X0 % P : Nat) : Int)) := ⟨(Int.natCast_emod X0 P).symm⟩
  have HM2 : Aside0 ((X4 : Int) % (C : Int) = ((X4 % C : Nat) : Int)) := ⟨(Int.natCast_emod X4 C).symm⟩
  have HSZ : Aside0 ((strOf M).size = 16) := ⟨by rw [strOf_size]; exact hM⟩
  have HSB : Aside0 (IntKind.i64.wrap (16 - (W : Int)) = ((16 - W : Nat) : Int)) := ⟨by rw [IntWalk.i64_in _ (by omega)]; omega⟩
  have HSL : Aside0 (∀ wx : World, (Instr.slice 9 (.string (strOf M)) (some (.int .i64 ((16 - W : Nat) : Int))) none none).run Tryd.prog wx = .ok (.string (strOf (M.drop (16 - W)))) wx) := ⟨fun wx => slice_end M (16 - W) (by omega) wx⟩
  have HS1 : Aside0 (∀ wx : World, (Instr.slice 9 (.string (strOf M)) (some (.int .i64 0)) (some (.int .i64 4)) none).run Tryd.prog wx = .ok (.string (strOf (M.take 4))) wx) := ⟨fun wx => slice_mid M 0 4 (by omega) (by omega) wx⟩
  have HS2 : Aside0 (∀ wx : World, (Instr.slice 9 (.string (strOf M)) (some (.int .i64 4)) (some (.int .i64 8)) none).run Tryd.prog wx = .ok (.string (strOf ((M.drop 4).take 4))) wx) := ⟨fun wx => slice_mid M 4 8 (by omega) (by omega) wx⟩
  conv => arg 2; whnf
  refine Reg.wp_region_rel _ (by kernel_rfl) _ _ _ hN (by kernel_rfl) (fun w' => Below w.heap.size w w' ∧ w'.heap[ga]? = some (.cells (cL c (.slice A ns.length cap)).toArray 24 (0, 0)) ∧ ∃ l : List Value, l.length = 3 ∧ w'.heap[ga + 1]? = some (.cells l.toArray 44 (0, 0))) (fun i w w' => if i = 18 then True else Below w.heap.size w w') (fun jq vs w' => match jq with
    | 0 => vs 0 = .string (strOf M)
    | 1 => vs 1 = .string (strOf (M.take 4))
    | 2 => vs 2 = .int .i64 ((X0 : Nat) : Int)
    | 3 => vs 3 = .agg (cL c (.slice A ns.length cap)).toArray
    | 4 => vs 4 = .int .i64 ((P : Nat) : Int)
    | 5 => vs 5 = .int .i64 ((X0 % P : Nat) : Int)
    | 6 => vs 6 = .string (strOf M)
    | 7 => vs 7 = .string (strOf ((M.drop 4).take 4))
    | 8 => vs 8 = .int .i64 ((X4 : Nat) : Int)
    | 9 => vs 9 = .pointer (some ⟨ga, 3, none⟩)
    | 10 => vs 10 = .int .i64 ((C : Nat) : Int)
    | 11 => vs 11 = .int .i64 ((X4 % C : Nat) : Int)
    | 12 => vs 12 = .string (strOf M)
    | 13 => vs 13 = .pointer (some ⟨ga, 2, none⟩)
    | 14 => vs 14 = .int .i64 ((W : Nat) : Int)
    | 15 => vs 15 = .int .i64 ((16 - W : Nat) : Int)
    | 16 => vs 16 = .string (strOf (M.drop (16 - W)))
    | 17 => vs 17 = .agg (plL ⟨0, ((X0 % P : Nat) : Int), ((X4 % C : Nat) : Int), M.drop (16 - W)⟩).toArray
    | 18 => w'.heap[ga + 1]? = some (.cells (plL ⟨0, ((X0 % P : Nat) : Int), ((X4 % C : Nat) : Int), M.drop (16 - W)⟩).toArray 44 (0, 0))
    | 19 => vs 19 = .int .i64 0
    | _ => True) (⟨below_drew HB.out, HBX.out, plZ, rfl, HR.out⟩) ?_ ?_ ?_ ?_
  · intro i j vs w0 w' hij hI hR hb
    rcases j with _ | j
    · exact hR
    rcases j with _ | j
    · exact hR
    rcases j with _ | j
    · exact hR
    rcases j with _ | j
    · exact hR
    rcases j with _ | j
    · exact hR
    rcases j with _ | j
    · exact hR
    rcases j with _ | j
    · exact hR
    rcases j with _ | j
    · exact hR
    rcases j with _ | j
    · exact hR
    rcases j with _ | j
    · exact hR
    rcases j with _ | j
    · exact hR
    rcases j with _ | j
    · exact hR
    rcases j with _ | j
    · exact hR
    rcases j with _ | j
    · exact hR
    rcases j with _ | j
    · exact hR
    rcases j with _ | j
    · exact hR
    rcases j with _ | j
    · exact hR
    rcases j with _ | j
    · exact hR
    rcases j with _ | j
    · have hb' : Below w0.heap.size w0 w' := by simp only [if_neg hij] at hb; exact hb
      exact (hb'.block _ (blk_lt hR)).trans hR
    rcases j with _ | j
    · exact hR
    exact trivial
  · intro j o vs vs1 w0 ho he hp hR
    rcases j with _ | j
    · exact he.trans hR
    rcases j with _ | j
    · exact he.trans hR
    rcases j with _ | j
    · exact he.trans hR
    rcases j with _ | j
    · exact he.trans hR
    rcases j with _ | j
    · exact he.trans hR
    rcases j with _ | j
    · exact he.trans hR
    rcases j with _ | j
    · exact he.trans hR
    rcases j with _ | j
    · exact he.trans hR
    rcases j with _ | j
    · exact he.trans hR
    rcases j with _ | j
    · exact he.trans hR
    rcases j with _ | j
    · exact he.trans hR
    rcases j with _ | j
    · exact he.trans hR
    rcases j with _ | j
    · exact he.trans hR
    rcases j with _ | j
    · exact he.trans hR
    rcases j with _ | j
    · exact he.trans hR
    rcases j with _ | j
    · exact he.trans hR
    rcases j with _ | j
    · exact he.trans hR
    rcases j with _ | j
    · exact he.trans hR
    rcases j with _ | j
    · exact hR
    rcases j with _ | j
    · exact he.trans hR
    exact trivial
  · skip
    refine Reg.allOps_cons ?_ ?_
    · intro vs w0 ρ hρ hcst hglb hfun hI hp
      have e7 : ρ (.tmp 7) = .string (strOf M) := (hρ (.tmp 7)).trans h7
      clear hρ hp
      refine Reg.rel_value (.string (strOf M)) ?_ ⟨hI, rfl⟩
      go_simp
    refine Reg.allOps_cons ?_ ?_
    · intro vs w0 ρ hρ hcst hglb hfun hI hp
      have e24 : ρ (.tmp 24) = .string (strOf M) := (hρ (.tmp 24)).trans (show vs 0 = .string (strOf M) from hp 0 rfl)
      clear hρ hp
      refine Reg.rel_value (.string (strOf (M.take 4))) ?_ ⟨hI, rfl⟩
      clear hI
      have hq := HS1.out
      go_simp
    refine Reg.allOps_cons ?_ ?_
    · intro vs w0 ρ hρ hcst hglb hfun hI hp
      have e25 : ρ (.tmp 25) = .string (strOf (M.take 4)) := (hρ (.tmp 25)).trans (show vs 1 = .string (strOf (M.take 4)) from hp 1 rfl)
      clear hρ hp
      obtain ⟨hB, hbx, l, hl, hr⟩ := hI
      refine Reg.rel_call Tryd.func56 (by kernel_rfl) rfl #[.string (strOf (M.take 4))] rfl (hfun _) (by simp [e25]) ?_
      refine (four_any (strOf (M.take 4)) w0 (by rw [strOf_size]; simp; omega)).mono ?_
      rintro e w3 ⟨rfl, hb⟩
      exact ⟨_, rfl, hb, ⟨hB.trans (hb.mono hB.size), (hb.block _ (blk_lt hbx)).trans hbx, l, hl, (hb.block _ (blk_lt hr)).trans hr⟩, by rw [HX0E.out]; rfl⟩
    refine Reg.allOps_cons ?_ ?_
    · intro vs w0 ρ hρ hcst hglb hfun hI hp
      have e2 : ρ (.tmp 2) = .pointer (some ⟨ga, 0, none⟩) := (hρ (.tmp 2)).trans h2
      clear hρ hp
      obtain ⟨hB, hbx, hl3⟩ := hI
      refine Reg.rel_value (.agg (cL c (.slice A ns.length cap)).toArray) (exec_load_mid 24 (.tmp 2) rfl ga 0 e2 _ _ (blk_range hbx) Tryd.underlying24 rfl infoC23) ⟨⟨hB, hbx, hl3⟩, rfl⟩
    refine Reg.allOps_cons ?_ ?_
    · intro vs w0 ρ hρ hcst hglb hfun hI hp
      have e27 : ρ (.tmp 27) = .agg (cL c (.slice A ns.length cap)).toArray := (hρ (.tmp 27)).trans (show vs 3 = .agg (cL c (.slice A ns.length cap)).toArray from hp 3 rfl)
      clear hρ hp
      obtain ⟨hB, hbx, l, hl, hr⟩ := hI
      refine Reg.rel_call Tryd.func49 (by kernel_rfl) rfl #[.agg (cL c (.slice A ns.length cap)).toArray] rfl (hfun _) (by simp [e27]) ?_
      refine (Count.parts_any c A cap ns w0 (HN.out.below hB) hcap hnl hcn).mono ?_
      rintro e w3 ⟨rfl, hb⟩
      exact ⟨_, rfl, hb, ⟨hB.trans (hb.mono hB.size), (hb.block _ (blk_lt hbx)).trans hbx, l, hl, (hb.block _ (blk_lt hr)).trans hr⟩, by rw [HPE.out]; rfl⟩
    refine Reg.allOps_cons ?_ ?_
    · intro vs w0 ρ hρ hcst hglb hfun hI hp
      have e26 : ρ (.tmp 26) = .int .i64 ((X0 : Nat) : Int) := (hρ (.tmp 26)).trans (show vs 2 = .int .i64 ((X0 : Nat) : Int) from hp 2 rfl)
      have e28 : ρ (.tmp 28) = .int .i64 ((P : Nat) : Int) := (hρ (.tmp 28)).trans (show vs 4 = .int .i64 ((P : Nat) : Int) from hp 4 rfl)
      clear hρ hp
      refine Reg.rel_value (.int .i64 ((X0 % P : Nat) : Int)) ?_ ⟨hI, rfl⟩
      clear hI
      go_simp
      rw [if_neg (by omega), Int.tmod_eq_emod_of_nonneg (Int.natCast_nonneg _)]
    refine Reg.allOps_cons ?_ ?_
    · intro vs w0 ρ hρ hcst hglb hfun hI hp
      have e7 : ρ (.tmp 7) = .string (strOf M) := (hρ (.tmp 7)).trans h7
      clear hρ hp
      refine Reg.rel_value (.string (strOf M)) ?_ ⟨hI, rfl⟩
      go_simp
    refine Reg.allOps_cons ?_ ?_
    · intro vs w0 ρ hρ hcst hglb hfun hI hp
      have e30 : ρ (.tmp 30) = .string (strOf M) := (hρ (.tmp 30)).trans (show vs 6 = .string (strOf M) from hp 6 rfl)
      clear hρ hp
      refine Reg.rel_value (.string (strOf ((M.drop 4).take 4))) ?_ ⟨hI, rfl⟩
      clear hI
      have hq := HS2.out
      go_simp
    refine Reg.allOps_cons ?_ ?_
    · intro vs w0 ρ hρ hcst hglb hfun hI hp
      have e31 : ρ (.tmp 31) = .string (strOf ((M.drop 4).take 4)) := (hρ (.tmp 31)).trans (show vs 7 = .string (strOf ((M.drop 4).take 4)) from hp 7 rfl)
      clear hρ hp
      obtain ⟨hB, hbx, l, hl, hr⟩ := hI
      refine Reg.rel_call Tryd.func56 (by kernel_rfl) rfl #[.string (strOf ((M.drop 4).take 4))] rfl (hfun _) (by simp [e31]) ?_
      refine (four_any (strOf ((M.drop 4).take 4)) w0 (by rw [strOf_size]; simp; omega)).mono ?_
      rintro e w3 ⟨rfl, hb⟩
      exact ⟨_, rfl, hb, ⟨hB.trans (hb.mono hB.size), (hb.block _ (blk_lt hbx)).trans hbx, l, hl, (hb.block _ (blk_lt hr)).trans hr⟩, by rw [HX4E.out]; rfl⟩
    refine Reg.allOps_cons ?_ ?_
    · intro vs w0 ρ hρ hcst hglb hfun hI hp
      have e2 : ρ (.tmp 2) = .pointer (some ⟨ga, 0, none⟩) := (hρ (.tmp 2)).trans h2
      clear hρ hp
      refine Reg.rel_value (.pointer (some ⟨ga, 3, none⟩)) ?_ ⟨hI, rfl⟩
      go_simp
    refine Reg.allOps_cons ?_ ?_
    · intro vs w0 ρ hρ hcst hglb hfun hI hp
      have e33 : ρ (.tmp 33) = .pointer (some ⟨ga, 3, none⟩) := (hρ (.tmp 33)).trans (show vs 9 = .pointer (some ⟨ga, 3, none⟩) from hp 9 rfl)
      clear hρ hp
      obtain ⟨hB, hbx, hl3⟩ := hI
      have hl2 : w0.cell? ⟨ga, 3, none⟩ = some (.int .i64 ((C : Nat) : Int)) := by rw [blk_cell hbx, ← HCE.out]; rfl
      refine Reg.rel_value (.int .i64 ((C : Nat) : Int)) ?_ ⟨⟨hB, hbx, hl3⟩, rfl⟩
      clear hbx hl3
      go_simp
    refine Reg.allOps_cons ?_ ?_
    · intro vs w0 ρ hρ hcst hglb hfun hI hp
      have e32 : ρ (.tmp 32) = .int .i64 ((X4 : Nat) : Int) := (hρ (.tmp 32)).trans (show vs 8 = .int .i64 ((X4 : Nat) : Int) from hp 8 rfl)
      have e34 : ρ (.tmp 34) = .int .i64 ((C : Nat) : Int) := (hρ (.tmp 34)).trans (show vs 10 = .int .i64 ((C : Nat) : Int) from hp 10 rfl)
      clear hρ hp
      refine Reg.rel_value (.int .i64 ((X4 % C : Nat) : Int)) ?_ ⟨hI, rfl⟩
      clear hI
      go_simp
      rw [if_neg (by omega), Int.tmod_eq_emod_of_nonneg (Int.natCast_nonneg _)]
    refine Reg.allOps_cons ?_ ?_
    · intro vs w0 ρ hρ hcst hglb hfun hI hp
      have e7 : ρ (.tmp 7) = .string (strOf M) := (hρ (.tmp 7)).trans h7
      clear hρ hp
      refine Reg.rel_value (.string (strOf M)) ?_ ⟨hI, rfl⟩
      go_simp
    refine Reg.allOps_cons ?_ ?_
    · intro vs w0 ρ hρ hcst hglb hfun hI hp
      have e2 : ρ (.tmp 2) = .pointer (some ⟨ga, 0, none⟩) := (hρ (.tmp 2)).trans h2
      clear hρ hp
      refine Reg.rel_value (.pointer (some ⟨ga, 2, none⟩)) ?_ ⟨hI, rfl⟩
      go_simp
    refine Reg.allOps_cons ?_ ?_
    · intro vs w0 ρ hρ hcst hglb hfun hI hp
      have e37 : ρ (.tmp 37) = .pointer (some ⟨ga, 2, none⟩) := (hρ (.tmp 37)).trans (show vs 13 = .pointer (some ⟨ga, 2, none⟩) from hp 13 rfl)
      clear hρ hp
      obtain ⟨hB, hbx, hl3⟩ := hI
      have hl2 : w0.cell? ⟨ga, 2, none⟩ = some (.int .i64 ((W : Nat) : Int)) := by rw [blk_cell hbx, ← HWE.out]; rfl
      refine Reg.rel_value (.int .i64 ((W : Nat) : Int)) ?_ ⟨⟨hB, hbx, hl3⟩, rfl⟩
      clear hbx hl3
      go_simp
    refine Reg.allOps_cons ?_ ?_
    · intro vs w0 ρ hρ hcst hglb hfun hI hp
      have e38 : ρ (.tmp 38) = .int .i64 ((W : Nat) : Int) := (hρ (.tmp 38)).trans (show vs 14 = .int .i64 ((W : Nat) : Int) from hp 14 rfl)
      clear hρ hp
      refine Reg.rel_value (.int .i64 ((16 - W : Nat) : Int)) ?_ ⟨hI, rfl⟩
      clear hI
      have hq := HSB.out
      go_simp
    refine Reg.allOps_cons ?_ ?_
    · intro vs w0 ρ hρ hcst hglb hfun hI hp
      have e36 : ρ (.tmp 36) = .string (strOf M) := (hρ (.tmp 36)).trans (show vs 12 = .string (strOf M) from hp 12 rfl)
      have e39 : ρ (.tmp 39) = .int .i64 ((16 - W : Nat) : Int) := (hρ (.tmp 39)).trans (show vs 15 = .int .i64 ((16 - W : Nat) : Int) from hp 15 rfl)
      clear hρ hp
      refine Reg.rel_value (.string (strOf (M.drop (16 - W)))) ?_ ⟨hI, rfl⟩
      clear hI
      have hq := HSL.out
      go_simp
    refine Reg.allOps_cons ?_ ?_
    · intro vs w0 ρ hρ hcst hglb hfun hI hp
      have e29 : ρ (.tmp 29) = .int .i64 ((X0 % P : Nat) : Int) := (hρ (.tmp 29)).trans (show vs 5 = .int .i64 ((X0 % P : Nat) : Int) from hp 5 rfl)
      have e35 : ρ (.tmp 35) = .int .i64 ((X4 % C : Nat) : Int) := (hρ (.tmp 35)).trans (show vs 11 = .int .i64 ((X4 % C : Nat) : Int) from hp 11 rfl)
      have e40 : ρ (.tmp 40) = .string (strOf (M.drop (16 - W))) := (hρ (.tmp 40)).trans (show vs 16 = .string (strOf (M.drop (16 - W))) from hp 16 rfl)
      clear hρ hp
      refine Reg.rel_value (.agg (plL ⟨0, ((X0 % P : Nat) : Int), ((X4 % C : Nat) : Int), M.drop (16 - W)⟩).toArray) (exec_build 44 _ rfl _ ?_) ⟨hI, rfl⟩
      simp only [List.map_toArray, List.map_cons, List.map_nil, hcst, e29, e35, e40]
      exact built_pl _ _ _
    refine Reg.allOps_cons ?_ ?_
    · intro vs w0 ρ hρ hcst hglb hfun hI hp
      have e4 : ρ (.tmp 4) = .pointer (some ⟨ga + 1, 0, none⟩) := (hρ (.tmp 4)).trans h4
      have e41 : ρ (.tmp 41) = .agg (plL ⟨0, ((X0 % P : Nat) : Int), ((X4 % C : Nat) : Int), M.drop (16 - W)⟩).toArray := (hρ (.tmp 41)).trans (show vs 17 = .agg (plL ⟨0, ((X0 % P : Nat) : Int), ((X4 % C : Nat) : Int), M.drop (16 - W)⟩).toArray from hp 17 rfl)
      clear hρ hp
      obtain ⟨hB, hbx, l, hl, hr⟩ := hI
      have hth : w0.there (ga + 1) 0 l.length := blk_there hr
      rw [hl] at hth
      have hnew : (w0.setCells (ga + 1) 0 (plL ⟨0, ((X0 % P : Nat) : Int), ((X4 % C : Nat) : Int), M.drop (16 - W)⟩)).heap[ga + 1]? = some (.cells (plL ⟨0, ((X0 % P : Nat) : Int), ((X4 % C : Nat) : Int), M.drop (16 - W)⟩).toArray 44 (0, 0)) := setCells_whole hr (by rw [hl]; rfl)
      refine Reg.rel_skip (w' := w0.setCells (ga + 1) 0 (plL ⟨0, ((X0 % P : Nat) : Int), ((X4 % C : Nat) : Int), M.drop (16 - W)⟩)) (exec_store_mid 44 (.tmp 4) (.tmp 41) rfl (ga + 1) 0 (plL ⟨0, ((X0 % P : Nat) : Int), ((X4 % C : Nat) : Int), M.drop (16 - W)⟩).toArray e4 e41 hth infoP (plL_one _)) trivial ⟨⟨Go.Proofs.YtljjpdjknnhceaaDoor.Mids.below_setCells hB (by omega) _ _, (setCells_other (ga + 1) (by omega) _ _ _).trans hbx, _, rfl, hnew⟩, hnew⟩
    refine Reg.allOps_cons ?_ ?_
    · intro vs w0 ρ hρ hcst hglb hfun hI hp
      clear hρ hp
      refine Reg.rel_value (.int .i64 0) ?_ ⟨hI, rfl⟩
      go_simp
    exact Reg.allOps_nil
  intro vs w0 hI hR
  have r0 : vs 0 = .string (strOf M) := hR 0 (by decide)
  have r1 : vs 1 = .string (strOf (M.take 4)) := hR 1 (by decide)
  have r2 : vs 2 = .int .i64 ((X0 : Nat) : Int) := hR 2 (by decide)
  have r3 : vs 3 = .agg (cL c (.slice A ns.length cap)).toArray := hR 3 (by decide)
  have r4 : vs 4 = .int .i64 ((P : Nat) : Int) := hR 4 (by decide)
  have r5 : vs 5 = .int .i64 ((X0 % P : Nat) : Int) := hR 5 (by decide)
  have r6 : vs 6 = .string (strOf M) := hR 6 (by decide)
  have r7 : vs 7 = .string (strOf ((M.drop 4).take 4)) := hR 7 (by decide)
  have r8 : vs 8 = .int .i64 ((X4 : Nat) : Int) := hR 8 (by decide)
  have r9 : vs 9 = .pointer (some ⟨ga, 3, none⟩) := hR 9 (by decide)
  have r10 : vs 10 = .int .i64 ((C : Nat) : Int) := hR 10 (by decide)
  have r11 : vs 11 = .int .i64 ((X4 % C : Nat) : Int) := hR 11 (by decide)
  have r12 : vs 12 = .string (strOf M) := hR 12 (by decide)
  have r13 : vs 13 = .pointer (some ⟨ga, 2, none⟩) := hR 13 (by decide)
  have r14 : vs 14 = .int .i64 ((W : Nat) : Int) := hR 14 (by decide)
  have r15 : vs 15 = .int .i64 ((16 - W : Nat) : Int) := hR 15 (by decide)
  have r16 : vs 16 = .string (strOf (M.drop (16 - W))) := hR 16 (by decide)
  have r17 : vs 17 = .agg (plL ⟨0, ((X0 % P : Nat) : Int), ((X4 % C : Nat) : Int), M.drop (16 - W)⟩).toArray := hR 17 (by decide)
  have r19 : vs 19 = .int .i64 0 := hR 19 (by decide)
  have hblk := hR 18 (by decide)
  have hq := hQ w0 hI.1 hblk
  simp only [RegA.putV, Act.put] at hq
  simp only [Reg.fillFrom, Act.put, r0, r1, r2, r3, r4, r5, r6, r7, r8, r9, r10, r11, r12, r13, r14, r15, r16, r17, r19]
  exact hq
end Go.Proofs.YtljjpdjknnhceaaDoor.RLocR

/- Locate's regions that draw their order. -/
set_option linter.unusedVariables false
set_option linter.unusedSimpArgs false
namespace Go.Proofs.YtljjpdjknnhceaaDoor.LocR
open Go.RowKit Go.Proofs.YtljjpdjknnhceaaDoorW.PrintWords Go.Proofs.YtljjpdjknnhceaaDoorW.PrintLast Go.Proofs.YtljjpdjknnhceaaDoorW.PrintMore
open Go.Proofs.YtljjpdjknnhceaaDoor.Base Go.Proofs.YtljjpdjknnhceaaDoor.App Go.Proofs.YtljjpdjknnhceaaDoor.RingPure Go.Proofs.YtljjpdjknnhceaaDoor.ChkPure Go.Proofs.YtljjpdjknnhceaaDoor.Clus Go.Proofs.YtljjpdjknnhceaaDoor.Mids Go.Proofs.YtljjpdjknnhceaaDoor.Chkd Go.Proofs.YtljjpdjknnhceaaDoor.LocPure Go.Proofs.YtljjpdjknnhceaaDoor.RegA Go.Proofs.YtljjpdjknnhceaaDoor.LocKit
open Go.Proofs.YtljjpdjknnhceaaDoor.Words (strOf strOf_size)
open Go.Proofs.YtljjpdjknnhceaaDoor.WithV (exec_build)
set_option maxRecDepth 100000 in
set_option maxHeartbeats 4000000 in
theorem loc13 (Q : Exit → Act → World → Prop) (a0 : Act) (w wi : World) (ga g n cap P W C X0 X4 : Nat) (c : Cl) (A : Option Addr) (M : List UInt8) (HB : Aside0 (Below w.heap.size w wi)) (HBX : Aside0 (wi.heap[ga]? = some (.cells (cL c (.slice A n cap)).toArray 24 (0, 0)))) (HR : Aside0 (wi.heap[ga + 1]? = some (.cells plZ.toArray 44 (0, 0)))) (hga : w.heap.size ≤ ga + 1)
    (HCE : Aside0 (c.chunks = (C : Int))) (HWE : Aside0 (c.width = (W : Int))) (hP1 : 1 ≤ P) (hP2 : P ≤ 64) (hC : 1 ≤ C ∧ C ≤ 16) (hW : 1 ≤ W ∧ W ≤ 16) (hX0 : X0 < 4294967296) (hX4 : X4 < 4294967296) (hM : M.length = 16)
    (hN : a0.tmps.size = 62) (h9 : a0.tmps.getD 9 undef = .int .i64 ((X0 : Nat) : Int)) (h6 : a0.tmps.getD 6 undef = .slice (some ⟨g, 0, none⟩) P P) (h10 : a0.tmps.getD 10 undef = .int .i64 ((X4 : Nat) : Int)) (h2 : a0.tmps.getD 2 undef = .pointer (some ⟨ga, 0, none⟩)) (h8 : a0.tmps.getD 8 undef = .string (strOf M)) (h4 : a0.tmps.getD 4 undef = .pointer (some ⟨ga + 1, 0, none⟩))
    (hQ : ∀ wv : World, Below w.heap.size w wv → wv.heap[ga + 1]? = some (.cells (plL ⟨0, ((X0 % P : Nat) : Int), ((X4 % C : Nat) : Int), M.drop (16 - W)⟩).toArray 44 (0, 0)) → Q .normal (putV [(some 46, .int .i64 ((X0 : Nat) : Int)), (some 47, .slice (some ⟨g, 0, none⟩) P P), (some 48, .int .i64 ((P : Nat) : Int)), (some 49, .int .i64 ((X0 % P : Nat) : Int)), (some 50, .int .i64 ((X4 : Nat) : Int)), (some 51, .pointer (some ⟨ga, 3, none⟩)), (some 52, .int .i64 ((C : Nat) : Int)), (some 53, .int .i64 ((X4 % C : Nat) : Int)), (some 54, .string (strOf M)), (some 55, .string (strOf M)), (some 56, .int .i64 16), (some 57, .pointer (some ⟨ga, 2, none⟩)), (some 58, .int .i64 ((W : Nat) : Int)), (some 59, .int .i64 ((16 - W : Nat) : Int)), (some 60, .string (strOf (M.drop (16 - W)))), (some 61, .agg (plL ⟨0, ((X0 % P : Nat) : Int), ((X4 % C : Nat) : Int), M.drop (16 - W)⟩).toArray), (none, undef), (some 5, .int .i64 0)] a0) wv) :
    Code.wp Tryd.prog (regC 13 Tryd.f22) Q a0 wi := by
  have HM1 : Aside0 ((X0 : Int) % (P : Int) = ((X0 % P : Nat) : Int)) := ⟨(Int.natCast_emod X0 P).symm⟩
  have HM2 : Aside0 ((X4 : Int) % (C : Int) = ((X4 % C : Nat) : Int)) := ⟨(Int.natCast_emod X4 C).symm⟩
  have HSZ : Aside0 ((strOf M).size = 16) := ⟨by rw [strOf_size]; exact hM⟩
  have HSB : Aside0 (IntKind.i64.wrap (16 - (W : Int)) = ((16 - W : Nat) : Int)) := ⟨by rw [IntWalk.i64_in _ (by omega)]; omega⟩
  have HSL : Aside0 (∀ wx : World, (Instr.slice 9 (.string (strOf M)) (some (.int .i64 ((16 - W : Nat) : Int))) none none).run Tryd.prog wx = .ok (.string (strOf (M.drop (16 - W)))) wx) := ⟨fun wx => slice_end M (16 - W) (by omega) wx⟩
  conv => arg 2; whnf
  refine Reg.wp_region_rel _ (by kernel_rfl) _ _ _ hN (by kernel_rfl) (fun w' => Below w.heap.size w w' ∧ w'.heap[ga]? = some (.cells (cL c (.slice A n cap)).toArray 24 (0, 0)) ∧ ∃ l : List Value, l.length = 3 ∧ w'.heap[ga + 1]? = some (.cells l.toArray 44 (0, 0))) (fun i w w' => if i = 16 then True else Below w.heap.size w w') (fun jq vs w' => match jq with
    | 0 => vs 0 = .int .i64 ((X0 : Nat) : Int)
    | 1 => vs 1 = .slice (some ⟨g, 0, none⟩) P P
    | 2 => vs 2 = .int .i64 ((P : Nat) : Int)
    | 3 => vs 3 = .int .i64 ((X0 % P : Nat) : Int)
    | 4 => vs 4 = .int .i64 ((X4 : Nat) : Int)
    | 5 => vs 5 = .pointer (some ⟨ga, 3, none⟩)
    | 6 => vs 6 = .int .i64 ((C : Nat) : Int)
    | 7 => vs 7 = .int .i64 ((X4 % C : Nat) : Int)
    | 8 => vs 8 = .string (strOf M)
    | 9 => vs 9 = .string (strOf M)
    | 10 => vs 10 = .int .i64 16
    | 11 => vs 11 = .pointer (some ⟨ga, 2, none⟩)
    | 12 => vs 12 = .int .i64 ((W : Nat) : Int)
    | 13 => vs 13 = .int .i64 ((16 - W : Nat) : Int)
    | 14 => vs 14 = .string (strOf (M.drop (16 - W)))
    | 15 => vs 15 = .agg (plL ⟨0, ((X0 % P : Nat) : Int), ((X4 % C : Nat) : Int), M.drop (16 - W)⟩).toArray
    | 16 => w'.heap[ga + 1]? = some (.cells (plL ⟨0, ((X0 % P : Nat) : Int), ((X4 % C : Nat) : Int), M.drop (16 - W)⟩).toArray 44 (0, 0))
    | 17 => vs 17 = .int .i64 0
    | _ => True) (⟨below_drew HB.out, HBX.out, plZ, rfl, HR.out⟩) ?_ ?_ ?_ ?_
  · intro i j vs w0 w' hij hI hR hb
    rcases j with _ | j
    · exact hR
    rcases j with _ | j
    · exact hR
    rcases j with _ | j
    · exact hR
    rcases j with _ | j
    · exact hR
    rcases j with _ | j
    · exact hR
    rcases j with _ | j
    · exact hR
    rcases j with _ | j
    · exact hR
    rcases j with _ | j
    · exact hR
    rcases j with _ | j
    · exact hR
    rcases j with _ | j
    · exact hR
    rcases j with _ | j
    · exact hR
    rcases j with _ | j
    · exact hR
    rcases j with _ | j
    · exact hR
    rcases j with _ | j
    · exact hR
    rcases j with _ | j
    · exact hR
    rcases j with _ | j
    · exact hR
    rcases j with _ | j
    · have hb' : Below w0.heap.size w0 w' := by simp only [if_neg hij] at hb; exact hb
      exact (hb'.block _ (blk_lt hR)).trans hR
    rcases j with _ | j
    · exact hR
    exact trivial
  · intro j o vs vs1 w0 ho he hp hR
    rcases j with _ | j
    · exact he.trans hR
    rcases j with _ | j
    · exact he.trans hR
    rcases j with _ | j
    · exact he.trans hR
    rcases j with _ | j
    · exact he.trans hR
    rcases j with _ | j
    · exact he.trans hR
    rcases j with _ | j
    · exact he.trans hR
    rcases j with _ | j
    · exact he.trans hR
    rcases j with _ | j
    · exact he.trans hR
    rcases j with _ | j
    · exact he.trans hR
    rcases j with _ | j
    · exact he.trans hR
    rcases j with _ | j
    · exact he.trans hR
    rcases j with _ | j
    · exact he.trans hR
    rcases j with _ | j
    · exact he.trans hR
    rcases j with _ | j
    · exact he.trans hR
    rcases j with _ | j
    · exact he.trans hR
    rcases j with _ | j
    · exact he.trans hR
    rcases j with _ | j
    · exact hR
    rcases j with _ | j
    · exact he.trans hR
    exact trivial
  · skip
    refine Reg.allOps_cons ?_ ?_
    · intro vs w0 ρ hρ hcst hglb hfun hI hp
      have e9 : ρ (.tmp 9) = .int .i64 ((X0 : Nat) : Int) := (hρ (.tmp 9)).trans h9
      clear hρ hp
      refine Reg.rel_value (.int .i64 ((X0 : Nat) : Int)) ?_ ⟨hI, rfl⟩
      go_simp
    refine Reg.allOps_cons ?_ ?_
    · intro vs w0 ρ hρ hcst hglb hfun hI hp
      have e6 : ρ (.tmp 6) = .slice (some ⟨g, 0, none⟩) P P := (hρ (.tmp 6)).trans h6
      clear hρ hp
      refine Reg.rel_value (.slice (some ⟨g, 0, none⟩) P P) ?_ ⟨hI, rfl⟩
      go_simp
    refine Reg.allOps_cons ?_ ?_
    · intro vs w0 ρ hρ hcst hglb hfun hI hp
      have e47 : ρ (.tmp 47) = .slice (some ⟨g, 0, none⟩) P P := (hρ (.tmp 47)).trans (show vs 1 = .slice (some ⟨g, 0, none⟩) P P from hp 1 rfl)
      clear hρ hp
      refine Reg.rel_value (.int .i64 ((P : Nat) : Int)) ?_ ⟨hI, rfl⟩
      go_simp
    refine Reg.allOps_cons ?_ ?_
    · intro vs w0 ρ hρ hcst hglb hfun hI hp
      have e46 : ρ (.tmp 46) = .int .i64 ((X0 : Nat) : Int) := (hρ (.tmp 46)).trans (show vs 0 = .int .i64 ((X0 : Nat) : Int) from hp 0 rfl)
      have e48 : ρ (.tmp 48) = .int .i64 ((P : Nat) : Int) := (hρ (.tmp 48)).trans (show vs 2 = .int .i64 ((P : Nat) : Int) from hp 2 rfl)
      clear hρ hp
      refine Reg.rel_value (.int .i64 ((X0 % P : Nat) : Int)) ?_ ⟨hI, rfl⟩
      clear hI
      go_simp
      rw [if_neg (by omega), Int.tmod_eq_emod_of_nonneg (Int.natCast_nonneg _)]
    refine Reg.allOps_cons ?_ ?_
    · intro vs w0 ρ hρ hcst hglb hfun hI hp
      have e10 : ρ (.tmp 10) = .int .i64 ((X4 : Nat) : Int) := (hρ (.tmp 10)).trans h10
      clear hρ hp
      refine Reg.rel_value (.int .i64 ((X4 : Nat) : Int)) ?_ ⟨hI, rfl⟩
      go_simp
    refine Reg.allOps_cons ?_ ?_
    · intro vs w0 ρ hρ hcst hglb hfun hI hp
      have e2 : ρ (.tmp 2) = .pointer (some ⟨ga, 0, none⟩) := (hρ (.tmp 2)).trans h2
      clear hρ hp
      refine Reg.rel_value (.pointer (some ⟨ga, 3, none⟩)) ?_ ⟨hI, rfl⟩
      go_simp
    refine Reg.allOps_cons ?_ ?_
    · intro vs w0 ρ hρ hcst hglb hfun hI hp
      have e51 : ρ (.tmp 51) = .pointer (some ⟨ga, 3, none⟩) := (hρ (.tmp 51)).trans (show vs 5 = .pointer (some ⟨ga, 3, none⟩) from hp 5 rfl)
      clear hρ hp
      obtain ⟨hB, hbx, hl3⟩ := hI
      have hl2 : w0.cell? ⟨ga, 3, none⟩ = some (.int .i64 ((C : Nat) : Int)) := by rw [blk_cell hbx, ← HCE.out]; rfl
      refine Reg.rel_value (.int .i64 ((C : Nat) : Int)) ?_ ⟨⟨hB, hbx, hl3⟩, rfl⟩
      clear hbx hl3
      go_simp
    refine Reg.allOps_cons ?_ ?_
    · intro vs w0 ρ hρ hcst hglb hfun hI hp
      have e50 : ρ (.tmp 50) = .int .i64 ((X4 : Nat) : Int) := (hρ (.tmp 50)).trans (show vs 4 = .int .i64 ((X4 : Nat) : Int) from hp 4 rfl)
      have e52 : ρ (.tmp 52) = .int .i64 ((C : Nat) : Int) := (hρ (.tmp 52)).trans (show vs 6 = .int .i64 ((C : Nat) : Int) from hp 6 rfl)
      clear hρ hp
      refine Reg.rel_value (.int .i64 ((X4 % C : Nat) : Int)) ?_ ⟨hI, rfl⟩
      clear hI
      go_simp
      rw [if_neg (by omega), Int.tmod_eq_emod_of_nonneg (Int.natCast_nonneg _)]
    refine Reg.allOps_cons ?_ ?_
    · intro vs w0 ρ hρ hcst hglb hfun hI hp
      have e8 : ρ (.tmp 8) = .string (strOf M) := (hρ (.tmp 8)).trans h8
      clear hρ hp
      refine Reg.rel_value (.string (strOf M)) ?_ ⟨hI, rfl⟩
      go_simp
    refine Reg.allOps_cons ?_ ?_
    · intro vs w0 ρ hρ hcst hglb hfun hI hp
      have e8 : ρ (.tmp 8) = .string (strOf M) := (hρ (.tmp 8)).trans h8
      clear hρ hp
      refine Reg.rel_value (.string (strOf M)) ?_ ⟨hI, rfl⟩
      go_simp
    refine Reg.allOps_cons ?_ ?_
    · intro vs w0 ρ hρ hcst hglb hfun hI hp
      have e55 : ρ (.tmp 55) = .string (strOf M) := (hρ (.tmp 55)).trans (show vs 9 = .string (strOf M) from hp 9 rfl)
      clear hρ hp
      refine Reg.rel_value (.int .i64 16) ?_ ⟨hI, rfl⟩
      clear hI
      have hq := HSZ.out
      go_simp
    refine Reg.allOps_cons ?_ ?_
    · intro vs w0 ρ hρ hcst hglb hfun hI hp
      have e2 : ρ (.tmp 2) = .pointer (some ⟨ga, 0, none⟩) := (hρ (.tmp 2)).trans h2
      clear hρ hp
      refine Reg.rel_value (.pointer (some ⟨ga, 2, none⟩)) ?_ ⟨hI, rfl⟩
      go_simp
    refine Reg.allOps_cons ?_ ?_
    · intro vs w0 ρ hρ hcst hglb hfun hI hp
      have e57 : ρ (.tmp 57) = .pointer (some ⟨ga, 2, none⟩) := (hρ (.tmp 57)).trans (show vs 11 = .pointer (some ⟨ga, 2, none⟩) from hp 11 rfl)
      clear hρ hp
      obtain ⟨hB, hbx, hl3⟩ := hI
      have hl2 : w0.cell? ⟨ga, 2, none⟩ = some (.int .i64 ((W : Nat) : Int)) := by rw [blk_cell hbx, ← HWE.out]; rfl
      refine Reg.rel_value (.int .i64 ((W : Nat) : Int)) ?_ ⟨⟨hB, hbx, hl3⟩, rfl⟩
      clear hbx hl3
      go_simp
    refine Reg.allOps_cons ?_ ?_
    · intro vs w0 ρ hρ hcst hglb hfun hI hp
      have e56 : ρ (.tmp 56) = .int .i64 16 := (hρ (.tmp 56)).trans (show vs 10 = .int .i64 16 from hp 10 rfl)
      have e58 : ρ (.tmp 58) = .int .i64 ((W : Nat) : Int) := (hρ (.tmp 58)).trans (show vs 12 = .int .i64 ((W : Nat) : Int) from hp 12 rfl)
      clear hρ hp
      refine Reg.rel_value (.int .i64 ((16 - W : Nat) : Int)) ?_ ⟨hI, rfl⟩
      clear hI
      have hq := HSB.out
      go_simp
    refine Reg.allOps_cons ?_ ?_
    · intro vs w0 ρ hρ hcst hglb hfun hI hp
      have e54 : ρ (.tmp 54) = .string (strOf M) := (hρ (.tmp 54)).trans (show vs 8 = .string (strOf M) from hp 8 rfl)
      have e59 : ρ (.tmp 59) = .int .i64 ((16 - W : Nat) : Int) := (hρ (.tmp 59)).trans (show vs 13 = .int .i64 ((16 - W : Nat) : Int) from hp 13 rfl)
      clear hρ hp
      refine Reg.rel_value (.string (strOf (M.drop (16 - W)))) ?_ ⟨hI, rfl⟩
      clear hI
      have hq := HSL.out
      go_simp
    refine Reg.allOps_cons ?_ ?_
    · intro vs w0 ρ hρ hcst hglb hfun hI hp
      have e49 : ρ (.tmp 49) = .int .i64 ((X0 % P : Nat) : Int) := (hρ (.tmp 49)).trans (show vs 3 = .int .i64 ((X0 % P : Nat) : Int) from hp 3 rfl)
      have e53 : ρ (.tmp 53) = .int .i64 ((X4 % C : Nat) : Int) := (hρ (.tmp 53)).trans (show vs 7 = .int .i64 ((X4 % C : Nat) : Int) from hp 7 rfl)
      have e60 : ρ (.tmp 60) = .string (strOf (M.drop (16 - W))) := (hρ (.tmp 60)).trans (show vs 14 = .string (strOf (M.drop (16 - W))) from hp 14 rfl)
      clear hρ hp
      refine Reg.rel_value (.agg (plL ⟨0, ((X0 % P : Nat) : Int), ((X4 % C : Nat) : Int), M.drop (16 - W)⟩).toArray) (exec_build 44 _ rfl _ ?_) ⟨hI, rfl⟩
      simp only [List.map_toArray, List.map_cons, List.map_nil, hcst, e49, e53, e60]
      exact built_pl _ _ _
    refine Reg.allOps_cons ?_ ?_
    · intro vs w0 ρ hρ hcst hglb hfun hI hp
      have e4 : ρ (.tmp 4) = .pointer (some ⟨ga + 1, 0, none⟩) := (hρ (.tmp 4)).trans h4
      have e61 : ρ (.tmp 61) = .agg (plL ⟨0, ((X0 % P : Nat) : Int), ((X4 % C : Nat) : Int), M.drop (16 - W)⟩).toArray := (hρ (.tmp 61)).trans (show vs 15 = .agg (plL ⟨0, ((X0 % P : Nat) : Int), ((X4 % C : Nat) : Int), M.drop (16 - W)⟩).toArray from hp 15 rfl)
      clear hρ hp
      obtain ⟨hB, hbx, l, hl, hr⟩ := hI
      have hth : w0.there (ga + 1) 0 l.length := blk_there hr
      rw [hl] at hth
      have hnew : (w0.setCells (ga + 1) 0 (plL ⟨0, ((X0 % P : Nat) : Int), ((X4 % C : Nat) : Int), M.drop (16 - W)⟩)).heap[ga + 1]? = some (.cells (plL ⟨0, ((X0 % P : Nat) : Int), ((X4 % C : Nat) : Int), M.drop (16 - W)⟩).toArray 44 (0, 0)) := setCells_whole hr (by rw [hl]; rfl)
      refine Reg.rel_skip (w' := w0.setCells (ga + 1) 0 (plL ⟨0, ((X0 % P : Nat) : Int), ((X4 % C : Nat) : Int), M.drop (16 - W)⟩)) (exec_store_mid 44 (.tmp 4) (.tmp 61) rfl (ga + 1) 0 (plL ⟨0, ((X0 % P : Nat) : Int), ((X4 % C : Nat) : Int), M.drop (16 - W)⟩).toArray e4 e61 hth infoP (plL_one _)) trivial ⟨⟨Go.Proofs.YtljjpdjknnhceaaDoor.Mids.below_setCells hB (by omega) _ _, (setCells_other (ga + 1) (by omega) _ _ _).trans hbx, _, rfl, hnew⟩, hnew⟩
    refine Reg.allOps_cons ?_ ?_
    · intro vs w0 ρ hρ hcst hglb hfun hI hp
      clear hρ hp
      refine Reg.rel_value (.int .i64 0) ?_ ⟨hI, rfl⟩
      go_simp
    exact Reg.allOps_nil
  intro vs w0 hI hR
  have r0 : vs 0 = .int .i64 ((X0 : Nat) : Int) := hR 0 (by decide)
  have r1 : vs 1 = .slice (some ⟨g, 0, none⟩) P P := hR 1 (by decide)
  have r2 : vs 2 = .int .i64 ((P : Nat) : Int) := hR 2 (by decide)
  have r3 : vs 3 = .int .i64 ((X0 % P : Nat) : Int) := hR 3 (by decide)
  have r4 : vs 4 = .int .i64 ((X4 : Nat) : Int) := hR 4 (by decide)
  have r5 : vs 5 = .pointer (some ⟨ga, 3, none⟩) := hR 5 (by decide)
  have r6 : vs 6 = .int .i64 ((C : Nat) : Int) := hR 6 (by decide)
  have r7 : vs 7 = .int .i64 ((X4 % C : Nat) : Int) := hR 7 (by decide)
  have r8 : vs 8 = .string (strOf M) := hR 8 (by decide)
  have r9 : vs 9 = .string (strOf M) := hR 9 (by decide)
  have r10 : vs 10 = .int .i64 16 := hR 10 (by decide)
  have r11 : vs 11 = .pointer (some ⟨ga, 2, none⟩) := hR 11 (by decide)
  have r12 : vs 12 = .int .i64 ((W : Nat) : Int) := hR 12 (by decide)
  have r13 : vs 13 = .int .i64 ((16 - W : Nat) : Int) := hR 13 (by decide)
  have r14 : vs 14 = .string (strOf (M.drop (16 - W))) := hR 14 (by decide)
  have r15 : vs 15 = .agg (plL ⟨0, ((X0 % P : Nat) : Int), ((X4 % C : Nat) : Int), M.drop (16 - W)⟩).toArray := hR 15 (by decide)
  have r17 : vs 17 = .int .i64 0 := hR 17 (by decide)
  have hblk := hR 16 (by decide)
  have hq := hQ w0 hI.1 hblk
  simp only [RegA.putV, Act.put] at hq
  simp only [Reg.fillFrom, Act.put, r0, r1, r2, r3, r4, r5, r6, r7, r8, r9, r10, r11, r12, r13, r14, r15, r17]
  exact hq
end Go.Proofs.YtljjpdjknnhceaaDoor.LocR

/- ring.Locate. -/
set_option linter.unusedVariables false
set_option linter.unusedSimpArgs false
namespace Go.Proofs.YtljjpdjknnhceaaDoor.Loc
open Go.RowKit Go.Proofs.YtljjpdjknnhceaaDoorW.PrintWords Go.Proofs.YtljjpdjknnhceaaDoorW.PrintLast Go.Proofs.YtljjpdjknnhceaaDoorW.PrintMore
open Go.Proofs.YtljjpdjknnhceaaDoor.Base Go.Proofs.YtljjpdjknnhceaaDoor.App Go.Proofs.YtljjpdjknnhceaaDoor.RingPure Go.Proofs.YtljjpdjknnhceaaDoor.ChkPure Go.Proofs.YtljjpdjknnhceaaDoor.Clus Go.Proofs.YtljjpdjknnhceaaDoor.Mids Go.Proofs.YtljjpdjknnhceaaDoor.Chkd Go.Proofs.YtljjpdjknnhceaaDoor.LocPure Go.Proofs.YtljjpdjknnhceaaDoor.LocKit Go.Proofs.YtljjpdjknnhceaaDoor.TakeN Go.Proofs.YtljjpdjknnhceaaDoor.Sort Go.Proofs.YtljjpdjknnhceaaDoor.Name
open Go.Proofs.YtljjpdjknnhceaaDoor.Words (strOf strOf_size)
open Go.Proofs.YtljjpdjknnhceaaDoor.WithV (list_build)
set_option maxRecDepth 100000 in
set_option maxHeartbeats 8000000 in
theorem locate_any (c : Cl) (A : Option Addr) (cap : Nat) (ns : List Nd) (key : ByteArray) (w : World) (hN : NodesAt w A ns) (hcap : ns.length ≤ cap) (hs : c.store.size ≤ 2147483647) (hl : ns.length ≤ 1099511627776) (hc : cnt ns ≤ 1099511627776) (hk : key.size ≤ 1073741824) (hG : Hasher.Glob w) :
    Calls Tryd.prog 22 #[.agg (cL c (.slice A ns.length cap)).toArray, .string key] w (LocPost (locP c ns key) w) := by
  have HW := Aside0.mk (lw_of c (.slice A ns.length cap) w)
  have HN := Aside0.mk (hN.below HW.out.bel)
  have HG := Aside0.mk (hG.below HW.out.bel)
  clear hN hG
  go_enter Tryd.func22, Tryd.ntmps22
  go_upto_region 1 with fail
  generalize (w.alloc (.cells (cL c (.slice A ns.length cap)).toArray 24)).alloc (.cells #[.int .i64 0, .int .i64 0, .string { data := #[] }] 44) = w1 at HN HW HG ⊢
  obtain ⟨ga, hga⟩ : ∃ ga, ga = w.heap.size := ⟨_, rfl⟩
  have HBX : Aside0 (w1.heap[ga]? = some (.cells (cL c (.slice A ns.length cap)).toArray 24 (0, 0))) := ⟨by rw [hga]; exact HW.out.box⟩
  have HRS : Aside0 (w1.heap[ga + 1]? = some (.cells plZ.toArray 44 (0, 0))) := ⟨by rw [hga]; exact HW.out.res⟩
  have HGA : Aside0 (w.heap.size ≤ ga + 1) := ⟨by omega⟩
  have HB := Aside0.mk HW.out.bel
  rw [← hga]
  clear hga HW
  have hrg := blk_range HBX.out
  go_wp2_with ((with_reducible refine gate_load (ty := 24) (x := .tmp 2) rfl ?_); refine wpList_load_mid rfl 24 (.tmp 2) rfl ga 0 rfl (cL c (.slice A ns.length cap)) _ hrg Tryd.underlying24 rfl infoC23 ?_)
  clear hrg
  refine (checked_any c A cap ns w1 HN.out hcap hs hl hc).mono ?_
  rintro e w2 ⟨hb, hcase⟩
  have HB2 := Aside0.mk (HB.out.trans (hb.mono HB.out.size))
  have HR2 : Aside0 (w2.heap[ga + 1]? = some (.cells plZ.toArray 44 (0, 0))) := ⟨(hb.block _ (blk_lt HRS.out)).trans HRS.out⟩
  have HBX2 : Aside0 (w2.heap[ga]? = some (.cells (cL c (.slice A ns.length cap)).toArray 24 (0, 0))) := ⟨(hb.block _ (blk_lt HBX.out)).trans HBX.out⟩
  have HG2 := Aside0.mk (HG.out.below hb)
  clear hb HB HRS HBX HG
  rcases hcase with ⟨h0, rfl⟩ | ⟨g, h0, rfl, hg, hrow⟩
  · have HE : Aside0 (locP c ns key = ⟨(chkC c ns).1, 0, 0, []⟩) := ⟨by unfold locP; rw [if_pos h0]⟩
    generalize (chkC c ns).1 = code at h0 HE ⊢
    have hne : (code != 0) = true := by simpa using h0
    have HTH : Aside0 (w2.there (ga + 1) 0 plZ.length) := ⟨blk_there HR2.out⟩
    have HX : Aside0 ((w2.setCells (ga + 1) 0 plZ).heap[ga + 1]? = some (.cells plZ.toArray 44 (0, 0))) := ⟨setCells_whole HR2.out rfl⟩
    have HBF : Aside0 (Below w.heap.size w (w2.setCells (ga + 1) 0 plZ)) := ⟨Go.Proofs.YtljjpdjknnhceaaDoor.Mids.below_setCells HB2.out HGA.out _ _⟩
    go_wp2_with (first | ((with_reducible refine gate_build (t := 44) (parts := #[]) rfl ?_); go_loud (refine list_build rfl 44 #[] rfl plZ.toArray built_z ?_)) | ((with_reducible refine gate_store (ty := 44) (x := .tmp 4) (y := .tmp 18) rfl ?_); go_loud (refine wpList_store_mid rfl 44 (.tmp 4) (.tmp 18) rfl (ga + 1) 0 plZ.toArray rfl rfl HTH.out infoP plZ_one ?_)))
    refine bodyPost_ret (v := .tuple #[.agg plZ.toArray, .int .i64 code]) ?_ rfl ⟨HBF.out, by rw [HE.out]; rfl⟩
    exact loc_results _ _ (ga + 1) plZ _ rfl rfl rfl HX.out
  · have HGOOD := Aside0.mk (chk_ok (nm := nmB c.store) h0)
    obtain ⟨hde, hhl, _⟩ := homes_some HGOOD.out.hom
    have hb6 := setAt_bounds HGOOD.out.set
    have hP1 := hde.1
    have hP2 := hde.2.1
    have HH0 := Aside0.mk h0
    obtain ⟨P, hP⟩ : ∃ P, P = cnt ns := ⟨_, rfl⟩
    have HPE := Aside0.mk hP
    have HHL : Aside0 ((chkC c ns).2.length = P) := ⟨hhl.trans hP.symm⟩
    rw [HHL.out]
    rw [← hP] at hP1 hP2
    obtain ⟨W, hW⟩ : ∃ W : Nat, c.width = (W : Int) := ⟨c.width.toNat, by omega⟩
    obtain ⟨C, hC⟩ : ∃ C : Nat, c.chunks = (C : Int) := ⟨c.chunks.toNat, by omega⟩
    have hWb : 1 ≤ W ∧ W ≤ 16 := by omega
    have hCb : 1 ≤ C ∧ C ≤ 16 := by omega
    have HWE := Aside0.mk hW
    have HCE := Aside0.mk hC
    clear h0 hde hhl hb6 hrow hg hP hW hC HN
    go_wp2_with fail
    refine (within_any _ _ _ _).mono ?_
    rintro e w3 ⟨rfl, hd⟩
    have hbd := hd.below
    have HB3 := Aside0.mk (HB2.out.trans (hbd.mono HB2.out.size))
    have HR3 : Aside0 (w3.heap[ga + 1]? = some (.cells plZ.toArray 44 (0, 0))) := ⟨(hbd.block _ (blk_lt HR2.out)).trans HR2.out⟩
    have HBX3 : Aside0 (w3.heap[ga]? = some (.cells (cL c (.slice A ns.length cap)).toArray 24 (0, 0))) := ⟨(hbd.block _ (blk_lt HBX2.out)).trans HBX2.out⟩
    have HG3 := Aside0.mk (HG2.out.below hbd)
    clear hd hbd HB2 HR2 HBX2 HG2
    by_cases hkey : key.size < 1 ∨ 255 < key.size
    · have HE : Aside0 (locP c ns key = ⟨32, 0, 0, []⟩) := ⟨by unfold locP; rw [if_neg (by rw [HH0.out]; decide), if_pos hkey]⟩
      have hwi : wiB (key.size : Int) 1 255 = false := by
        unfold wiB
        rcases hkey with h | h
        · rw [decide_eq_false (by omega), Bool.false_and]
        · rw [decide_eq_false (show ¬ ((key.size : Int) ≤ 255) by omega), Bool.and_false]
      rw [hwi]
      have HTH : Aside0 (w3.there (ga + 1) 0 plZ.length) := ⟨blk_there HR3.out⟩
      have HX : Aside0 ((w3.setCells (ga + 1) 0 plZ).heap[ga + 1]? = some (.cells plZ.toArray 44 (0, 0))) := ⟨setCells_whole HR3.out rfl⟩
      have HBF : Aside0 (Below w.heap.size w (w3.setCells (ga + 1) 0 plZ)) := ⟨Go.Proofs.YtljjpdjknnhceaaDoor.Mids.below_setCells HB3.out HGA.out _ _⟩
      clear hwi
      go_wp2_with (first | ((with_reducible refine gate_build (t := 44) (parts := #[]) rfl ?_); go_loud (refine list_build rfl 44 #[] rfl plZ.toArray built_z ?_)) | ((with_reducible refine gate_store (ty := 44) (x := .tmp 4) (y := .tmp 24) rfl ?_); go_loud (refine wpList_store_mid rfl 44 (.tmp 4) (.tmp 24) rfl (ga + 1) 0 plZ.toArray rfl rfl HTH.out infoP plZ_one ?_)))
      refine bodyPost_ret (v := .tuple #[.agg plZ.toArray, .int .i64 32]) ?_ rfl ⟨HBF.out, by rw [HE.out]; rfl⟩
      exact loc_results _ _ (ga + 1) plZ _ rfl rfl rfl HX.out
    · have HE : Aside0 (locP c ns key = ⟨0, ((num4 key 0 % P : Nat) : Int), ((num4 key 4 % C : Nat) : Int), (md key).drop (16 - W)⟩) := ⟨by
        unfold locP; rw [if_neg (by rw [HH0.out]; decide), if_neg hkey, HPE.out, HCE.out, HWE.out]; rfl⟩
      have hwi : wiB (key.size : Int) 1 255 = true := by
        unfold wiB
        rw [decide_eq_true (show (1 : Int) ≤ (key.size : Int) by omega), decide_eq_true (show ((key.size : Int) ≤ 255) by omega), Bool.true_and]
      rw [hwi]
      clear hwi hkey
      go_wp2_with fail
      have hc1 := strs_new w3 [key] 9 (by simp)
      have HA1 := Aside0.mk ((Below.refl w3.heap.size w3).alloc (Nat.le_refl _) (.cells (List.map Value.string [key]).toArray 9))
      have hfl : Crc.flat [key] = key.data.toList := by simp [Crc.flat]
      refine (Sum.md5_any (some ⟨w3.heap.size, 0, none⟩) 1 [key] _ hc1 (by simp) (HG3.out.below HA1.out) (by simp) (by rw [hfl, data_length]; omega)).mono ?_
      rintro e w4 ⟨rfl, hb⟩
      have hbd := HA1.out.trans (hb.mono HA1.out.size)
      have HB4 := Aside0.mk (HB3.out.trans (hbd.mono HB3.out.size))
      have HR4 : Aside0 (w4.heap[ga + 1]? = some (.cells plZ.toArray 44 (0, 0))) := ⟨(hbd.block _ (blk_lt HR3.out)).trans HR3.out⟩
      have HBX4 : Aside0 (w4.heap[ga]? = some (.cells (cL c (.slice A ns.length cap)).toArray 24 (0, 0))) := ⟨(hbd.block _ (blk_lt HBX3.out)).trans HBX3.out⟩
      rw [hfl]
      have HML := Aside0.mk (md_length key)
      have HN0 : Aside0 (num4 key 0 = beV (((strOf (md key)).data.toList.drop 0).take 4)) := ⟨rfl⟩
      have HN4 : Aside0 (num4 key 4 = beV (((strOf (md key)).data.toList.drop 4).take 4)) := ⟨rfl⟩
      have HL0 := Aside0.mk (num4_lt key 0)
      have HL4 := Aside0.mk (num4_lt key 4)
      rw [show Md5Pure.md5 key.data.toList = md key from rfl]
      clear hb hbd hc1 hfl HA1 HB3 HR3 HBX3 HG3
      obtain ⟨M, hM⟩ : ∃ M, M = md key := ⟨_, rfl⟩
      rw [← hM] at HN0 HN4 HML HE ⊢
      clear hM
      obtain ⟨X0, hX0⟩ : ∃ X, X = num4 key 0 := ⟨_, rfl⟩
      obtain ⟨X4, hX4⟩ : ∃ X, X = num4 key 4 := ⟨_, rfl⟩
      rw [← hX0] at HN0 HL0 HE
      rw [← hX4] at HN4 HL4 HE
      clear hX0 hX4
      have HSM : Aside0 ((strOf M).size = 16) := ⟨by rw [strOf_size]; exact HML.out⟩
      go_wp2_with fail
      refine (readNumber_any (strOf M) 0 w4 (by rw [HSM.out]; decide) (by rw [HSM.out]; decide)).mono ?_
      rintro e w5 ⟨rfl, hb⟩
      rw [← HN0.out]
      have HB5 := Aside0.mk (HB4.out.trans (hb.mono HB4.out.size))
      have HR5 : Aside0 (w5.heap[ga + 1]? = some (.cells plZ.toArray 44 (0, 0))) := ⟨(hb.block _ (blk_lt HR4.out)).trans HR4.out⟩
      have HBX5 : Aside0 (w5.heap[ga]? = some (.cells (cL c (.slice A ns.length cap)).toArray 24 (0, 0))) := ⟨(hb.block _ (blk_lt HBX4.out)).trans HBX4.out⟩
      clear hb HB4 HR4 HBX4
      go_wp2_with fail
      refine (readNumber_any (strOf M) 4 w5 (by rw [HSM.out]; decide) (by rw [HSM.out]; decide)).mono ?_
      rintro e w6 ⟨rfl, hb⟩
      rw [← HN4.out]
      have HB6 := Aside0.mk (HB5.out.trans (hb.mono HB5.out.size))
      have HR6 : Aside0 (w6.heap[ga + 1]? = some (.cells plZ.toArray 44 (0, 0))) := ⟨(hb.block _ (blk_lt HR5.out)).trans HR5.out⟩
      have HBX6 : Aside0 (w6.heap[ga]? = some (.cells (cL c (.slice A ns.length cap)).toArray 24 (0, 0))) := ⟨(hb.block _ (blk_lt HBX5.out)).trans HBX5.out⟩
      clear hb HB5 HR5 HBX5
      go_upto_region 13 with fail
      refine LocR.loc13 _ _ w w6 ga g ns.length cap P W C X0 X4 c A M HB6 HBX6 HR6 HGA.out HCE HWE hP1 hP2 hCb hWb HL0.out HL4.out HML.out rfl rfl rfl rfl rfl rfl rfl ?_
      intro wv hbv hrv
      have HBV := Aside0.mk hbv
      have HRV := Aside0.mk hrv
      clear hbv hrv
      simp only [RegA.putV, Act.put, List.setIfInBounds_toArray, List.set_cons_zero, List.set_cons_succ]
      go_wp2_with fail
      refine bodyPost_ret (v := .tuple #[.agg (plL ⟨0, ((X0 % P : Nat) : Int), ((X4 % C : Nat) : Int), M.drop (16 - W)⟩).toArray, .int .i64 0]) ?_ rfl ⟨HBV.out, by rw [HE.out]⟩
      exact loc_results _ _ (ga + 1) _ _ rfl rfl rfl HRV.out
end Go.Proofs.YtljjpdjknnhceaaDoor.Loc

/- The document's MD5: its small functions. -/
set_option linter.unusedVariables false
set_option linter.unusedSimpArgs false
namespace Go.Proofs.YtljjpdjknnhceaaDoor.RefMD5
open Go.RowKit Go.Proofs.YtljjpdjknnhceaaDoorW.PrintWords Go.Proofs.YtljjpdjknnhceaaDoorW.PrintLast Go.Proofs.YtljjpdjknnhceaaDoorW.PrintMore
open Go.Proofs.YtljjpdjknnhceaaDoor.Base Go.Proofs.YtljjpdjknnhceaaDoor.StepsRef Go.Proofs.YtljjpdjknnhceaaDoor.Words Go.Proofs.YtljjpdjknnhceaaDoor.PRingLocates
open Go.Proofs.YtljjpdjknnhceaaDoor.Md5Pure (St mdStep mdSteps mdBlock wordAt fF gG K R M rotl plus bytes4 told first blkN tail md5 padN len8)
/-- the document's tables lie where they were laid -/
structure RTabs (w : World) : Prop where mk ::
  (sine : ∀ i, i < 64 → w.cell? ⟨5, i, none⟩ = some (.int .i64 (K i : Nat)))
  (turn : ∀ i, i < 16 → w.cell? ⟨6, i, none⟩ = some (.int .i64 (Md5Pure.turns.getD i 0 : Nat)))
  (pows : Pows w)
  (lts : 5 < w.heap.size) (ltt : 6 < w.heap.size)
theorem RTabs.below {w w1 : World} (h : RTabs w) (hb : Below w.heap.size w w1) : RTabs w1 :=
  ⟨fun i hi => (hb.cell (p := ⟨5, i, none⟩) h.lts).trans (h.sine i hi), fun i hi => (hb.cell (p := ⟨6, i, none⟩) h.ltt).trans (h.turn i hi), h.pows.below hb, Nat.lt_of_lt_of_le h.lts hb.size, Nat.lt_of_lt_of_le h.ltt hb.size⟩
theorem and_lt (a b : Nat) (h : b < 4294967296) : a &&& b < 4294967296 := Nat.and_lt_two_pow (n := 32) a h
theorem or_lt (a b : Nat) (h : a < 4294967296) (h2 : b < 4294967296) : a ||| b < 4294967296 := Nat.or_lt_two_pow (n := 32) h h2
theorem xor_lt (a b : Nat) (h : a < 4294967296) (h2 : b < 4294967296) : a ^^^ b < 4294967296 := Nat.xor_lt_two_pow (n := 32) h h2
theorem sub_eq (b : Nat) (h : b < 4294967296) : wrap64 (4294967295 - (b : Int)) = ((M - b : Nat) : Int) := by
  rw [w64 _ (by omega) (by omega)]; unfold M; omega
theorem M_lt (b : Nat) : M - b < 4294967296 := by unfold M; omega
theorem mixed_f (q b c d : Nat) (hb : b < 4294967296) (hc : c < 4294967296) (hd : d < 4294967296) : granaryref2_mixed.f (q : Int) (b : Int) (c : Int) (d : Int) = some ((fF q b c d : Nat) : Int) := by
  have b9 : b < 9223372036854775808 := by omega
  have c9 : c < 9223372036854775808 := by omega
  have d9 : d < 9223372036854775808 := by omega
  have m9 : ∀ x, M - x < 9223372036854775808 := fun x => by have := M_lt x; omega
  have a9 : ∀ x y, y < 4294967296 → x &&& y < 9223372036854775808 := fun x y h => by have := and_lt x y h; omega
  have o9 : ∀ x y, x < 4294967296 → y < 4294967296 → x ||| y < 9223372036854775808 := fun x y h h2 => by have := or_lt x y h h2; omega
  have x9 : ∀ x y, x < 4294967296 → y < 4294967296 → x ^^^ y < 9223372036854775808 := fun x y h h2 => by have := xor_lt x y h h2; omega
  unfold granaryref2_mixed.f fF
  by_cases h0 : q = 0
  · rw [if_pos (by omega), if_pos h0, sub_eq b hb, i64_and_nat _ _ b9 c9, i64_and_nat _ _ (m9 _) d9, i64_or_nat _ _ (a9 _ _ hc) (a9 _ _ hd)]
  · rw [if_neg (by omega), if_neg h0]
    by_cases h1 : q = 1
    · rw [if_pos (by omega), if_pos h1, sub_eq d hd, i64_and_nat _ _ d9 b9, i64_and_nat _ _ (m9 _) c9, i64_or_nat _ _ (a9 _ _ hb) (a9 _ _ hc)]
    · rw [if_neg (by omega), if_neg h1]
      by_cases h2 : q = 2
      · rw [if_pos (by omega), if_pos h2, i64_xor_nat _ _ b9 c9, i64_xor_nat _ _ (x9 _ _ hb hc) d9]
      · rw [if_neg (by omega), if_neg h2, sub_eq d hd, i64_or_nat _ _ b9 (m9 _), i64_xor_nat _ _ c9 (o9 _ _ hb (M_lt _))]
theorem mixed_any (q b c d : Nat) (w : World) (hb : b < 4294967296) (hc : c < 4294967296) (hd : d < 4294967296) :
    Calls Tryd.prog 135 #[.int .i64 (q : Nat), .int .i64 (b : Nat), .int .i64 (c : Nat), .int .i64 (d : Nat)] w fun e w' => e = .returned (.int .i64 (fF q b c d : Nat)) ∧ Drawn0 w w' :=
  granaryref2_mixed.calls _ _ _ _ _ w (mixed_f q b c d hb hc hd)
theorem which_f (i : Nat) (h : i < 64) : granaryref2_which.f (i : Int) = some ((gG i : Nat) : Int) := by
  have e : (i : Int).tdiv 16 = ((i / 16 : Nat) : Int) := by rw [Int.tdiv_eq_ediv_of_nonneg (by omega)]; omega
  unfold granaryref2_which.f gG
  rw [e, w64 ((i / 16 : Nat) : Int) (by omega) (by omega), w64 (5 * (i : Int)) (by omega) (by omega), w64 (5 * (i : Int) + 1) (by omega) (by omega), w64 (3 * (i : Int)) (by omega) (by omega), w64 (3 * (i : Int) + 5) (by omega) (by omega), w64 (7 * (i : Int)) (by omega) (by omega),
    Int.tmod_eq_emod_of_nonneg (by omega), Int.tmod_eq_emod_of_nonneg (by omega), Int.tmod_eq_emod_of_nonneg (by omega)]
  by_cases h0 : i / 16 = 0
  · rw [if_pos (by omega), if_pos h0]
  · rw [if_neg (by omega), if_neg h0]
    by_cases h1 : i / 16 = 1
    · rw [if_pos (by omega), if_pos h1]; congr 1
    · rw [if_neg (by omega), if_neg h1]
      by_cases h2 : i / 16 = 2
      · rw [if_pos (by omega), if_pos h2]; congr 1
      · rw [if_neg (by omega), if_neg h2]; congr 1
theorem which_any (i : Nat) (h : i < 64) (w : World) : Calls Tryd.prog 136 #[.int .i64 (i : Nat)] w fun e w' => e = .returned (.int .i64 (gG i : Nat)) ∧ Drawn0 w w' := granaryref2_which.calls _ _ w (which_f i h)
/-- 64 bytes of t from at on -/
def blk (t : ByteArray) (at_ : Nat) : List UInt8 := (t.data.toList.drop at_).take 64
theorem blk_bt (t : ByteArray) (at_ i : Nat) (h : at_ + 64 ≤ t.size) (hi : i < 64) : bt t ((at_ : Int) + (i : Int)) = (((blk t at_).getD i 0).toNat : Int) := by
  have h2 : at_ + i < t.size := by omega
  rw [show (at_ : Int) + (i : Int) = ((at_ + i : Nat) : Int) by omega, bt_nat t _ h2]
  have e := getElem_list t (at_ + i) h2
  unfold blk
  rw [List.getD_eq_getElem?_getD, List.getElem?_take, if_pos hi, List.getElem?_drop, e]
  rfl
theorem four_pure (t : ByteArray) (a x0 x1 x2 x3 : Int) (hA : 0 ≤ a) (hB : a + 3 < (t.size : Int)) (ht : t.size ≤ 4611686018427387904)
    (b0 : bt t a = x0) (b1 : bt t (a + 1) = x1) (b2 : bt t (a + 2) = x2) (b3 : bt t (a + 3) = x3) (r0 : 0 ≤ x0 ∧ x0 ≤ 255) (r1 : 0 ≤ x1 ∧ x1 ≤ 255) (r2 : 0 ≤ x2 ∧ x2 ≤ 255) (r3 : 0 ≤ x3 ∧ x3 ≤ 255) :
    granaryref2_four.f t a = some (x0 + 256 * x1 + 65536 * x2 + 16777216 * x3) := by
  have w1 : wrap64 (a + 1) = a + 1 := w64 _ (by omega) (by omega)
  have w2 : wrap64 (a + 2) = a + 2 := w64 _ (by omega) (by omega)
  have w3 : wrap64 (a + 3) = a + 3 := w64 _ (by omega) (by omega)
  have c1 : a < (t.size : Int) := by omega
  have c2 : 0 ≤ a + 1 := by omega
  have c3 : a + 1 < (t.size : Int) := by omega
  have c4 : 0 ≤ a + 2 := by omega
  have c5 : a + 2 < (t.size : Int) := by omega
  have c6 : 0 ≤ a + 3 := by omega
  have v0 : wrap64 x0 = x0 := w64 _ (by omega) (by omega)
  have v1 : wrap64 x1 = x1 := w64 _ (by omega) (by omega)
  have v2 : wrap64 x2 = x2 := w64 _ (by omega) (by omega)
  have v3 : wrap64 x3 = x3 := w64 _ (by omega) (by omega)
  have u1 : wrap64 (256 * x1) = 256 * x1 := w64 _ (by omega) (by omega)
  have u2 : wrap64 (65536 * x2) = 65536 * x2 := w64 _ (by omega) (by omega)
  have u3 : wrap64 (16777216 * x3) = 16777216 * x3 := w64 _ (by omega) (by omega)
  have s1 : wrap64 (x0 + 256 * x1) = x0 + 256 * x1 := w64 _ (by omega) (by omega)
  have s2 : wrap64 (x0 + 256 * x1 + 65536 * x2) = x0 + 256 * x1 + 65536 * x2 := w64 _ (by omega) (by omega)
  have s3 : wrap64 (x0 + 256 * x1 + 65536 * x2 + 16777216 * x3) = x0 + 256 * x1 + 65536 * x2 + 16777216 * x3 := w64 _ (by omega) (by omega)
  unfold granaryref2_four.f
  simp only [w1, w2, w3, b0, b1, b2, b3, v0, v1, v2, v3, u1, u2, u3, s1, s2, s3, if_pos hA, if_pos c1, if_pos c2, if_pos c3, if_pos c4, if_pos c5, if_pos c6, if_pos hB]
theorem four_f (t : ByteArray) (at_ g : Nat) (h : at_ + 64 ≤ t.size) (hg : g < 16) (ht : t.size ≤ 4611686018427387904) : granaryref2_four.f t ((at_ : Int) + 4 * (g : Int)) = some ((wordAt (blk t at_) g : Nat) : Int) := by
  have b0 := blk_bt t at_ (4 * g) h (by omega)
  have b1 := blk_bt t at_ (4 * g + 1) h (by omega)
  have b2 := blk_bt t at_ (4 * g + 2) h (by omega)
  have b3 := blk_bt t at_ (4 * g + 3) h (by omega)
  have r : ∀ i, 0 ≤ (((blk t at_).getD i 0).toNat : Int) ∧ (((blk t at_).getD i 0).toNat : Int) ≤ 255 := fun i => by have := ((blk t at_).getD i 0).toNat_lt; omega
  rw [show (at_ : Int) + ((4 * g : Nat) : Int) = (at_ : Int) + 4 * (g : Int) by omega] at b0
  rw [show (at_ : Int) + ((4 * g + 1 : Nat) : Int) = (at_ : Int) + 4 * (g : Int) + 1 by omega] at b1
  rw [show (at_ : Int) + ((4 * g + 2 : Nat) : Int) = (at_ : Int) + 4 * (g : Int) + 2 by omega] at b2
  rw [show (at_ : Int) + ((4 * g + 3 : Nat) : Int) = (at_ : Int) + 4 * (g : Int) + 3 by omega] at b3
  rw [four_pure t _ _ _ _ _ (by omega) (by omega) ht b0 b1 b2 b3 (r _) (r _) (r _) (r _)]
  unfold wordAt
  simp only [Int.natCast_add, Int.natCast_mul]
  rfl
theorem four_any (t : ByteArray) (at_ g : Nat) (h : at_ + 64 ≤ t.size) (hg : g < 16) (ht : t.size ≤ 4611686018427387904) (w : World) :
    Calls Tryd.prog 137 #[.string t, .int .i64 ((at_ : Int) + 4 * (g : Int))] w fun e w' => e = .returned (.int .i64 (wordAt (blk t at_) g : Nat)) ∧ Drawn0 w w' := granaryref2_four.calls _ _ _ w (four_f t at_ g h hg ht)
theorem turn_any (x s : Nat) (hx : x < 4294967296) (h0 : 0 < s) (h1 : s < 32) (w : World) (hP : Pows w) :
    Calls Tryd.prog 138 #[.int .i64 (x : Nat), .int .i64 (s : Nat)] w fun e w' => e = .returned (.int .i64 (rotl x s : Nat)) ∧ Drawn0 w w' := by
  have hc1 := hP.cell s h1
  have hc2 := hP.cell (32 - s) (by omega)
  have hp1 := pw_le s h1
  have hp2 := pw_pos (32 - s)
  have hr : rotl x s = x * pw s % 4294967296 + x / pw (32 - s) := rfl
  have HR := Lib.hid hr
  have hm : x * pw s ≤ 4294967296 * 2147483648 := Nat.mul_le_mul (by omega) hp1
  clear hr hP
  generalize pw s = y at *
  generalize pw (32 - s) = z at *
  have hsub : (32 : Int) - (s : Int) = ((32 - s : Nat) : Int) := by omega
  have hz : 1 ≤ (z : Int) := by omega
  have hq0 : 0 ≤ (x : Int) / (z : Int) := Int.ediv_nonneg (by omega) (by omega)
  have hq1 : (x : Int) / (z : Int) ≤ 4294967296 := Int.le_trans (Int.ediv_le_self _ (by omega)) (by omega)
  have hmI : (x : Int) * (y : Int) ≤ 9223372036854775807 := by
    rw [← Int.natCast_mul]
    have : x * y ≤ 4294967295 * 2147483648 := Nat.mul_le_mul (by omega) hp1
    omega
  have hm0 : 0 ≤ (x : Int) * (y : Int) := by rw [← Int.natCast_mul]; omega
  have hw := w64 ((x : Int) * (y : Int)) (by omega) hmI
  go_enter Tryd.func138, Tryd.ntmps138
  go_wp2
  go_quiet (fail)
  go_wp2
  go_ret
  have he : ((x * y % 4294967296 + x / z : Nat) : Int) = (x : Int) * (y : Int) % 4294967296 + (x : Int) / (z : Int) := by
    simp only [Int.natCast_add, Int.natCast_emod, Int.natCast_ediv, Int.natCast_mul]; rfl
  rw [HR.out, he]
  exact ⟨rfl, ⟨⟨nq, rfl⟩⟩⟩
end Go.Proofs.YtljjpdjknnhceaaDoor.RefMD5
