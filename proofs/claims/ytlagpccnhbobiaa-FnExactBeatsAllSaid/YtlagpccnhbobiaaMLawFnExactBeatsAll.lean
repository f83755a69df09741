/- The row of FnExactBeatsAll: a slice of slices that came in. -/
import Derived.Test.YtlagpccnhbobiaaRows
import Derived.Test.YtlagpccnhbobiaaMFnExactBeatsAllx4
import Derived.Deep.Matrix
import Derived.Test.YtlagpccnhbobiaaPureFnExactBeatsAll
import Derived.WalkKit
import Derived.ProofKit
import Derived.OpenShut
import Derived.ShutString
import Derived.ChangeOld
import Derived.Below
import Derived.SizedLaws
import Derived.Test.YtlagpccnhbobiaaWSized
namespace Go.Proofs.Ytlagpccnhbobiaa.fnExactBeatsAll
open Go.ChangeShapes Go.WideShapes Go.ChangeAt Go.RowKit
open Go.ChangeMaps (open_string shut_string)
open Go.RowKit Go.Proofs.YtlagpccnhbobiaaW.PrintWords Go.Proofs.Ytlagpccnhbobiaa.PFnExactBeatsAll
set_option linter.unusedVariables false
theorem own : ownKnob Try.prog.godebug = none := by kernel_rfl
theorem laidOut : laidOutB Try.prog = true := by kernel_rfl
def IsRow (k : IntKind) (w : World) (a : Option Addr) (len cap : Nat) (zs : List Int) : Prop :=
  (a = none ∧ len = 0 ∧ cap = 0 ∧ zs = []) ∨
  ∃ x, a = some x ∧ len ≤ cap ∧ cap ≤ maxLen ∧ zs.length = cap ∧ (∀ i, i < zs.length → w.cell? (x.add i) = some (.int k (zs.getD i 0))) ∧ ∀ n ∈ zs, (Lit.int k n).wf = true
set_option maxRecDepth 100000 in
theorem lifted (os : Os) (started : os.Started) (H : Type) (enc : TypeId × Value → H) :
    ReturnsInHanded {} Try.checked os 5 .any (Rows.fnExactBeatsAllSpec.pre6 enc Try.prog Try.f5 Rows.fnExactBeatsAllRow.domain false) (Rows.fnExactBeatsAllSpec.post enc Try.prog Try.f5 false true false false) := by
  refine returnsInHanded_of_change_sized (C := Try.checked) own started (by kernel_rfl) Try.func5
    (ChangeSpec.witness6 (enc := enc) (C := Try.checked) false ⟨#[], #[.slice none 0 0], []⟩ 8 (by kernel_rfl) (by kernel_rfl) (by kernel_rfl) (by kernel_rfl)) ?_
  intro W base args ds gs before hval0 hW hcnd hsz0 _
  have hsz : (DataW.weightsEach Try.prog (Try.f5.params.toList ++ Rows.fnExactBeatsAllSpec.plain.varTypes Try.prog) (ds ++ gs)).all (· ≤ reachBytes) = true := hsz0
  have hval : ∀ (j : Nat) t v, Try.f5.params[j]? = some t → args[j]? = some v → Value.okWide Try.prog W .any base t v := hval0
  have hW' := hW
  obtain ⟨p, q, hA0, hV, rfl, hfz, hnd⟩ := hW
  have hA : DataW.TrodAll enc Try.prog W 0 (fun _ => true) true Try.f5.params.toList args.toList ds p := hA0
  rw [Try.params5] at hA hval hsz
  obtain ⟨v0, vs0, d0, ds0, p0, q0, hargs, rfl, rfl, h0, r0⟩ := trodAll_cons hA
  obtain ⟨rfl, rfl, rfl⟩ := trodAll_nil r0
  obtain rfl : args = #[v0] := by cases args; simp_all
  obtain ⟨rfl, rfl⟩ := trodVars_none hV
  obtain ⟨a0, len0, cap0, rfl⟩ := okWide_slice Try.underlying22 (hval 0 22 v0 rfl rfl)
  have k0 := h0
  have lt0 : ∀ x ∈ p0, x.block < W.heap.size := by obtain ⟨m, hm⟩ := k0; exact DataW.trod_lt m _ _ _ hm
  obtain ⟨l0, rfl, hr0, hc0, hx0, hrows⟩ : ∃ l : List (List Int), len0 = l.length ∧ Kd.C (Kd.slice 3 (Kd.int .i64)) W a0 l.length l ∧ l.length ≤ cap0 ∧ l.length ≤ 9223372036854775807 ∧ ∀ r ∈ l, r.length ≤ 9223372036854775807 := by
    have hmx : maxLen ≤ 9223372036854775807 := by decide
    obtain ⟨fuel, hf⟩ := h0
    rcases Go.Deep.open_int_rows Try.underlying22 Try.underlying24 Try.underlying3 (by kernel_rfl) (by kernel_rfl) hf with ⟨hcs, _⟩ | ⟨x, l, c, A, L, C, Z, hcs, _, hl, hm, _, hrow⟩
    · simp [Value.cells] at hcs
      obtain ⟨rfl, rfl, rfl⟩ := hcs
      exact ⟨[], rfl, ⟨rfl, by simp, fun g => by simp at g⟩, by simp, by simp, by simp⟩
    · simp [Value.cells] at hcs
      obtain ⟨rfl, rfl, rfl⟩ := hcs
      have each : ∀ r : Nat, ∃ l : List Int, r < cap0 → L r = l.length ∧ Kd.C (Kd.int .i64) W (A r) l.length l ∧ l.length ≤ C r ∧ l.length ≤ maxLen := by
        intro r
        by_cases hr : r < cap0
        · obtain ⟨_, g1, g2, g3, g4, g5, g6⟩ := hrow r hr
          have w0 : (A r = none ∧ L r = 0 ∧ C r = 0 ∧ Z r = []) ∨ ∃ x, A r = some x ∧ L r ≤ C r ∧ C r ≤ maxLen ∧ (Z r).length = C r ∧ (∀ i, i < (Z r).length → W.cell? (x.add i) = some (.int .i64 ((Z r).getD i 0))) ∧ ∀ n ∈ Z r, (Lit.int .i64 n).wf = true := by
            cases ha : A r with
            | none =>
              have := g5 ha
              exact .inl ⟨rfl, by omega, this, List.length_eq_zero_iff.1 (by omega)⟩
            | some a' => exact .inr ⟨a', rfl, g1, g2, g3, fun i hi => (g6 a' ha).2 i (by omega), g4⟩
          obtain ⟨l, e1, e2, e3, _, e5⟩ := ReadsInt.ofRowC w0
          exact ⟨l, fun _ => ⟨e1, Kd.C_of_reads (d := (0 : Int)) (h1 := fun _ => rfl) e2, e5, e3⟩⟩
        · exact ⟨[], fun g => absurd g hr⟩
      obtain ⟨F, hF⟩ := Classical.skolem.1 each
      have hlen : ((List.range len0).map F).length = len0 := by simp
      refine ⟨(List.range len0).map F, hlen.symm, ?_, by rw [hlen]; exact hl, by rw [hlen]; omega, fun r hr => ?_⟩
      · rw [hlen]
        refine ⟨hlen, by omega, fun _ => ⟨x, rfl, fun j p hj => ?_⟩⟩
        have hj2 : j < len0 := by have := (List.getElem?_eq_some_iff.1 hj).1; omega
        have hp : p = F j := by
          rw [List.getElem?_map, List.getElem?_range hj2] at hj
          simpa using hj.symm
        subst hp
        obtain ⟨e1, e2, e3, _⟩ := hF j (by omega)
        refine ⟨[.slice (A j) (F j).length (C j)], rfl, ⟨A j, C j, rfl, e3, e2⟩, fun i u hu => ?_⟩
        cases i with
        | zero =>
          simp at hu
          subst hu
          have := (hrow j (by omega)).1
          rw [e1] at this
          show W.cell? (x.add (j * 1 + 0)) = _
          rw [Nat.mul_one, Nat.add_zero]
          exact this
        | succ i => simp at hu
      · obtain ⟨j, hj, rfl⟩ := List.mem_map.1 hr
        have := (hF j (by have := List.mem_range.1 hj; omega)).2.2.2
        omega
  clear hA0 hval0 hsz0 hsz
  obtain ⟨k, hk⟩ := Pure.FnExactBeatsAll l0 hx0 hrows
  refine (PFnExactBeatsAll.laws_FnExactBeatsAll.calls k a0 cap0 l0 true W hr0 hc0 hk).mono fun e W' ⟨he, bel⟩ => ?_
  subst he
  exact ⟨_, rfl, _, _, _, [], _, [], hW', trodAll_mk1 (shut_bool Try.underlying4 _), (trodAll_cons_mk (Below.trod laidOut (by kernel_rfl) (of_decide_eq_true (by kernel_rfl)) k0 bel lt0) trodAll_mk0), rfl, bel.frame _, fun h => by cases h⟩
theorem over : Rows.fnExactBeatsAllRow.holds Try.pinned (OpenSpec.ofChange Rows.fnExactBeatsAllSpec) :=
  OpenClaim.holds_of_wide 5 Try.f5 rfl rfl rfl rfl rfl rfl rfl ⟨rfl, rfl, rfl, rfl, rfl⟩ rfl rfl rfl rfl rfl (by kernel_rfl) Try.func5 (by kernel_rfl)
    (of_decide_eq_true (by kernel_rfl)) (by unfold Func.isWrapper; first | (rw [if_pos (by decide +kernel)]; kernel_rfl) | (rw [if_neg (by decide +kernel)]; exact ⟨rfl, rfl⟩))
    (fun os started H enc _ => lifted os started H enc)
theorem proved : Rows.FnExactBeatsAllSaid := over
#print axioms proved
end Go.Proofs.Ytlagpccnhbobiaa.fnExactBeatsAll
namespace Go.Proofs.Ytlagpccnhbobiaa
/-- The row, under a short name, for the claim. -/
theorem fnExactBeatsAll_holds : Rows.FnExactBeatsAllSaid := fnExactBeatsAll.proved
end Go.Proofs.Ytlagpccnhbobiaa
