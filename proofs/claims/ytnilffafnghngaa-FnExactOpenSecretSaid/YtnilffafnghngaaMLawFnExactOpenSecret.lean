/- The row of FnExactOpenSecret: the law's parameters are read as values of their kinds. -/
import Derived.Test.YtnilffafnghngaaRows
import Derived.Test.YtnilffafnghngaaMFnExactOpenSecretx6
import Derived.Test.YtnilffafnghngaaOpens
import Derived.Test.YtnilffafnghngaaPureFnExactOpenSecret
import Derived.WalkKit
import Derived.ProofKit
import Derived.OpenShut
import Derived.ShutString
import Derived.ChangeOld
import Derived.Below
import Derived.SizedLaws
import Derived.Test.YtnilffafnghngaaWSized
namespace Go.Proofs.Ytnilffafnghngaa.fnExactOpenSecret
open Go.ChangeShapes Go.WideShapes Go.ChangeAt Go.RowKit
open Go.ChangeMaps (open_string shut_string)
open Go.RowKit Go.Proofs.YtnilffafnghngaaW.PrintWords Go.Proofs.Ytnilffafnghngaa.PFnExactOpenSecret Go.Proofs.Ytnilffafnghngaa.Opens Go.Proofs.Ytnilffafnghngaa.Pure
set_option linter.unusedVariables false
theorem own : ownKnob Try.prog.godebug = none := by kernel_rfl
theorem laidOut : laidOutB Try.prog = true := by kernel_rfl
theorem opens_59 : Opens Try.prog 59 k59 G59 :=
  opens_iso (fun x : S59 => (x.f0, x.f1)) (fun y => (⟨y.1, y.2⟩ : S59)) (fun y => rfl) (opens_struct Try.underlying59 (by kernel_rfl) (opensFs_cons rfl (by kernel_rfl) (opens_int Try.underlying3) (opensFs_last rfl (by kernel_rfl) (opens_int Try.underlying3))))
set_option maxRecDepth 100000 in
theorem lifted (os : Os) (started : os.Started) (H : Type) (enc : TypeId × Value → H) :
    ReturnsInHanded {} Try.checked os 6 .any (Rows.fnExactOpenSecretSpec.pre6 enc Try.prog Try.f6 Rows.fnExactOpenSecretRow.domain false) (Rows.fnExactOpenSecretSpec.post enc Try.prog Try.f6 false true false false) := by
  refine returnsInHanded_of_change_sized (C := Try.checked) own started (by kernel_rfl) Try.func6
    (ChangeSpec.witness6 (enc := enc) (C := Try.checked) false ⟨#[], #[.slice none 0 0], []⟩ 8 (by kernel_rfl) (by kernel_rfl) (by kernel_rfl) (by kernel_rfl)) ?_
  intro W base args ds gs before hval0 hW hcnd hsz0 _
  have hval : ∀ (j : Nat) t v, Try.f6.params[j]? = some t → args[j]? = some v → Value.okWide Try.prog W .any base t v := hval0
  have hW' := hW
  obtain ⟨p, q, hA0, hV, rfl, hfz, hnd⟩ := hW
  have hA : DataW.TrodAll enc Try.prog W 0 (fun _ => true) true Try.f6.params.toList args.toList ds p := hA0
  rw [Try.params6] at hA hval
  obtain ⟨v0, vs0, d0, ds0, p0, q0, hargs, rfl, rfl, h0, r0⟩ := trodAll_cons hA
  obtain ⟨rfl, rfl, rfl⟩ := trodAll_nil r0
  obtain rfl : args = #[v0] := by cases args; simp_all
  obtain ⟨rfl, rfl⟩ := trodVars_none hV
  obtain ⟨a0, len0, cap0, rfl⟩ := okWide_slice Try.underlying22 (hval 0 22 v0 rfl rfl)
  have k0 := h0
  have lt0 : ∀ x ∈ p0, x.block < W.heap.size := by obtain ⟨m, hm⟩ := k0; exact DataW.trod_lt m _ _ _ hm
  obtain ⟨l0, rfl, hr0, hc0, g0⟩ := opens_arg (opens_slice Try.underlying22 (by kernel_rfl) opens_59) h0
  clear hA0 hval0 hsz0
  obtain ⟨k, hk⟩ := Pure.FnExactOpenSecret l0 g0
  refine (PFnExactOpenSecret.laws_FnExactOpenSecret.calls k a0 cap0 l0 true W hr0 hc0 hk).mono fun e W' ⟨he, bel⟩ => ?_
  subst he
  exact ⟨_, rfl, _, _, _, [], _, [], hW', trodAll_mk1 (shut_bool Try.underlying4 _), (trodAll_cons_mk (Below.trod laidOut (by kernel_rfl) (of_decide_eq_true (by kernel_rfl)) k0 bel lt0) trodAll_mk0), rfl, bel.frame _, fun h => by cases h⟩
theorem over : Rows.fnExactOpenSecretRow.holds Try.pinned (OpenSpec.ofChange Rows.fnExactOpenSecretSpec) :=
  OpenClaim.holds_of_wide 6 Try.f6 rfl rfl rfl rfl rfl rfl rfl ⟨rfl, rfl, rfl, rfl, rfl⟩ rfl rfl rfl rfl rfl (by kernel_rfl) Try.func6 (by kernel_rfl)
    (of_decide_eq_true (by kernel_rfl)) (by unfold Func.isWrapper; first | (rw [if_pos (by decide +kernel)]; kernel_rfl) | (rw [if_neg (by decide +kernel)]; exact ⟨rfl, rfl⟩))
    (fun os started H enc _ => lifted os started H enc)
theorem proved : Rows.FnExactOpenSecretSaid := over
#print axioms proved
end Go.Proofs.Ytnilffafnghngaa.fnExactOpenSecret
namespace Go.Proofs.Ytnilffafnghngaa
/-- The row, under a short name, for the claim. -/
theorem fnExactOpenSecret_holds : Rows.FnExactOpenSecretSaid := fnExactOpenSecret.proved
end Go.Proofs.Ytnilffafnghngaa
