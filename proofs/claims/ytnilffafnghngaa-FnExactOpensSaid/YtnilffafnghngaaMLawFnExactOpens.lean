/- The row of FnExactOpens: the law's parameters are read as values of their kinds. -/
import Derived.Test.YtnilffafnghngaaRows
import Derived.Test.YtnilffafnghngaaMFnExactOpensx7
import Derived.Test.YtnilffafnghngaaOpens
import Derived.Test.YtnilffafnghngaaPureFnExactOpens
import Derived.WalkKit
import Derived.ProofKit
import Derived.OpenShut
import Derived.ShutString
import Derived.ChangeOld
import Derived.Below
import Derived.SizedLaws
import Derived.Test.YtnilffafnghngaaWSized
import Derived.Lib.SmallJoins
namespace Go.Proofs.Ytnilffafnghngaa.fnExactOpens
open Go.ChangeShapes Go.WideShapes Go.ChangeAt Go.RowKit
open Go.ChangeMaps (open_string shut_string)
open Go.RowKit Go.Proofs.YtnilffafnghngaaW.PrintWords Go.Proofs.Ytnilffafnghngaa.PFnExactOpens Go.Proofs.Ytnilffafnghngaa.Opens Go.Proofs.Ytnilffafnghngaa.Pure
set_option linter.unusedVariables false
theorem own : ownKnob Try.prog.godebug = none := by kernel_rfl
theorem laidOut : laidOutB Try.prog = true := by kernel_rfl
theorem kids_of {P : Program} {e : TypeId} {d : Kd S48} {G : S48 → Prop} (hc : P.cellsOf e = d.sz) {H : Type} {enc : TypeId × Value → H} {W : World} {base : Nat} {sp : Nat → Bool} {held : Bool} {m : Nat} (hd : ∀ (cs : List Value) (x : DataW H × List MemPlace), DataW.trod enc P W base sp held m e cs = some x → ∃ y : S48, d.K W y cs ∧ G y)
    (a : Addr) (elems : List (DataW H × List MemPlace)) (hmx : elems.length ≤ 9223372036854775807) (hx : ∀ i, i < elems.length → (W.cells? base (a.add (i * P.cellsOf e)) (P.cellsOf e)).bind (DataW.trod enc P W base sp held m e) = elems[i]?) :
    ∃ ys : List S48, ys.length = elems.length ∧ Kd.C d W (some a) ys.length ys ∧ ∀ y ∈ ys, G y := by
  obtain ⟨ys, hyl, hy⟩ := list_of (α := S48) (p := fun i y => ∃ cs', W.cells? base (a.add (i * P.cellsOf e)) (P.cellsOf e) = some cs' ∧ d.K W y cs' ∧ G y) elems.length (fun i hi => by
    have h := hx i hi
    rw [List.getElem?_eq_getElem hi, Option.bind_eq_some_iff] at h
    obtain ⟨cs', h1, h2⟩ := h
    obtain ⟨y, h3, h4⟩ := hd cs' _ h2
    exact ⟨y, cs', h1, h3, h4⟩)
  refine ⟨ys, hyl, ⟨rfl, by omega, fun _ => ⟨a, rfl, fun j p hj => ?_⟩⟩, fun y hm => ?_⟩
  · obtain ⟨cs', h1, h2, _⟩ := hy j p hj
    obtain ⟨_, h4, h5⟩ := World.cells?_some h1
    refine ⟨cs', by rw [h4, hc], h2, fun i u hu => ?_⟩
    have hi : i < P.cellsOf e := by have := (List.getElem?_eq_some_iff.1 hu).1; omega
    have := h5 i hi
    rw [Go.Deep.add_add, hc, hu] at this
    exact this
  · obtain ⟨i, hi⟩ := List.mem_iff_getElem?.1 hm
    obtain ⟨_, _, _, h4⟩ := hy i y hi
    exact h4
theorem reads_48 : ∀ (fuel : Nat) (H : Type) (enc : TypeId × Value → H) (W : World) (base : Nat) (sp : Nat → Bool) (held : Bool) (cs : List Value) (x : DataW H × List MemPlace), DataW.trod enc Try.prog W base sp held fuel 48 cs = some x → ∃ y : S48, k48.K W y cs ∧ GD48 fuel y := by
  have hmx : maxLen ≤ 9223372036854775807 := by decide
  intro fuel
  induction fuel using Nat.strongRecOn with
  | _ fuel ih =>
  intro H enc W base sp held cs x hx
  obtain ⟨xs, n, rfl, _, hl, hxl, hf⟩ := DataW.trod_struct Try.underlying48 hx
  have hl3 : cs.length = 3 := hl.trans (by kernel_rfl)
  have hx3 : xs.length = 3 := hxl
  obtain ⟨v0, v1, v2, rfl⟩ : ∃ v0 v1 v2, cs = [v0, v1, v2] := by
    match cs, hl3 with
    | [a, b, c], _ => exact ⟨a, b, c, rfl⟩
  have h0 : DataW.trod enc Try.prog W base sp held n 3 (([v0, v1, v2].drop 0).take (Try.prog.cellsOf 3)) = xs[0]? := hf 0 _ rfl
  have h1 : DataW.trod enc Try.prog W base sp held n 30 (([v0, v1, v2].drop 1).take (Try.prog.cellsOf 30)) = xs[1]? := hf 1 _ rfl
  have h2 : DataW.trod enc Try.prog W base sp held n 46 (([v0, v1, v2].drop 2).take (Try.prog.cellsOf 46)) = xs[2]? := hf 2 _ rfl
  rw [show Try.prog.cellsOf 3 = 1 by kernel_rfl, List.getElem?_eq_getElem (by omega)] at h0
  rw [show Try.prog.cellsOf 30 = 1 by kernel_rfl, List.getElem?_eq_getElem (by omega)] at h1
  rw [show Try.prog.cellsOf 46 = 1 by kernel_rfl, List.getElem?_eq_getElem (by omega)] at h2
  obtain ⟨m0, rfl, w0⟩ := int_cell Try.underlying3 (v := v0) h0
  obtain ⟨l1, A1, c1, rfl, r1, e1, g1⟩ := opens_cells (opens_slice Try.underlying30 (by kernel_rfl) (opens_int Try.underlying3)) (v := v1) h1
  rcases DataW.trod_slice Try.underlying46 h2 with ⟨e, _⟩ | ⟨a, len, cap, elems, rest, m, hm, e, _, _, hle, hcap, hel, hx2, _, _⟩
  · have e' : [v2] = [Value.slice none 0 0] := e
    injection e' with e' _
    subst e'
    exact ⟨⟨m0, l1, []⟩, k48_mk W ⟨m0, l1, []⟩ e1 r1 (Nat.le_refl _) ⟨rfl, by simp, fun g => by simp at g⟩, w0, g1, by simp, by simp⟩
  · have e' : [v2] = [Value.slice (some a) len cap] := e
    injection e' with e' _
    subst e'
    subst hel
    obtain ⟨ys, y1, y2, y3⟩ := kids_of (G := GD48 m) (by kernel_rfl) (fun cs x hx => ih m (by omega) H enc W base sp held cs x hx) a elems (by omega) hx2
    rw [← y1]
    refine ⟨⟨m0, l1, ys⟩, k48_mk W ⟨m0, l1, ys⟩ e1 r1 (by dsimp only; omega) y2, w0, g1, by dsimp only; omega, fun y hy => ?_⟩
    exact GD48_mono m _ _ (by omega) (y3 y hy)
theorem opens_48 : Opens Try.prog 48 k48 G48 := fun H enc W base sp held fuel cs x hx => by
  obtain ⟨y, h1, h2⟩ := reads_48 fuel H enc W base sp held cs x hx
  exact ⟨y, h1, fuel, h2⟩
set_option maxRecDepth 100000 in
theorem lifted (os : Os) (started : os.Started) (H : Type) (enc : TypeId × Value → H) :
    ReturnsInHanded {} Try.checked os 7 .any (Rows.fnExactOpensSpec.pre6 enc Try.prog Try.f7 Rows.fnExactOpensRow.domain false) (Rows.fnExactOpensSpec.post enc Try.prog Try.f7 false true false false) := by
  refine returnsInHanded_of_change_sized (C := Try.checked) own started (by kernel_rfl) Try.func7
    (ChangeSpec.witness6 (enc := enc) (C := Try.checked) false ⟨#[], #[.agg #[.int .i64 0, .slice none 0 0, .slice none 0 0], .slice none 0 0], []⟩ 8 (by kernel_rfl) (by kernel_rfl) (by kernel_rfl) (by kernel_rfl)) ?_
  intro W base args ds gs before hval0 hW hcnd hsz0 _
  have hval : ∀ (j : Nat) t v, Try.f7.params[j]? = some t → args[j]? = some v → Value.okWide Try.prog W .any base t v := hval0
  have hW' := hW
  obtain ⟨p, q, hA0, hV, rfl, hfz, hnd⟩ := hW
  have hA : DataW.TrodAll enc Try.prog W 0 (fun _ => true) true Try.f7.params.toList args.toList ds p := hA0
  rw [Try.params7] at hA hval
  obtain ⟨v0, vs0, d0, ds0, p0, q0, hargs, rfl, rfl, h0, r0⟩ := trodAll_cons hA
  obtain ⟨v1, vs1, d1, ds1, p1, q1, rfl, rfl, rfl, h1, r1⟩ := trodAll_cons r0
  obtain ⟨rfl, rfl, rfl⟩ := trodAll_nil r1
  obtain rfl : args = #[v0, v1] := by cases args; simp_all
  obtain ⟨rfl, rfl⟩ := trodVars_none hV
  have k0 := h0
  have lt0 : ∀ x ∈ p0, x.block < W.heap.size := by obtain ⟨m, hm⟩ := k0; exact DataW.trod_lt m _ _ _ hm
  obtain ⟨u0_0, u0_1, u0_2, y0_0, y0_1, y0_2, n0, rfl, rfl, rfl, z0_0, z0_1, z0_2⟩ := Go.Joins.open_agg3 Try.underlying48 (by kernel_rfl) (by kernel_rfl) (hval 0 48 v0 rfl rfl) h0
  obtain ⟨a0_0, rfl, g0_0⟩ := int_cell Try.underlying3 z0_0
  obtain ⟨l0_1, A0_1, c0_1, rfl, hr0_1, hc0_1, g0_1⟩ := opens_cells (opens_slice Try.underlying30 (by kernel_rfl) (opens_int Try.underlying3)) z0_1
  obtain ⟨l0_2, A0_2, c0_2, rfl, hr0_2, hc0_2, g0_2⟩ := opens_cells (opens_slice Try.underlying46 (by kernel_rfl) opens_48) z0_2
  obtain ⟨a1, len1, cap1, rfl⟩ := okWide_slice Try.underlying30 (hval 1 30 v1 rfl rfl)
  have k1 := h1
  have lt1 : ∀ x ∈ p1, x.block < W.heap.size := by obtain ⟨m, hm⟩ := k1; exact DataW.trod_lt m _ _ _ hm
  obtain ⟨l1, rfl, hr1, hc1, g1⟩ := opens_arg (opens_slice Try.underlying30 (by kernel_rfl) (opens_int Try.underlying3)) h1
  clear hA0 hval0 hsz0
  obtain ⟨k, hk⟩ := Pure.FnExactOpens a0_0 g0_0 l0_1 g0_1 l0_2 g0_2 l1 g1
  refine (PFnExactOpens.laws_FnExactOpens.calls k a0_0 A0_1 c0_1 l0_1 A0_2 c0_2 l0_2 a1 cap1 l1 true W hr0_1 hc0_1 hr0_2 hc0_2 hr1 hc1 hk).mono fun e W' ⟨he, bel⟩ => ?_
  subst he
  exact ⟨_, rfl, _, _, _, [], _, [], hW', trodAll_mk1 (shut_bool Try.underlying4 _), (trodAll_cons_mk (Below.trod laidOut (by kernel_rfl) (of_decide_eq_true (by kernel_rfl)) k0 bel lt0) (trodAll_cons_mk (Below.trod laidOut (by kernel_rfl) (of_decide_eq_true (by kernel_rfl)) k1 bel lt1) trodAll_mk0)), rfl, bel.frame _, fun h => by cases h⟩
theorem over : Rows.fnExactOpensRow.holds Try.pinned (OpenSpec.ofChange Rows.fnExactOpensSpec) :=
  OpenClaim.holds_of_wide 7 Try.f7 rfl rfl rfl rfl rfl rfl rfl ⟨rfl, rfl, rfl, rfl, rfl⟩ rfl rfl rfl rfl rfl (by kernel_rfl) Try.func7 (by kernel_rfl)
    (of_decide_eq_true (by kernel_rfl)) (by unfold Func.isWrapper; first | (rw [if_pos (by decide +kernel)]; kernel_rfl) | (rw [if_neg (by decide +kernel)]; exact ⟨rfl, rfl⟩))
    (fun os started H enc _ => lifted os started H enc)
theorem proved : Rows.FnExactOpensSaid := over
#print axioms proved
end Go.Proofs.Ytnilffafnghngaa.fnExactOpens
namespace Go.Proofs.Ytnilffafnghngaa
/-- The row, under a short name, for the claim. -/
theorem fnExactOpens_holds : Rows.FnExactOpensSaid := fnExactOpens.proved
end Go.Proofs.Ytnilffafnghngaa
