/- Mistakes: MistakeOf is what the reference tells; it is the same the other way round; an entry is no mistake for itself; and where two digits are swapped, the difference is a multiple of nine. -/
import Derived.Test.YtgapjelooefofaaPFnMistakeOfx0
import Derived.Test.YtgapjelooefofaaPFnMistakeOfx1
import Derived.Test.YtgapjelooefofaaPFnMistakeOfx2
import Derived.Test.YtgapjelooefofaaPFnMistakeOfx3
import Derived.Test.YtgapjelooefofaaPFnMistakeOfx4
import Derived.Test.YtgapjelooefofaaPFnMistakeOfx5
import Derived.Test.YtgapjelooefofaaPFnMistakeOfx6
import Derived.Test.YtgapjelooefofaaMFnMistakeOfx7
import Derived.Test.YtgapjelooefofaaMFnMistakeOfx8
import Derived.Test.YtgapjelooefofaaBase
set_option linter.unusedVariables false
set_option linter.unusedSimpArgs false
namespace Go.Proofs.Ytgapjelooefofaa.Pure
open Go.RowKit Go.Proofs.Ytgapjelooefofaa.PFnMistakeOf Go.Proofs.YtgapjelooefofaaW.PrintWords Go.Proofs.YtgapjelooefofaaW.PrintLast Go.Proofs.YtgapjelooefofaaW.PrintMore Go.Proofs.Ytgapjelooefofaa.Base
theorem u8_range {x : Int} (h : (Lit.int .u8 x).wf = true) : 0 ≤ x ∧ x ≤ 255 := by
  simp [Lit.wf, IntKind.min, IntKind.max, IntKind.bits, IntKind.signed] at h
  omega
/-! ## The reader that draws. -/
structure BytesOk (b : List Int) : Prop where
  len : b.length ≤ 2000
  mem : ∀ x ∈ b, 0 ≤ x ∧ x ≤ 255

theorem newReader_ok (l : List Int) (h : ∀ x ∈ l, 0 ≤ x ∧ x ≤ 255) : ∃ b, spec_newReader.f l = some (b, 0) ∧ BytesOk b := by
  unfold spec_newReader.f
  by_cases c : (l.length : Int) > 2000
  · rw [if_pos c, if_pos (by omega)]
    exact ⟨_, rfl, by rw [List.length_take]; omega, fun x hx => h x (List.mem_of_mem_take hx)⟩
  · rw [if_neg c]
    exact ⟨_, rfl, by omega, h⟩

theorem pick_ok (b : List Int) (p n : Int) (hb : BytesOk b) (h0 : 0 ≤ p) (h1 : p ≤ 100000) :
    EvS (fun k => spec_reader_pick.f k b p n) (fun r => 0 ≤ r.1 ∧ (1 ≤ n → r.1 < n) ∧ (n < 1 → r.1 = 0) ∧ r.2 = p + 1) := by
  have hp : wrap64 (p + 1) = p + 1 := w64 (by omega) (by omega)
  have hq : wrap64 (p + 1 - 1) = p := by rw [show p + 1 - 1 = p by omega]; exact w64 (by omega) (by omega)
  have hbl := hb.len
  simp only [spec_reader_pick.f]
  rw [hp]
  by_cases hn : n < 1
  · refine EvS.pos hn ?_
    refine EvS.step (fun k => by rw [spec_reader_pick.j0]) ?_
    refine EvS.pos rfl ?_
    exact EvS.now ⟨by simp, fun h => by omega, fun _ => rfl, rfl⟩
  · refine EvS.neg hn ?_
    refine EvS.step (fun k => by rw [spec_reader_pick.j0]) ?_
    simp only [hq]
    by_cases hl : b.length = 0
    · refine EvS.pos (by simp [hl]) ?_
      exact EvS.now ⟨by simp, fun h => by simp; omega, fun _ => rfl, rfl⟩
    · refine EvS.neg (by simp; intro h; exact hl (by simp [h])) ?_
      by_cases hpl : p < b.length
      · refine EvS.pos hpl (EvS.pos h0 (EvS.neg (by omega) ?_))
        have hr := rd_range hb.mem p h0 hpl
        rw [w64 (by omega) (by omega)]
        have ht := tmod_range (rd b p) n (by omega) (by omega)
        exact EvS.now ⟨ht.1, fun _ => ht.2, fun h => by omega, rfl⟩
      · refine EvS.neg hpl (EvS.neg (by omega) ?_)
        have e1 : wrap64 (wrap64 (p * 7) + 3) = p * 7 + 3 := by
          rw [w64 (x := p * 7) (by omega) (by omega)]; exact w64 (by omega) (by omega)
        simp only [e1]
        have i1 := tmod_range p b.length h0 (by omega)
        have i2 := tmod_range (p * 7 + 3) b.length (by omega) (by omega)
        refine EvS.pos i1.1 (EvS.pos i1.2 (EvS.pos i2.1 (EvS.pos i2.2 (EvS.neg (by omega) ?_))))
        have r1 := rd_range hb.mem _ i1.1 i1.2
        have r2 := rd_range hb.mem _ i2.1 i2.2
        generalize rd b (Int.tmod p b.length) = v1 at r1 ⊢
        generalize rd b (Int.tmod (p * 7 + 3) b.length) = v2 at r2 ⊢
        have d0 : 0 ≤ Int.tdiv p b.length ∧ Int.tdiv p b.length ≤ p := by
          rw [tdiv_pos _ _ h0]
          exact ⟨Int.ediv_nonneg h0 (by omega), Int.ediv_le_self _ h0⟩
        generalize Int.tdiv p b.length = dv at d0 ⊢
        simp (disch := omega) only [w64]
        have hx0 : 0 ≤ v1 * 131 + v2 * 1117 + p * 29 + dv * 53 := by omega
        have hx1 : v1 * 131 + v2 * 1117 + p * 29 + dv * 53 < 1000000000 := by omega
        generalize v1 * 131 + v2 * 1117 + p * 29 + dv * 53 = X at hx0 hx1 ⊢
        rw [tdiv_pos X 64 hx0, w64 (x := X / 64) (by omega) (by omega)]
        have ht := tmod_range (Go.bits .xor .i64 X (X / 64)) n (xor_nonneg _ _ (by omega) (by omega) (by omega) (by omega)) (by omega)
        exact EvS.now ⟨ht.1, fun _ => ht.2, fun h => by omega, rfl⟩

theorem one_ok (b : List Int) (p : Int) (l : List Int) (hb : BytesOk b) (h0 : 0 ≤ p) (h1 : p ≤ 100000) (hl : 1 ≤ l.length) :
    EvS (fun k => spec_reader_one.f k b p l) (fun r => r.1 ∈ l ∧ r.2 = p + 1) := by
  simp only [spec_reader_one.f]
  refine EvS.bind (pick_ok b p l.length hb h0 h1) ?_
  rintro ⟨v, q⟩ ⟨a1, a2, a3, a4⟩
  have a5 := a2 (by omega)
  refine EvS.pos a1 (EvS.pos a5 ?_)
  exact EvS.now ⟨rd_mem _ a1 a5, a4⟩
/-! ## Places in a list. -/
theorem inRange_eq (n lo hi : Int) : spec_inRange.f n lo hi = some (decide (lo ≤ n ∧ n ≤ hi)) := by
  unfold spec_inRange.f
  split
  · exact congrArg some (decide_eq_decide.2 (by omega))
  · exact congrArg some (decide_eq_false (by omega)).symm
def posF (v : Int) : Int → List Int → Int
  | _, [] => -1
  | i, x :: xs => if x = v then i else posF v (i + 1) xs
theorem posF_range (v : Int) (xs : List Int) : ∀ i : Int, 0 ≤ i → (v ∈ xs → i ≤ posF v i xs ∧ posF v i xs < i + xs.length) ∧ (v ∉ xs → posF v i xs = -1) := by
  induction xs with
  | nil => intro i h0; exact ⟨fun h => by simp at h, fun _ => rfl⟩
  | cons x xs ih =>
    intro i h0
    have h := ih (i + 1) (by omega)
    simp only [posF, List.length_cons]
    by_cases c : x = v
    · rw [if_pos c]; exact ⟨fun _ => by omega, fun g => absurd (by simp [c]) g⟩
    · rw [if_neg c]
      refine ⟨fun g => ?_, fun g => h.2 (fun g2 => g (List.mem_cons_of_mem _ g2))⟩
      have := h.1 ((List.mem_cons.1 g).resolve_left (fun e => c e.symm))
      omega
theorem posF_nonneg (v : Int) (xs : List Int) (i : Int) (h : 0 ≤ i) : (0 ≤ posF v i xs) ↔ v ∈ xs := by
  by_cases c : v ∈ xs
  · have := (posF_range v xs i h).1 c; exact ⟨fun _ => c, fun _ => by omega⟩
  · have := (posF_range v xs i h).2 c; exact ⟨fun g => by omega, fun g => absurd g c⟩
theorem placeIn_l0 (xs : List Int) (hl : xs.length ≤ 1099511627776) (v : Int) (ys : List Int) : ∀ i : Int, At xs i ys → EvS (fun k => spec_placeIn.l0 k xs v i) (· = posF v i ys) := by
  induction ys with
  | nil =>
    intro i h
    refine EvS.step (fun k => by rw [spec_placeIn.l0]) ?_
    exact EvS.neg (by have := h.ge; omega) (EvS.now rfl)
  | cons y ys ih =>
    intro i h
    have h1 := h.lt
    have h2 := h.nonneg
    have hw : wrap64 (i + 1) = i + 1 := w64 (by omega) (by omega)
    refine EvS.step (fun k => by rw [spec_placeIn.l0]) ?_
    refine EvS.pos h.lt (EvS.pos h.nonneg ?_)
    rw [At.rd h, hw, posF]
    by_cases c : y = v
    · rw [if_pos c]; exact EvS.pos c (EvS.now rfl)
    · rw [if_neg c]; exact EvS.neg c (ih _ h.next)
theorem placeIn_ok (xs : List Int) (hl : xs.length ≤ 1099511627776) (v : Int) : EvS (fun k => spec_placeIn.f k xs v) (· = posF v 0 xs) := by
  simp only [spec_placeIn.f]
  exact placeIn_l0 xs hl v xs 0 (At.zero xs)
theorem index_l0 (xs : List Int) (hl : xs.length ≤ 1099511627776) (v : Int) (ys : List Int) : ∀ i : Int, At xs i ys → EvS (fun k => slices_Index_int_int.l0 k xs v xs.length i) (· = posF v i ys) := by
  induction ys with
  | nil =>
    intro i h
    refine EvS.step (fun k => by rw [slices_Index_int_int.l0]) ?_
    exact EvS.neg (by have := h.ge; omega) (EvS.now rfl)
  | cons y ys ih =>
    intro i h
    have h1 := h.lt
    have h2 := h.nonneg
    have hw : wrap64 (i + 1) = i + 1 := w64 (by omega) (by omega)
    refine EvS.step (fun k => by rw [slices_Index_int_int.l0]) ?_
    refine EvS.pos h.lt (EvS.pos h.nonneg (EvS.pos h.lt ?_))
    rw [At.rd h, hw, posF]
    by_cases c : y = v
    · rw [if_pos c]; exact EvS.pos c.symm (EvS.now rfl)
    · rw [if_neg c]; exact EvS.neg (fun g => c g.symm) (ih _ h.next)
theorem index_ok (xs : List Int) (hl : xs.length ≤ 1099511627776) (v : Int) : EvS (fun k => slices_Index_int_int.f k xs v) (· = posF v 0 xs) := by
  simp only [slices_Index_int_int.f]
  exact index_l0 xs hl v xs 0 (At.zero xs)
theorem contains_ok (xs : List Int) (hl : xs.length ≤ 1099511627776) (v : Int) : EvS (fun k => slices_Contains_int_int.f k xs v) (· = decide (v ∈ xs)) := by
  simp only [slices_Contains_int_int.f]
  exact EvS.bindv (index_ok xs hl v) (EvS.now (decide_eq_decide.2 (posF_nonneg v xs 0 (by omega))))
def VE (a b c d : Int) : Prop := 0 ≤ a ∧ a ≤ 999 ∧ 0 ≤ b ∧ b ≤ 7 ∧ 0 ≤ c ∧ c ≤ 7 ∧ b ≠ c ∧ 1 ≤ d ∧ d ≤ 1000000
instance (a b c d : Int) : Decidable (VE a b c d) := by unfold VE; infer_instance
theorem validAccount_eq (n : Int) : impl_validAccount.f n = some (decide (0 ≤ n ∧ n ≤ 7)) := by
  unfold impl_validAccount.f
  split
  · exact congrArg some (decide_eq_decide.2 (by omega))
  · exact congrArg some (decide_eq_false (by omega)).symm
theorem impl_validEntry_ok (a b c d : Int) : EvS (fun k => impl_validEntry.f k a b c d) (· = decide (VE a b c d)) := by
  have jt : ¬ VE a b c d → EvS (fun k => impl_validEntry.j0 k true a b c d) (· = decide (VE a b c d)) := by
    intro h
    refine EvS.step (fun k => by rw [impl_validEntry.j0]) ?_
    exact EvS.pos rfl (EvS.now (decide_eq_false h).symm)
  simp only [impl_validEntry.f]
  refine EvS.ite (fun h => jt (by unfold VE; omega)) (fun h1 => EvS.ite (fun h => jt (by unfold VE; omega)) (fun h2 => EvS.ite (fun h => jt (by unfold VE; omega)) (fun h3 => ?_)))
  by_cases h4 : d > 1000000
  · rw [decide_eq_true h4]; exact jt (by unfold VE; omega)
  · rw [decide_eq_false h4]
    refine EvS.step (fun k => by rw [impl_validEntry.j0]) ?_
    refine EvS.neg (by simp) (EvS.call (validAccount_eq b) (EvS.ite (fun h5 => EvS.call (validAccount_eq c) (EvS.ite (fun h6 => EvS.now ?_) (fun h6 => EvS.now ?_))) (fun h5 => EvS.now ?_)))
    · have h5 := of_decide_eq_true h5
      have h6 := of_decide_eq_true h6
      by_cases hbc : b = c
      · rw [decide_eq_false (by unfold VE; omega)]; simp [hbc]
      · rw [decide_eq_true (by unfold VE; omega)]; simp [hbc]
    · simp at h6
      exact (decide_eq_false (by unfold VE; omega)).symm
    · simp at h5
      exact (decide_eq_false (by unfold VE; omega)).symm
theorem spec_validEntry_eq (a b c d : Int) : spec_validEntry.f a b c d = some (decide (VE a b c d)) := by
  unfold spec_validEntry.f
  simp only [inRange_eq, Option.bind_some]
  split
  · rename_i h1
    have h1 := of_decide_eq_true h1
    split
    · rename_i h2
      have h2 := of_decide_eq_true h2
      split
      · rename_i h3
        have h3 := of_decide_eq_true h3
        split
        · exact congrArg some (decide_eq_false (by unfold VE; omega)).symm
        · exact congrArg some (decide_eq_decide.2 (by unfold VE; omega))
      · rename_i h3; simp at h3
        exact congrArg some (decide_eq_false (by unfold VE; omega)).symm
    · rename_i h2; simp at h2
      exact congrArg some (decide_eq_false (by unfold VE; omega)).symm
  · rename_i h1; simp at h1
    exact congrArg some (decide_eq_false (by unfold VE; omega)).symm

/-! ## The amounts that are drawn, reckoned through one by one. -/
def sw (a : Int) : List Int := (impl_SwappedOf.f 40 a).getD []
def sp (a : Int) : List Int := (spec_swaps.f 40 a).getD []
def okA (a : Int) : Bool := (impl_SwappedOf.f 40 a).isSome && (spec_swaps.f 40 a).isSome && decide ((sw a).length < 100) && decide ((sp a).length < 100) && !decide (a ∈ sw a)
def okP (a b : Int) : Bool := okA a && okA b && (decide (b ∈ sw a) == decide (b ∈ sp a)) && (decide (b ∈ sw a) == decide (a ∈ sw b)) && (!decide (b ∈ sw a) || Int.tmod (wrap64 (a - b)) 9 == 0)
def amounts : List Int := 1200 :: 1234 :: 50 :: (List.range 250).map (fun n => ((n + 1 : Nat) : Int))
set_option maxRecDepth 100000 in
theorem all_ok : (amounts.all fun a => (a :: 2100 :: 5 :: 0 :: sp a).all (okP a)) = true := by decide +kernel
theorem pair_ok {a b : Int} (ha : a ∈ amounts) (hb : b ∈ a :: 2100 :: 5 :: 0 :: sp a) : okP a b = true := List.all_eq_true.1 (List.all_eq_true.1 all_ok a ha) b hb
structure PairOk (a b : Int) : Prop where
  sa : EvS (fun k => impl_SwappedOf.f k a) (· = sw a)
  sb : EvS (fun k => impl_SwappedOf.f k b) (· = sw b)
  pa : EvS (fun k => spec_swaps.f k a) (· = sp a)
  la : (sw a).length < 100
  lb : (sw b).length < 100
  lp : (sp a).length < 100
  na : a ∉ sw a
  nb : b ∉ sw b
  same : b ∈ sw a ↔ b ∈ sp a
  sym : b ∈ sw a ↔ a ∈ sw b
  nine : b ∈ sw a → Int.tmod (wrap64 (a - b)) 9 = 0
theorem okA_of {a : Int} (h : okA a = true) : EvS (fun k => impl_SwappedOf.f k a) (· = sw a) ∧ EvS (fun k => spec_swaps.f k a) (· = sp a) ∧ (sw a).length < 100 ∧ (sp a).length < 100 ∧ a ∉ sw a := by
  unfold okA at h
  simp only [Bool.and_eq_true, decide_eq_true_eq, Bool.not_eq_true', decide_eq_false_iff_not] at h
  obtain ⟨⟨⟨⟨h1, h2⟩, h3⟩, h4⟩, h5⟩ := h
  obtain ⟨x, hx⟩ := Option.isSome_iff_exists.1 h1
  obtain ⟨y, hy⟩ := Option.isSome_iff_exists.1 h2
  refine ⟨⟨x, Ev.of (fun k => impl_SwappedOf.mono a k) hx, by unfold sw; rw [hx]; rfl⟩, ⟨y, Ev.of (fun k => spec_swaps.mono a k) hy, by unfold sp; rw [hy]; rfl⟩, h3, h4, h5⟩
theorem PairOk.of {a b : Int} (h : okP a b = true) : PairOk a b := by
  unfold okP at h
  simp only [Bool.and_eq_true] at h
  obtain ⟨⟨⟨⟨h1, h2⟩, h3⟩, h4⟩, h5⟩ := h
  obtain ⟨a1, a2, a3, a4, a5⟩ := okA_of h1
  obtain ⟨b1, b2, b3, b4, b5⟩ := okA_of h2
  refine ⟨a1, b1, a2, a3, b3, a4, a5, b5, ?_, ?_, ?_⟩
  · simpa using h3
  · simpa using h4
  · intro g
    simp only [Bool.or_eq_true, Bool.not_eq_true', decide_eq_false_iff_not, beq_iff_eq] at h5
    rcases h5 with h5 | h5
    · exact absurd g h5
    · exact h5

/-! ## What MistakeOf tells. -/
def mis (a0 a1 a2 a3 b0 b1 b2 b3 : Int) : Int :=
  if ¬ (VE a0 a1 a2 a3 ∧ VE b0 b1 b2 b3) then -1
  else if (a0 = b0 ∧ a1 = b1 ∧ a2 = b2) ∧ b3 ∈ sw a3 then 2
  else if a0 = b0 ∧ a3 = b3 ∧ a1 = b2 ∧ a2 = b1 then 3
  else if a0 ≠ b0 ∧ (a1 = b1 ∧ a2 = b2) ∧ a3 = b3 then 4 else 5
section
variable (a0 a1 a2 a3 b0 b1 b2 b3 : Int)
theorem impl_j3 (hv : VE a0 a1 a2 a3 ∧ VE b0 b1 b2 b3) (n2 : ¬ ((a0 = b0 ∧ a1 = b1 ∧ a2 = b2) ∧ b3 ∈ sw a3)) (x5 x : Bool) (h5 : x5 = true ↔ a1 = b1 ∧ a2 = b2) (hx : x = true ↔ a0 = b0 ∧ a3 = b3 ∧ a1 = b2 ∧ a2 = b1) : EvS (fun k => impl_MistakeOf.j3 k x5 x a0 a1 a2 a3 b0 b1 b2 b3) (· = mis a0 a1 a2 a3 b0 b1 b2 b3) := by
  have em : mis a0 a1 a2 a3 b0 b1 b2 b3 = (if a0 = b0 ∧ a3 = b3 ∧ a1 = b2 ∧ a2 = b1 then 3 else if a0 ≠ b0 ∧ (a1 = b1 ∧ a2 = b2) ∧ a3 = b3 then 4 else 5) := by rw [mis, if_neg (fun g => g hv), if_neg n2]
  refine EvS.step (fun k => by rw [impl_MistakeOf.j3]) ?_
  refine EvS.ite (fun c => EvS.now ?_) (fun c => ?_)
  · rw [em, if_pos (hx.1 c)]
  · have n3 := fun g => c (hx.2 g)
    refine EvS.ite (fun c1 => EvS.now ?_) (fun c1 => EvS.ite (fun c2 => EvS.ite (fun c3 => EvS.now ?_) (fun c3 => EvS.now ?_)) (fun c2 => EvS.now ?_))
    · rw [em, if_neg n3, if_neg (fun g => g.1 c1)]
    · rw [em, if_neg n3, if_pos ⟨c1, h5.1 c2, c3⟩]
    · rw [em, if_neg n3, if_neg (fun g => c3 g.2.2)]
    · rw [em, if_neg n3, if_neg (fun g => c2 (h5.2 g.2.1))]
theorem impl_j2 (hv : VE a0 a1 a2 a3 ∧ VE b0 b1 b2 b3) (x5 x : Bool) (h5 : x5 = true ↔ a1 = b1 ∧ a2 = b2) (hx : x = true ↔ (a0 = b0 ∧ a1 = b1 ∧ a2 = b2) ∧ b3 ∈ sw a3) : EvS (fun k => impl_MistakeOf.j2 k x5 x a0 a1 a2 a3 b0 b1 b2 b3) (· = mis a0 a1 a2 a3 b0 b1 b2 b3) := by
  refine EvS.step (fun k => by rw [impl_MistakeOf.j2]) ?_
  refine EvS.ite (fun c => EvS.now ?_) (fun c => ?_)
  · rw [mis, if_neg (fun g => g hv), if_pos (hx.1 c)]
  · have n2 := fun g => c (hx.2 g)
    have no : ¬ (a0 = b0 ∧ a3 = b3 ∧ a1 = b2 ∧ a2 = b1) → EvS (fun k => impl_MistakeOf.j3 k x5 false a0 a1 a2 a3 b0 b1 b2 b3) (· = mis a0 a1 a2 a3 b0 b1 b2 b3) := fun g => impl_j3 a0 a1 a2 a3 b0 b1 b2 b3 hv n2 x5 false h5 ⟨fun q => by simp at q, fun q => absurd q g⟩
    refine EvS.ite (fun c1 => EvS.ite (fun c2 => EvS.ite (fun c3 => impl_j3 a0 a1 a2 a3 b0 b1 b2 b3 hv n2 x5 _ h5 ?_) (fun c3 => no (fun g => c3 g.2.2.1))) (fun c2 => no (fun g => c2 g.2.1))) (fun c1 => no (fun g => c1 g.1))
    rw [beq_iff_eq]
    exact ⟨fun g => ⟨c1, c2, c3, g⟩, fun g => g.2.2.2⟩
theorem impl_ok (hs : EvS (fun k => impl_SwappedOf.f k a3) (· = sw a3)) (hl : (sw a3).length < 100) : EvS (fun k => impl_MistakeOf.f k a0 a1 a2 a3 b0 b1 b2 b3) (· = mis a0 a1 a2 a3 b0 b1 b2 b3) := by
  have jt : ¬ (VE a0 a1 a2 a3 ∧ VE b0 b1 b2 b3) → EvS (fun k => impl_MistakeOf.j0 k true a0 a1 a2 a3 b0 b1 b2 b3) (· = mis a0 a1 a2 a3 b0 b1 b2 b3) := by
    intro g
    refine EvS.step (fun k => by rw [impl_MistakeOf.j0]) ?_
    exact EvS.pos rfl (EvS.now (by rw [mis, if_pos g]))
  simp only [impl_MistakeOf.f]
  refine EvS.bindv (impl_validEntry_ok a0 a1 a2 a3) (EvS.ite (fun c => EvS.bindv (impl_validEntry_ok b0 b1 b2 b3) ?_) (fun c => jt (fun g => ndec c g.1)))
  have c := of_decide_eq_true c
  by_cases c2 : VE b0 b1 b2 b3
  · rw [decide_eq_true c2]
    have hv : VE a0 a1 a2 a3 ∧ VE b0 b1 b2 b3 := ⟨c, c2⟩
    have j1 : ∀ x5 : Bool, (x5 = true ↔ a1 = b1 ∧ a2 = b2) → EvS (fun k => impl_MistakeOf.j1 k x5 a0 a1 a2 a3 b0 b1 b2 b3) (· = mis a0 a1 a2 a3 b0 b1 b2 b3) := by
      intro x5 h5
      refine EvS.step (fun k => by rw [impl_MistakeOf.j1]) ?_
      refine EvS.ite (fun c3 => EvS.ite (fun c4 => EvS.bindv hs (EvS.bindv (contains_ok (sw a3) (by omega) b3) ?_)) (fun c4 => ?_)) (fun c3 => ?_)
      · exact impl_j2 a0 a1 a2 a3 b0 b1 b2 b3 hv x5 _ h5 ⟨fun g => ⟨⟨c3, h5.1 c4⟩, of_decide_eq_true g⟩, fun g => decide_eq_true g.2⟩
      · exact impl_j2 a0 a1 a2 a3 b0 b1 b2 b3 hv x5 _ h5 ⟨fun g => by simp at g, fun g => absurd (h5.2 g.1.2) c4⟩
      · exact impl_j2 a0 a1 a2 a3 b0 b1 b2 b3 hv x5 _ h5 ⟨fun g => by simp at g, fun g => absurd g.1.1 c3⟩
    refine EvS.step (fun k => by rw [impl_MistakeOf.j0]) ?_
    refine EvS.neg (by simp) (EvS.ite (fun c3 => j1 _ ?_) (fun c3 => j1 _ ⟨fun g => by simp at g, fun g => absurd g.1 c3⟩))
    rw [beq_iff_eq]
    exact ⟨fun g => ⟨c3, g⟩, fun g => g.2⟩
  · rw [decide_eq_false c2]; exact jt (fun g => c2 g.2)
theorem spec_ok (hs : EvS (fun k => spec_swaps.f k a3) (· = sp a3)) (hl : (sp a3).length < 100) (same : b3 ∈ sw a3 ↔ b3 ∈ sp a3) : EvS (fun k => spec_MistakeOf.f k a0 a1 a2 a3 b0 b1 b2 b3) (· = mis a0 a1 a2 a3 b0 b1 b2 b3) := by
  simp only [spec_MistakeOf.f, spec_mistake.f]
  refine EvS.call (spec_validEntry_eq a0 a1 a2 a3) (EvS.ite (fun c => EvS.call (spec_validEntry_eq b0 b1 b2 b3) (EvS.ite (fun c2 => ?_) (fun c2 => EvS.now (by rw [mis, if_pos (fun g => ndec c2 g.2)])))) (fun c => EvS.now (by rw [mis, if_pos (fun g => ndec c g.1)])))
  have hv : VE a0 a1 a2 a3 ∧ VE b0 b1 b2 b3 := ⟨of_decide_eq_true c, of_decide_eq_true c2⟩
  have j1 : ¬ ((a0 = b0 ∧ a1 = b1 ∧ a2 = b2) ∧ b3 ∈ sw a3) → ∀ x : Bool, (x = true ↔ a0 = b0 ∧ a3 = b3 ∧ a1 = b2 ∧ a2 = b1) → EvS (fun k => spec_mistake.j1 k x a0 a1 a2 a3 b0 b1 b2 b3) (· = mis a0 a1 a2 a3 b0 b1 b2 b3) := by
    intro n2 x hx
    have em : mis a0 a1 a2 a3 b0 b1 b2 b3 = (if a0 = b0 ∧ a3 = b3 ∧ a1 = b2 ∧ a2 = b1 then 3 else if a0 ≠ b0 ∧ (a1 = b1 ∧ a2 = b2) ∧ a3 = b3 then 4 else 5) := by rw [mis, if_neg (fun g => g hv), if_neg n2]
    refine EvS.step (fun k => by rw [spec_mistake.j1]) ?_
    refine EvS.ite (fun c => EvS.now ?_) (fun c => ?_)
    · rw [em, if_pos (hx.1 c)]
    · have n3 := fun g => c (hx.2 g)
      refine EvS.ite (fun c1 => EvS.ite (fun c2 => EvS.now ?_) (fun c2 => EvS.now ?_)) (fun c1 => EvS.now ?_)
      · simp only [Bool.and_eq_true, beq_iff_eq] at c1
        simp only [Bool.or_eq_true, Bool.not_eq_true', beq_eq_false_iff_ne, ne_eq] at c2
        rw [em, if_neg n3, if_pos ⟨fun g => by rcases c2 with q | q | q | q; exact q g; exact q c1.1; exact q c1.2.1; exact q c1.2.2, ⟨c1.1, c1.2.1⟩, c1.2.2⟩]
      · simp only [Bool.or_eq_true, Bool.not_eq_true', beq_eq_false_iff_ne, ne_eq] at c2
        rw [em, if_neg n3, if_neg (fun g => c2 (.inl g.1))]
      · simp only [Bool.and_eq_true, beq_iff_eq] at c1
        rw [em, if_neg n3, if_neg (fun g => c1 ⟨g.2.1.1, g.2.1.2, g.2.2⟩)]
  have j0 : ∀ x : Bool, (x = true ↔ (a0 = b0 ∧ a1 = b1 ∧ a2 = b2) ∧ b3 ∈ sw a3) → EvS (fun k => spec_mistake.j0 k x a0 a1 a2 a3 b0 b1 b2 b3) (· = mis a0 a1 a2 a3 b0 b1 b2 b3) := by
    intro x hx
    refine EvS.step (fun k => by rw [spec_mistake.j0]) ?_
    refine EvS.ite (fun c => EvS.now (by rw [mis, if_neg (fun g => g hv), if_pos (hx.1 c)])) (fun c => ?_)
    have n2 := fun g => c (hx.2 g)
    have no : ¬ (a0 = b0 ∧ a3 = b3 ∧ a1 = b2 ∧ a2 = b1) → EvS (fun k => spec_mistake.j1 k false a0 a1 a2 a3 b0 b1 b2 b3) (· = mis a0 a1 a2 a3 b0 b1 b2 b3) := fun g => j1 n2 false ⟨fun q => by simp at q, fun q => absurd q g⟩
    refine EvS.ite (fun c1 => EvS.ite (fun c2 => EvS.ite (fun c3 => j1 n2 _ ?_) (fun c3 => no (fun g => c3 g.2.2.1))) (fun c2 => no (fun g => c2 g.2.1))) (fun c1 => no (fun g => c1 g.1))
    rw [beq_iff_eq]
    exact ⟨fun g => ⟨c1, c2, c3, g⟩, fun g => g.2.2.2⟩
  refine EvS.bindv (EvS.ite (fun c => EvS.bindv hs (EvS.bindv (placeIn_ok (sp a3) (by omega) b3) (j0 _ ?_))) (fun c => j0 _ ⟨fun g => by simp at g, fun g => absurd (by simp only [Bool.and_eq_true, beq_iff_eq]; exact g.1) c⟩)) (EvS.now rfl)
  simp only [Bool.and_eq_true, beq_iff_eq] at c
  rw [decide_eq_true_eq, same]
  exact ⟨fun g => ⟨c, (posF_nonneg _ _ _ (by omega)).1 g⟩, fun g => (posF_nonneg _ _ _ (by omega)).2 g.2⟩
end
theorem mis_sym (a0 a1 a2 a3 b0 b1 b2 b3 : Int) (h : b3 ∈ sw a3 ↔ a3 ∈ sw b3) : mis b0 b1 b2 b3 a0 a1 a2 a3 = mis a0 a1 a2 a3 b0 b1 b2 b3 := by
  unfold mis
  have e1 : (¬ (VE b0 b1 b2 b3 ∧ VE a0 a1 a2 a3)) = (¬ (VE a0 a1 a2 a3 ∧ VE b0 b1 b2 b3)) := by rw [and_comm]
  have e2 : ((b0 = a0 ∧ b1 = a1 ∧ b2 = a2) ∧ a3 ∈ sw b3) = ((a0 = b0 ∧ a1 = b1 ∧ a2 = b2) ∧ b3 ∈ sw a3) := by
    rw [h]; exact propext ⟨fun g => ⟨⟨g.1.1.symm, g.1.2.1.symm, g.1.2.2.symm⟩, g.2⟩, fun g => ⟨⟨g.1.1.symm, g.1.2.1.symm, g.1.2.2.symm⟩, g.2⟩⟩
  have e3 : (b0 = a0 ∧ b3 = a3 ∧ b1 = a2 ∧ b2 = a1) = (a0 = b0 ∧ a3 = b3 ∧ a1 = b2 ∧ a2 = b1) := propext (by omega)
  have e4 : (b0 ≠ a0 ∧ (b1 = a1 ∧ b2 = a2) ∧ b3 = a3) = (a0 ≠ b0 ∧ (a1 = b1 ∧ a2 = b2) ∧ a3 = b3) := propext (by omega)
  simp only [e1, e2, e3, e4]
theorem mis_self (a0 a1 a2 a3 : Int) (hv : VE a0 a1 a2 a3) (h : a3 ∉ sw a3) : mis a0 a1 a2 a3 a0 a1 a2 a3 = 5 := by
  have : a1 ≠ a2 := hv.2.2.2.2.2.2.1
  rw [mis, if_neg (fun g => g ⟨hv, hv⟩), if_neg (fun g => h g.2), if_neg (fun g => this g.2.2.1), if_neg (fun g => g.1 rfl)]
theorem mis_neg {a0 a1 a2 a3 b0 b1 b2 b3 : Int} (h : ¬ mis a0 a1 a2 a3 b0 b1 b2 b3 < 0) : VE a0 a1 a2 a3 := by
  by_cases g : VE a0 a1 a2 a3 ∧ VE b0 b1 b2 b3
  · exact g.1
  · rw [mis, if_pos g] at h; omega
theorem mis_two {a0 a1 a2 a3 b0 b1 b2 b3 : Int} (h : mis a0 a1 a2 a3 b0 b1 b2 b3 = 2) : b3 ∈ sw a3 := by
  unfold mis at h
  split at h
  · omega
  · split at h
    · rename_i g; exact g.2
    · split at h
      · omega
      · split at h <;> omega
/-! ## The draw. -/
theorem draw_ok (l : List Int) (hl : ∀ x ∈ l, 0 ≤ x ∧ x ≤ 255) : EvS (fun k => spec_DrawMistakeOf.f k l) (fun r => PairOk r.2.2.2.1 r.2.2.2.2.2.2.2) := by
  simp only [spec_DrawMistakeOf.f]
  obtain ⟨b, be, hb⟩ := newReader_ok l hl
  refine EvS.call be ?_
  dsimp only
  refine EvS.bind (pick_ok _ _ _ hb (by omega) (by omega)) ?_
  rintro ⟨v1, _⟩ ⟨v1_0, v1_1, v1_2, rfl⟩
  dsimp only at v1_0 v1_1 v1_2 ⊢
  refine EvS.bind (one_ok _ _ _ hb (by omega) (by omega) (by simp)) ?_
  rintro ⟨v2, _⟩ ⟨v2_m, rfl⟩
  dsimp only at v2_m ⊢
  refine EvS.bind (pick_ok _ _ _ hb (by omega) (by omega)) ?_
  rintro ⟨v3, _⟩ ⟨v3_0, v3_1, v3_2, rfl⟩
  dsimp only at v3_0 v3_1 v3_2 ⊢
  refine EvS.bind (one_ok _ _ _ hb (by omega) (by omega) (by simp)) ?_
  rintro ⟨v4, _⟩ ⟨v4_m, rfl⟩
  dsimp only at v4_m ⊢
  have hm : v4 ∈ amounts := by
    simp only [List.mem_cons, List.not_mem_nil, or_false] at v4_m
    rw [w64 (x := 1 + v3) (by omega) (by omega)] at v4_m
    have v3r := v3_1 (by omega)
    unfold amounts
    rcases v4_m with rfl | rfl | rfl | rfl
    · exact List.mem_cons_self
    · exact List.mem_cons_of_mem _ List.mem_cons_self
    · exact List.mem_cons_of_mem _ (List.mem_cons_of_mem _ List.mem_cons_self)
    · refine List.mem_cons_of_mem _ (List.mem_cons_of_mem _ (List.mem_cons_of_mem _ (List.mem_map.2 ⟨v3.toNat, List.mem_range.2 (by omega), by omega⟩)))
  have self : PairOk v4 v4 := PairOk.of (pair_ok hm List.mem_cons_self)
  refine EvS.bind (pick_ok _ _ _ hb (by omega) (by omega)) ?_
  rintro ⟨v5, _⟩ ⟨v5_0, v5_1, v5_2, rfl⟩
  dsimp only at v5_0 v5_1 v5_2 ⊢
  have hj : ∀ (x : Int) (f : Bool) (q : Int) (e2 : Int), 0 ≤ q → q ≤ 1000 → EvS (fun k => spec_DrawMistakeOf.j0 k x f b q v1 1 v2 v4 v1 1 v2 v4) (fun r => PairOk r.2.2.2.1 r.2.2.2.2.2.2.2) := by
    intro x f q _ q0 q1
    refine EvS.step (fun k => by rw [spec_DrawMistakeOf.j0]) ?_
    refine EvS.ite (fun _ => ?_) (fun _ => EvS.ite (fun _ => EvS.now self) (fun _ => EvS.ite (fun _ => ?_) (fun _ => EvS.ite (fun _ => ?_) (fun _ => EvS.now self))))
    · refine EvS.bindv self.pa (EvS.ite (fun c => ?_) (fun _ => EvS.now self))
      refine EvS.bind (pick_ok b q _ hb q0 (by omega)) ?_
      rintro ⟨v, q2⟩ ⟨e1, e2, -, -⟩
      dsimp only at e1 e2 ⊢
      have e2 := e2 (by omega)
      refine EvS.pos e1 (EvS.pos e2 (EvS.now ?_))
      exact PairOk.of (pair_ok hm (List.mem_cons_of_mem _ (List.mem_cons_of_mem _ (List.mem_cons_of_mem _ (List.mem_cons_of_mem _ (rd_mem v e1 e2))))))
    · refine EvS.bind (pick_ok b q 4 hb q0 (by omega)) ?_
      rintro ⟨v, q2⟩ _
      exact EvS.now self
    · refine EvS.bind (one_ok b q [2100, 5, 0] hb q0 (by omega) (by simp)) ?_
      rintro ⟨v, q2⟩ ⟨e1, -⟩
      dsimp only at e1 ⊢
      refine EvS.now (PairOk.of (pair_ok hm (List.mem_cons_of_mem _ ?_)))
      simp only [List.mem_cons, List.not_mem_nil, or_false] at e1
      rcases e1 with rfl | rfl | rfl
      · exact List.mem_cons_self
      · exact List.mem_cons_of_mem _ List.mem_cons_self
      · exact List.mem_cons_of_mem _ (List.mem_cons_of_mem _ List.mem_cons_self)
  exact EvS.ite (fun _ => hj _ _ _ 0 (by omega) (by omega)) (fun _ => hj _ _ _ 0 (by omega) (by omega))
theorem FnMistakeOf : laws_FnMistakeOf.Pure := by
  intro l0 _ _ hw
  refine EvS.holds ?_
  simp only [laws_FnMistakeOf.f]
  refine EvS.ite (fun _ => EvS.now rfl) (fun _ => ?_)
  refine EvS.bind (draw_ok l0 (fun x hx => u8_range (hw x hx))) ?_
  rintro ⟨a0, a1, a2, a3, b0, b1, b2, b3⟩ hp
  dsimp only at hp ⊢
  have hi := impl_ok a0 a1 a2 a3 b0 b1 b2 b3 hp.sa hp.la
  have hs := spec_ok a0 a1 a2 a3 b0 b1 b2 b3 hp.pa hp.lp hp.same
  refine EvS.bindv hi (EvS.bindv hs (EvS.pos rfl ?_))
  by_cases c : mis a0 a1 a2 a3 b0 b1 b2 b3 < 0
  · rw [decide_eq_true c]
    refine EvS.step (fun k => by rw [laws_FnMistakeOf.j0]) ?_
    exact EvS.pos rfl (EvS.bindv hs (EvS.now (by simp)))
  · rw [decide_eq_false c]
    have j1 : EvS (fun k => laws_FnMistakeOf.j1 k (mis a0 a1 a2 a3 b0 b1 b2 b3) false a0 a1 a2 a3 b0 b1 b2 b3) (· = true) := by
      refine EvS.step (fun k => by rw [laws_FnMistakeOf.j1]) ?_
      refine EvS.neg (by simp) (EvS.bindv (impl_ok b0 b1 b2 b3 a0 a1 a2 a3 hp.sb hp.lb) (EvS.pos (mis_sym _ _ _ _ _ _ _ _ hp.sym) (EvS.bindv (impl_ok a0 a1 a2 a3 a0 a1 a2 a3 hp.sa hp.la) (EvS.now ?_))))
      rw [mis_self a0 a1 a2 a3 (mis_neg c) hp.na]; rfl
    refine EvS.step (fun k => by rw [laws_FnMistakeOf.j0]) ?_
    refine EvS.neg (by simp) (EvS.ite (fun c2 => ?_) (fun _ => j1))
    rw [show (Int.tmod (wrap64 (a3 - b3)) 9 != 0) = false by rw [hp.nine (mis_two c2)]; rfl]
    exact j1
end Go.Proofs.Ytgapjelooefofaa.Pure
