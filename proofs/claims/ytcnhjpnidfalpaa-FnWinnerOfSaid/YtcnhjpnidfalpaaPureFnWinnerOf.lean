/- No bid of a member who is not done is higher than that of WinnerOf, and none before it as high; and WinnerOf is what the reference tells: for every code. Conditions: none. -/
import Derived.Test.YtcnhjpnidfalpaaPFnWinnerOfx0
import Derived.Test.YtcnhjpnidfalpaaPFnWinnerOfx1
import Derived.Test.YtcnhjpnidfalpaaPFnWinnerOfx2
import Derived.Test.YtcnhjpnidfalpaaMFnWinnerOfx3
import Derived.Test.YtcnhjpnidfalpaaMFnWinnerOfx4
import Derived.Test.YtcnhjpnidfalpaaBase
set_option linter.unusedVariables false
set_option linter.unusedSimpArgs false
namespace Go.Proofs.Ytcnhjpnidfalpaa.Pure
open Go.RowKit Go.Proofs.Ytcnhjpnidfalpaa.PFnWinnerOf Go.Proofs.YtcnhjpnidfalpaaW.PrintWords Go.Proofs.YtcnhjpnidfalpaaW.PrintLast Go.Proofs.YtcnhjpnidfalpaaW.PrintMore Go.Proofs.Ytcnhjpnidfalpaa.Base
theorem u8_range {x : Int} (h : (Lit.int .u8 x).wf = true) : 0 ≤ x ∧ x ≤ 255 := by
  simp [Lit.wf, IntKind.min, IntKind.max, IntKind.bits, IntKind.signed] at h
  omega
/-! ## The reader that draws. -/
structure BytesOk (b : List Int) : Prop where
  len : b.length ≤ 2000
  mem : ∀ x ∈ b, 0 ≤ x ∧ x ≤ 255

theorem newReader_ok (l : List Int) (h : ∀ x ∈ l, 0 ≤ x ∧ x ≤ 255) : ∃ b, spec_newReader.f l = some (b, 0) ∧ BytesOk b := by
  unfold spec_newReader.f
  by_cases c : (l.length : Int) > 2000
  · rw [if_pos c, if_pos (by omega)]
    exact ⟨_, rfl, by rw [List.length_take]; omega, fun x hx => h x (List.mem_of_mem_take hx)⟩
  · rw [if_neg c]
    exact ⟨_, rfl, by omega, h⟩

theorem pick_ok (b : List Int) (p n : Int) (hb : BytesOk b) (h0 : 0 ≤ p) (h1 : p ≤ 100000) :
    EvS (fun k => spec_reader_pick.f k b p n) (fun r => 0 ≤ r.1 ∧ (1 ≤ n → r.1 < n) ∧ (n < 1 → r.1 = 0) ∧ r.2 = p + 1) := by
  have hp : wrap64 (p + 1) = p + 1 := w64 (by omega) (by omega)
  have hq : wrap64 (p + 1 - 1) = p := by rw [show p + 1 - 1 = p by omega]; exact w64 (by omega) (by omega)
  have hbl := hb.len
  simp only [spec_reader_pick.f]
  rw [hp]
  by_cases hn : n < 1
  · refine EvS.pos hn ?_
    refine EvS.step (fun k => by rw [spec_reader_pick.j0]) ?_
    refine EvS.pos rfl ?_
    exact EvS.now ⟨by simp, fun h => by omega, fun _ => rfl, rfl⟩
  · refine EvS.neg hn ?_
    refine EvS.step (fun k => by rw [spec_reader_pick.j0]) ?_
    simp only [hq]
    by_cases hl : b.length = 0
    · refine EvS.pos (by simp [hl]) ?_
      exact EvS.now ⟨by simp, fun h => by simp; omega, fun _ => rfl, rfl⟩
    · refine EvS.neg (by simp; intro h; exact hl (by simp [h])) ?_
      by_cases hpl : p < b.length
      · refine EvS.pos hpl (EvS.pos h0 (EvS.neg (by omega) ?_))
        have hr := rd_range hb.mem p h0 hpl
        rw [w64 (by omega) (by omega)]
        have ht := tmod_range (rd b p) n (by omega) (by omega)
        exact EvS.now ⟨ht.1, fun _ => ht.2, fun h => by omega, rfl⟩
      · refine EvS.neg hpl (EvS.neg (by omega) ?_)
        have e1 : wrap64 (wrap64 (p * 7) + 3) = p * 7 + 3 := by
          rw [w64 (x := p * 7) (by omega) (by omega)]; exact w64 (by omega) (by omega)
        simp only [e1]
        have i1 := tmod_range p b.length h0 (by omega)
        have i2 := tmod_range (p * 7 + 3) b.length (by omega) (by omega)
        refine EvS.pos i1.1 (EvS.pos i1.2 (EvS.pos i2.1 (EvS.pos i2.2 (EvS.neg (by omega) ?_))))
        have r1 := rd_range hb.mem _ i1.1 i1.2
        have r2 := rd_range hb.mem _ i2.1 i2.2
        generalize rd b (Int.tmod p b.length) = v1 at r1 ⊢
        generalize rd b (Int.tmod (p * 7 + 3) b.length) = v2 at r2 ⊢
        have d0 : 0 ≤ Int.tdiv p b.length ∧ Int.tdiv p b.length ≤ p := by
          rw [tdiv_pos _ _ h0]
          exact ⟨Int.ediv_nonneg h0 (by omega), Int.ediv_le_self _ h0⟩
        generalize Int.tdiv p b.length = dv at d0 ⊢
        simp (disch := omega) only [w64]
        have hx0 : 0 ≤ v1 * 131 + v2 * 1117 + p * 29 + dv * 53 := by omega
        have hx1 : v1 * 131 + v2 * 1117 + p * 29 + dv * 53 < 1000000000 := by omega
        generalize v1 * 131 + v2 * 1117 + p * 29 + dv * 53 = X at hx0 hx1 ⊢
        rw [tdiv_pos X 64 hx0, w64 (x := X / 64) (by omega) (by omega)]
        have ht := tmod_range (Go.bits .xor .i64 X (X / 64)) n (xor_nonneg _ _ (by omega) (by omega) (by omega) (by omega)) (by omega)
        exact EvS.now ⟨ht.1, fun _ => ht.2, fun h => by omega, rfl⟩

theorem one_ok (b : List Int) (p : Int) (l : List Int) (hb : BytesOk b) (h0 : 0 ≤ p) (h1 : p ≤ 100000) (hl : 1 ≤ l.length) :
    EvS (fun k => spec_reader_one.f k b p l) (fun r => r.1 ∈ l ∧ r.2 = p + 1) := by
  simp only [spec_reader_one.f]
  refine EvS.bind (pick_ok b p l.length hb h0 h1) ?_
  rintro ⟨v, q⟩ ⟨a1, a2, a3, a4⟩
  have a5 := a2 (by omega)
  refine EvS.pos a1 (EvS.pos a5 ?_)
  exact EvS.now ⟨rd_mem _ a1 a5, a4⟩
/-! ## Lists of numbers. -/
theorem inRange_eq (n lo hi : Int) : spec_inRange.f n lo hi = some (decide (lo ≤ n ∧ n ≤ hi)) := by
  unfold spec_inRange.f
  split
  · exact congrArg some (decide_eq_decide.2 (by omega))
  · exact congrArg some (decide_eq_false (by omega)).symm
def AllW (xs : List Int) (lo hi : Int) : Prop := ∀ x ∈ xs, lo ≤ x ∧ x ≤ hi
instance (xs : List Int) (lo hi : Int) : Decidable (AllW xs lo hi) := by unfold AllW; infer_instance
theorem allW_cons (y : Int) (ys : List Int) (lo hi : Int) : AllW (y :: ys) lo hi ↔ (lo ≤ y ∧ y ≤ hi) ∧ AllW ys lo hi := by
  unfold AllW; simp
theorem allWithin_l0 (xs : List Int) (hl : xs.length ≤ 1099511627776) (lo hi : Int) (ys : List Int) : ∀ i : Int, At xs i ys → EvS (fun k => impl_allWithin.l0 k lo hi xs xs.length i) (· = decide (AllW ys lo hi)) := by
  induction ys with
  | nil =>
    intro i h
    refine EvS.step (fun k => by rw [impl_allWithin.l0]) ?_
    exact EvS.neg (by have := h.ge; omega) (EvS.now (by simp [AllW]))
  | cons y ys ih =>
    intro i h
    refine EvS.step (fun k => by rw [impl_allWithin.l0]) ?_
    refine EvS.pos h.lt (EvS.pos h.nonneg (EvS.pos h.lt ?_))
    rw [At.rd h]
    refine EvS.ite (fun c => EvS.now (decide_eq_false (fun g => by have := (allW_cons _ _ _ _).1 g; omega)).symm) (fun c1 => EvS.ite (fun c => EvS.now (decide_eq_false (fun g => by have := (allW_cons _ _ _ _).1 g; omega)).symm) (fun c2 => ?_))
    refine EvS.mono (ih _ (h.wnext (by omega))) (fun r hr => ?_)
    rw [hr]
    exact decide_eq_decide.2 ⟨fun g => (allW_cons _ _ _ _).2 ⟨by omega, g⟩, fun g => ((allW_cons _ _ _ _).1 g).2⟩
theorem allWithin_ok (xs : List Int) (hl : xs.length ≤ 1099511627776) (lo hi : Int) : EvS (fun k => impl_allWithin.f k xs lo hi) (· = decide (AllW xs lo hi)) := by
  simp only [impl_allWithin.f]
  exact allWithin_l0 xs hl lo hi xs 0 (At.zero xs)
theorem allIn_l0 (xs : List Int) (hl : xs.length ≤ 1099511627776) (lo hi : Int) (ys : List Int) : ∀ i : Int, At xs i ys → EvS (fun k => spec_allIn.l0 k xs lo hi i) (· = decide (AllW ys lo hi)) := by
  induction ys with
  | nil =>
    intro i h
    refine EvS.step (fun k => by rw [spec_allIn.l0]) ?_
    exact EvS.neg (by have := h.ge; omega) (EvS.now (by simp [AllW]))
  | cons y ys ih =>
    intro i h
    refine EvS.step (fun k => by rw [spec_allIn.l0]) ?_
    refine EvS.pos h.lt (EvS.pos h.nonneg ?_)
    rw [At.rd h]
    refine EvS.call (inRange_eq _ _ _) (EvS.ite (fun c => ?_) (fun c => EvS.now ?_))
    · have c := of_decide_eq_true c
      refine EvS.mono (ih _ (h.wnext (by omega))) (fun r hr => ?_)
      rw [hr]
      exact decide_eq_decide.2 ⟨fun g => (allW_cons _ _ _ _).2 ⟨by omega, g⟩, fun g => ((allW_cons _ _ _ _).1 g).2⟩
    · have c := ndec c
      exact (decide_eq_false (fun g => c ((allW_cons _ _ _ _).1 g).1)).symm
theorem allIn_ok (xs : List Int) (hl : xs.length ≤ 1099511627776) (lo hi : Int) : EvS (fun k => spec_allIn.f k xs lo hi) (· = decide (AllW xs lo hi)) := by
  simp only [spec_allIn.f]
  exact allIn_l0 xs hl lo hi xs 0 (At.zero xs)
/-- The first place of a number, counted from i on; -1 if it is not there. -/
def posF (v : Int) : Int → List Int → Int
  | _, [] => -1
  | i, x :: xs => if x = v then i else posF v (i + 1) xs
theorem posF_range (v : Int) (xs : List Int) : ∀ i : Int, 0 ≤ i → (v ∈ xs → i ≤ posF v i xs ∧ posF v i xs < i + xs.length) ∧ (v ∉ xs → posF v i xs = -1) := by
  induction xs with
  | nil => intro i h0; exact ⟨fun h => by simp at h, fun _ => rfl⟩
  | cons x xs ih =>
    intro i h0
    have h := ih (i + 1) (by omega)
    simp only [posF, List.length_cons]
    by_cases c : x = v
    · rw [if_pos c]; exact ⟨fun _ => by omega, fun g => absurd (by simp [c]) g⟩
    · rw [if_neg c]
      refine ⟨fun g => ?_, fun g => h.2 (fun g2 => g (List.mem_cons_of_mem _ g2))⟩
      have := h.1 ((List.mem_cons.1 g).resolve_left (fun e => c e.symm))
      omega
theorem posF_nonneg (v : Int) (xs : List Int) (i : Int) (h : 0 ≤ i) : (0 ≤ posF v i xs) ↔ v ∈ xs := by
  by_cases c : v ∈ xs
  · have := (posF_range v xs i h).1 c; exact ⟨fun _ => c, fun _ => by omega⟩
  · have := (posF_range v xs i h).2 c; exact ⟨fun g => by omega, fun g => absurd g c⟩
theorem placeIn_l0 (xs : List Int) (hl : xs.length ≤ 1099511627776) (v : Int) (ys : List Int) : ∀ i : Int, At xs i ys → EvS (fun k => spec_placeIn.l0 k xs v i) (· = posF v i ys) := by
  induction ys with
  | nil =>
    intro i h
    refine EvS.step (fun k => by rw [spec_placeIn.l0]) ?_
    exact EvS.neg (by have := h.ge; omega) (EvS.now rfl)
  | cons y ys ih =>
    intro i h
    have h1 := h.lt
    have h2 := h.nonneg
    have hw : wrap64 (i + 1) = i + 1 := w64 (by omega) (by omega)
    refine EvS.step (fun k => by rw [spec_placeIn.l0]) ?_
    refine EvS.pos h.lt (EvS.pos h.nonneg ?_)
    rw [At.rd h, hw, posF]
    by_cases c : y = v
    · rw [if_pos c]; exact EvS.pos c (EvS.now rfl)
    · rw [if_neg c]; exact EvS.neg c (ih _ h.next)
theorem placeIn_ok (xs : List Int) (hl : xs.length ≤ 1099511627776) (v : Int) : EvS (fun k => spec_placeIn.f k xs v) (· = posF v 0 xs) := by
  simp only [spec_placeIn.f]
  exact placeIn_l0 xs hl v xs 0 (At.zero xs)
theorem index_l0 (xs : List Int) (hl : xs.length ≤ 1099511627776) (v : Int) (ys : List Int) : ∀ i : Int, At xs i ys → EvS (fun k => slices_Index_int_int.l0 k xs v xs.length i) (· = posF v i ys) := by
  induction ys with
  | nil =>
    intro i h
    refine EvS.step (fun k => by rw [slices_Index_int_int.l0]) ?_
    exact EvS.neg (by have := h.ge; omega) (EvS.now rfl)
  | cons y ys ih =>
    intro i h
    have h1 := h.lt
    have h2 := h.nonneg
    have hw : wrap64 (i + 1) = i + 1 := w64 (by omega) (by omega)
    refine EvS.step (fun k => by rw [slices_Index_int_int.l0]) ?_
    refine EvS.pos h.lt (EvS.pos h.nonneg (EvS.pos h.lt ?_))
    rw [At.rd h, hw, posF]
    by_cases c : y = v
    · rw [if_pos c]; exact EvS.pos c.symm (EvS.now rfl)
    · rw [if_neg c]; exact EvS.neg (fun g => c g.symm) (ih _ h.next)
theorem index_ok (xs : List Int) (hl : xs.length ≤ 1099511627776) (v : Int) : EvS (fun k => slices_Index_int_int.f k xs v) (· = posF v 0 xs) := by
  simp only [slices_Index_int_int.f]
  exact index_l0 xs hl v xs 0 (At.zero xs)
theorem contains_ok (xs : List Int) (hl : xs.length ≤ 1099511627776) (v : Int) : EvS (fun k => slices_Contains_int_int.f k xs v) (· = decide (v ∈ xs)) := by
  simp only [slices_Contains_int_int.f]
  exact EvS.bindv (index_ok xs hl v) (EvS.now (decide_eq_decide.2 (posF_nonneg v xs 0 (by omega))))
theorem isIn_l0 (xs : List Int) (hl : xs.length ≤ 1099511627776) (v : Int) (ys : List Int) : ∀ i : Int, At xs i ys → EvS (fun k => laws_isIn.l0 k xs v i) (· = decide (v ∈ ys)) := by
  induction ys with
  | nil =>
    intro i h
    refine EvS.step (fun k => by rw [laws_isIn.l0]) ?_
    exact EvS.neg (by have := h.ge; omega) (EvS.now (by simp))
  | cons y ys ih =>
    intro i h
    refine EvS.step (fun k => by rw [laws_isIn.l0]) ?_
    refine EvS.pos h.lt (EvS.pos h.nonneg ?_)
    rw [At.rd h]
    by_cases c : y = v
    · exact EvS.pos c (EvS.now (by simp [c]))
    · refine EvS.neg c (EvS.mono (ih _ (h.wnext (by omega))) (fun r hr => ?_))
      rw [hr]
      exact decide_eq_decide.2 ⟨fun g => List.mem_cons_of_mem _ g, fun g => (List.mem_cons.1 g).resolve_left (fun e => c e.symm)⟩
theorem isIn_ok (xs : List Int) (hl : xs.length ≤ 1099511627776) (v : Int) : EvS (fun k => laws_isIn.f k xs v) (· = decide (v ∈ xs)) := by
  simp only [laws_isIn.f]
  exact isIn_l0 xs hl v xs 0 (At.zero xs)
/-- Different numbers from 0 to n - 1. -/
def Diff (xs : List Int) (n : Int) : Prop := xs.Nodup ∧ ∀ x ∈ xs, 0 ≤ x ∧ x < n
instance (xs : List Int) (n : Int) : Decidable (Diff xs n) := by unfold Diff; infer_instance
def DiffF (pre ys : List Int) (n : Int) : Prop := ys.Nodup ∧ ∀ y ∈ ys, 0 ≤ y ∧ y < n ∧ y ∉ pre
instance (pre ys : List Int) (n : Int) : Decidable (DiffF pre ys n) := by unfold DiffF; infer_instance
theorem diffF_cons (pre : List Int) (y : Int) (ys : List Int) (n : Int) : DiffF pre (y :: ys) n ↔ (0 ≤ y ∧ y < n ∧ y ∉ pre) ∧ DiffF (y :: pre) ys n := by
  unfold DiffF
  constructor
  · rintro ⟨h1, h2⟩
    have h1 := List.nodup_cons.1 h1
    refine ⟨h2 y List.mem_cons_self, h1.2, fun z hz => ?_⟩
    have := h2 z (List.mem_cons_of_mem _ hz)
    refine ⟨this.1, this.2.1, fun hm => ?_⟩
    rcases List.mem_cons.1 hm with rfl | hm
    · exact h1.1 hz
    · exact this.2.2 hm
  · rintro ⟨h1, h2, h3⟩
    refine ⟨List.nodup_cons.2 ⟨fun hm => (h3 y hm).2.2 List.mem_cons_self, h2⟩, fun z hz => ?_⟩
    rcases List.mem_cons.1 hz with rfl | hz
    · exact h1
    · have := h3 z hz
      exact ⟨this.1, this.2.1, fun hm => this.2.2 (List.mem_cons_of_mem _ hm)⟩
theorem diffF_congr {p q ys : List Int} {n : Int} (h : ∀ x, x ∈ p ↔ x ∈ q) : DiffF p ys n ↔ DiffF q ys n := by
  unfold DiffF
  simp only [h]
theorem diffF_nil (xs : List Int) (n : Int) : DiffF [] xs n ↔ Diff xs n := by
  unfold DiffF Diff; simp
theorem diff_len {xs : List Int} {n : Int} (h : Diff xs n) : (xs.length : Int) ≤ n ∨ xs = [] := by
  rcases xs with _ | ⟨x, xs⟩
  · exact .inr rfl
  · left
    have h1 : 0 ≤ n := by have := h.2 x List.mem_cons_self; omega
    have h2 : (x :: xs) ⊆ (List.range n.toNat).map (fun m : Nat => (m : Int)) := by
      intro y hy
      have := h.2 y hy
      exact List.mem_map.2 ⟨y.toNat, List.mem_range.2 (by omega), by omega⟩
    have h3 := h.1.length_le_of_subset h2
    rw [List.length_map, List.length_range] at h3
    omega
theorem differentBelow_l0 (xs : List Int) (hl : xs.length ≤ 1099511627776) (n : Int) (ys : List Int) : ∀ (i : Int) (seen : List Bool) (pre : List Int), At xs i ys → (seen.length : Int) = n → (∀ v : Int, 0 ≤ v → v < n → (rdOf false seen v = true ↔ v ∈ pre)) →
    EvS (fun k => impl_differentBelow.l0 k n seen xs xs.length i) (· = decide (DiffF pre ys n)) := by
  induction ys with
  | nil =>
    intro i seen pre h hs hv
    refine EvS.step (fun k => by rw [impl_differentBelow.l0]) ?_
    exact EvS.neg (by have := h.ge; omega) (EvS.now (by simp [DiffF]))
  | cons y ys ih =>
    intro i seen pre h hs hv
    refine EvS.step (fun k => by rw [impl_differentBelow.l0]) ?_
    refine EvS.pos h.lt (EvS.pos h.nonneg (EvS.pos h.lt ?_))
    rw [At.rd h]
    refine EvS.ite (fun c => EvS.now (decide_eq_false (fun g => by have := ((diffF_cons _ _ _ _).1 g).1; omega)).symm) (fun c1 => EvS.ite (fun c => EvS.now (decide_eq_false (fun g => by have := ((diffF_cons _ _ _ _).1 g).1; omega)).symm) (fun c2 => EvS.pos (by omega) (EvS.pos (by omega) ?_)))
    have hy := hv y (by omega) (by omega)
    refine EvS.ite (fun c => EvS.now (decide_eq_false (fun g => ((diffF_cons _ _ _ _).1 g).1.2.2 (hy.1 c))).symm) (fun c3 => ?_)
    refine EvS.mono (ih _ (seen.set y.toNat true) (y :: pre) (h.wnext (by omega)) (by simpa using hs) (fun v h0 h1 => ?_)) (fun r hr => ?_)
    · unfold rdOf
      rw [List.getD_eq_getElem?_getD, List.getElem?_set]
      by_cases e : y = v
      · subst e
        rw [if_pos rfl, if_pos (by omega)]
        exact ⟨fun _ => List.mem_cons_self, fun _ => rfl⟩
      · rw [if_neg (by omega)]
        have := hv v h0 h1
        unfold rdOf at this
        rw [List.getD_eq_getElem?_getD] at this
        rw [this, List.mem_cons]
        exact ⟨fun g => .inr g, fun g => g.resolve_left (fun e2 => e e2.symm)⟩
    · rw [hr]
      exact decide_eq_decide.2 ⟨fun g => (diffF_cons _ _ _ _).2 ⟨⟨by omega, by omega, fun hm => c3 (hy.2 hm)⟩, g⟩, fun g => ((diffF_cons _ _ _ _).1 g).2⟩
theorem differentBelow_ok (xs : List Int) (hl : xs.length ≤ 1099511627776) (n : Int) (hn : n ≤ 1099511627776) (h0 : 0 ≤ n) : EvS (fun k => impl_differentBelow.f k xs n) (· = decide (Diff xs n)) := by
  simp only [impl_differentBelow.f]
  refine EvS.ite (fun c => EvS.now (decide_eq_false (fun g => ?_)).symm) (fun c => EvS.pos h0 (EvS.pos (by omega) ?_))
  · rcases diff_len g with h | h
    · omega
    · subst h; simp at c; omega
  · refine EvS.mono (differentBelow_l0 xs hl n xs 0 _ [] (At.zero xs) (by simp; omega) (fun v _ _ => ?_)) (fun r hr => ?_)
    · unfold rdOf
      rw [List.getD_eq_getElem?_getD, List.getElem?_replicate]
      split <;> simp
    · rw [hr]
      exact decide_eq_decide.2 (diffF_nil xs n)
theorem validMembers_l0 (xs : List Int) (hl : xs.length ≤ 1099511627776) (n : Int) (hn : n ≤ 1099511627776) (h0 : 0 ≤ n) (ys : List Int) : ∀ i : Int, At xs i ys → EvS (fun k => spec_validMembers.l0 k xs n i) (· = decide (DiffF (xs.take i.toNat) ys n)) := by
  induction ys with
  | nil =>
    intro i h
    refine EvS.step (fun k => by rw [spec_validMembers.l0]) ?_
    exact EvS.neg (by have := h.ge; omega) (EvS.now (by simp [DiffF]))
  | cons y ys ih =>
    intro i h
    have h1 := h.lt
    have h2 := h.nonneg
    have hw : wrap64 (i + 1) = i + 1 := w64 (by omega) (by omega)
    refine EvS.step (fun k => by rw [spec_validMembers.l0]) ?_
    refine EvS.pos h.lt (EvS.pos h.nonneg ?_)
    rw [At.rd h, hw, w64 (x := n - 1) (by omega) (by omega)]
    refine EvS.call (inRange_eq _ _ _) (EvS.ite (fun c => EvS.pos (by omega) ?_) (fun c => EvS.now ?_))
    · have c := of_decide_eq_true c
      refine EvS.bindv (placeIn_ok _ (by rw [List.length_take]; omega) y) ?_
      have hp := posF_nonneg y (xs.take i.toNat) 0 (by omega)
      refine EvS.ite (fun g => EvS.now (decide_eq_false (fun g2 => ((diffF_cons _ _ _ _).1 g2).1.2.2 (hp.1 g))).symm) (fun g => ?_)
      refine EvS.mono (ih _ h.next) (fun r hr => ?_)
      rw [hr]
      refine decide_eq_decide.2 (Iff.trans (diffF_congr (q := y :: xs.take i.toNat) (fun x => ?_)) ⟨fun g2 => (diffF_cons _ _ _ _).2 ⟨⟨c.1, by omega, fun hm => g (hp.2 hm)⟩, g2⟩, fun g2 => ((diffF_cons _ _ _ _).1 g2).2⟩)
      simp only [h.take, List.mem_append, List.mem_cons, List.not_mem_nil, or_false]
      exact or_comm
    · have c := ndec c
      exact (decide_eq_false (fun g => c (by have := ((diffF_cons _ _ _ _).1 g).1; omega))).symm
theorem validMembers_ok (xs : List Int) (hl : xs.length ≤ 1099511627776) (n : Int) (hn : n ≤ 1099511627776) (h0 : 0 ≤ n) : EvS (fun k => spec_validMembers.f k xs n) (· = decide (Diff xs n)) := by
  simp only [spec_validMembers.f]
  refine EvS.mono (validMembers_l0 xs hl n hn h0 xs 0 (At.zero xs)) (fun r hr => ?_)
  rw [hr]
  exact decide_eq_decide.2 (diffF_nil xs n)
/-! ## Bids. -/
def VBids (bids : List Int) (pay : Int) : Prop := (1 ≤ bids.length ∧ bids.length ≤ 12) ∧ (0 ≤ pay ∧ pay ≤ 10000) ∧ AllW bids (-1) (bids.length * pay)
instance (bids : List Int) (pay : Int) : Decidable (VBids bids pay) := by unfold VBids; infer_instance
theorem pot_bound {n pay : Int} (h : 1 ≤ n ∧ n ≤ 12) (h2 : 0 ≤ pay ∧ pay ≤ 10000) : 0 ≤ n * pay ∧ n * pay ≤ 120000 := by
  have a := Int.mul_nonneg (show 0 ≤ n by omega) h2.1
  have b : n * pay ≤ 12 * 10000 := Int.mul_le_mul h.2 h2.2 h2.1 (by omega)
  omega
theorem potOf_eq (n pay : Int) : impl_PotOf.f n pay = some (if (1 ≤ n ∧ n ≤ 12) ∧ (0 ≤ pay ∧ pay ≤ 10000) then n * pay else -1) := by
  unfold impl_PotOf.f
  by_cases h : (1 ≤ n ∧ n ≤ 12) ∧ (0 ≤ pay ∧ pay ≤ 10000)
  · have := pot_bound h.1 h.2
    rw [if_pos h, if_neg (by omega), if_neg (by omega), if_neg (by omega), if_neg (by omega), w64 (by omega) (by omega)]
  · rw [if_neg h]
    repeat' split
    all_goals first | rfl | omega
theorem impl_validBids_ok (bids : List Int) (hl : bids.length ≤ 1099511627776) (pay : Int) : EvS (fun k => impl_validBids.f k bids pay) (· = decide (VBids bids pay)) := by
  simp only [impl_validBids.f]
  refine EvS.call (potOf_eq _ _) ?_
  by_cases h : (1 ≤ (bids.length : Int) ∧ (bids.length : Int) ≤ 12) ∧ (0 ≤ pay ∧ pay ≤ 10000)
  · have := pot_bound h.1 h.2
    rw [if_pos h]
    refine EvS.pos (by omega) (EvS.bindv (allWithin_ok bids hl _ _) (EvS.now (decide_eq_decide.2 ⟨fun g => ⟨by omega, h.2, g⟩, fun g => g.2.2⟩)))
  · rw [if_neg h]
    exact EvS.neg (by omega) (EvS.now (decide_eq_false (fun g => h ⟨⟨by have := g.1; omega, by have := g.1; omega⟩, g.2.1⟩)).symm)
theorem spec_validBids_ok (bids : List Int) (hl : bids.length ≤ 1099511627776) (pay : Int) : EvS (fun k => spec_validBids.f k bids pay) (· = decide (VBids bids pay)) := by
  simp only [spec_validBids.f]
  refine EvS.call (inRange_eq _ _ _) (EvS.ite (fun c1 => EvS.call (inRange_eq _ _ _) (EvS.ite (fun c2 => ?_) (fun c2 => EvS.now ?_))) (fun c1 => EvS.now ?_))
  · have c1 := of_decide_eq_true c1
    have c2 := of_decide_eq_true c2
    have := pot_bound c1 c2
    rw [w64 (x := bids.length * pay) (by omega) (by omega)]
    exact EvS.bindv (allIn_ok bids hl _ _) (EvS.now (decide_eq_decide.2 ⟨fun g => ⟨by omega, c2, g⟩, fun g => g.2.2⟩))
  · have c2 := ndec c2
    exact (decide_eq_false (fun g => c2 g.2.1)).symm
  · have c1 := ndec c1
    exact (decide_eq_false (fun g => c1 (by have := g.1; omega))).symm

/-- The highest bidder from index i on, by the best one before. -/
def winL (bids done : List Int) : Int → List Int → Int → Int
  | _, [], best => best
  | i, y :: ys, best => if i ∉ done ∧ (best < 0 ∨ y > rd bids best) then winL bids done (i + 1) ys i else winL bids done (i + 1) ys best
def win (bids done : List Int) : Int := winL bids done 0 bids (-1)
structure Best (bids done : List Int) (i best : Int) : Prop where
  lo : -1 ≤ best
  hi : best < i
  none : best < 0 → ∀ j : Int, 0 ≤ j → j < i → j ∈ done
  free : 0 ≤ best → best ∉ done
  high : 0 ≤ best → ∀ j : Int, 0 ≤ j → j < i → j ∉ done → rd bids j ≤ rd bids best ∧ (j < best → rd bids j < rd bids best)
theorem Best.step {bids done ys : List Int} {i y best : Int} (h : At bids i (y :: ys)) (hb : Best bids done i best) : Best bids done (i + 1) (if i ∉ done ∧ (best < 0 ∨ y > rd bids best) then i else best) := by
  have h0 := h.nonneg
  have hy := At.rd h
  split
  · rename_i c
    refine ⟨by omega, by omega, fun g => by omega, fun _ => c.1, fun _ j j0 j1 jd => ?_⟩
    by_cases e : j = i
    · subst e; exact ⟨by omega, fun g => by omega⟩
    · rcases c.2 with c2 | c2
      · exact absurd (hb.none c2 j j0 (by omega)) jd
      · have := hb.high (by have := hb.lo; by_cases e2 : best = -1; · exact absurd (hb.none (by omega) j j0 (by omega)) jd
                            · omega) j j0 (by omega) jd
        rw [hy]
        exact ⟨by omega, fun _ => by omega⟩
  · rename_i c
    have hlo := hb.lo
    have hhi := hb.hi
    refine ⟨hb.lo, by omega, fun g j j0 j1 => ?_, hb.free, fun g j j0 j1 jd => ?_⟩
    · by_cases e : j = i
      · subst e; by_cases m : j ∈ done; · exact m
        · exact absurd ⟨m, .inl g⟩ c
      · exact hb.none g j j0 (by omega)
    · by_cases e : j = i
      · subst e
        have : ¬ (y > rd bids best) := fun g2 => c ⟨jd, .inr g2⟩
        rw [hy]
        exact ⟨by omega, fun g3 => by omega⟩
      · exact hb.high g j j0 (by omega) jd
theorem winL_best (bids done : List Int) (ys : List Int) : ∀ i best : Int, At bids i ys → Best bids done i best → Best bids done bids.length (winL bids done i ys best) := by
  induction ys with
  | nil => intro i best h hb; have := h.ge; subst this; exact hb
  | cons y ys ih =>
    intro i best h hb
    have := hb.step h
    rw [winL]
    split
    · rename_i c; rw [if_pos c] at this; exact ih _ _ h.next this
    · rename_i c; rw [if_neg c] at this; exact ih _ _ h.next this
theorem win_best (bids done : List Int) : Best bids done bids.length (win bids done) :=
  winL_best bids done bids 0 (-1) (At.zero _) ⟨by omega, by omega, fun _ j _ _ => by omega, fun g => by omega, fun g => by omega⟩

theorem impl_winner_l0 (bids done : List Int) (hl : bids.length ≤ 1000) (hd : done.length ≤ 1000) (ys : List Int) : ∀ i best : Int, At bids i ys → -1 ≤ best → best < i →
    EvS (fun k => impl_WinnerOf.l0 k bids done best bids bids.length i) (· = winL bids done i ys best) := by
  induction ys with
  | nil =>
    intro i best h h1 h2
    refine EvS.step (fun k => by rw [impl_WinnerOf.l0]) ?_
    exact EvS.neg (by have := h.ge; omega) (EvS.now rfl)
  | cons y ys ih =>
    intro i best h h1 h2
    have g1 := h.lt
    have g2 := h.nonneg
    have hw : wrap64 (i + 1) = i + 1 := w64 (by omega) (by omega)
    refine EvS.step (fun k => by rw [impl_WinnerOf.l0]) ?_
    refine EvS.pos h.lt (EvS.pos h.nonneg (EvS.pos h.lt (EvS.bindv (contains_ok done (by omega) i) ?_)))
    rw [At.rd h, hw, winL]
    by_cases c : i ∈ done
    · rw [if_neg (fun g => g.1 c)]
      exact EvS.pos (decide_eq_true c) (ih _ _ h.next (by omega) (by omega))
    · refine EvS.neg (by simp [c]) ?_
      by_cases c2 : best < 0
      · rw [if_pos ⟨c, .inl c2⟩]
        exact EvS.pos c2 (ih _ _ h.next (by omega) (by omega))
      · refine EvS.neg c2 (EvS.pos (by omega) (EvS.pos (by omega) ?_))
        by_cases c3 : y > rd bids best
        · rw [if_pos ⟨c, .inr c3⟩]
          exact EvS.pos c3 (ih _ _ h.next (by omega) (by omega))
        · rw [if_neg (by intro g; rcases g.2 with g | g; exact c2 g; exact c3 g)]
          exact EvS.neg c3 (ih _ _ h.next (by omega) (by omega))
/-- What WinnerOf tells. -/
def winner (bids : List Int) (pay : Int) (done : List Int) : Int := if VBids bids pay ∧ Diff done bids.length then win bids done else -1
theorem impl_WinnerOf_ok (bids done : List Int) (hl : bids.length ≤ 1000) (hd : done.length ≤ 1000) (pay : Int) : EvS (fun k => impl_WinnerOf.f k bids pay done) (· = winner bids pay done) := by
  have jt : ¬ (VBids bids pay ∧ Diff done bids.length) → EvS (fun k => impl_WinnerOf.j0 k bids done true) (· = winner bids pay done) := by
    intro g
    refine EvS.step (fun k => by rw [impl_WinnerOf.j0]) ?_
    exact EvS.pos rfl (EvS.now (by rw [winner, if_neg g]))
  simp only [impl_WinnerOf.f]
  refine EvS.bindv (impl_validBids_ok bids (by omega) pay) (EvS.ite (fun c => EvS.bindv (differentBelow_ok done (by omega) _ (by omega) (by omega)) ?_) (fun c => jt (fun g => by simp at c; exact c g.1)))
  have c := of_decide_eq_true c
  by_cases c2 : Diff done bids.length
  · rw [decide_eq_true c2]
    refine EvS.step (fun k => by rw [impl_WinnerOf.j0]) ?_
    rw [winner, if_pos ⟨c, c2⟩]
    exact EvS.neg (by simp) (impl_winner_l0 bids done hl hd bids 0 (-1) (At.zero _) (by omega) (by omega))
  · rw [decide_eq_false c2]
    exact jt (fun g => c2 g.2)
theorem spec_winner_l0 (bids done : List Int) (hl : bids.length ≤ 1000) (hd : done.length ≤ 1000) (ys : List Int) : ∀ i best : Int, At bids i ys → -1 ≤ best → best < i →
    EvS (fun k => spec_winner.l0 k bids done best i) (· = winL bids done i ys best) := by
  induction ys with
  | nil =>
    intro i best h h1 h2
    refine EvS.step (fun k => by rw [spec_winner.l0]) ?_
    exact EvS.neg (by have := h.ge; omega) (EvS.now rfl)
  | cons y ys ih =>
    intro i best h h1 h2
    have g1 := h.lt
    have g2 := h.nonneg
    have hw : wrap64 (i + 1) = i + 1 := w64 (by omega) (by omega)
    have hp := posF_nonneg i done 0 (by omega)
    refine EvS.step (fun k => by rw [spec_winner.l0]) ?_
    refine EvS.pos h.lt (EvS.bindv (placeIn_ok done (by omega) i) ?_)
    rw [At.rd h, hw, winL]
    by_cases c : i ∈ done
    · rw [if_neg (fun g => g.1 c)]
      exact EvS.neg (by have := hp.2 c; omega) (ih _ _ h.next (by omega) (by omega))
    · have hneg : ¬ 0 ≤ posF i 0 done := fun g => c (hp.1 g)
      refine EvS.pos (by omega) ?_
      by_cases c2 : best < 0
      · rw [if_pos ⟨c, .inl c2⟩]
        exact EvS.pos c2 (ih _ _ h.next (by omega) (by omega))
      · refine EvS.neg c2 (EvS.pos (by omega) (EvS.pos (by omega) (EvS.pos (by omega) ?_)))
        by_cases c3 : y > rd bids best
        · rw [if_pos ⟨c, .inr c3⟩]
          exact EvS.pos c3 (ih _ _ h.next (by omega) (by omega))
        · rw [if_neg (by intro g; rcases g.2 with g | g; exact c2 g; exact c3 g)]
          exact EvS.neg c3 (ih _ _ h.next (by omega) (by omega))
theorem spec_winner_ok (bids done : List Int) (hl : bids.length ≤ 1000) (hd : done.length ≤ 1000) : EvS (fun k => spec_winner.f k bids done) (· = win bids done) := by
  simp only [spec_winner.f]
  exact spec_winner_l0 bids done hl hd bids 0 (-1) (At.zero _) (by omega) (by omega)
theorem spec_WinnerOf_ok (bids done : List Int) (hl : bids.length ≤ 1000) (hd : done.length ≤ 1000) (pay : Int) : EvS (fun k => spec_WinnerOf.f k bids pay done) (· = winner bids pay done) := by
  simp only [spec_WinnerOf.f]
  refine EvS.bindv (spec_validBids_ok bids (by omega) pay) (EvS.ite (fun c => EvS.bindv (validMembers_ok done (by omega) _ (by omega) (by omega)) (EvS.ite (fun c2 => EvS.bindv (spec_winner_ok bids done hl hd) (EvS.now ?_)) (fun c2 => EvS.now ?_))) (fun c => EvS.now ?_))
  · rw [winner, if_pos ⟨of_decide_eq_true c, of_decide_eq_true c2⟩]
  · simp at c2; rw [winner, if_neg (fun g => c2 g.2)]
  · simp at c; rw [winner, if_neg (fun g => c g.1)]
theorem someBids_l0 (b : List Int) (hb : BytesOk b) (n pay : Int) (hn : 0 ≤ n) (hn2 : n ≤ 12) (d : Nat) : ∀ (i p : Int) (out : List Int), i + d = n → 0 ≤ i → out.length = i → 0 ≤ p → p + 2 * d ≤ 10000 →
    EvS (fun k => spec_someBids.l0 k n pay out i b p) (fun r => (r.1.length : Int) = n ∧ p ≤ r.2 ∧ r.2 ≤ p + 2 * d) := by
  induction d with
  | zero =>
    intro i p out h1 h2 h3 h4 h5
    refine EvS.step (fun k => by rw [spec_someBids.l0]) ?_
    exact EvS.neg (by omega) (EvS.now ⟨by dsimp only; omega, by dsimp only; omega, by dsimp only; omega⟩)
  | succ d ih =>
    intro i p out h1 h2 h3 h4 h5
    refine EvS.step (fun k => by rw [spec_someBids.l0]) ?_
    refine EvS.pos (by omega) ?_
    refine EvS.bind (pick_ok _ _ _ hb (by omega) (by omega)) ?_
    rintro ⟨v1, _⟩ ⟨v1_0, v1_1, v1_2, rfl⟩
    dsimp only at v1_0 v1_1 v1_2 ⊢
    refine EvS.bind (one_ok _ _ _ hb (by omega) (by omega) (by simp)) ?_
    rintro ⟨v2, _⟩ ⟨v2_m, rfl⟩
    dsimp only at v2_m ⊢
    rw [w64 (x := i + 1) (by omega) (by omega)]
    refine EvS.pos (by omega) (EvS.mono (ih _ _ _ (by omega) (by omega) (by simp; omega) (by omega) (by omega)) (fun r hr => ?_))
    obtain ⟨g1, g2, g3⟩ := hr
    exact ⟨g1, by omega, by omega⟩
theorem someBids_ok (b : List Int) (hb : BytesOk b) (n pay p : Int) (hn : 0 ≤ n) (hn2 : n ≤ 12) (h0 : 0 ≤ p) (h1 : p ≤ 5000) :
    EvS (fun k => spec_someBids.f k b p n pay) (fun r => (r.1.length : Int) = n ∧ p ≤ r.2 ∧ r.2 ≤ p + 24) := by
  simp only [spec_someBids.f]
  refine EvS.mono (someBids_l0 b hb n pay hn hn2 n.toNat 0 p [] (by omega) (by omega) (by simp) h0 (by omega)) (fun r hr => ?_)
  obtain ⟨g1, g2, g3⟩ := hr
  exact ⟨g1, g2, by omega⟩
theorem someMembers_l0 (b : List Int) (hb : BytesOk b) (n : Int) (hn : 0 ≤ n) (hn2 : n ≤ 12) (d : Nat) : ∀ (i p : Int) (out : List Int), i + d = n → 0 ≤ i → out.length ≤ i → 0 ≤ p → p + 2 * d ≤ 10000 →
    EvS (fun k => spec_someMembers.l0 k n out i b p) (fun r => r.1.length ≤ 13 ∧ p ≤ r.2 ∧ r.2 ≤ p + d + 2) := by
  induction d with
  | zero =>
    intro i p out h1 h2 h3 h4 h5
    refine EvS.step (fun k => by rw [spec_someMembers.l0]) ?_
    refine EvS.neg (by omega) (EvS.ite (fun c => ?_) (fun c => EvS.now ⟨by dsimp only; omega, by dsimp only; omega, by dsimp only; omega⟩))
    refine EvS.bind (pick_ok _ _ _ hb (by omega) (by omega)) ?_
    rintro ⟨v1, _⟩ ⟨v1_0, v1_1, v1_2, rfl⟩
    dsimp only at v1_0 v1_1 v1_2 ⊢
    refine EvS.ite (fun _ => EvS.pos (by omega) ?_) (fun _ => EvS.now ⟨by dsimp only; omega, by dsimp only; omega, by dsimp only; omega⟩)
    refine EvS.bind (one_ok _ _ _ hb (by omega) (by omega) (by simp)) ?_
    rintro ⟨v2, _⟩ ⟨v2_m, rfl⟩
    dsimp only at v2_m ⊢
    exact EvS.pos (by omega) (EvS.now ⟨by simp; omega, by dsimp only; omega, by dsimp only; omega⟩)
  | succ d ih =>
    intro i p out h1 h2 h3 h4 h5
    refine EvS.step (fun k => by rw [spec_someMembers.l0]) ?_
    refine EvS.pos (by omega) ?_
    refine EvS.bind (pick_ok _ _ _ hb (by omega) (by omega)) ?_
    rintro ⟨v1, _⟩ ⟨v1_0, v1_1, v1_2, rfl⟩
    dsimp only at v1_0 v1_1 v1_2 ⊢
    rw [w64 (x := i + 1) (by omega) (by omega)]
    refine EvS.ite (fun _ => EvS.pos (by omega) ?_) (fun _ => ?_)
    · refine EvS.mono (ih _ _ _ (by omega) (by omega) (by simp; omega) (by omega) (by omega)) (fun r hr => ?_)
      obtain ⟨g1, g2, g3⟩ := hr
      exact ⟨g1, by omega, by omega⟩
    · refine EvS.mono (ih _ _ _ (by omega) (by omega) (by omega) (by omega) (by omega)) (fun r hr => ?_)
      obtain ⟨g1, g2, g3⟩ := hr
      exact ⟨g1, by omega, by omega⟩
theorem someMembers_ok (b : List Int) (hb : BytesOk b) (n p : Int) (hn : 0 ≤ n) (hn2 : n ≤ 12) (h0 : 0 ≤ p) (h1 : p ≤ 5000) :
    EvS (fun k => spec_someMembers.f k b p n) (fun r => r.1.length ≤ 13 ∧ p ≤ r.2 ∧ r.2 ≤ p + 14) := by
  simp only [spec_someMembers.f]
  refine EvS.mono (someMembers_l0 b hb n hn hn2 n.toNat 0 p [] (by omega) (by omega) (by simp) h0 (by omega)) (fun r hr => ?_)
  obtain ⟨g1, g2, g3⟩ := hr
  exact ⟨g1, g2, by omega⟩
theorem draw_ok (l : List Int) (hl : ∀ x ∈ l, 0 ≤ x ∧ x ≤ 255) : EvS (fun k => spec_DrawWinnerOf.f k l) (fun r => r.1.length ≤ 12 ∧ r.2.2.length ≤ 13) := by
  simp only [spec_DrawWinnerOf.f]
  obtain ⟨b, be, hb⟩ := newReader_ok l hl
  refine EvS.call be ?_
  dsimp only
  refine EvS.bind (one_ok _ _ _ hb (by omega) (by omega) (by simp)) ?_
  rintro ⟨v1, _⟩ ⟨v1_m, rfl⟩
  dsimp only at v1_m ⊢
  have hv : 1 ≤ v1 ∧ v1 ≤ 12 := by simp at v1_m; omega
  refine EvS.bind (one_ok _ _ _ hb (by omega) (by omega) (by simp)) ?_
  rintro ⟨v2, _⟩ ⟨v2_m, rfl⟩
  dsimp only at v2_m ⊢
  refine EvS.bind (someBids_ok b hb v1 v2 _ (by omega) (by omega) (by omega) (by omega)) ?_
  rintro ⟨bids, q⟩ ⟨g1, g2, g3⟩
  dsimp only at g1 g2 g3 ⊢
  refine EvS.bind (pick_ok _ _ _ hb (by omega) (by omega)) ?_
  rintro ⟨v3, _⟩ ⟨v3_0, v3_1, v3_2, rfl⟩
  dsimp only at v3_0 v3_1 v3_2 ⊢
  refine EvS.ite (fun _ => ?_) (fun _ => ?_)
  · refine EvS.bind (one_ok _ _ _ hb (by omega) (by omega) (by simp)) ?_
    rintro ⟨v4, _⟩ ⟨v4_m, rfl⟩
    dsimp only at v4_m ⊢
    refine EvS.pos (by omega) (EvS.bind (someMembers_ok b hb v1 _ (by omega) (by omega) (by omega) (by omega)) ?_)
    rintro ⟨ms, q2⟩ ⟨e1, e2, e3⟩
    exact EvS.now ⟨by simp; omega, e1⟩
  · refine EvS.bind (someMembers_ok b hb v1 _ (by omega) (by omega) (by omega) (by omega)) ?_
    rintro ⟨ms, q2⟩ ⟨e1, e2, e3⟩
    exact EvS.now ⟨by dsimp only; omega, e1⟩
theorem law_l0 (bids done : List Int) (hl : bids.length ≤ 1000) (hd : done.length ≤ 1000) (w : Int) (hb : Best bids done bids.length w) (h0 : 0 ≤ w) (ys : List Int) : ∀ i : Int, At bids i ys →
    EvS (fun k => laws_FnWinnerOf.l0 k bids done w i) (· = true) := by
  induction ys with
  | nil =>
    intro i h
    refine EvS.step (fun k => by rw [laws_FnWinnerOf.l0]) ?_
    exact EvS.neg (by have := h.ge; omega) (EvS.bindv (isIn_ok done (by omega) w) (EvS.now (by simp [hb.free h0])))
  | cons y ys ih =>
    intro i h
    have h1 := h.lt
    have h2 := h.nonneg
    refine EvS.step (fun k => by rw [laws_FnWinnerOf.l0]) ?_
    refine EvS.pos h.lt (EvS.bindv (isIn_ok done (by omega) i) ?_)
    have hn := ih _ (h.wnext (by omega))
    refine EvS.ite (fun c => hn) (fun c => EvS.pos h.nonneg (EvS.pos h0 (EvS.pos hb.hi ?_)))
    have hg := hb.high h0 i h2 h1 (by simpa using c)
    refine EvS.neg (by omega) (EvS.ite (fun c2 => EvS.neg (by have := hg.2 c2; omega) hn) (fun _ => hn))
theorem FnWinnerOf : laws_FnWinnerOf.Pure := by
  intro l0 _ _ hw
  refine EvS.holds ?_
  simp only [laws_FnWinnerOf.f]
  refine EvS.ite (fun _ => EvS.now rfl) (fun _ => ?_)
  refine EvS.bind (draw_ok l0 (fun x hx => u8_range (hw x hx))) ?_
  rintro ⟨bids, pay, done⟩ ⟨g1, g2⟩
  dsimp only at g1 g2 ⊢
  refine EvS.bindv (impl_WinnerOf_ok bids done (by omega) (by omega) pay) (EvS.bindv (spec_WinnerOf_ok bids done (by omega) (by omega) pay) (EvS.pos rfl ?_))
  refine EvS.step (fun k => by rw [laws_FnWinnerOf.j0]) ?_
  refine EvS.ite (fun c => EvS.bindv (spec_WinnerOf_ok bids done (by omega) (by omega) pay) (EvS.now (by simp))) (fun c => ?_)
  simp at c
  have : winner bids pay done = win bids done := by
    unfold winner at c ⊢
    split
    · rfl
    · rename_i g; rw [if_neg g] at c; omega
  rw [this] at c ⊢
  exact law_l0 bids done (by omega) (by omega) _ (win_best bids done) c bids 0 (At.zero _)
end Go.Proofs.Ytcnhjpnidfalpaa.Pure
