/- BidOrder is a valid order, and each one is WinnerOf with those before it done; and BidOrder is what the reference tells: for every code. Conditions: none. -/
import Derived.Test.YtcnhjpnidfalpaaPFnBidOrderx0
import Derived.Test.YtcnhjpnidfalpaaPFnBidOrderx1
import Derived.Test.YtcnhjpnidfalpaaPFnBidOrderx2
import Derived.Test.YtcnhjpnidfalpaaMFnBidOrderx3
import Derived.Test.YtcnhjpnidfalpaaMFnBidOrderx4
import Derived.Test.YtcnhjpnidfalpaaMFnBidOrderx5
import Derived.Test.YtcnhjpnidfalpaaMFnBidOrderx6
import Derived.Test.YtcnhjpnidfalpaaBase
set_option linter.unusedVariables false
set_option linter.unusedSimpArgs false
namespace Go.Proofs.Ytcnhjpnidfalpaa.Pure
open Go.RowKit Go.Proofs.Ytcnhjpnidfalpaa.PFnBidOrder Go.Proofs.YtcnhjpnidfalpaaW.PrintWords Go.Proofs.YtcnhjpnidfalpaaW.PrintLast Go.Proofs.YtcnhjpnidfalpaaW.PrintMore Go.Proofs.Ytcnhjpnidfalpaa.Base
theorem u8_range {x : Int} (h : (Lit.int .u8 x).wf = true) : 0 ≤ x ∧ x ≤ 255 := by
  simp [Lit.wf, IntKind.min, IntKind.max, IntKind.bits, IntKind.signed] at h
  omega
/-! ## The reader that draws. -/
structure BytesOk (b : List Int) : Prop where
  len : b.length ≤ 2000
  mem : ∀ x ∈ b, 0 ≤ x ∧ x ≤ 255

theorem newReader_ok (l : List Int) (h : ∀ x ∈ l, 0 ≤ x ∧ x ≤ 255) : ∃ b, spec_newReader.f l = some (b, 0) ∧ BytesOk b := by
  unfold spec_newReader.f
  by_cases c : (l.length : Int) > 2000
  · rw [if_pos c, if_pos (by omega)]
    exact ⟨_, rfl, by rw [List.length_take]; omega, fun x hx => h x (List.mem_of_mem_take hx)⟩
  · rw [if_neg c]
    exact ⟨_, rfl, by omega, h⟩

theorem pick_ok (b : List Int) (p n : Int) (hb : BytesOk b) (h0 : 0 ≤ p) (h1 : p ≤ 100000) :
    EvS (fun k => spec_reader_pick.f k b p n) (fun r => 0 ≤ r.1 ∧ (1 ≤ n → r.1 < n) ∧ (n < 1 → r.1 = 0) ∧ r.2 = p + 1) := by
  have hp : wrap64 (p + 1) = p + 1 := w64 (by omega) (by omega)
  have hq : wrap64 (p + 1 - 1) = p := by rw [show p + 1 - 1 = p by omega]; exact w64 (by omega) (by omega)
  have hbl := hb.len
  simp only [spec_reader_pick.f]
  rw [hp]
  by_cases hn : n < 1
  · refine EvS.pos hn ?_
    refine EvS.step (fun k => by rw [spec_reader_pick.j0]) ?_
    refine EvS.pos rfl ?_
    exact EvS.now ⟨by simp, fun h => by omega, fun _ => rfl, rfl⟩
  · refine EvS.neg hn ?_
    refine EvS.step (fun k => by rw [spec_reader_pick.j0]) ?_
    simp only [hq]
    by_cases hl : b.length = 0
    · refine EvS.pos (by simp [hl]) ?_
      exact EvS.now ⟨by simp, fun h => by simp; omega, fun _ => rfl, rfl⟩
    · refine EvS.neg (by simp; intro h; exact hl (by simp [h])) ?_
      by_cases hpl : p < b.length
      · refine EvS.pos hpl (EvS.pos h0 (EvS.neg (by omega) ?_))
        have hr := rd_range hb.mem p h0 hpl
        rw [w64 (by omega) (by omega)]
        have ht := tmod_range (rd b p) n (by omega) (by omega)
        exact EvS.now ⟨ht.1, fun _ => ht.2, fun h => by omega, rfl⟩
      · refine EvS.neg hpl (EvS.neg (by omega) ?_)
        have e1 : wrap64 (wrap64 (p * 7) + 3) = p * 7 + 3 := by
          rw [w64 (x := p * 7) (by omega) (by omega)]; exact w64 (by omega) (by omega)
        simp only [e1]
        have i1 := tmod_range p b.length h0 (by omega)
        have i2 := tmod_range (p * 7 + 3) b.length (by omega) (by omega)
        refine EvS.pos i1.1 (EvS.pos i1.2 (EvS.pos i2.1 (EvS.pos i2.2 (EvS.neg (by omega) ?_))))
        have r1 := rd_range hb.mem _ i1.1 i1.2
        have r2 := rd_range hb.mem _ i2.1 i2.2
        generalize rd b (Int.tmod p b.length) = v1 at r1 ⊢
        generalize rd b (Int.tmod (p * 7 + 3) b.length) = v2 at r2 ⊢
        have d0 : 0 ≤ Int.tdiv p b.length ∧ Int.tdiv p b.length ≤ p := by
          rw [tdiv_pos _ _ h0]
          exact ⟨Int.ediv_nonneg h0 (by omega), Int.ediv_le_self _ h0⟩
        generalize Int.tdiv p b.length = dv at d0 ⊢
        simp (disch := omega) only [w64]
        have hx0 : 0 ≤ v1 * 131 + v2 * 1117 + p * 29 + dv * 53 := by omega
        have hx1 : v1 * 131 + v2 * 1117 + p * 29 + dv * 53 < 1000000000 := by omega
        generalize v1 * 131 + v2 * 1117 + p * 29 + dv * 53 = X at hx0 hx1 ⊢
        rw [tdiv_pos X 64 hx0, w64 (x := X / 64) (by omega) (by omega)]
        have ht := tmod_range (Go.bits .xor .i64 X (X / 64)) n (xor_nonneg _ _ (by omega) (by omega) (by omega) (by omega)) (by omega)
        exact EvS.now ⟨ht.1, fun _ => ht.2, fun h => by omega, rfl⟩

theorem one_ok (b : List Int) (p : Int) (l : List Int) (hb : BytesOk b) (h0 : 0 ≤ p) (h1 : p ≤ 100000) (hl : 1 ≤ l.length) :
    EvS (fun k => spec_reader_one.f k b p l) (fun r => r.1 ∈ l ∧ r.2 = p + 1) := by
  simp only [spec_reader_one.f]
  refine EvS.bind (pick_ok b p l.length hb h0 h1) ?_
  rintro ⟨v, q⟩ ⟨a1, a2, a3, a4⟩
  have a5 := a2 (by omega)
  refine EvS.pos a1 (EvS.pos a5 ?_)
  exact EvS.now ⟨rd_mem _ a1 a5, a4⟩
/-! ## Lists of numbers. -/
theorem inRange_eq (n lo hi : Int) : spec_inRange.f n lo hi = some (decide (lo ≤ n ∧ n ≤ hi)) := by
  unfold spec_inRange.f
  split
  · exact congrArg some (decide_eq_decide.2 (by omega))
  · exact congrArg some (decide_eq_false (by omega)).symm
def AllW (xs : List Int) (lo hi : Int) : Prop := ∀ x ∈ xs, lo ≤ x ∧ x ≤ hi
instance (xs : List Int) (lo hi : Int) : Decidable (AllW xs lo hi) := by unfold AllW; infer_instance
theorem allW_cons (y : Int) (ys : List Int) (lo hi : Int) : AllW (y :: ys) lo hi ↔ (lo ≤ y ∧ y ≤ hi) ∧ AllW ys lo hi := by
  unfold AllW; simp
theorem allWithin_l0 (xs : List Int) (hl : xs.length ≤ 1099511627776) (lo hi : Int) (ys : List Int) : ∀ i : Int, At xs i ys → EvS (fun k => impl_allWithin.l0 k lo hi xs xs.length i) (· = decide (AllW ys lo hi)) := by
  induction ys with
  | nil =>
    intro i h
    refine EvS.step (fun k => by rw [impl_allWithin.l0]) ?_
    exact EvS.neg (by have := h.ge; omega) (EvS.now (by simp [AllW]))
  | cons y ys ih =>
    intro i h
    refine EvS.step (fun k => by rw [impl_allWithin.l0]) ?_
    refine EvS.pos h.lt (EvS.pos h.nonneg (EvS.pos h.lt ?_))
    rw [At.rd h]
    refine EvS.ite (fun c => EvS.now (decide_eq_false (fun g => by have := (allW_cons _ _ _ _).1 g; omega)).symm) (fun c1 => EvS.ite (fun c => EvS.now (decide_eq_false (fun g => by have := (allW_cons _ _ _ _).1 g; omega)).symm) (fun c2 => ?_))
    refine EvS.mono (ih _ (h.wnext (by omega))) (fun r hr => ?_)
    rw [hr]
    exact decide_eq_decide.2 ⟨fun g => (allW_cons _ _ _ _).2 ⟨by omega, g⟩, fun g => ((allW_cons _ _ _ _).1 g).2⟩
theorem allWithin_ok (xs : List Int) (hl : xs.length ≤ 1099511627776) (lo hi : Int) : EvS (fun k => impl_allWithin.f k xs lo hi) (· = decide (AllW xs lo hi)) := by
  simp only [impl_allWithin.f]
  exact allWithin_l0 xs hl lo hi xs 0 (At.zero xs)
theorem allIn_l0 (xs : List Int) (hl : xs.length ≤ 1099511627776) (lo hi : Int) (ys : List Int) : ∀ i : Int, At xs i ys → EvS (fun k => spec_allIn.l0 k xs lo hi i) (· = decide (AllW ys lo hi)) := by
  induction ys with
  | nil =>
    intro i h
    refine EvS.step (fun k => by rw [spec_allIn.l0]) ?_
    exact EvS.neg (by have := h.ge; omega) (EvS.now (by simp [AllW]))
  | cons y ys ih =>
    intro i h
    refine EvS.step (fun k => by rw [spec_allIn.l0]) ?_
    refine EvS.pos h.lt (EvS.pos h.nonneg ?_)
    rw [At.rd h]
    refine EvS.call (inRange_eq _ _ _) (EvS.ite (fun c => ?_) (fun c => EvS.now ?_))
    · have c := of_decide_eq_true c
      refine EvS.mono (ih _ (h.wnext (by omega))) (fun r hr => ?_)
      rw [hr]
      exact decide_eq_decide.2 ⟨fun g => (allW_cons _ _ _ _).2 ⟨by omega, g⟩, fun g => ((allW_cons _ _ _ _).1 g).2⟩
    · have c := ndec c
      exact (decide_eq_false (fun g => c ((allW_cons _ _ _ _).1 g).1)).symm
theorem allIn_ok (xs : List Int) (hl : xs.length ≤ 1099511627776) (lo hi : Int) : EvS (fun k => spec_allIn.f k xs lo hi) (· = decide (AllW xs lo hi)) := by
  simp only [spec_allIn.f]
  exact allIn_l0 xs hl lo hi xs 0 (At.zero xs)
/-- The first place of a number, counted from i on; -1 if it is not there. -/
def posF (v : Int) : Int → List Int → Int
  | _, [] => -1
  | i, x :: xs => if x = v then i else posF v (i + 1) xs
theorem posF_range (v : Int) (xs : List Int) : ∀ i : Int, 0 ≤ i → (v ∈ xs → i ≤ posF v i xs ∧ posF v i xs < i + xs.length) ∧ (v ∉ xs → posF v i xs = -1) := by
  induction xs with
  | nil => intro i h0; exact ⟨fun h => by simp at h, fun _ => rfl⟩
  | cons x xs ih =>
    intro i h0
    have h := ih (i + 1) (by omega)
    simp only [posF, List.length_cons]
    by_cases c : x = v
    · rw [if_pos c]; exact ⟨fun _ => by omega, fun g => absurd (by simp [c]) g⟩
    · rw [if_neg c]
      refine ⟨fun g => ?_, fun g => h.2 (fun g2 => g (List.mem_cons_of_mem _ g2))⟩
      have := h.1 ((List.mem_cons.1 g).resolve_left (fun e => c e.symm))
      omega
theorem posF_nonneg (v : Int) (xs : List Int) (i : Int) (h : 0 ≤ i) : (0 ≤ posF v i xs) ↔ v ∈ xs := by
  by_cases c : v ∈ xs
  · have := (posF_range v xs i h).1 c; exact ⟨fun _ => c, fun _ => by omega⟩
  · have := (posF_range v xs i h).2 c; exact ⟨fun g => by omega, fun g => absurd g c⟩
theorem placeIn_l0 (xs : List Int) (hl : xs.length ≤ 1099511627776) (v : Int) (ys : List Int) : ∀ i : Int, At xs i ys → EvS (fun k => spec_placeIn.l0 k xs v i) (· = posF v i ys) := by
  induction ys with
  | nil =>
    intro i h
    refine EvS.step (fun k => by rw [spec_placeIn.l0]) ?_
    exact EvS.neg (by have := h.ge; omega) (EvS.now rfl)
  | cons y ys ih =>
    intro i h
    have h1 := h.lt
    have h2 := h.nonneg
    have hw : wrap64 (i + 1) = i + 1 := w64 (by omega) (by omega)
    refine EvS.step (fun k => by rw [spec_placeIn.l0]) ?_
    refine EvS.pos h.lt (EvS.pos h.nonneg ?_)
    rw [At.rd h, hw, posF]
    by_cases c : y = v
    · rw [if_pos c]; exact EvS.pos c (EvS.now rfl)
    · rw [if_neg c]; exact EvS.neg c (ih _ h.next)
theorem placeIn_ok (xs : List Int) (hl : xs.length ≤ 1099511627776) (v : Int) : EvS (fun k => spec_placeIn.f k xs v) (· = posF v 0 xs) := by
  simp only [spec_placeIn.f]
  exact placeIn_l0 xs hl v xs 0 (At.zero xs)
theorem index_l0 (xs : List Int) (hl : xs.length ≤ 1099511627776) (v : Int) (ys : List Int) : ∀ i : Int, At xs i ys → EvS (fun k => slices_Index_int_int.l0 k xs v xs.length i) (· = posF v i ys) := by
  induction ys with
  | nil =>
    intro i h
    refine EvS.step (fun k => by rw [slices_Index_int_int.l0]) ?_
    exact EvS.neg (by have := h.ge; omega) (EvS.now rfl)
  | cons y ys ih =>
    intro i h
    have h1 := h.lt
    have h2 := h.nonneg
    have hw : wrap64 (i + 1) = i + 1 := w64 (by omega) (by omega)
    refine EvS.step (fun k => by rw [slices_Index_int_int.l0]) ?_
    refine EvS.pos h.lt (EvS.pos h.nonneg (EvS.pos h.lt ?_))
    rw [At.rd h, hw, posF]
    by_cases c : y = v
    · rw [if_pos c]; exact EvS.pos c.symm (EvS.now rfl)
    · rw [if_neg c]; exact EvS.neg (fun g => c g.symm) (ih _ h.next)
theorem index_ok (xs : List Int) (hl : xs.length ≤ 1099511627776) (v : Int) : EvS (fun k => slices_Index_int_int.f k xs v) (· = posF v 0 xs) := by
  simp only [slices_Index_int_int.f]
  exact index_l0 xs hl v xs 0 (At.zero xs)
theorem contains_ok (xs : List Int) (hl : xs.length ≤ 1099511627776) (v : Int) : EvS (fun k => slices_Contains_int_int.f k xs v) (· = decide (v ∈ xs)) := by
  simp only [slices_Contains_int_int.f]
  exact EvS.bindv (index_ok xs hl v) (EvS.now (decide_eq_decide.2 (posF_nonneg v xs 0 (by omega))))
theorem equalInts_l0 (xs : List Int) (hl : xs.length ≤ 1099511627776) (ys : List Int) : ∀ i : Int, At xs i ys → EvS (fun k => laws_equalInts.l0 k xs xs i) (· = true) := by
  induction ys with
  | nil =>
    intro i h
    refine EvS.step (fun k => by rw [laws_equalInts.l0]) ?_
    exact EvS.neg (by have := h.ge; omega) (EvS.now rfl)
  | cons y ys ih =>
    intro i h
    refine EvS.step (fun k => by rw [laws_equalInts.l0]) ?_
    exact EvS.pos h.lt (EvS.pos h.nonneg (EvS.pos h.lt (EvS.pos (by simp) (ih _ (h.wnext (by omega))))))
theorem equalInts_ok (xs : List Int) (hl : xs.length ≤ 1099511627776) : EvS (fun k => laws_equalInts.f k xs xs) (· = true) := by
  simp only [laws_equalInts.f]
  exact EvS.pos (by trivial) (equalInts_l0 xs hl xs 0 (At.zero xs))
/-- Different numbers from 0 to n - 1. -/
def Diff (xs : List Int) (n : Int) : Prop := xs.Nodup ∧ ∀ x ∈ xs, 0 ≤ x ∧ x < n
instance (xs : List Int) (n : Int) : Decidable (Diff xs n) := by unfold Diff; infer_instance
def DiffF (pre ys : List Int) (n : Int) : Prop := ys.Nodup ∧ ∀ y ∈ ys, 0 ≤ y ∧ y < n ∧ y ∉ pre
instance (pre ys : List Int) (n : Int) : Decidable (DiffF pre ys n) := by unfold DiffF; infer_instance
theorem diffF_cons (pre : List Int) (y : Int) (ys : List Int) (n : Int) : DiffF pre (y :: ys) n ↔ (0 ≤ y ∧ y < n ∧ y ∉ pre) ∧ DiffF (y :: pre) ys n := by
  unfold DiffF
  constructor
  · rintro ⟨h1, h2⟩
    have h1 := List.nodup_cons.1 h1
    refine ⟨h2 y List.mem_cons_self, h1.2, fun z hz => ?_⟩
    have := h2 z (List.mem_cons_of_mem _ hz)
    refine ⟨this.1, this.2.1, fun hm => ?_⟩
    rcases List.mem_cons.1 hm with rfl | hm
    · exact h1.1 hz
    · exact this.2.2 hm
  · rintro ⟨h1, h2, h3⟩
    refine ⟨List.nodup_cons.2 ⟨fun hm => (h3 y hm).2.2 List.mem_cons_self, h2⟩, fun z hz => ?_⟩
    rcases List.mem_cons.1 hz with rfl | hz
    · exact h1
    · have := h3 z hz
      exact ⟨this.1, this.2.1, fun hm => this.2.2 (List.mem_cons_of_mem _ hm)⟩
theorem diffF_congr {p q ys : List Int} {n : Int} (h : ∀ x, x ∈ p ↔ x ∈ q) : DiffF p ys n ↔ DiffF q ys n := by
  unfold DiffF
  simp only [h]
theorem diffF_nil (xs : List Int) (n : Int) : DiffF [] xs n ↔ Diff xs n := by
  unfold DiffF Diff; simp
theorem diff_len {xs : List Int} {n : Int} (h : Diff xs n) : (xs.length : Int) ≤ n ∨ xs = [] := by
  rcases xs with _ | ⟨x, xs⟩
  · exact .inr rfl
  · left
    have h1 : 0 ≤ n := by have := h.2 x List.mem_cons_self; omega
    have h2 : (x :: xs) ⊆ (List.range n.toNat).map (fun m : Nat => (m : Int)) := by
      intro y hy
      have := h.2 y hy
      exact List.mem_map.2 ⟨y.toNat, List.mem_range.2 (by omega), by omega⟩
    have h3 := h.1.length_le_of_subset h2
    rw [List.length_map, List.length_range] at h3
    omega
theorem differentBelow_l0 (xs : List Int) (hl : xs.length ≤ 1099511627776) (n : Int) (ys : List Int) : ∀ (i : Int) (seen : List Bool) (pre : List Int), At xs i ys → (seen.length : Int) = n → (∀ v : Int, 0 ≤ v → v < n → (rdOf false seen v = true ↔ v ∈ pre)) →
    EvS (fun k => impl_differentBelow.l0 k n seen xs xs.length i) (· = decide (DiffF pre ys n)) := by
  induction ys with
  | nil =>
    intro i seen pre h hs hv
    refine EvS.step (fun k => by rw [impl_differentBelow.l0]) ?_
    exact EvS.neg (by have := h.ge; omega) (EvS.now (by simp [DiffF]))
  | cons y ys ih =>
    intro i seen pre h hs hv
    refine EvS.step (fun k => by rw [impl_differentBelow.l0]) ?_
    refine EvS.pos h.lt (EvS.pos h.nonneg (EvS.pos h.lt ?_))
    rw [At.rd h]
    refine EvS.ite (fun c => EvS.now (decide_eq_false (fun g => by have := ((diffF_cons _ _ _ _).1 g).1; omega)).symm) (fun c1 => EvS.ite (fun c => EvS.now (decide_eq_false (fun g => by have := ((diffF_cons _ _ _ _).1 g).1; omega)).symm) (fun c2 => EvS.pos (by omega) (EvS.pos (by omega) ?_)))
    have hy := hv y (by omega) (by omega)
    refine EvS.ite (fun c => EvS.now (decide_eq_false (fun g => ((diffF_cons _ _ _ _).1 g).1.2.2 (hy.1 c))).symm) (fun c3 => ?_)
    refine EvS.mono (ih _ (seen.set y.toNat true) (y :: pre) (h.wnext (by omega)) (by simpa using hs) (fun v h0 h1 => ?_)) (fun r hr => ?_)
    · unfold rdOf
      rw [List.getD_eq_getElem?_getD, List.getElem?_set]
      by_cases e : y = v
      · subst e
        rw [if_pos rfl, if_pos (by omega)]
        exact ⟨fun _ => List.mem_cons_self, fun _ => rfl⟩
      · rw [if_neg (by omega)]
        have := hv v h0 h1
        unfold rdOf at this
        rw [List.getD_eq_getElem?_getD] at this
        rw [this, List.mem_cons]
        exact ⟨fun g => .inr g, fun g => g.resolve_left (fun e2 => e e2.symm)⟩
    · rw [hr]
      exact decide_eq_decide.2 ⟨fun g => (diffF_cons _ _ _ _).2 ⟨⟨by omega, by omega, fun hm => c3 (hy.2 hm)⟩, g⟩, fun g => ((diffF_cons _ _ _ _).1 g).2⟩
theorem differentBelow_ok (xs : List Int) (hl : xs.length ≤ 1099511627776) (n : Int) (hn : n ≤ 1099511627776) (h0 : 0 ≤ n) : EvS (fun k => impl_differentBelow.f k xs n) (· = decide (Diff xs n)) := by
  simp only [impl_differentBelow.f]
  refine EvS.ite (fun c => EvS.now (decide_eq_false (fun g => ?_)).symm) (fun c => EvS.pos h0 (EvS.pos (by omega) ?_))
  · rcases diff_len g with h | h
    · omega
    · subst h; simp at c; omega
  · refine EvS.mono (differentBelow_l0 xs hl n xs 0 _ [] (At.zero xs) (by simp; omega) (fun v _ _ => ?_)) (fun r hr => ?_)
    · unfold rdOf
      rw [List.getD_eq_getElem?_getD, List.getElem?_replicate]
      split <;> simp
    · rw [hr]
      exact decide_eq_decide.2 (diffF_nil xs n)
/-! ## Bids. -/
def VBids (bids : List Int) (pay : Int) : Prop := (1 ≤ bids.length ∧ bids.length ≤ 12) ∧ (0 ≤ pay ∧ pay ≤ 10000) ∧ AllW bids (-1) (bids.length * pay)
instance (bids : List Int) (pay : Int) : Decidable (VBids bids pay) := by unfold VBids; infer_instance
theorem pot_bound {n pay : Int} (h : 1 ≤ n ∧ n ≤ 12) (h2 : 0 ≤ pay ∧ pay ≤ 10000) : 0 ≤ n * pay ∧ n * pay ≤ 120000 := by
  have a := Int.mul_nonneg (show 0 ≤ n by omega) h2.1
  have b : n * pay ≤ 12 * 10000 := Int.mul_le_mul h.2 h2.2 h2.1 (by omega)
  omega
theorem potOf_eq (n pay : Int) : impl_PotOf.f n pay = some (if (1 ≤ n ∧ n ≤ 12) ∧ (0 ≤ pay ∧ pay ≤ 10000) then n * pay else -1) := by
  unfold impl_PotOf.f
  by_cases h : (1 ≤ n ∧ n ≤ 12) ∧ (0 ≤ pay ∧ pay ≤ 10000)
  · have := pot_bound h.1 h.2
    rw [if_pos h, if_neg (by omega), if_neg (by omega), if_neg (by omega), if_neg (by omega), w64 (by omega) (by omega)]
  · rw [if_neg h]
    repeat' split
    all_goals first | rfl | omega
theorem impl_validBids_ok (bids : List Int) (hl : bids.length ≤ 1099511627776) (pay : Int) : EvS (fun k => impl_validBids.f k bids pay) (· = decide (VBids bids pay)) := by
  simp only [impl_validBids.f]
  refine EvS.call (potOf_eq _ _) ?_
  by_cases h : (1 ≤ (bids.length : Int) ∧ (bids.length : Int) ≤ 12) ∧ (0 ≤ pay ∧ pay ≤ 10000)
  · have := pot_bound h.1 h.2
    rw [if_pos h]
    refine EvS.pos (by omega) (EvS.bindv (allWithin_ok bids hl _ _) (EvS.now (decide_eq_decide.2 ⟨fun g => ⟨by omega, h.2, g⟩, fun g => g.2.2⟩)))
  · rw [if_neg h]
    exact EvS.neg (by omega) (EvS.now (decide_eq_false (fun g => h ⟨⟨by have := g.1; omega, by have := g.1; omega⟩, g.2.1⟩)).symm)
theorem spec_validBids_ok (bids : List Int) (hl : bids.length ≤ 1099511627776) (pay : Int) : EvS (fun k => spec_validBids.f k bids pay) (· = decide (VBids bids pay)) := by
  simp only [spec_validBids.f]
  refine EvS.call (inRange_eq _ _ _) (EvS.ite (fun c1 => EvS.call (inRange_eq _ _ _) (EvS.ite (fun c2 => ?_) (fun c2 => EvS.now ?_))) (fun c1 => EvS.now ?_))
  · have c1 := of_decide_eq_true c1
    have c2 := of_decide_eq_true c2
    have := pot_bound c1 c2
    rw [w64 (x := bids.length * pay) (by omega) (by omega)]
    exact EvS.bindv (allIn_ok bids hl _ _) (EvS.now (decide_eq_decide.2 ⟨fun g => ⟨by omega, c2, g⟩, fun g => g.2.2⟩))
  · have c2 := ndec c2
    exact (decide_eq_false (fun g => c2 g.2.1)).symm
  · have c1 := ndec c1
    exact (decide_eq_false (fun g => c1 (by have := g.1; omega))).symm

/-- The highest bidder from index i on, by the best one before. -/
def winL (bids done : List Int) : Int → List Int → Int → Int
  | _, [], best => best
  | i, y :: ys, best => if i ∉ done ∧ (best < 0 ∨ y > rd bids best) then winL bids done (i + 1) ys i else winL bids done (i + 1) ys best
def win (bids done : List Int) : Int := winL bids done 0 bids (-1)
structure Best (bids done : List Int) (i best : Int) : Prop where
  lo : -1 ≤ best
  hi : best < i
  none : best < 0 → ∀ j : Int, 0 ≤ j → j < i → j ∈ done
  free : 0 ≤ best → best ∉ done
  high : 0 ≤ best → ∀ j : Int, 0 ≤ j → j < i → j ∉ done → rd bids j ≤ rd bids best ∧ (j < best → rd bids j < rd bids best)
theorem Best.step {bids done ys : List Int} {i y best : Int} (h : At bids i (y :: ys)) (hb : Best bids done i best) : Best bids done (i + 1) (if i ∉ done ∧ (best < 0 ∨ y > rd bids best) then i else best) := by
  have h0 := h.nonneg
  have hy := At.rd h
  split
  · rename_i c
    refine ⟨by omega, by omega, fun g => by omega, fun _ => c.1, fun _ j j0 j1 jd => ?_⟩
    by_cases e : j = i
    · subst e; exact ⟨by omega, fun g => by omega⟩
    · rcases c.2 with c2 | c2
      · exact absurd (hb.none c2 j j0 (by omega)) jd
      · have := hb.high (by have := hb.lo; by_cases e2 : best = -1; · exact absurd (hb.none (by omega) j j0 (by omega)) jd
                            · omega) j j0 (by omega) jd
        rw [hy]
        exact ⟨by omega, fun _ => by omega⟩
  · rename_i c
    have hlo := hb.lo
    have hhi := hb.hi
    refine ⟨hb.lo, by omega, fun g j j0 j1 => ?_, hb.free, fun g j j0 j1 jd => ?_⟩
    · by_cases e : j = i
      · subst e; by_cases m : j ∈ done; · exact m
        · exact absurd ⟨m, .inl g⟩ c
      · exact hb.none g j j0 (by omega)
    · by_cases e : j = i
      · subst e
        have : ¬ (y > rd bids best) := fun g2 => c ⟨jd, .inr g2⟩
        rw [hy]
        exact ⟨by omega, fun g3 => by omega⟩
      · exact hb.high g j j0 (by omega) jd
theorem winL_best (bids done : List Int) (ys : List Int) : ∀ i best : Int, At bids i ys → Best bids done i best → Best bids done bids.length (winL bids done i ys best) := by
  induction ys with
  | nil => intro i best h hb; have := h.ge; subst this; exact hb
  | cons y ys ih =>
    intro i best h hb
    have := hb.step h
    rw [winL]
    split
    · rename_i c; rw [if_pos c] at this; exact ih _ _ h.next this
    · rename_i c; rw [if_neg c] at this; exact ih _ _ h.next this
theorem win_best (bids done : List Int) : Best bids done bids.length (win bids done) :=
  winL_best bids done bids 0 (-1) (At.zero _) ⟨by omega, by omega, fun _ j _ _ => by omega, fun g => by omega, fun g => by omega⟩

theorem impl_winner_l0 (bids done : List Int) (hl : bids.length ≤ 1000) (hd : done.length ≤ 1000) (ys : List Int) : ∀ i best : Int, At bids i ys → -1 ≤ best → best < i →
    EvS (fun k => impl_WinnerOf.l0 k bids done best bids bids.length i) (· = winL bids done i ys best) := by
  induction ys with
  | nil =>
    intro i best h h1 h2
    refine EvS.step (fun k => by rw [impl_WinnerOf.l0]) ?_
    exact EvS.neg (by have := h.ge; omega) (EvS.now rfl)
  | cons y ys ih =>
    intro i best h h1 h2
    have g1 := h.lt
    have g2 := h.nonneg
    have hw : wrap64 (i + 1) = i + 1 := w64 (by omega) (by omega)
    refine EvS.step (fun k => by rw [impl_WinnerOf.l0]) ?_
    refine EvS.pos h.lt (EvS.pos h.nonneg (EvS.pos h.lt (EvS.bindv (contains_ok done (by omega) i) ?_)))
    rw [At.rd h, hw, winL]
    by_cases c : i ∈ done
    · rw [if_neg (fun g => g.1 c)]
      exact EvS.pos (decide_eq_true c) (ih _ _ h.next (by omega) (by omega))
    · refine EvS.neg (by simp [c]) ?_
      by_cases c2 : best < 0
      · rw [if_pos ⟨c, .inl c2⟩]
        exact EvS.pos c2 (ih _ _ h.next (by omega) (by omega))
      · refine EvS.neg c2 (EvS.pos (by omega) (EvS.pos (by omega) ?_))
        by_cases c3 : y > rd bids best
        · rw [if_pos ⟨c, .inr c3⟩]
          exact EvS.pos c3 (ih _ _ h.next (by omega) (by omega))
        · rw [if_neg (by intro g; rcases g.2 with g | g; exact c2 g; exact c3 g)]
          exact EvS.neg c3 (ih _ _ h.next (by omega) (by omega))
/-- What WinnerOf tells. -/
def winner (bids : List Int) (pay : Int) (done : List Int) : Int := if VBids bids pay ∧ Diff done bids.length then win bids done else -1
theorem impl_WinnerOf_ok (bids done : List Int) (hl : bids.length ≤ 1000) (hd : done.length ≤ 1000) (pay : Int) : EvS (fun k => impl_WinnerOf.f k bids pay done) (· = winner bids pay done) := by
  have jt : ¬ (VBids bids pay ∧ Diff done bids.length) → EvS (fun k => impl_WinnerOf.j0 k bids done true) (· = winner bids pay done) := by
    intro g
    refine EvS.step (fun k => by rw [impl_WinnerOf.j0]) ?_
    exact EvS.pos rfl (EvS.now (by rw [winner, if_neg g]))
  simp only [impl_WinnerOf.f]
  refine EvS.bindv (impl_validBids_ok bids (by omega) pay) (EvS.ite (fun c => EvS.bindv (differentBelow_ok done (by omega) _ (by omega) (by omega)) ?_) (fun c => jt (fun g => by simp at c; exact c g.1)))
  have c := of_decide_eq_true c
  by_cases c2 : Diff done bids.length
  · rw [decide_eq_true c2]
    refine EvS.step (fun k => by rw [impl_WinnerOf.j0]) ?_
    rw [winner, if_pos ⟨c, c2⟩]
    exact EvS.neg (by simp) (impl_winner_l0 bids done hl hd bids 0 (-1) (At.zero _) (by omega) (by omega))
  · rw [decide_eq_false c2]
    exact jt (fun g => c2 g.2)
theorem spec_winner_l0 (bids done : List Int) (hl : bids.length ≤ 1000) (hd : done.length ≤ 1000) (ys : List Int) : ∀ i best : Int, At bids i ys → -1 ≤ best → best < i →
    EvS (fun k => spec_winner.l0 k bids done best i) (· = winL bids done i ys best) := by
  induction ys with
  | nil =>
    intro i best h h1 h2
    refine EvS.step (fun k => by rw [spec_winner.l0]) ?_
    exact EvS.neg (by have := h.ge; omega) (EvS.now rfl)
  | cons y ys ih =>
    intro i best h h1 h2
    have g1 := h.lt
    have g2 := h.nonneg
    have hw : wrap64 (i + 1) = i + 1 := w64 (by omega) (by omega)
    have hp := posF_nonneg i done 0 (by omega)
    refine EvS.step (fun k => by rw [spec_winner.l0]) ?_
    refine EvS.pos h.lt (EvS.bindv (placeIn_ok done (by omega) i) ?_)
    rw [At.rd h, hw, winL]
    by_cases c : i ∈ done
    · rw [if_neg (fun g => g.1 c)]
      exact EvS.neg (by have := hp.2 c; omega) (ih _ _ h.next (by omega) (by omega))
    · have hneg : ¬ 0 ≤ posF i 0 done := fun g => c (hp.1 g)
      refine EvS.pos (by omega) ?_
      by_cases c2 : best < 0
      · rw [if_pos ⟨c, .inl c2⟩]
        exact EvS.pos c2 (ih _ _ h.next (by omega) (by omega))
      · refine EvS.neg c2 (EvS.pos (by omega) (EvS.pos (by omega) (EvS.pos (by omega) ?_)))
        by_cases c3 : y > rd bids best
        · rw [if_pos ⟨c, .inr c3⟩]
          exact EvS.pos c3 (ih _ _ h.next (by omega) (by omega))
        · rw [if_neg (by intro g; rcases g.2 with g | g; exact c2 g; exact c3 g)]
          exact EvS.neg c3 (ih _ _ h.next (by omega) (by omega))
theorem spec_winner_ok (bids done : List Int) (hl : bids.length ≤ 1000) (hd : done.length ≤ 1000) : EvS (fun k => spec_winner.f k bids done) (· = win bids done) := by
  simp only [spec_winner.f]
  exact spec_winner_l0 bids done hl hd bids 0 (-1) (At.zero _) (by omega) (by omega)
theorem someBids_l0 (b : List Int) (hb : BytesOk b) (n pay : Int) (hn : 0 ≤ n) (hn2 : n ≤ 12) (d : Nat) : ∀ (i p : Int) (out : List Int), i + d = n → 0 ≤ i → out.length = i → 0 ≤ p → p + 2 * d ≤ 10000 →
    EvS (fun k => spec_someBids.l0 k n pay out i b p) (fun r => (r.1.length : Int) = n ∧ p ≤ r.2 ∧ r.2 ≤ p + 2 * d) := by
  induction d with
  | zero =>
    intro i p out h1 h2 h3 h4 h5
    refine EvS.step (fun k => by rw [spec_someBids.l0]) ?_
    exact EvS.neg (by omega) (EvS.now ⟨by dsimp only; omega, by dsimp only; omega, by dsimp only; omega⟩)
  | succ d ih =>
    intro i p out h1 h2 h3 h4 h5
    refine EvS.step (fun k => by rw [spec_someBids.l0]) ?_
    refine EvS.pos (by omega) ?_
    refine EvS.bind (pick_ok _ _ _ hb (by omega) (by omega)) ?_
    rintro ⟨v1, _⟩ ⟨v1_0, v1_1, v1_2, rfl⟩
    dsimp only at v1_0 v1_1 v1_2 ⊢
    refine EvS.bind (one_ok _ _ _ hb (by omega) (by omega) (by simp)) ?_
    rintro ⟨v2, _⟩ ⟨v2_m, rfl⟩
    dsimp only at v2_m ⊢
    rw [w64 (x := i + 1) (by omega) (by omega)]
    refine EvS.pos (by omega) (EvS.mono (ih _ _ _ (by omega) (by omega) (by simp; omega) (by omega) (by omega)) (fun r hr => ?_))
    obtain ⟨g1, g2, g3⟩ := hr
    exact ⟨g1, by omega, by omega⟩
theorem someBids_ok (b : List Int) (hb : BytesOk b) (n pay p : Int) (hn : 0 ≤ n) (hn2 : n ≤ 12) (h0 : 0 ≤ p) (h1 : p ≤ 5000) :
    EvS (fun k => spec_someBids.f k b p n pay) (fun r => (r.1.length : Int) = n ∧ p ≤ r.2 ∧ r.2 ≤ p + 24) := by
  simp only [spec_someBids.f]
  refine EvS.mono (someBids_l0 b hb n pay hn hn2 n.toNat 0 p [] (by omega) (by omega) (by simp) h0 (by omega)) (fun r hr => ?_)
  obtain ⟨g1, g2, g3⟩ := hr
  exact ⟨g1, g2, by omega⟩
/-! ## Amounts divided into equal parts. -/
theorem list_ext {xs ys : List Int} (hl : xs.length = ys.length) (h : ∀ i : Int, 0 ≤ i → i < xs.length → rd xs i = rd ys i) : xs = ys := by
  apply List.ext_getElem hl
  intro n h1 h2
  have := h n (by omega) (by omega)
  unfold rd at this
  simp only [Int.toNat_natCast] at this
  rw [List.getD_eq_getElem?_getD, List.getD_eq_getElem?_getD, List.getElem?_eq_getElem h1, List.getElem?_eq_getElem h2] at this
  exact this
theorem rd_set (xs : List Int) (i j v : Int) (h0 : 0 ≤ i) (h1 : i < xs.length) (h2 : 0 ≤ j) : rd (xs.set i.toNat v) j = if i = j then v else rd xs j := by
  unfold rd
  rw [List.getD_eq_getElem?_getD, List.getElem?_set]
  by_cases c : i = j
  · subst c; rw [if_pos rfl, if_pos (by omega), if_pos rfl]; rfl
  · rw [if_neg (by omega), if_neg c, List.getD_eq_getElem?_getD]
theorem rd_zeros (n : Nat) (j : Int) : rd (List.replicate n 0) j = 0 := by
  unfold rd
  rw [List.getD_eq_getElem?_getD, List.getElem?_replicate]
  split <;> rfl
theorem rd_snoc (xs : List Int) (v j : Int) (h0 : 0 ≤ j) : rd (xs ++ [v]) j = if j < xs.length then rd xs j else if j = xs.length then v else 0 := by
  unfold rd
  rw [List.getD_eq_getElem?_getD, List.getD_eq_getElem?_getD]
  by_cases c : j < xs.length
  · rw [if_pos c, List.getElem?_append_left (by omega)]
  · rw [if_neg c, List.getElem?_append_right (by omega)]
    by_cases c2 : j = xs.length
    · rw [if_pos c2, c2]; simp
    · rw [if_neg c2, List.getElem?_eq_none (by simp; omega)]; rfl
/-- Part i of n in p parts. -/
def sp (n p i : Int) : Int := n / p + if i < n % p then 1 else 0
theorem sp_range {n p i : Int} (hn : 0 ≤ n) (hp : 1 ≤ p) : 0 ≤ sp n p i ∧ sp n p i ≤ n + 1 := by
  have a := Int.ediv_nonneg hn (show 0 ≤ p by omega)
  have b := Int.ediv_le_self p hn
  unfold sp; split <;> omega
structure IsSplit (n p : Int) (r : List Int) : Prop where
  len : (r.length : Int) = p
  val : ∀ i : Int, 0 ≤ i → i < p → rd r i = sp n p i
theorem IsSplit.eq {n p : Int} {r s : List Int} (h : IsSplit n p r) (g : IsSplit n p s) : r = s :=
  list_ext (by have := h.len; have := g.len; omega) (fun i h0 h1 => by have := h.len; rw [h.val i h0 (by omega), g.val i h0 (by omega)])
theorem splitEven_l0 (n p : Int) (hn : 0 ≤ n) (hn2 : n ≤ 1000000) (hp : 1 ≤ p) (hp2 : p ≤ 12) (d : Nat) : ∀ (i : Int) (s : List Int), i + d = p → 0 ≤ i → (s.length : Int) = p → (∀ j : Int, 0 ≤ j → j < i → rd s j = sp n p j) →
    EvS (fun k => impl_SplitEven.l0 k n p s p i) (IsSplit n p) := by
  induction d with
  | zero =>
    intro i s h1 h2 h3 h4
    refine EvS.step (fun k => by rw [impl_SplitEven.l0]) ?_
    exact EvS.neg (by omega) (EvS.now ⟨h3, fun j j0 j1 => h4 j j0 (by omega)⟩)
  | succ d ih =>
    intro i s h1 h2 h3 h4
    have q0 := Int.ediv_nonneg hn (show 0 ≤ p by omega)
    have q1 := Int.ediv_le_self p hn
    refine EvS.step (fun k => by rw [impl_SplitEven.l0]) ?_
    refine EvS.pos (by omega) (EvS.neg (by omega) (EvS.pos h2 (EvS.pos (by omega) (EvS.onsome ?_))))
    rw [tdiv_pos _ _ hn, tmod_pos _ _ hn, w64 (x := n / p) (by omega) (by omega), w64 (x := i + 1) (by omega) (by omega), rd_set _ _ _ _ h2 (by omega) h2, if_pos rfl, w64 (x := n / p + 1) (by omega) (by omega)]
    refine EvS.ite (fun c => ih _ _ (by omega) (by omega) (by simpa using h3) (fun j j0 j1 => ?_)) (fun c => ih _ _ (by omega) (by omega) (by simpa using h3) (fun j j0 j1 => ?_))
    · rw [rd_set _ _ _ _ h2 (by simp; omega) j0, rd_set _ _ _ _ h2 (by omega) j0]
      by_cases e : i = j
      · subst e; rw [if_pos rfl, sp, if_pos c]
      · rw [if_neg e, if_neg e]; exact h4 j j0 (by omega)
    · rw [rd_set _ _ _ _ h2 (by omega) j0]
      by_cases e : i = j
      · subst e; rw [if_pos rfl, sp, if_neg c]; omega
      · rw [if_neg e]; exact h4 j j0 (by omega)
theorem splitEven_ok (n p : Int) (hn : 0 ≤ n) (hn2 : n ≤ 1000000) (hp : 1 ≤ p) (hp2 : p ≤ 12) : EvS (fun k => impl_SplitEven.f k n p) (IsSplit n p) := by
  simp only [impl_SplitEven.f]
  refine EvS.neg (by omega) (EvS.neg (by omega) (EvS.neg (by omega) ?_))
  refine EvS.step (fun k => by rw [impl_SplitEven.j0]) ?_
  refine EvS.neg (by simp; omega) (EvS.pos (by omega) (EvS.pos (by omega) (EvS.onsome ?_)))
  have hlen : ((List.replicate p.toNat (0 : Int)).length : Int) = p := by rw [List.length_replicate]; omega
  rw [hlen]
  exact splitEven_l0 n p hn hn2 hp hp2 p.toNat 0 _ (by omega) (by omega) hlen (fun j j0 j1 => by omega)
theorem splitEven_none (n p : Int) (h : ¬ ((0 ≤ n ∧ n ≤ 1000000) ∧ (1 ≤ p ∧ p ≤ 12))) : EvS (fun k => impl_SplitEven.f k n p) (· = []) := by
  have jt : EvS (fun k => impl_SplitEven.j0 k n p true) (· = []) := by
    refine EvS.step (fun k => by rw [impl_SplitEven.j0]) ?_
    exact EvS.pos rfl (EvS.now rfl)
  simp only [impl_SplitEven.f]
  refine EvS.ite (fun _ => jt) (fun c1 => EvS.ite (fun _ => jt) (fun c2 => EvS.ite (fun _ => jt) (fun c3 => ?_)))
  rw [decide_eq_true (show p > 12 by omega)]
  exact jt
/-- The first parts together. -/
def spSum (n p i : Int) : Int := i * (n / p) + if i < n % p then i else n % p
theorem spSum_zero (n p : Int) (hn : 0 ≤ n) (hp : 1 ≤ p) : spSum n p 0 = 0 := by
  have := Int.emod_nonneg n (show p ≠ 0 by omega)
  unfold spSum; split <;> omega
theorem spSum_succ (n p i : Int) : spSum n p (i + 1) = spSum n p i + sp n p i := by
  unfold spSum sp
  rw [Int.add_mul]
  split <;> split <;> omega
theorem spSum_all (n p : Int) (hp : 1 ≤ p) : spSum n p p = n := by
  have := Int.emod_lt_of_pos n (show 0 < p by omega)
  have := Int.mul_ediv_add_emod n p
  unfold spSum
  rw [if_neg (by omega)]; omega
theorem spSum_le (n p : Int) (hn : 0 ≤ n) (hp : 1 ≤ p) (d : Nat) : ∀ i : Int, 0 ≤ i → i + d = p → 0 ≤ spSum n p i ∧ spSum n p i ≤ n := by
  induction d with
  | zero =>
    intro i h0 h1
    have : i = p := by omega
    rw [this, spSum_all n p hp]; omega
  | succ d ih =>
    intro i h0 h1
    have h := ih (i + 1) (by omega) (by omega)
    have s := spSum_succ n p i
    have r := sp_range (i := i) hn hp
    have lo : 0 ≤ spSum n p i := by
      unfold spSum
      have a := Int.mul_nonneg h0 (Int.ediv_nonneg hn (show 0 ≤ p by omega))
      have b := Int.emod_nonneg n (show p ≠ 0 by omega)
      split <;> omega
    omega
/-! ## What members get in a round. -/
/-- What member m gets, where w wins. -/
def payVal (bids : List Int) (pay w m : Int) : Int :=
  if m = w then (if (bids.length : Int) = 1 then bids.length * pay else bids.length * pay - mx (rd bids w) 0)
  else if m < w then sp (mx (rd bids w) 0) (bids.length - 1) m else sp (mx (rd bids w) 0) (bids.length - 1) (m - 1)
structure IsPay (bids : List Int) (pay w : Int) (r : List Int) : Prop where
  len : r.length = bids.length
  val : ∀ m : Int, 0 ≤ m → m < bids.length → rd r m = payVal bids pay w m
theorem mx_range {x y : Int} : mx x y = if x < y then y else x := rfl
theorem gift_range {bids : List Int} {pay w : Int} (h : VBids bids pay) (h0 : 0 ≤ w) (h1 : w < bids.length) : 0 ≤ mx (rd bids w) 0 ∧ mx (rd bids w) 0 ≤ bids.length * pay ∧ bids.length * pay ≤ 120000 := by
  have := pot_bound (n := bids.length) (by have := h.1; omega) h.2.1
  have := h.2.2 _ (rd_mem w h0 h1)
  rw [mx_range]; split <;> omega
theorem impl_payouts_l0 (bids : List Int) (pay w : Int) (hv : VBids bids pay) (h0 : 0 ≤ w) (h1 : w < bids.length) (parts : List Int) (hp : IsSplit (mx (rd bids w) 0) (bids.length - 1) parts) (d : Nat) : ∀ (i : Int) (out : List Int), i + d = bids.length - 1 → 0 ≤ i → out.length = bids.length →
    (∀ m : Int, 0 ≤ m → m < bids.length → m ≠ w → (if m < w then m else m - 1) < i → rd out m = payVal bids pay w m) → rd out w = bids.length * pay - spSum (mx (rd bids w) 0) (bids.length - 1) i → 2 ≤ bids.length →
    EvS (fun k => impl_PayoutsOf.l0 k w out parts parts.length i) (IsPay bids pay w) := by
  have hg := gift_range hv h0 h1
  have hn := hv.1
  have hpl := hp.len
  generalize hgi : mx (rd bids w) 0 = g at *
  induction d with
  | zero =>
    intro i out e1 e2 e3 e4 e5 e6
    refine EvS.step (fun k => by rw [impl_PayoutsOf.l0]) ?_
    refine EvS.neg (by omega) (EvS.now ⟨e3, fun m m0 m1 => ?_⟩)
    by_cases c : m = w
    · subst c
      rw [e5, payVal, if_pos rfl, if_neg (by omega), hgi, show i = bids.length - 1 by omega, spSum_all _ _ (by omega)]
    · exact e4 m m0 m1 c (by split <;> omega)
  | succ d ih =>
    intro i out e1 e2 e3 e4 e5 e6
    have hs := hp.val i e2 (by omega)
    have hr := sp_range (n := g) (p := bids.length - 1) (i := i) hg.1 (by omega)
    have hle := spSum_le g (bids.length - 1) hg.1 (by omega) (d + 1) i e2 (by omega)
    have hsu := spSum_succ g (bids.length - 1) i
    refine EvS.step (fun k => by rw [impl_PayoutsOf.l0]) ?_
    refine EvS.pos (by omega) (EvS.pos e2 (EvS.pos (by omega) ?_))
    rw [hs, w64 (x := i + 1) (by omega) (by omega)]
    refine EvS.ite (fun c => ?_) (fun c => ?_)
    · refine EvS.pos (by omega) (EvS.pos (by omega) (EvS.onsome ?_))
      refine EvS.pos h0 (EvS.pos (by first | omega | (simp; omega)) ?_)
      rw [rd_set _ _ _ _ (by omega) (by omega) h0, if_neg (by omega), e5, w64 (x := bids.length * pay - spSum g (bids.length - 1) i - sp g (bids.length - 1) i) (by omega) (by omega)]
      refine ih _ _ (by omega) (by omega) (by simpa using e3) (fun m m0 m1 m2 m3 => ?_) ?_ e6
      · rw [rd_set _ _ _ _ h0 (by simp; omega) m0, if_neg (by omega), rd_set _ _ _ _ (by omega) (by omega) m0]
        by_cases e : i + 1 = m
        · rw [if_pos e, payVal, if_neg m2, if_neg (by omega), hgi, show m - 1 = i by omega]
        · rw [if_neg e]; exact e4 m m0 m1 m2 (by split at m3 <;> split <;> omega)
      · rw [rd_set _ _ _ _ h0 (by simp; omega) h0, if_pos rfl]; omega
    · refine EvS.pos (by omega) (EvS.onsome ?_)
      refine EvS.pos h0 (EvS.pos (by first | omega | (simp; omega)) ?_)
      rw [rd_set _ _ _ _ e2 (by omega) h0, if_neg (by omega), e5, w64 (x := bids.length * pay - spSum g (bids.length - 1) i - sp g (bids.length - 1) i) (by omega) (by omega)]
      refine ih _ _ (by omega) (by omega) (by simpa using e3) (fun m m0 m1 m2 m3 => ?_) ?_ e6
      · rw [rd_set _ _ _ _ h0 (by simp; omega) m0, if_neg (by omega), rd_set _ _ _ _ e2 (by omega) m0]
        by_cases e : i = m
        · rw [if_pos e, payVal, if_neg m2, if_pos (by omega), hgi, e]
        · rw [if_neg e]; exact e4 m m0 m1 m2 (by split at m3 <;> split <;> omega)
      · rw [rd_set _ _ _ _ h0 (by simp; omega) h0, if_pos rfl]; omega
theorem impl_PayoutsOf_ok (bids done : List Int) (hl : bids.length ≤ 1000) (hd : done.length ≤ 1000) (pay : Int) :
    EvS (fun k => impl_PayoutsOf.f k bids pay done) (fun r => if winner bids pay done < 0 then r = [] else VBids bids pay ∧ Diff done bids.length ∧ IsPay bids pay (winner bids pay done) r) := by
  simp only [impl_PayoutsOf.f]
  refine EvS.bindv (impl_WinnerOf_ok bids done hl hd pay) ?_
  by_cases hw : winner bids pay done < 0
  · simp only [if_pos hw]
    exact EvS.now rfl
  · simp only [if_neg hw]
    have hv : VBids bids pay ∧ Diff done bids.length := by
      unfold winner at hw
      by_cases c : VBids bids pay ∧ Diff done bids.length
      · exact c
      · rw [if_neg c] at hw; omega
    have hb : winner bids pay done < bids.length := by
      rw [winner, if_pos hv]; exact (win_best bids done).hi
    generalize winner bids pay done = w at *
    have hg := gift_range hv.1 (by omega) hb
    have hn := hv.1.1
    refine EvS.pos (by omega) (EvS.pos (by omega) (EvS.onsome ?_))
    rw [Int.toNat_natCast]
    refine EvS.call (potOf_eq _ _) ?_
    rw [if_pos ⟨by omega, hv.1.2.1⟩]
    refine EvS.pos (by omega) (EvS.pos (by rw [List.length_replicate]; exact hb) (EvS.pos hb ?_))
    rw [w64 (x := (bids.length : Int) - 1) (by omega) (by omega)]
    by_cases h1 : bids.length = 1
    · refine EvS.bindv (splitEven_none _ _ (by omega)) ?_
      refine EvS.step (fun k => by rw [impl_PayoutsOf.l0]) ?_
      refine EvS.neg (by simp) (EvS.now ⟨hv.1, hv.2, by simp, fun m m0 m1 => ?_⟩)
      rw [rd_set _ _ _ _ (by omega) (by rw [List.length_replicate]; omega) m0, if_pos (by omega), payVal, if_pos (by omega), if_pos (by omega)]
    · refine EvS.bind (splitEven_ok _ _ hg.1 (by omega) (by omega) (by omega)) (fun parts hp => ?_)
      refine EvS.mono (impl_payouts_l0 bids pay w hv.1 (by omega) hb parts hp (bids.length - 1) 0 _ (by omega) (by omega) (by simp) (fun m m0 m1 m2 m3 => ?_) ?_ (by omega)) (fun r hr => ⟨hv.1, hv.2, hr⟩)
      · split at m3 <;> omega
      · rw [rd_set _ _ _ _ (by omega) (by rw [List.length_replicate]; omega) (by omega), if_pos rfl, spSum_zero _ _ hg.1 (by omega)]; omega
theorem at_rdL {xs ys : List (List Int)} {i : Int} {y : List Int} (h : At xs i (y :: ys)) : rd_L3 xs i = y := h.getD _
def VT (table : List (List Int)) (pay : Int) : Prop := (1 ≤ table.length ∧ table.length ≤ 12) ∧ ∀ b ∈ table, b.length = table.length ∧ VBids b pay
instance (table : List (List Int)) (pay : Int) : Decidable (VT table pay) := by unfold VT; infer_instance
def ordF : List (List Int) → List Int → List Int
  | [], acc => acc
  | b :: t, acc => ordF t (acc ++ [win b acc])
theorem ordF_prefix (t : List (List Int)) : ∀ acc, ∃ s, ordF t acc = acc ++ s ∧ s.length = t.length := by
  induction t with
  | nil => intro acc; exact ⟨[], by simp [ordF]⟩
  | cons b t ih =>
    intro acc
    obtain ⟨s, h1, h2⟩ := ih (acc ++ [win b acc])
    exact ⟨win b acc :: s, by rw [ordF, h1]; simp, by simp [h2]⟩
theorem win_free {bids done : List Int} (h : done.length < bids.length) : 0 ≤ win bids done := by
  have hb := win_best bids done
  by_cases c : win bids done < 0
  · exfalso
    have hsub : (List.range bids.length).map (fun m : Nat => (m : Int)) ⊆ done := by
      intro x hx
      obtain ⟨m, hm, rfl⟩ := List.mem_map.1 hx
      exact hb.none c m (by omega) (by have := List.mem_range.1 hm; omega)
    have hnd : ((List.range bids.length).map (fun m : Nat => (m : Int))).Nodup := by
      rw [List.nodup_iff_pairwise_ne]
      refine List.Pairwise.map _ (fun a b hab => ?_) (List.nodup_range (n := bids.length))
      omega
    have := hnd.length_le_of_subset hsub
    rw [List.length_map, List.length_range] at this
    omega
  · omega
theorem diff_snoc {acc : List Int} {n w : Int} (h : Diff acc n) (h0 : 0 ≤ w) (h1 : w < n) (h2 : w ∉ acc) : Diff (acc ++ [w]) n := by
  refine ⟨?_, fun x hx => ?_⟩
  · rw [List.nodup_append]
    refine ⟨h.1, by simp, fun a ha b hb => ?_⟩
    rw [List.mem_singleton] at hb
    intro e; rw [e, hb] at ha; exact h2 ha
  · rcases List.mem_append.1 hx with hx | hx
    · exact h.2 x hx
    · rw [List.mem_singleton] at hx; omega
theorem win_step {table : List (List Int)} {pay : Int} (hv : VT table pay) {b acc : List Int} (hb : b ∈ table) (ha : Diff acc table.length) (hl : acc.length < table.length) :
    winner b pay acc = win b acc ∧ 0 ≤ win b acc ∧ Diff (acc ++ [win b acc]) table.length := by
  have h1 := hv.2 b hb
  have h2 := win_free (bids := b) (done := acc) (by omega)
  have h3 := win_best b acc
  refine ⟨by rw [winner, if_pos ⟨h1.2, by rw [h1.1]; exact ha⟩], h2, diff_snoc ha h2 (by have := h3.hi; omega) (h3.free h2)⟩

theorem impl_rounds_l2 (n : Nat) (hn : n ≤ 1000) (pay : Int) (order got bids : List Int) (hg : got.length = n) (ho : order.length ≤ 1000) (hb : bids.length ≤ 1000) (table : List (List Int)) (x41 x42 : Int) (pays : List Int) (hp : pays.length ≤ n) {P : List Int × List Int → Prop}
    (hk : ∀ got' : List Int, got'.length = n → EvS (fun k => impl_bidRounds.l1 k pay (order ++ [winner bids pay order]) got' table x41 (wrap64 (x42 + 1))) P) (ys : List Int) : ∀ (i : Int) (g : List Int), At pays i ys → g.length = n →
    EvS (fun k => impl_bidRounds.l2 k pay order g bids table x41 x42 pays pays.length i) P := by
  induction ys with
  | nil =>
    intro i g h hgl
    refine EvS.step (fun k => by rw [impl_bidRounds.l2]) ?_
    refine EvS.neg (by have := h.ge; omega) (EvS.bindv (impl_WinnerOf_ok bids order hb ho pay) (EvS.pos (by omega) ?_))
    exact hk g hgl
  | cons y ys ih =>
    intro i g h hgl
    have h1 := h.lt
    have h2 := h.nonneg
    refine EvS.step (fun k => by rw [impl_bidRounds.l2]) ?_
    refine EvS.pos h1 (EvS.pos h2 (EvS.pos h1 (EvS.pos (by omega) ?_)))
    exact ih _ _ (h.wnext (by omega)) (by simpa using hgl)
theorem impl_rounds_l1 (table : List (List Int)) (pay : Int) (hv : VT table pay) (ys : List (List Int)) : ∀ (i : Int) (acc got : List Int), At table i ys → acc.length = i → Diff acc table.length → got.length = table.length →
    EvS (fun k => impl_bidRounds.l1 k pay acc got table table.length i) (fun r => r.1 = ordF ys acc) := by
  have hn := hv.1
  induction ys with
  | nil =>
    intro i acc got h e1 e2 e3
    refine EvS.step (fun k => by rw [impl_bidRounds.l1]) ?_
    exact EvS.neg (by have := h.ge; omega) (EvS.now rfl)
  | cons b ys ih =>
    intro i acc got h e1 e2 e3
    have h1 := h.lt
    have h2 := h.nonneg
    have hb := hv.2 b h.mem
    have hs := win_step hv h.mem e2 (by omega)
    refine EvS.step (fun k => by rw [impl_bidRounds.l1]) ?_
    refine EvS.pos h1 (EvS.pos h2 (EvS.pos h1 ?_))
    rw [at_rdL h]
    refine EvS.bind (impl_PayoutsOf_ok b acc (by omega) (by omega) pay) (fun r hr => ?_)
    have hrl : r.length ≤ table.length := by
      rw [hs.1, if_neg (by omega)] at hr
      have := hr.2.2.len
      omega
    refine impl_rounds_l2 table.length (by omega) pay acc got b e3 (by omega) (by omega) table _ _ r hrl (fun got' hg' => ?_) r 0 got (At.zero _) e3
    rw [hs.1, ordF]
    exact ih _ _ _ (h.wnext (by omega)) (by rw [w64 (by omega) (by omega)]; simp; omega) hs.2.2 hg'
theorem impl_rounds_l0 (table : List (List Int)) (pay : Int) (hn : 1 ≤ table.length ∧ table.length ≤ 12) (hb : ∀ b ∈ table, b.length ≤ 1000) (ys : List (List Int)) : ∀ i : Int, At table i ys → (∀ b ∈ table.take i.toNat, b.length = table.length ∧ VBids b pay) →
    EvS (fun k => impl_bidRounds.l0 k table pay table table.length i) (fun r => r.1 = if VT table pay then ordF table [] else []) := by
  induction ys with
  | nil =>
    intro i h hp
    have hge := h.ge
    have hv : VT table pay := ⟨hn, fun b hb => hp b (by rw [List.take_of_length_le (by omega)]; exact hb)⟩
    refine EvS.step (fun k => by rw [impl_bidRounds.l0]) ?_
    rw [if_pos hv]
    refine EvS.neg (by omega) (EvS.pos (by omega) (EvS.pos (by omega) ?_))
    exact impl_rounds_l1 table pay hv table 0 [] _ (At.zero _) (by simp) ⟨by simp, by simp⟩ (by simp)
  | cons b ys ih =>
    intro i h hp
    have hno : ¬ (b.length = table.length ∧ VBids b pay) → ¬ VT table pay := fun g hv => g (hv.2 b h.mem)
    refine EvS.step (fun k => by rw [impl_bidRounds.l0]) ?_
    refine EvS.pos h.lt (EvS.pos h.nonneg (EvS.pos h.lt ?_))
    rw [at_rdL h]
    refine EvS.ite (fun c => EvS.bindv (impl_validBids_ok b (by have := hb b h.mem; omega) pay) (EvS.ite (fun c2 => ?_) (fun c2 => EvS.now ?_))) (fun c => EvS.now ?_)
    · refine ih _ (h.wnext (by omega)) (fun x hx => ?_)
      have h1 := h.nonneg
      have h2 := h.lt
      rw [w64 (by omega) (by omega), h.take] at hx
      rcases List.mem_append.1 hx with hx | hx
      · exact hp x hx
      · rw [List.mem_singleton] at hx; subst hx; exact ⟨by omega, of_decide_eq_true c2⟩
    · rw [if_neg (hno (fun g => ndec c2 g.2))]
    · rw [if_neg (hno (fun g => c (by rw [g.1])))]
theorem impl_BidOrder_ok (table : List (List Int)) (pay : Int) (hb : ∀ b ∈ table, b.length ≤ 1000) (hl : table.length ≤ 1000) : EvS (fun k => impl_BidOrder.f k table pay) (· = if VT table pay then ordF table [] else []) := by
  simp only [impl_BidOrder.f, impl_bidRounds.f]
  refine EvS.bind (Q := fun r => r.1 = if VT table pay then ordF table [] else []) ?_ (fun r hr => EvS.now hr)
  refine EvS.call (potOf_eq _ _) ?_
  by_cases c : (1 ≤ (table.length : Int) ∧ (table.length : Int) ≤ 12) ∧ (0 ≤ pay ∧ pay ≤ 10000)
  · rw [if_pos c]
    have := pot_bound c.1 c.2
    exact EvS.neg (by omega) (impl_rounds_l0 table pay (by omega) hb table 0 (At.zero _) (by simp))
  · rw [if_neg c]
    refine EvS.pos (by omega) (EvS.now ?_)
    rw [if_neg]
    intro hv
    refine c ⟨by have := hv.1; omega, ?_⟩
    cases table with
    | nil => have := hv.1; simp at this
    | cons b t => exact (hv.2 b List.mem_cons_self).2.2.1

theorem spec_validTable_l0 (table : List (List Int)) (pay : Int) (hn : 1 ≤ table.length ∧ table.length ≤ 12) (hb : ∀ b ∈ table, b.length ≤ 1000) (ys : List (List Int)) : ∀ i : Int, At table i ys →
    EvS (fun k => spec_validTable.l0 k table pay i) (· = decide (∀ b ∈ ys, b.length = table.length ∧ VBids b pay)) := by
  induction ys with
  | nil =>
    intro i h
    refine EvS.step (fun k => by rw [spec_validTable.l0]) ?_
    exact EvS.neg (by have := h.ge; omega) (EvS.now (by simp))
  | cons b ys ih =>
    intro i h
    refine EvS.step (fun k => by rw [spec_validTable.l0]) ?_
    refine EvS.pos h.lt (EvS.pos h.nonneg ?_)
    rw [at_rdL h]
    refine EvS.ite (fun c => EvS.bindv (spec_validBids_ok b (by have := hb b h.mem; omega) pay) (EvS.ite (fun c2 => ?_) (fun c2 => EvS.now ?_))) (fun c => EvS.now ?_)
    · refine EvS.mono (ih _ (h.wnext (by omega))) (fun r hr => ?_)
      rw [hr]
      exact decide_eq_decide.2 ⟨fun g x hx => by rcases List.mem_cons.1 hx with rfl | hx; exact ⟨by omega, of_decide_eq_true c2⟩; exact g x hx, fun g x hx => g x (List.mem_cons_of_mem _ hx)⟩
    · exact (decide_eq_false (fun g => ndec c2 (g b List.mem_cons_self).2)).symm
    · exact (decide_eq_false (fun g => c (by rw [(g b List.mem_cons_self).1]))).symm
theorem spec_bidOrder_l0 (table : List (List Int)) (pay : Int) (hv : VT table pay) (ys : List (List Int)) : ∀ (i : Int) (acc : List Int), At table i ys → acc.length = i →
    EvS (fun k => spec_bidOrder.l0 k table acc i) (· = ordF ys acc) := by
  have hn := hv.1
  induction ys with
  | nil =>
    intro i acc h e1
    refine EvS.step (fun k => by rw [spec_bidOrder.l0]) ?_
    exact EvS.neg (by have := h.ge; omega) (EvS.now rfl)
  | cons b ys ih =>
    intro i acc h e1
    have h1 := h.lt
    have h2 := h.nonneg
    have hb := hv.2 b h.mem
    refine EvS.step (fun k => by rw [spec_bidOrder.l0]) ?_
    refine EvS.pos h1 (EvS.pos h2 ?_)
    rw [at_rdL h, ordF]
    refine EvS.bindv (spec_winner_ok b acc (by omega) (by omega)) (EvS.pos (by omega) ?_)
    exact ih _ _ (h.wnext (by omega)) (by rw [w64 (by omega) (by omega)]; simp; omega)
theorem spec_BidOrder_ok (table : List (List Int)) (pay : Int) (hb : ∀ b ∈ table, b.length ≤ 1000) (hl : table.length ≤ 1000) : EvS (fun k => spec_BidOrder.f k table pay) (· = if VT table pay then ordF table [] else []) := by
  simp only [spec_BidOrder.f, spec_validTable.f]
  refine EvS.bindv (a := decide (VT table pay)) ?_ (EvS.ite (fun c => ?_) (fun c => EvS.now (by rw [if_neg (ndec c)])))
  · refine EvS.call (inRange_eq _ _ _) (EvS.ite (fun c => ?_) (fun c => EvS.now ?_))
    · have c := of_decide_eq_true c
      refine EvS.mono (spec_validTable_l0 table pay (by omega) hb table 0 (At.zero _)) (fun r hr => ?_)
      rw [hr]
      exact decide_eq_decide.2 ⟨fun g => ⟨by omega, g⟩, fun g => g.2⟩
    · exact (decide_eq_false (fun g => ndec c (by have := g.1; omega))).symm
  · have c := of_decide_eq_true c
    rw [if_pos c]
    simp only [spec_bidOrder.f]
    exact EvS.bindv (spec_bidOrder_l0 table pay c table 0 [] (At.zero _) (by simp)) (EvS.now rfl)

theorem draw_l0 (b : List Int) (hb : BytesOk b) (n pay : Int) (hn : 0 ≤ n) (hn2 : n ≤ 6) (d : Nat) : ∀ (i p : Int) (out : List (List Int)), i + d = n → 0 ≤ i → out.length = i → (∀ x ∈ out, x.length ≤ 12) → 0 ≤ p → p + 24 * d ≤ 4000 →
    EvS (fun k => spec_DrawBidOrder.l0 k n pay out i b p) (fun r => r.1.length ≤ 7 ∧ ∀ x ∈ r.1, x.length ≤ 12) := by
  induction d with
  | zero =>
    intro i p out h1 h2 h3 h4 h5 h6
    refine EvS.step (fun k => by rw [spec_DrawBidOrder.l0]) ?_
    refine EvS.neg (by omega) ?_
    refine EvS.bind (pick_ok _ _ _ hb (by omega) (by omega)) ?_
    rintro ⟨v1, _⟩ ⟨v1_0, v1_1, v1_2, rfl⟩
    dsimp only at v1_0 v1_1 v1_2 ⊢
    refine EvS.ite (fun _ => EvS.pos (by omega) (EvS.now ⟨by simp; omega, fun x hx => ?_⟩)) (fun _ => EvS.now ⟨by dsimp only; omega, h4⟩)
    rcases List.mem_append.1 hx with hx | hx
    · exact h4 x hx
    · rw [List.mem_singleton] at hx; subst hx; simp
  | succ d ih =>
    intro i p out h1 h2 h3 h4 h5 h6
    refine EvS.step (fun k => by rw [spec_DrawBidOrder.l0]) ?_
    refine EvS.pos (by omega) (EvS.bind (someBids_ok b hb n pay p hn (by omega) h5 (by omega)) ?_)
    rintro ⟨bids, q⟩ ⟨g1, g2, g3⟩
    dsimp only at g1 g2 g3 ⊢
    rw [w64 (x := i + 1) (by omega) (by omega)]
    refine EvS.pos (by omega) (ih _ _ _ (by omega) (by omega) (by simp; omega) (fun x hx => ?_) (by omega) (by omega))
    rcases List.mem_append.1 hx with hx | hx
    · exact h4 x hx
    · rw [List.mem_singleton] at hx; subst hx; omega
theorem draw_ok (l : List Int) (hl : ∀ x ∈ l, 0 ≤ x ∧ x ≤ 255) : EvS (fun k => spec_DrawBidOrder.f k l) (fun r => r.1.length ≤ 7 ∧ ∀ x ∈ r.1, x.length ≤ 12) := by
  simp only [spec_DrawBidOrder.f]
  obtain ⟨b, be, hb⟩ := newReader_ok l hl
  refine EvS.call be ?_
  dsimp only
  refine EvS.bind (one_ok _ _ _ hb (by omega) (by omega) (by simp)) ?_
  rintro ⟨v1, _⟩ ⟨v1_m, rfl⟩
  dsimp only at v1_m ⊢
  have hv : 1 ≤ v1 ∧ v1 ≤ 6 := by simp at v1_m; omega
  refine EvS.bind (one_ok _ _ _ hb (by omega) (by omega) (by simp)) ?_
  rintro ⟨v2, _⟩ ⟨v2_m, rfl⟩
  dsimp only at v2_m ⊢
  exact draw_l0 b hb v1 v2 (by omega) (by omega) v1.toNat 0 _ [] (by omega) (by omega) (by simp) (by simp) (by omega) (by omega)

theorem law_l0 (table : List (List Int)) (pay : Int) (hv : VT table pay) (out : List Int) (hlen : out.length = table.length) (ys : List (List Int)) : ∀ (i : Int) (acc : List Int), At table i ys → acc.length = i → out = ordF ys acc → Diff acc table.length →
    EvS (fun k => laws_FnBidOrder.l0 k table pay out i) (· = true) := by
  have hn := hv.1
  induction ys with
  | nil =>
    intro i acc h e1 e2 e3
    have hge := h.ge
    refine EvS.step (fun k => by rw [laws_FnBidOrder.l0]) ?_
    refine EvS.neg (by omega) ?_
    rw [ordF] at e2
    subst e2
    simp only [impl_ValidOrder.f]
    refine EvS.bindv (a := true) ?_ (EvS.now rfl)
    refine EvS.pos (by omega) (EvS.pos (by omega) (EvS.bindv (differentBelow_ok out (by omega) _ (by omega) (by omega)) (EvS.now ?_)))
    exact decide_eq_true (by rw [hlen]; exact e3)
  | cons b ys ih =>
    intro i acc h e1 e2 e3
    have h1 := h.lt
    have h2 := h.nonneg
    have hb := hv.2 b h.mem
    have hs := win_step hv h.mem e3 (by omega)
    rw [ordF] at e2
    obtain ⟨s, g1, g2⟩ := ordF_prefix ys (acc ++ [win b acc])
    have ho : out = acc ++ win b acc :: s := by rw [e2, g1]; simp
    have ht : out.take i.toNat = acc := by rw [ho, show i.toNat = acc.length by omega, List.take_left]
    have hr : rd out i = win b acc := by
      unfold rd
      rw [ho, show i.toNat = acc.length by omega, List.getD_eq_getElem?_getD]
      simp
    refine EvS.step (fun k => by rw [laws_FnBidOrder.l0]) ?_
    refine EvS.pos (by omega) (EvS.pos h2 (EvS.pos h1 (EvS.pos (by omega) ?_)))
    rw [at_rdL h, ht, hr]
    refine EvS.bindv (impl_WinnerOf_ok b acc (by omega) (by omega) pay) (EvS.pos hs.1 ?_)
    exact ih _ _ (h.wnext (by omega)) (by rw [w64 (by omega) (by omega)]; simp; omega) e2 hs.2.2
theorem FnBidOrder : laws_FnBidOrder.Pure := by
  intro l0 _ _ hw
  refine EvS.holds ?_
  simp only [laws_FnBidOrder.f]
  refine EvS.ite (fun _ => EvS.now rfl) (fun _ => ?_)
  refine EvS.bind (draw_ok l0 (fun x hx => u8_range (hw x hx))) ?_
  rintro ⟨table, pay⟩ ⟨g1, g2⟩
  dsimp only at g1 g2 ⊢
  have g3 : ∀ x ∈ table, x.length ≤ 1000 := fun x hx => by have := g2 x hx; omega
  have hlen : (if VT table pay then ordF table [] else []).length ≤ 7 := by
    split
    · obtain ⟨s, e1, e2⟩ := ordF_prefix table []
      rw [e1]; simp; omega
    · simp
  have eI := impl_BidOrder_ok table pay g3 (by omega)
  have eS := spec_BidOrder_ok table pay g3 (by omega)
  refine EvS.bindv eI (EvS.bindv eS (EvS.bindv (equalInts_ok _ (by omega)) (EvS.pos rfl ?_)))
  refine EvS.step (fun k => by rw [laws_FnBidOrder.j0]) ?_
  refine EvS.ite (fun c => EvS.bindv eS (EvS.bindv (equalInts_ok _ (by omega)) (EvS.now rfl))) (fun c => ?_)
  by_cases hv : VT table pay
  · rw [if_pos hv]
    obtain ⟨s, e1, e2⟩ := ordF_prefix table []
    exact law_l0 table pay hv _ (by rw [e1]; simp [e2]) table 0 [] (At.zero _) (by simp) rfl ⟨by simp, by simp⟩
  · exfalso; rw [if_neg hv] at c; simp at c
end Go.Proofs.Ytcnhjpnidfalpaa.Pure
