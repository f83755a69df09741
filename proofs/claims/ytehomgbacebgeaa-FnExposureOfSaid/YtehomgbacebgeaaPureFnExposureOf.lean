/- What each member answers for: ExposureOf is what the reference tells; and of two halves of the loans the exposures add up. -/
import Derived.Test.YtehomgbacebgeaaPFnExposureOfx0
import Derived.Test.YtehomgbacebgeaaPFnExposureOfx1
import Derived.Test.YtehomgbacebgeaaMFnExposureOfx2
import Derived.Test.YtehomgbacebgeaaMFnExposureOfx3
import Derived.Test.YtehomgbacebgeaaMFnExposureOfx4
import Derived.Test.YtehomgbacebgeaaMFnExposureOfx5
import Derived.Test.YtehomgbacebgeaaMFnExposureOfx6
import Derived.Test.YtehomgbacebgeaaMFnExposureOfx7
import Derived.Test.YtehomgbacebgeaaBase
set_option linter.unusedVariables false
set_option linter.unusedSimpArgs false
namespace Go.Proofs.Ytehomgbacebgeaa.Pure
open Go.RowKit Go.Proofs.Ytehomgbacebgeaa.PFnExposureOf Go.Proofs.YtehomgbacebgeaaW.PrintWords Go.Proofs.YtehomgbacebgeaaW.PrintLast Go.Proofs.YtehomgbacebgeaaW.PrintMore Go.Proofs.Ytehomgbacebgeaa.Base
theorem u8_range {x : Int} (h : (Lit.int .u8 x).wf = true) : 0 ≤ x ∧ x ≤ 255 := by
  simp [Lit.wf, IntKind.min, IntKind.max, IntKind.bits, IntKind.signed] at h
  omega
/-! ## The reader that draws. -/
structure BytesOk (b : List Int) : Prop where
  len : b.length ≤ 2000
  mem : ∀ x ∈ b, 0 ≤ x ∧ x ≤ 255

theorem newReader_ok (l : List Int) (h : ∀ x ∈ l, 0 ≤ x ∧ x ≤ 255) : ∃ b, spec_newReader.f l = some (b, 0) ∧ BytesOk b := by
  unfold spec_newReader.f
  by_cases c : (l.length : Int) > 2000
  · rw [if_pos c, if_pos (by omega)]
    exact ⟨_, rfl, by rw [List.length_take]; omega, fun x hx => h x (List.mem_of_mem_take hx)⟩
  · rw [if_neg c]
    exact ⟨_, rfl, by omega, h⟩

theorem pick_ok (b : List Int) (p n : Int) (hb : BytesOk b) (h0 : 0 ≤ p) (h1 : p ≤ 100000) :
    EvS (fun k => spec_reader_pick.f k b p n) (fun r => 0 ≤ r.1 ∧ (1 ≤ n → r.1 < n) ∧ (n < 1 → r.1 = 0) ∧ r.2 = p + 1) := by
  have hp : wrap64 (p + 1) = p + 1 := w64 (by omega) (by omega)
  have hq : wrap64 (p + 1 - 1) = p := by rw [show p + 1 - 1 = p by omega]; exact w64 (by omega) (by omega)
  have hbl := hb.len
  simp only [spec_reader_pick.f]
  rw [hp]
  by_cases hn : n < 1
  · refine EvS.pos hn ?_
    refine EvS.step (fun k => by rw [spec_reader_pick.j0]) ?_
    refine EvS.pos rfl ?_
    exact EvS.now ⟨by simp, fun h => by omega, fun _ => rfl, rfl⟩
  · refine EvS.neg hn ?_
    refine EvS.step (fun k => by rw [spec_reader_pick.j0]) ?_
    simp only [hq]
    by_cases hl : b.length = 0
    · refine EvS.pos (by simp [hl]) ?_
      exact EvS.now ⟨by simp, fun h => by simp; omega, fun _ => rfl, rfl⟩
    · refine EvS.neg (by simp; intro h; exact hl (by simp [h])) ?_
      by_cases hpl : p < b.length
      · refine EvS.pos hpl (EvS.pos h0 (EvS.neg (by omega) ?_))
        have hr := rd_range hb.mem p h0 hpl
        rw [w64 (by omega) (by omega)]
        have ht := tmod_range (rd b p) n (by omega) (by omega)
        exact EvS.now ⟨ht.1, fun _ => ht.2, fun h => by omega, rfl⟩
      · refine EvS.neg hpl (EvS.neg (by omega) ?_)
        have e1 : wrap64 (wrap64 (p * 7) + 3) = p * 7 + 3 := by
          rw [w64 (x := p * 7) (by omega) (by omega)]; exact w64 (by omega) (by omega)
        simp only [e1]
        have i1 := tmod_range p b.length h0 (by omega)
        have i2 := tmod_range (p * 7 + 3) b.length (by omega) (by omega)
        refine EvS.pos i1.1 (EvS.pos i1.2 (EvS.pos i2.1 (EvS.pos i2.2 (EvS.neg (by omega) ?_))))
        have r1 := rd_range hb.mem _ i1.1 i1.2
        have r2 := rd_range hb.mem _ i2.1 i2.2
        generalize rd b (Int.tmod p b.length) = v1 at r1 ⊢
        generalize rd b (Int.tmod (p * 7 + 3) b.length) = v2 at r2 ⊢
        have d0 : 0 ≤ Int.tdiv p b.length ∧ Int.tdiv p b.length ≤ p := by
          rw [tdiv_pos _ _ h0]
          exact ⟨Int.ediv_nonneg h0 (by omega), Int.ediv_le_self _ h0⟩
        generalize Int.tdiv p b.length = dv at d0 ⊢
        simp (disch := omega) only [w64]
        have hx0 : 0 ≤ v1 * 131 + v2 * 1117 + p * 29 + dv * 53 := by omega
        have hx1 : v1 * 131 + v2 * 1117 + p * 29 + dv * 53 < 1000000000 := by omega
        generalize v1 * 131 + v2 * 1117 + p * 29 + dv * 53 = X at hx0 hx1 ⊢
        rw [tdiv_pos X 64 hx0, w64 (x := X / 64) (by omega) (by omega)]
        have ht := tmod_range (Go.bits .xor .i64 X (X / 64)) n (xor_nonneg _ _ (by omega) (by omega) (by omega) (by omega)) (by omega)
        exact EvS.now ⟨ht.1, fun _ => ht.2, fun h => by omega, rfl⟩

theorem one_ok (b : List Int) (p : Int) (l : List Int) (hb : BytesOk b) (h0 : 0 ≤ p) (h1 : p ≤ 100000) (hl : 1 ≤ l.length) :
    EvS (fun k => spec_reader_one.f k b p l) (fun r => r.1 ∈ l ∧ r.2 = p + 1) := by
  simp only [spec_reader_one.f]
  refine EvS.bind (pick_ok b p l.length hb h0 h1) ?_
  rintro ⟨v, q⟩ ⟨a1, a2, a3, a4⟩
  have a5 := a2 (by omega)
  refine EvS.pos a1 (EvS.pos a5 ?_)
  exact EvS.now ⟨rd_mem _ a1 a5, a4⟩
/-! ## Lists of numbers. -/
theorem inRange_eq (n lo hi : Int) : spec_inRange.f n lo hi = some (decide (lo ≤ n ∧ n ≤ hi)) := by
  unfold spec_inRange.f
  split
  · exact congrArg some (decide_eq_decide.2 (by omega))
  · exact congrArg some (decide_eq_false (by omega)).symm
def AllW (xs : List Int) (lo hi : Int) : Prop := ∀ x ∈ xs, lo ≤ x ∧ x ≤ hi
instance (xs : List Int) (lo hi : Int) : Decidable (AllW xs lo hi) := by unfold AllW; infer_instance
theorem allW_cons (y : Int) (ys : List Int) (lo hi : Int) : AllW (y :: ys) lo hi ↔ (lo ≤ y ∧ y ≤ hi) ∧ AllW ys lo hi := by
  unfold AllW; simp
/-- The first place of a number, counted from i on; -1 if it is not there. -/
def posF (v : Int) : Int → List Int → Int
  | _, [] => -1
  | i, x :: xs => if x = v then i else posF v (i + 1) xs
theorem posF_range (v : Int) (xs : List Int) : ∀ i : Int, 0 ≤ i → (v ∈ xs → i ≤ posF v i xs ∧ posF v i xs < i + xs.length) ∧ (v ∉ xs → posF v i xs = -1) := by
  induction xs with
  | nil => intro i h0; exact ⟨fun h => by simp at h, fun _ => rfl⟩
  | cons x xs ih =>
    intro i h0
    have h := ih (i + 1) (by omega)
    simp only [posF, List.length_cons]
    by_cases c : x = v
    · rw [if_pos c]; exact ⟨fun _ => by omega, fun g => absurd (by simp [c]) g⟩
    · rw [if_neg c]
      refine ⟨fun g => ?_, fun g => h.2 (fun g2 => g (List.mem_cons_of_mem _ g2))⟩
      have := h.1 ((List.mem_cons.1 g).resolve_left (fun e => c e.symm))
      omega
theorem posF_nonneg (v : Int) (xs : List Int) (i : Int) (h : 0 ≤ i) : (0 ≤ posF v i xs) ↔ v ∈ xs := by
  by_cases c : v ∈ xs
  · have := (posF_range v xs i h).1 c; exact ⟨fun _ => c, fun _ => by omega⟩
  · have := (posF_range v xs i h).2 c; exact ⟨fun g => by omega, fun g => absurd g c⟩
theorem placeIn_l0 (xs : List Int) (hl : xs.length ≤ 1099511627776) (v : Int) (ys : List Int) : ∀ i : Int, At xs i ys → EvS (fun k => spec_placeIn.l0 k xs v i) (· = posF v i ys) := by
  induction ys with
  | nil =>
    intro i h
    refine EvS.step (fun k => by rw [spec_placeIn.l0]) ?_
    exact EvS.neg (by have := h.ge; omega) (EvS.now rfl)
  | cons y ys ih =>
    intro i h
    have h1 := h.lt
    have h2 := h.nonneg
    have hw : wrap64 (i + 1) = i + 1 := w64 (by omega) (by omega)
    refine EvS.step (fun k => by rw [spec_placeIn.l0]) ?_
    refine EvS.pos h.lt (EvS.pos h.nonneg ?_)
    rw [At.rd h, hw, posF]
    by_cases c : y = v
    · rw [if_pos c]; exact EvS.pos c (EvS.now rfl)
    · rw [if_neg c]; exact EvS.neg c (ih _ h.next)
theorem placeIn_ok (xs : List Int) (hl : xs.length ≤ 1099511627776) (v : Int) : EvS (fun k => spec_placeIn.f k xs v) (· = posF v 0 xs) := by
  simp only [spec_placeIn.f]
  exact placeIn_l0 xs hl v xs 0 (At.zero xs)
theorem index_l0 (xs : List Int) (hl : xs.length ≤ 1099511627776) (v : Int) (ys : List Int) : ∀ i : Int, At xs i ys → EvS (fun k => slices_Index_int_int.l0 k xs v xs.length i) (· = posF v i ys) := by
  induction ys with
  | nil =>
    intro i h
    refine EvS.step (fun k => by rw [slices_Index_int_int.l0]) ?_
    exact EvS.neg (by have := h.ge; omega) (EvS.now rfl)
  | cons y ys ih =>
    intro i h
    have h1 := h.lt
    have h2 := h.nonneg
    have hw : wrap64 (i + 1) = i + 1 := w64 (by omega) (by omega)
    refine EvS.step (fun k => by rw [slices_Index_int_int.l0]) ?_
    refine EvS.pos h.lt (EvS.pos h.nonneg (EvS.pos h.lt ?_))
    rw [At.rd h, hw, posF]
    by_cases c : y = v
    · rw [if_pos c]; exact EvS.pos c.symm (EvS.now rfl)
    · rw [if_neg c]; exact EvS.neg (fun g => c g.symm) (ih _ h.next)
theorem index_ok (xs : List Int) (hl : xs.length ≤ 1099511627776) (v : Int) : EvS (fun k => slices_Index_int_int.f k xs v) (· = posF v 0 xs) := by
  simp only [slices_Index_int_int.f]
  exact index_l0 xs hl v xs 0 (At.zero xs)
theorem contains_ok (xs : List Int) (hl : xs.length ≤ 1099511627776) (v : Int) : EvS (fun k => slices_Contains_int_int.f k xs v) (· = decide (v ∈ xs)) := by
  simp only [slices_Contains_int_int.f]
  exact EvS.bindv (index_ok xs hl v) (EvS.now (decide_eq_decide.2 (posF_nonneg v xs 0 (by omega))))
theorem equalInts_l0 (xs : List Int) (hl : xs.length ≤ 1099511627776) (ys : List Int) : ∀ i : Int, At xs i ys → EvS (fun k => laws_equalInts.l0 k xs xs i) (· = true) := by
  induction ys with
  | nil =>
    intro i h
    refine EvS.step (fun k => by rw [laws_equalInts.l0]) ?_
    exact EvS.neg (by have := h.ge; omega) (EvS.now rfl)
  | cons y ys ih =>
    intro i h
    refine EvS.step (fun k => by rw [laws_equalInts.l0]) ?_
    exact EvS.pos h.lt (EvS.pos h.nonneg (EvS.pos h.lt (EvS.pos (by simp) (ih _ (h.wnext (by omega))))))
theorem equalInts_ok (xs : List Int) (hl : xs.length ≤ 1099511627776) : EvS (fun k => laws_equalInts.f k xs xs) (· = true) := by
  simp only [laws_equalInts.f]
  exact EvS.pos (by trivial) (equalInts_l0 xs hl xs 0 (At.zero xs))
/-- Different numbers from 0 to n - 1. -/
def Diff (xs : List Int) (n : Int) : Prop := xs.Nodup ∧ ∀ x ∈ xs, 0 ≤ x ∧ x < n
instance (xs : List Int) (n : Int) : Decidable (Diff xs n) := by unfold Diff; infer_instance
def DiffF (pre ys : List Int) (n : Int) : Prop := ys.Nodup ∧ ∀ y ∈ ys, 0 ≤ y ∧ y < n ∧ y ∉ pre
instance (pre ys : List Int) (n : Int) : Decidable (DiffF pre ys n) := by unfold DiffF; infer_instance
theorem diffF_cons (pre : List Int) (y : Int) (ys : List Int) (n : Int) : DiffF pre (y :: ys) n ↔ (0 ≤ y ∧ y < n ∧ y ∉ pre) ∧ DiffF (y :: pre) ys n := by
  unfold DiffF
  constructor
  · rintro ⟨h1, h2⟩
    have h1 := List.nodup_cons.1 h1
    refine ⟨h2 y List.mem_cons_self, h1.2, fun z hz => ?_⟩
    have := h2 z (List.mem_cons_of_mem _ hz)
    refine ⟨this.1, this.2.1, fun hm => ?_⟩
    rcases List.mem_cons.1 hm with rfl | hm
    · exact h1.1 hz
    · exact this.2.2 hm
  · rintro ⟨h1, h2, h3⟩
    refine ⟨List.nodup_cons.2 ⟨fun hm => (h3 y hm).2.2 List.mem_cons_self, h2⟩, fun z hz => ?_⟩
    rcases List.mem_cons.1 hz with rfl | hz
    · exact h1
    · have := h3 z hz
      exact ⟨this.1, this.2.1, fun hm => this.2.2 (List.mem_cons_of_mem _ hm)⟩
theorem diffF_congr {p q ys : List Int} {n : Int} (h : ∀ x, x ∈ p ↔ x ∈ q) : DiffF p ys n ↔ DiffF q ys n := by
  unfold DiffF
  simp only [h]
theorem diffF_nil (xs : List Int) (n : Int) : DiffF [] xs n ↔ Diff xs n := by
  unfold DiffF Diff; simp
theorem diff_len {xs : List Int} {n : Int} (h : Diff xs n) : (xs.length : Int) ≤ n ∨ xs = [] := by
  rcases xs with _ | ⟨x, xs⟩
  · exact .inr rfl
  · left
    have h1 : 0 ≤ n := by have := h.2 x List.mem_cons_self; omega
    have h2 : (x :: xs) ⊆ (List.range n.toNat).map (fun m : Nat => (m : Int)) := by
      intro y hy
      have := h.2 y hy
      exact List.mem_map.2 ⟨y.toNat, List.mem_range.2 (by omega), by omega⟩
    have h3 := h.1.length_le_of_subset h2
    rw [List.length_map, List.length_range] at h3
    omega
theorem differentBelow_l0 (xs : List Int) (hl : xs.length ≤ 1099511627776) (n : Int) (ys : List Int) : ∀ (i : Int) (seen : List Bool) (pre : List Int), At xs i ys → (seen.length : Int) = n → (∀ v : Int, 0 ≤ v → v < n → (rdOf false seen v = true ↔ v ∈ pre)) →
    EvS (fun k => impl_differentBelow.l0 k n seen xs xs.length i) (· = decide (DiffF pre ys n)) := by
  induction ys with
  | nil =>
    intro i seen pre h hs hv
    refine EvS.step (fun k => by rw [impl_differentBelow.l0]) ?_
    exact EvS.neg (by have := h.ge; omega) (EvS.now (by simp [DiffF]))
  | cons y ys ih =>
    intro i seen pre h hs hv
    refine EvS.step (fun k => by rw [impl_differentBelow.l0]) ?_
    refine EvS.pos h.lt (EvS.pos h.nonneg (EvS.pos h.lt ?_))
    rw [At.rd h]
    refine EvS.ite (fun c => EvS.now (decide_eq_false (fun g => by have := ((diffF_cons _ _ _ _).1 g).1; omega)).symm) (fun c1 => EvS.ite (fun c => EvS.now (decide_eq_false (fun g => by have := ((diffF_cons _ _ _ _).1 g).1; omega)).symm) (fun c2 => EvS.pos (by omega) (EvS.pos (by omega) ?_)))
    have hy := hv y (by omega) (by omega)
    refine EvS.ite (fun c => EvS.now (decide_eq_false (fun g => ((diffF_cons _ _ _ _).1 g).1.2.2 (hy.1 c))).symm) (fun c3 => ?_)
    refine EvS.mono (ih _ (seen.set y.toNat true) (y :: pre) (h.wnext (by omega)) (by simpa using hs) (fun v h0 h1 => ?_)) (fun r hr => ?_)
    · unfold rdOf
      rw [List.getD_eq_getElem?_getD, List.getElem?_set]
      by_cases e : y = v
      · subst e
        rw [if_pos rfl, if_pos (by omega)]
        exact ⟨fun _ => List.mem_cons_self, fun _ => rfl⟩
      · rw [if_neg (by omega)]
        have := hv v h0 h1
        unfold rdOf at this
        rw [List.getD_eq_getElem?_getD] at this
        rw [this, List.mem_cons]
        exact ⟨fun g => .inr g, fun g => g.resolve_left (fun e2 => e e2.symm)⟩
    · rw [hr]
      exact decide_eq_decide.2 ⟨fun g => (diffF_cons _ _ _ _).2 ⟨⟨by omega, by omega, fun hm => c3 (hy.2 hm)⟩, g⟩, fun g => ((diffF_cons _ _ _ _).1 g).2⟩
theorem differentBelow_ok (xs : List Int) (hl : xs.length ≤ 1099511627776) (n : Int) (hn : n ≤ 1099511627776) (h0 : 0 ≤ n) : EvS (fun k => impl_differentBelow.f k xs n) (· = decide (Diff xs n)) := by
  simp only [impl_differentBelow.f]
  refine EvS.ite (fun c => EvS.now (decide_eq_false (fun g => ?_)).symm) (fun c => EvS.pos h0 (EvS.pos (by omega) ?_))
  · rcases diff_len g with h | h
    · omega
    · subst h; simp at c; omega
  · refine EvS.mono (differentBelow_l0 xs hl n xs 0 _ [] (At.zero xs) (by simp; omega) (fun v _ _ => ?_)) (fun r hr => ?_)
    · unfold rdOf
      rw [List.getD_eq_getElem?_getD, List.getElem?_replicate]
      split <;> simp
    · rw [hr]
      exact decide_eq_decide.2 (diffF_nil xs n)
theorem validMembers_l0 (xs : List Int) (hl : xs.length ≤ 1099511627776) (n : Int) (hn : n ≤ 1099511627776) (h0 : 0 ≤ n) (ys : List Int) : ∀ i : Int, At xs i ys → EvS (fun k => spec_validMembers.l0 k xs n i) (· = decide (DiffF (xs.take i.toNat) ys n)) := by
  induction ys with
  | nil =>
    intro i h
    refine EvS.step (fun k => by rw [spec_validMembers.l0]) ?_
    exact EvS.neg (by have := h.ge; omega) (EvS.now (by simp [DiffF]))
  | cons y ys ih =>
    intro i h
    have h1 := h.lt
    have h2 := h.nonneg
    have hw : wrap64 (i + 1) = i + 1 := w64 (by omega) (by omega)
    refine EvS.step (fun k => by rw [spec_validMembers.l0]) ?_
    refine EvS.pos h.lt (EvS.pos h.nonneg ?_)
    rw [At.rd h, hw, w64 (x := n - 1) (by omega) (by omega)]
    refine EvS.call (inRange_eq _ _ _) (EvS.ite (fun c => EvS.pos (by omega) ?_) (fun c => EvS.now ?_))
    · have c := of_decide_eq_true c
      refine EvS.bindv (placeIn_ok _ (by rw [List.length_take]; omega) y) ?_
      have hp := posF_nonneg y (xs.take i.toNat) 0 (by omega)
      refine EvS.ite (fun g => EvS.now (decide_eq_false (fun g2 => ((diffF_cons _ _ _ _).1 g2).1.2.2 (hp.1 g))).symm) (fun g => ?_)
      refine EvS.mono (ih _ h.next) (fun r hr => ?_)
      rw [hr]
      refine decide_eq_decide.2 (Iff.trans (diffF_congr (q := y :: xs.take i.toNat) (fun x => ?_)) ⟨fun g2 => (diffF_cons _ _ _ _).2 ⟨⟨c.1, by omega, fun hm => g (hp.2 hm)⟩, g2⟩, fun g2 => ((diffF_cons _ _ _ _).1 g2).2⟩)
      simp only [h.take, List.mem_append, List.mem_cons, List.not_mem_nil, or_false]
      exact or_comm
    · have c := ndec c
      exact (decide_eq_false (fun g => c (by have := ((diffF_cons _ _ _ _).1 g).1; omega))).symm
theorem validMembers_ok (xs : List Int) (hl : xs.length ≤ 1099511627776) (n : Int) (hn : n ≤ 1099511627776) (h0 : 0 ≤ n) : EvS (fun k => spec_validMembers.f k xs n) (· = decide (Diff xs n)) := by
  simp only [spec_validMembers.f]
  refine EvS.mono (validMembers_l0 xs hl n hn h0 xs 0 (At.zero xs)) (fun r hr => ?_)
  rw [hr]
  exact decide_eq_decide.2 (diffF_nil xs n)
/-! ## Bodies that vote. -/
def tot : List Int → Int
  | [] => 0
  | x :: xs => x + tot xs
theorem tot_range {xs : List Int} {hi : Int} (h0 : 0 ≤ hi) (h : AllW xs 0 hi) : 0 ≤ tot xs ∧ tot xs ≤ xs.length * hi := by
  induction xs with
  | nil => simp [tot]
  | cons x xs ih =>
    have h1 := (allW_cons _ _ _ _).1 h
    have h2 := ih h1.2
    simp only [tot, List.length_cons, Int.natCast_add, Int.add_mul]
    omega
theorem tot_bound {xs : List Int} (h : ∀ x ∈ xs, -1000000000000 ≤ x ∧ x ≤ 1000000000000) : -(1000000000000 * (xs.length : Int)) ≤ tot xs ∧ tot xs ≤ 1000000000000 * xs.length := by
  induction xs with
  | nil => simp [tot]
  | cons x xs ih =>
    have h1 := h x List.mem_cons_self
    have h2 := ih (fun y hy => h y (List.mem_cons_of_mem _ hy))
    simp only [tot, List.length_cons]
    omega
/-! ## Amounts divided into equal parts. -/
theorem list_ext {xs ys : List Int} (hl : xs.length = ys.length) (h : ∀ i : Int, 0 ≤ i → i < xs.length → rd xs i = rd ys i) : xs = ys := by
  apply List.ext_getElem hl
  intro n h1 h2
  have := h n (by omega) (by omega)
  unfold rd at this
  simp only [Int.toNat_natCast] at this
  rw [List.getD_eq_getElem?_getD, List.getD_eq_getElem?_getD, List.getElem?_eq_getElem h1, List.getElem?_eq_getElem h2] at this
  exact this
theorem rd_set (xs : List Int) (i j v : Int) (h0 : 0 ≤ i) (h1 : i < xs.length) (h2 : 0 ≤ j) : rd (xs.set i.toNat v) j = if i = j then v else rd xs j := by
  unfold rd
  rw [List.getD_eq_getElem?_getD, List.getElem?_set]
  by_cases c : i = j
  · subst c; rw [if_pos rfl, if_pos (by omega), if_pos rfl]; rfl
  · rw [if_neg (by omega), if_neg c, List.getD_eq_getElem?_getD]
theorem rd_zeros (n : Nat) (j : Int) : rd (List.replicate n 0) j = 0 := by
  unfold rd
  rw [List.getD_eq_getElem?_getD, List.getElem?_replicate]
  split <;> rfl
theorem rd_snoc (xs : List Int) (v j : Int) (h0 : 0 ≤ j) : rd (xs ++ [v]) j = if j < xs.length then rd xs j else if j = xs.length then v else 0 := by
  unfold rd
  rw [List.getD_eq_getElem?_getD, List.getD_eq_getElem?_getD]
  by_cases c : j < xs.length
  · rw [if_pos c, List.getElem?_append_left (by omega)]
  · rw [if_neg c, List.getElem?_append_right (by omega)]
    by_cases c2 : j = xs.length
    · rw [if_pos c2, c2]; simp
    · rw [if_neg c2, List.getElem?_eq_none (by simp; omega)]; rfl
/-- Part i of n in p parts. -/
def sp (n p i : Int) : Int := n / p + if i < n % p then 1 else 0
theorem sp_range {n p i : Int} (hn : 0 ≤ n) (hp : 1 ≤ p) : 0 ≤ sp n p i ∧ sp n p i ≤ n + 1 := by
  have a := Int.ediv_nonneg hn (show 0 ≤ p by omega)
  have b := Int.ediv_le_self p hn
  unfold sp; split <;> omega
structure IsSplit (n p : Int) (r : List Int) : Prop where
  len : (r.length : Int) = p
  val : ∀ i : Int, 0 ≤ i → i < p → rd r i = sp n p i
theorem IsSplit.eq {n p : Int} {r s : List Int} (h : IsSplit n p r) (g : IsSplit n p s) : r = s :=
  list_ext (by have := h.len; have := g.len; omega) (fun i h0 h1 => by have := h.len; rw [h.val i h0 (by omega), g.val i h0 (by omega)])
theorem splitEven_l0 (n p : Int) (hn : 0 ≤ n) (hn2 : n ≤ 1000000) (hp : 1 ≤ p) (hp2 : p ≤ 12) (d : Nat) : ∀ (i : Int) (s : List Int), i + d = p → 0 ≤ i → (s.length : Int) = p → (∀ j : Int, 0 ≤ j → j < i → rd s j = sp n p j) →
    EvS (fun k => impl_SplitEven.l0 k n p s p i) (IsSplit n p) := by
  induction d with
  | zero =>
    intro i s h1 h2 h3 h4
    refine EvS.step (fun k => by rw [impl_SplitEven.l0]) ?_
    exact EvS.neg (by omega) (EvS.now ⟨h3, fun j j0 j1 => h4 j j0 (by omega)⟩)
  | succ d ih =>
    intro i s h1 h2 h3 h4
    have q0 := Int.ediv_nonneg hn (show 0 ≤ p by omega)
    have q1 := Int.ediv_le_self p hn
    refine EvS.step (fun k => by rw [impl_SplitEven.l0]) ?_
    refine EvS.pos (by omega) (EvS.neg (by omega) (EvS.pos h2 (EvS.pos (by omega) (EvS.onsome ?_))))
    rw [tdiv_pos _ _ hn, tmod_pos _ _ hn, w64 (x := n / p) (by omega) (by omega), w64 (x := i + 1) (by omega) (by omega), rd_set _ _ _ _ h2 (by omega) h2, if_pos rfl, w64 (x := n / p + 1) (by omega) (by omega)]
    refine EvS.ite (fun c => ih _ _ (by omega) (by omega) (by simpa using h3) (fun j j0 j1 => ?_)) (fun c => ih _ _ (by omega) (by omega) (by simpa using h3) (fun j j0 j1 => ?_))
    · rw [rd_set _ _ _ _ h2 (by simp; omega) j0, rd_set _ _ _ _ h2 (by omega) j0]
      by_cases e : i = j
      · subst e; rw [if_pos rfl, sp, if_pos c]
      · rw [if_neg e, if_neg e]; exact h4 j j0 (by omega)
    · rw [rd_set _ _ _ _ h2 (by omega) j0]
      by_cases e : i = j
      · subst e; rw [if_pos rfl, sp, if_neg c]; omega
      · rw [if_neg e]; exact h4 j j0 (by omega)
theorem splitEven_ok (n p : Int) (hn : 0 ≤ n) (hn2 : n ≤ 1000000) (hp : 1 ≤ p) (hp2 : p ≤ 12) : EvS (fun k => impl_SplitEven.f k n p) (IsSplit n p) := by
  simp only [impl_SplitEven.f]
  refine EvS.neg (by omega) (EvS.neg (by omega) (EvS.neg (by omega) ?_))
  refine EvS.step (fun k => by rw [impl_SplitEven.j0]) ?_
  refine EvS.neg (by simp; omega) (EvS.pos (by omega) (EvS.pos (by omega) (EvS.onsome ?_)))
  have hlen : ((List.replicate p.toNat (0 : Int)).length : Int) = p := by rw [List.length_replicate]; omega
  rw [hlen]
  exact splitEven_l0 n p hn hn2 hp hp2 p.toNat 0 _ (by omega) (by omega) hlen (fun j j0 j1 => by omega)
theorem splitEven_none (n p : Int) (h : ¬ ((0 ≤ n ∧ n ≤ 1000000) ∧ (1 ≤ p ∧ p ≤ 12))) : EvS (fun k => impl_SplitEven.f k n p) (· = []) := by
  have jt : EvS (fun k => impl_SplitEven.j0 k n p true) (· = []) := by
    refine EvS.step (fun k => by rw [impl_SplitEven.j0]) ?_
    exact EvS.pos rfl (EvS.now rfl)
  simp only [impl_SplitEven.f]
  refine EvS.ite (fun _ => jt) (fun c1 => EvS.ite (fun _ => jt) (fun c2 => EvS.ite (fun _ => jt) (fun c3 => ?_)))
  rw [decide_eq_true (show p > 12 by omega)]
  exact jt
theorem split_l0 (n p : Int) (hn : 0 ≤ n) (hn2 : n ≤ 1000000) (hp : 1 ≤ p) (hp2 : p ≤ 12) (d : Nat) : ∀ (i : Int) (s : List Int), i + d = p → 0 ≤ i → (s.length : Int) = i → (∀ j : Int, 0 ≤ j → j < i → rd s j = sp n p j) →
    EvS (fun k => spec_split.l0 k n p s i) (IsSplit n p) := by
  induction d with
  | zero =>
    intro i s h1 h2 h3 h4
    refine EvS.step (fun k => by rw [spec_split.l0]) ?_
    exact EvS.neg (by omega) (EvS.now ⟨by omega, fun j j0 j1 => h4 j j0 (by omega)⟩)
  | succ d ih =>
    intro i s h1 h2 h3 h4
    have q0 := Int.ediv_nonneg hn (show 0 ≤ p by omega)
    have q1 := Int.ediv_le_self p hn
    refine EvS.step (fun k => by rw [spec_split.l0]) ?_
    refine EvS.pos (by omega) (EvS.neg (by omega) ?_)
    rw [tdiv_pos _ _ hn, tmod_pos _ _ hn, w64 (x := n / p) (by omega) (by omega), w64 (x := i + 1) (by omega) (by omega), w64 (x := n / p + 1) (by omega) (by omega)]
    refine EvS.ite (fun c => EvS.pos (by omega) (ih _ _ (by omega) (by omega) (by simp; omega) (fun j j0 j1 => ?_))) (fun c => EvS.pos (by omega) (ih _ _ (by omega) (by omega) (by simp; omega) (fun j j0 j1 => ?_)))
    · rw [rd_snoc _ _ _ j0]
      by_cases e : i = j
      · subst e; rw [if_neg (by omega), if_pos h3.symm, sp, if_pos c]
      · rw [if_pos (by omega)]; exact h4 j j0 (by omega)
    · rw [rd_snoc _ _ _ j0]
      by_cases e : i = j
      · subst e; rw [if_neg (by omega), if_pos h3.symm, sp, if_neg c]; omega
      · rw [if_pos (by omega)]; exact h4 j j0 (by omega)
theorem split_ok (n p : Int) (hn : 0 ≤ n) (hn2 : n ≤ 1000000) (hp : 1 ≤ p) (hp2 : p ≤ 12) : EvS (fun k => spec_split.f k n p) (IsSplit n p) := by
  simp only [spec_split.f]
  exact split_l0 n p hn hn2 hp hp2 p.toNat 0 [] (by omega) (by omega) (by simp) (fun j j0 j1 => by omega)
/-- The first parts together. -/
def spSum (n p i : Int) : Int := i * (n / p) + if i < n % p then i else n % p
theorem spSum_zero (n p : Int) (hn : 0 ≤ n) (hp : 1 ≤ p) : spSum n p 0 = 0 := by
  have := Int.emod_nonneg n (show p ≠ 0 by omega)
  unfold spSum; split <;> omega
theorem spSum_succ (n p i : Int) : spSum n p (i + 1) = spSum n p i + sp n p i := by
  unfold spSum sp
  rw [Int.add_mul]
  split <;> split <;> omega
theorem spSum_all (n p : Int) (hp : 1 ≤ p) : spSum n p p = n := by
  have := Int.emod_lt_of_pos n (show 0 < p by omega)
  have := Int.mul_ediv_add_emod n p
  unfold spSum
  rw [if_neg (by omega)]; omega
theorem spSum_le (n p : Int) (hn : 0 ≤ n) (hp : 1 ≤ p) (d : Nat) : ∀ i : Int, 0 ≤ i → i + d = p → 0 ≤ spSum n p i ∧ spSum n p i ≤ n := by
  induction d with
  | zero =>
    intro i h0 h1
    have : i = p := by omega
    rw [this, spSum_all n p hp]; omega
  | succ d ih =>
    intro i h0 h1
    have h := ih (i + 1) (by omega) (by omega)
    have s := spSum_succ n p i
    have r := sp_range (i := i) hn hp
    have lo : 0 ≤ spSum n p i := by
      unfold spSum
      have a := Int.mul_nonneg h0 (Int.ediv_nonneg hn (show 0 ≤ p by omega))
      have b := Int.emod_nonneg n (show p ≠ 0 by omega)
      split <;> omega
    omega
/-! ## Valid loans. -/
def VL (m : Int) (e : S30) : Prop := (0 ≤ e.f0 ∧ e.f0 < m) ∧ (1 ≤ e.f1 ∧ e.f1 ≤ 100000) ∧ 1 ≤ e.f2.length ∧ Diff e.f2 m ∧ e.f0 ∉ e.f2
instance (m : Int) (e : S30) : Decidable (VL m e) := by unfold VL; infer_instance
def VLs (l : List S30) (m : Int) : Prop := (1 ≤ m ∧ m ≤ 12) ∧ l.length ≤ 16 ∧ ∀ e ∈ l, VL m e
instance (l : List S30) (m : Int) : Decidable (VLs l m) := by unfold VLs; infer_instance
/-- Lists short enough for the machine. -/
def Sh (l : List S30) : Prop := l.length ≤ 1000000 ∧ ∀ e ∈ l, e.f2.length ≤ 1000000
theorem at_rdL {xs ys : List S30} {i : Int} {y : S30} (h : At xs i (y :: ys)) : rd_T30 xs i = y := h.getD _
theorem all_cons {α : Type} {P : α → Prop} {y : α} {ys : List α} (h : P y) : (∀ e ∈ y :: ys, P e) ↔ ∀ e ∈ ys, P e :=
  ⟨fun g e he => g e (List.mem_cons_of_mem _ he), fun g e he => by rcases List.mem_cons.1 he with rfl | he; exact h; exact g e he⟩
theorem impl_ValidLoans_l0 (xs : List S30) (hl : Sh xs) (m : Int) (hm : 1 ≤ m ∧ m ≤ 12) (ys : List S30) : ∀ i : Int, At xs i ys → EvS (fun k => impl_ValidLoans.l0 k m xs xs.length i) (· = decide (∀ e ∈ ys, VL m e)) := by
  have hxl := hl.1
  induction ys with
  | nil =>
    intro i h
    refine EvS.step (fun k => by rw [impl_ValidLoans.l0]) ?_
    exact EvS.neg (by have := h.ge; omega) (EvS.now (by simp))
  | cons y ys ih =>
    intro i h
    have hy := hl.2 y h.mem
    refine EvS.step (fun k => by rw [impl_ValidLoans.l0]) ?_
    refine EvS.pos h.lt (EvS.pos h.nonneg (EvS.pos h.lt ?_))
    rw [at_rdL h]
    have no : ¬ VL m y → false = decide (∀ e ∈ y :: ys, VL m e) := fun g => (decide_eq_false (fun q => g (q y List.mem_cons_self))).symm
    have jt : ¬ VL m y → EvS (fun k => impl_ValidLoans.j2 k m xs xs.length i true y.f0 y.f1 y.f2) (· = decide (∀ e ∈ y :: ys, VL m e)) := by
      intro g
      refine EvS.step (fun k => by rw [impl_ValidLoans.j2]) ?_
      exact EvS.pos rfl (EvS.now (no g))
    refine EvS.ite (fun c => jt (fun g => by have := g.1; omega)) (fun c1 => EvS.ite (fun c => jt (fun g => by have := g.1; omega)) (fun c2 => EvS.ite (fun c => jt (fun g => by have := g.2.1; omega)) (fun c3 => ?_)))
    by_cases c4 : y.f1 > 100000
    · rw [decide_eq_true c4]; exact jt (fun g => by have := g.2.1; omega)
    · rw [decide_eq_false c4]
      refine EvS.step (fun k => by rw [impl_ValidLoans.j2]) ?_
      refine EvS.neg (by simp) (EvS.ite (fun c => EvS.now (no (fun g => by have := g.2.2.1; omega))) (fun c5 => EvS.bindv (differentBelow_ok y.f2 (by omega) m (by omega) (by omega)) (EvS.ite (fun c6 => EvS.bindv (contains_ok y.f2 (by omega) y.f0) (EvS.ite (fun c7 => EvS.now (no (fun g => g.2.2.2.2 (of_decide_eq_true c7)))) (fun c7 => ?_))) (fun c6 => EvS.now (no (fun g => ndec c6 g.2.2.2.1))))))
      refine EvS.mono (ih _ (h.wnext (by omega))) (fun r hr => ?_)
      rw [hr]
      exact decide_eq_decide.2 (all_cons (P := VL m) (y := y) (⟨by omega, by omega, by omega, of_decide_eq_true c6, ndec c7⟩ : VL m y)).symm
theorem impl_ValidLoans_ok (xs : List S30) (hl : Sh xs) (m : Int) : EvS (fun k => impl_ValidLoans.f k xs m) (· = decide (VLs xs m)) := by
  have jt : ¬ VLs xs m → EvS (fun k => impl_ValidLoans.j0 k xs m true) (· = decide (VLs xs m)) := by
    intro g
    refine EvS.step (fun k => by rw [impl_ValidLoans.j0]) ?_
    exact EvS.pos rfl (EvS.now (decide_eq_false g).symm)
  simp only [impl_ValidLoans.f]
  refine EvS.ite (fun c => jt (fun g => by have := g.2.1; omega)) (fun c1 => EvS.ite (fun c => jt (fun g => by have := g.1; omega)) (fun c2 => ?_))
  by_cases c3 : m > 12
  · rw [decide_eq_true c3]; exact jt (fun g => by have := g.1; omega)
  · rw [decide_eq_false c3]
    refine EvS.step (fun k => by rw [impl_ValidLoans.j0]) ?_
    refine EvS.neg (by simp) (EvS.mono (impl_ValidLoans_l0 xs hl m (by omega) xs 0 (At.zero _)) (fun r hr => ?_))
    rw [hr]
    exact decide_eq_decide.2 ⟨fun g => ⟨by omega, by omega, g⟩, fun g => g.2.2⟩
theorem spec_validLoans_l0 (xs : List S30) (hl : Sh xs) (m : Int) (hm : 0 ≤ m ∧ m ≤ 1000) (ys : List S30) : ∀ i : Int, At xs i ys → EvS (fun k => spec_validLoans.l0 k xs m i) (· = decide ((1 ≤ m ∧ m ≤ 12) ∧ xs.length ≤ 16 ∧ ∀ e ∈ ys, VL m e)) := by
  have hxl := hl.1
  induction ys with
  | nil =>
    intro i h
    refine EvS.step (fun k => by rw [spec_validLoans.l0]) ?_
    refine EvS.neg (by have := h.ge; omega) (EvS.ite (fun c => EvS.call (inRange_eq _ _ _) (EvS.now ?_)) (fun c => EvS.now ?_))
    · exact decide_eq_decide.2 ⟨fun g => ⟨g, by omega, by simp⟩, fun g => g.1⟩
    · exact (decide_eq_false (fun g => by have := g.2.1; omega)).symm
  | cons y ys ih =>
    intro i h
    have hy := hl.2 y h.mem
    refine EvS.step (fun k => by rw [spec_validLoans.l0]) ?_
    refine EvS.pos h.lt (EvS.pos h.nonneg ?_)
    rw [at_rdL h, w64 (x := m - 1) (by omega) (by omega)]
    have no : ¬ VL m y → false = decide ((1 ≤ m ∧ m ≤ 12) ∧ xs.length ≤ 16 ∧ ∀ e ∈ y :: ys, VL m e) := fun g => (decide_eq_false (fun q => g (q.2.2 y List.mem_cons_self))).symm
    refine EvS.call (inRange_eq _ _ _) (EvS.ite (fun c1 => EvS.call (inRange_eq _ _ _) (EvS.ite (fun c2 => EvS.ite (fun c => EvS.now (no (fun g => by have := g.2.2.1; omega))) (fun c3 => EvS.bindv (validMembers_ok y.f2 (by omega) m (by omega) (by omega)) (EvS.ite (fun c4 => EvS.bindv (placeIn_ok y.f2 (by omega) y.f0) (EvS.ite (fun c5 => EvS.now (no (fun g => g.2.2.2.2 ((posF_nonneg _ _ _ (by omega)).1 c5)))) (fun c5 => ?_))) (fun c4 => EvS.now (no (fun g => ndec c4 g.2.2.2.1)))))) (fun c2 => EvS.now (no (fun g => ndec c2 g.2.1))))) (fun c1 => EvS.now (no (fun g => ndec c1 (by have := g.1; omega)))))
    have c1 := of_decide_eq_true c1
    refine EvS.mono (ih _ (h.wnext (by omega))) (fun r hr => ?_)
    rw [hr]
    exact decide_eq_decide.2 (and_congr_right fun _ => and_congr_right fun _ => (all_cons (P := VL m) (y := y) (⟨by omega, of_decide_eq_true c2, by omega, of_decide_eq_true c4, fun g => c5 ((posF_nonneg _ _ _ (by omega)).2 g)⟩ : VL m y)).symm)
theorem spec_validLoans_ok (xs : List S30) (hl : Sh xs) (m : Int) (hm : 0 ≤ m ∧ m ≤ 1000) : EvS (fun k => spec_validLoans.f k xs m) (· = decide (VLs xs m)) := by
  simp only [spec_validLoans.f]
  exact spec_validLoans_l0 xs hl m hm xs 0 (At.zero _)
/-! ## Loans that are drawn. -/
def ShW (n : Nat) (l : List S30) : Prop := ∀ e ∈ l, e.f2.length ≤ n
theorem ShW.snoc {n : Nat} {l : List S30} (h : ShW n l) {e : S30} (he : e.f2.length ≤ n) : ShW n (l ++ [e]) := by
  intro x hx
  rcases List.mem_append.1 hx with hx | hx
  · exact h x hx
  · simp only [List.mem_singleton] at hx; subst hx; exact he
theorem someLoans_l0 (b : List Int) (hb : BytesOk b) (m : Int) (hm : 2 ≤ m ∧ m ≤ 8) (d : Nat) : ∀ (x5 : List S30) (x6 p : Int), x6 ≤ d → 0 ≤ p → p + 12 * d ≤ 10000 → x5.length + d ≤ 1000 → ShW 8 x5 →
    EvS (fun k => spec_someLoans.l0 k m x5 x6 b p) (fun r => r.1.length ≤ x5.length + d ∧ ShW 8 r.1 ∧ p ≤ r.2 ∧ r.2 ≤ p + 12 * d) := by
  induction d with
  | zero =>
    intro x5 x6 p h1 h2 h3 h4 h5
    refine EvS.step (fun k => by rw [spec_someLoans.l0]) ?_
    exact EvS.neg (by omega) (EvS.now ⟨by simp, h5, by simp, by simp⟩)
  | succ d ih =>
    intro x5 x6 p h1 h2 h3 h4 h5
    refine EvS.step (fun k => by rw [spec_someLoans.l0]) ?_
    refine EvS.ite (fun c => ?_) (fun c => EvS.now ⟨by simp, h5, by simp, by simp; omega⟩)
    have inner : ∀ (q0 who0 : Int) (e : Nat) (j q : Int) (who : List Int), j + e = m → 0 ≤ j → who.length ≤ j → q0 + j = q0 + j → p + 3 ≤ q → q ≤ p + 3 + j → ∀ lender amt : Int,
        EvS (fun k => spec_someLoans.l1 k m x5 x6 j b q lender amt who) (fun r => r.1.length ≤ x5.length + (d + 1) ∧ ShW 8 r.1 ∧ p ≤ r.2 ∧ r.2 ≤ p + 12 * (d + 1 : Nat)) := by
      intro _ _ e
      induction e with
      | zero =>
        intro j q who g1 g2 g3 _ g4 g5 lender amt
        refine EvS.step (fun k => by rw [spec_someLoans.l1]) ?_
        refine EvS.neg (by omega) ?_
        rw [w64 (x := x6 - 1) (by omega) (by omega)]
        refine EvS.ite (fun c2 => EvS.neg (by omega) (EvS.pos (by omega) ?_)) (fun c2 => EvS.pos (by omega) ?_)
        · refine EvS.mono (ih _ _ _ (by omega) (by omega) (by omega) (by simp; omega) (h5.snoc (by simp))) (fun r hr => ?_)
          obtain ⟨a1, a2, a3, a4⟩ := hr
          simp only [List.length_append, List.length_cons, List.length_nil] at a1
          exact ⟨by omega, a2, by omega, by omega⟩
        · refine EvS.mono (ih _ _ _ (by omega) (by omega) (by omega) (by simp; omega) (h5.snoc (by dsimp only; omega))) (fun r hr => ?_)
          obtain ⟨a1, a2, a3, a4⟩ := hr
          simp only [List.length_append, List.length_cons, List.length_nil] at a1
          exact ⟨by omega, a2, by omega, by omega⟩
      | succ e ihe =>
        intro j q who g1 g2 g3 _ g4 g5 lender amt
        refine EvS.step (fun k => by rw [spec_someLoans.l1]) ?_
        refine EvS.pos (by omega) ?_
        rw [w64 (x := j + 1) (by omega) (by omega)]
        refine EvS.ite (fun c2 => ihe _ _ _ (by omega) (by omega) (by omega) rfl (by omega) (by omega) _ _) (fun c2 => ?_)
        refine EvS.bind (pick_ok b q 3 hb (by omega) (by omega)) ?_
        rintro ⟨v, q2⟩ ⟨-, -, -, e4⟩
        dsimp only at e4 ⊢
        subst e4
        refine EvS.ite (fun _ => EvS.pos (by omega) (ihe _ _ _ (by omega) (by omega) (by simp; omega) rfl (by omega) (by omega) _ _)) (fun _ => ihe _ _ _ (by omega) (by omega) (by omega) rfl (by omega) (by omega) _ _)
    refine EvS.bind (pick_ok _ _ _ hb (by omega) (by omega)) ?_
    rintro ⟨v1, _⟩ ⟨v1_0, v1_1, v1_2, rfl⟩
    dsimp only at v1_0 v1_1 v1_2 ⊢
    refine EvS.bind (pick_ok _ _ _ hb (by omega) (by omega)) ?_
    rintro ⟨v2, _⟩ ⟨v2_0, v2_1, v2_2, rfl⟩
    dsimp only at v2_0 v2_1 v2_2 ⊢
    refine EvS.bind (one_ok _ _ _ hb (by omega) (by omega) (by simp)) ?_
    rintro ⟨v3, _⟩ ⟨v3_m, rfl⟩
    dsimp only at v3_m ⊢
    exact inner 0 0 m.toNat 0 _ [] (by omega) (by omega) (by simp) rfl (by omega) (by omega) _ _
theorem someLoans_ok (b : List Int) (hb : BytesOk b) (m p : Int) (hm : m ≤ 8) (h0 : 0 ≤ p) (h1 : p ≤ 1000) :
    EvS (fun k => spec_someLoans.f k b p m) (fun r => r.1.length ≤ 6 ∧ ShW 8 r.1 ∧ p ≤ r.2 ∧ r.2 ≤ p + 73) := by
  simp only [spec_someLoans.f]
  refine EvS.onsome (EvS.ite (fun c => EvS.now ⟨by simp, fun e he => by simp at he, by dsimp only; omega, by dsimp only; omega⟩) (fun c => ?_))
  refine EvS.bind (one_ok _ _ _ hb (by omega) (by omega) (by simp)) ?_
  rintro ⟨v1, _⟩ ⟨v1_m, rfl⟩
  dsimp only at v1_m ⊢
  have hv : v1 ≤ (6 : Nat) := by simp at v1_m; omega
  refine EvS.mono (someLoans_l0 b hb m (by omega) 6 [] v1 _ hv (by omega) (by omega) (by simp) (fun e he => by simp at he)) (fun r hr => ?_)
  obtain ⟨g1, g2, g3, g4⟩ := hr
  simp at g1
  exact ⟨by omega, g2, by omega, by omega⟩
theorem copyInts_eq (l : List Int) (h : l.length ≤ 1000000) : spec_copyInts.f l = some l := by
  simp only [spec_copyInts.f, Option.bind_some, List.length_nil, List.nil_append]
  rw [if_pos (by omega)]
theorem anyLoans_ok (b : List Int) (hb : BytesOk b) (p : Int) (h0 : 0 ≤ p) (h1 : p ≤ 900) :
    EvS (fun k => spec_anyLoans.f k b p) (fun r => (r.1.length ≤ 6 ∧ ShW 9 r.1) ∧ 0 ≤ r.2.1 ∧ r.2.1 ≤ 13 ∧ p ≤ r.2.2 ∧ r.2.2 ≤ p + 90) := by
  simp only [spec_anyLoans.f]
  refine EvS.bind (one_ok _ _ _ hb (by omega) (by omega) (by simp)) ?_
  rintro ⟨m1, _⟩ ⟨m1_m, rfl⟩
  dsimp only at m1_m ⊢
  have hm1 : 1 ≤ m1 ∧ m1 ≤ 8 := by simp at m1_m; omega
  refine EvS.bind (someLoans_ok b hb m1 _ hm1.2 (by omega) (by omega)) ?_
  rintro ⟨l, q⟩ ⟨g1, g2, g3, g4⟩
  dsimp only at g1 g2 g3 g4 ⊢
  have g9 : ShW 9 l := fun e he => by have := g2 e he; omega
  refine EvS.ite (fun c => ?_) (fun c => EvS.now ⟨⟨g1, g9⟩, by dsimp only; omega, by dsimp only; omega, by dsimp only; omega, by dsimp only; omega⟩)
  obtain ⟨x, l', rfl⟩ : ∃ x l', l = x :: l' := by
    cases l with
    | nil => simp at c
    | cons x l' => exact ⟨x, l', rfl⟩
  have hx := g2 x List.mem_cons_self
  have hr : rd_T30 (x :: l') 0 = x := rfl
  have hset : ∀ e : S30, e.f2.length ≤ 9 → ShW 9 ((x :: l').set (0 : Int).toNat e) := by
    intro e he y hy
    rcases List.mem_cons.1 (show y ∈ e :: l' from hy) with rfl | hy
    · exact he
    · exact g9 y (List.mem_cons_of_mem _ hy)
  simp only [hr]
  refine EvS.bind (pick_ok _ _ _ hb (by omega) (by omega)) ?_
  rintro ⟨v1, _⟩ ⟨v1_0, v1_1, v1_2, rfl⟩
  dsimp only at v1_0 v1_1 v1_2 ⊢
  refine EvS.ite (fun _ => ?_) (fun _ => EvS.ite (fun _ => ?_) (fun _ => EvS.ite (fun _ => ?_) (fun _ => ?_)))
  · refine EvS.bind (one_ok _ _ _ hb (by omega) (by omega) (by simp)) ?_
    rintro ⟨v3, _⟩ ⟨v3_m, rfl⟩
    dsimp only at v3_m ⊢
    exact EvS.pos (by first | (simp; done) | (simp; omega)) (EvS.now ⟨⟨by simpa using g1, hset _ (by dsimp only; omega)⟩, by dsimp only; omega, by dsimp only; omega, by dsimp only; omega, by dsimp only; omega⟩)
  · refine EvS.pos (by first | (simp; done) | (simp; omega)) (EvS.call (copyInts_eq _ (by omega)) ?_)
    refine EvS.bind (one_ok _ _ _ hb (by omega) (by omega) (by simp)) ?_
    rintro ⟨v3, _⟩ ⟨v3_m, rfl⟩
    dsimp only at v3_m ⊢
    exact EvS.pos (by omega) (EvS.now ⟨⟨by simpa using g1, hset _ (by simp; omega)⟩, by dsimp only; omega, by dsimp only; omega, by dsimp only; omega, by dsimp only; omega⟩)
  · refine EvS.bind (one_ok _ _ _ hb (by omega) (by omega) (by simp)) ?_
    rintro ⟨v3, _⟩ ⟨v3_m, rfl⟩
    dsimp only at v3_m ⊢
    have hv : 0 ≤ v3 ∧ v3 ≤ 13 := by simp at v3_m; omega
    exact EvS.now ⟨⟨g1, g9⟩, hv.1, hv.2, by dsimp only; omega, by dsimp only; omega⟩
  · exact EvS.now ⟨⟨g1, g9⟩, by dsimp only; omega, by dsimp only; omega, by dsimp only; omega, by dsimp only; omega⟩
theorem sh_of {l : List S30} (h : l.length ≤ 6) (g : ShW 9 l) : Sh l := ⟨by omega, fun e he => by have := g e he; omega⟩
/-! ## Sums by member. -/
theorem tot_setN (xs : List Int) : ∀ (n : Nat) (v : Int), n < xs.length → tot (xs.set n v) = tot xs - xs.getD n 0 + v := by
  induction xs with
  | nil => intro n v h; simp at h
  | cons x xs ih =>
    intro n v h
    cases n with
    | zero => simp [tot]; omega
    | succ n =>
      have := ih n v (by simpa using h)
      simp only [List.set_cons_succ, tot, List.getD_cons_succ]
      omega
theorem tot_set (xs : List Int) (i v : Int) (h0 : 0 ≤ i) (h1 : i < xs.length) : tot (xs.set i.toNat v) = tot xs - rd xs i + v := tot_setN xs i.toNat v (by omega)
theorem tot_zeros (n : Nat) : tot (List.replicate n 0) = 0 := by
  induction n with
  | zero => rfl
  | succ n ih => simp [List.replicate_succ, tot, ih]
def lentL : List S30 → Int
  | [] => 0
  | e :: l => e.f1 + lentL l
theorem lentL_bound {m : Int} (l : List S30) (h : ∀ e ∈ l, VL m e) : 0 ≤ lentL l ∧ lentL l ≤ 100000 * (l.length : Int) := by
  induction l with
  | nil => simp [lentL]
  | cons e l ih =>
    have h1 := ih (fun x hx => h x (List.mem_cons_of_mem _ hx))
    have h2 := (h e List.mem_cons_self).2.1
    simp only [lentL, List.length_cons]
    omega
/-- r tells f for each member, and in all s. -/
structure Tab (m : Int) (f : Int → Int) (s : Int) (r : List Int) : Prop where
  len : (r.length : Int) = m
  val : ∀ j : Int, 0 ≤ j → j < m → rd r j = f j
  sum : tot r = s
theorem Tab.eq {m s : Int} {f : Int → Int} {r q : List Int} (h : Tab m f s r) (g : Tab m f s q) : r = q :=
  list_ext (by have := h.len; have := g.len; omega) (fun i h0 h1 => by have := h.len; rw [h.val i h0 (by omega), g.val i h0 (by omega)])
theorem Tab.mem {m s B : Int} {f : Int → Int} {r : List Int} (h : Tab m f s r) (hf : ∀ j, 0 ≤ f j ∧ f j ≤ B) : ∀ x ∈ r, 0 ≤ x ∧ x ≤ B := by
  intro x hx
  obtain ⟨n, hn, rfl⟩ := List.mem_iff_getElem.1 hx
  have := h.val n (by omega) (by have := h.len; omega)
  have e : rd r n = r[n] := by unfold rd; rw [List.getD_eq_getElem?_getD]; simp [hn]
  rw [← e, this]; exact hf _
def owed : List S30 → Int → Int
  | [], _ => 0
  | e :: l, j => (if e.f0 = j then e.f1 else 0) + owed l j
theorem owed_bound {m : Int} (l : List S30) (h : ∀ e ∈ l, VL m e) (j : Int) : 0 ≤ owed l j ∧ owed l j ≤ 100000 * (l.length : Int) := by
  induction l with
  | nil => simp [owed]
  | cons e l ih =>
    have h1 := ih (fun x hx => h x (List.mem_cons_of_mem _ hx))
    have h2 := (h e List.mem_cons_self).2.1
    simp only [owed, List.length_cons]
    split <;> omega
/-! ## Exposures. -/
def partsFrom (n p : Int) : Int → List Int → Int → Int
  | _, [], _ => 0
  | i, x :: xs, j => (if x = j then sp n p i else 0) + partsFrom n p (i + 1) xs j
def expo : List S30 → Int → Int
  | [], _ => 0
  | e :: l, j => partsFrom e.f1 e.f2.length 0 e.f2 j + expo l j
theorem expo_append (a b : List S30) (j : Int) : expo (a ++ b) j = expo a j + expo b j := by
  induction a with
  | nil => simp [expo]
  | cons e a ih => simp only [List.cons_append, expo, ih]; omega
theorem partsFrom_bound {n p : Int} (hn : 0 ≤ n) (hp : 1 ≤ p) (xs : List Int) : ∀ i j : Int, 0 ≤ partsFrom n p i xs j ∧ partsFrom n p i xs j ≤ (n + 1) * xs.length := by
  induction xs with
  | nil => intro i j; simp [partsFrom]
  | cons x xs ih =>
    intro i j
    have a := ih (i + 1) j
    have b := sp_range (i := i) hn hp
    simp only [partsFrom, List.length_cons, Int.natCast_add, Int.mul_add]
    split <;> omega
theorem expo_bound {m : Int} (hm : m ≤ 12) (l : List S30) (h : ∀ e ∈ l, VL m e) (j : Int) : 0 ≤ expo l j ∧ expo l j ≤ 1300000 * (l.length : Int) := by
  induction l with
  | nil => simp [expo]
  | cons e l ih =>
    have h1 := ih (fun x hx => h x (List.mem_cons_of_mem _ hx))
    have he := h e List.mem_cons_self
    have h2 := he.2.1
    have h3 := he.2.2.1
    have h4 : (e.f2.length : Int) ≤ 12 := by
      rcases diff_len he.2.2.2.1 with g | g
      · omega
      · rw [g] at h3; simp at h3
    have h5 := partsFrom_bound (n := e.f1) (p := e.f2.length) (by omega) (by omega) e.f2 0 j
    have h6 : (e.f1 + 1) * (e.f2.length : Int) ≤ 100001 * 12 := Int.mul_le_mul (by omega) h4 (by omega) (by omega)
    simp only [expo, List.length_cons]
    omega
theorem impl_expo_l1 (xs : List S30) (m : Int) (hv : VLs xs m) (y : S30) (ys : List S30) (i : Int) (h : At xs i (y :: ys)) (parts : List Int) (hp : IsSplit y.f1 y.f2.length parts)
    (K : ∀ s : List Int, (s.length : Int) = m → (∀ j : Int, 0 ≤ j → j < m → rd s j + expo ys j = expo xs j) → tot s + lentL ys = lentL xs → EvS (fun k => impl_ExposureOf.l0 k s xs xs.length (wrap64 (i + 1))) (Tab m (expo xs) (lentL xs))) (zs : List Int) : ∀ (q : Int) (s : List Int), At y.f2 q zs → (s.length : Int) = m → (∀ j : Int, 0 ≤ j → j < m → rd s j + (partsFrom y.f1 y.f2.length q zs j + expo ys j) = expo xs j) → tot s + (y.f1 - spSum y.f1 y.f2.length q) + lentL ys = lentL xs →
    EvS (fun k => impl_ExposureOf.l1 k s xs xs.length i parts parts.length q y.f0 y.f1 y.f2) (Tab m (expo xs) (lentL xs)) := by
  have hxl := hv.2.1
  have hy := hv.2.2 y h.mem
  have hpl := hp.len
  have hy2 := hy.2.1
  have hy3 := hy.2.2.1
  have hbx := expo_bound hv.1.2 xs hv.2.2
  have hby := expo_bound hv.1.2 ys (fun e he => hv.2.2 e (h.sub e (List.mem_cons_of_mem _ he)))
  have hysl : ys.length ≤ 16 := by have a := h.len; have b := h.nonneg; simp only [List.length_cons] at a; omega
  induction zs with
  | nil =>
    intro q s hq h8 hs ht
    have := hq.ge
    refine EvS.step (fun k => by rw [impl_ExposureOf.l1]) ?_
    refine EvS.neg (by omega) (K s h8 (fun j h0 h1 => by have := hs j h0 h1; simp [partsFrom] at this; exact this) ?_)
    rw [this, spSum_all _ _ (by omega)] at ht; omega
  | cons z zs ih =>
    intro q s hq h8 hs ht
    have q0 := hq.nonneg
    have q1 := hq.lt
    have hq12 : (y.f2.length : Int) ≤ 12 := by
      rcases diff_len hy.2.2.2.1 with g | g
      · have := hv.1.2; omega
      · rw [g] at hy3; simp at hy3
    have hz := hy.2.2.2.1.2 z hq.mem
    have hsp := sp_range (n := y.f1) (p := y.f2.length) (i := q) (by omega) (by omega)
    have hpb := partsFrom_bound (n := y.f1) (p := y.f2.length) (by omega) (by omega) (z :: zs) q
    have hzl : ((z :: zs).length : Int) ≤ 12 := by
      have a := hq.len
      rcases diff_len hy.2.2.2.1 with g | g
      · have := hv.1.2; omega
      · rw [g] at hy3; simp at hy3
    have hmul : (y.f1 + 1) * ((z :: zs).length : Int) ≤ 100001 * 12 := Int.mul_le_mul (by omega) hzl (by omega) (by omega)
    refine EvS.step (fun k => by rw [impl_ExposureOf.l1]) ?_
    refine EvS.pos (by omega) (EvS.pos q0 (EvS.pos (by omega) (EvS.pos q1 ?_)))
    rw [At.rd hq, hp.val q q0 q1]
    have b1 : -100000000 ≤ rd s z ∧ rd s z ≤ 100000000 := by have := hs z hz.1 hz.2; have := hbx z; have := hby z; have := hpb z; omega
    refine EvS.pos hz.1 (EvS.pos (by omega) ?_)
    rw [w64 (x := rd s z + sp y.f1 y.f2.length q) (by omega) (by omega), w64 (x := q + 1) (by omega) (by omega)]
    refine ih _ _ hq.next (by simpa using h8) (fun j h0 h1 => ?_) ?_
    · rw [rd_set _ _ _ _ hz.1 (by omega) h0]
      have := hs j h0 h1
      simp only [partsFrom] at this
      by_cases c : z = j
      · rw [if_pos c]; rw [if_pos c] at this; rw [c] at *; omega
      · rw [if_neg c]; rw [if_neg c] at this; omega
    · rw [tot_set _ _ _ hz.1 (by omega), spSum_succ]; omega
theorem impl_expo_l0 (xs : List S30) (m : Int) (hv : VLs xs m) (ys : List S30) : ∀ (i : Int) (s : List Int), At xs i ys → (s.length : Int) = m → (∀ j : Int, 0 ≤ j → j < m → rd s j + expo ys j = expo xs j) → tot s + lentL ys = lentL xs → EvS (fun k => impl_ExposureOf.l0 k s xs xs.length i) (Tab m (expo xs) (lentL xs)) := by
  have hxl := hv.2.1
  induction ys with
  | nil =>
    intro i s h h8 hs ht
    refine EvS.step (fun k => by rw [impl_ExposureOf.l0]) ?_
    exact EvS.neg (by have := h.ge; omega) (EvS.now ⟨h8, fun j h0 h1 => by have := hs j h0 h1; simp [expo] at this; exact this, by simp [lentL] at ht; exact ht⟩)
  | cons y ys ih =>
    intro i s h h8 hs ht
    have hy := hv.2.2 y h.mem
    have hy2 := hy.2.1
    have hy3 := hy.2.2.1
    have hy4 : (y.f2.length : Int) ≤ 12 := by
      rcases diff_len hy.2.2.2.1 with g | g
      · have := hv.1.2; omega
      · rw [g] at hy3; simp at hy3
    refine EvS.step (fun k => by rw [impl_ExposureOf.l0]) ?_
    refine EvS.pos h.lt (EvS.pos h.nonneg (EvS.pos h.lt ?_))
    rw [at_rdL h]
    refine EvS.bind (splitEven_ok y.f1 y.f2.length (by omega) (by omega) (by omega) hy4) (fun parts hp => ?_)
    refine impl_expo_l1 xs m hv y ys i h parts hp (fun s g1 g2 g3 => ih _ s (h.wnext (by omega)) g1 g2 g3) y.f2 0 s (At.zero _) h8 (fun j h0 h1 => by have := hs j h0 h1; simp only [expo] at this; omega) ?_
    rw [spSum_zero _ _ (by omega) (by omega)]; simp only [lentL] at ht; omega
theorem impl_ExposureOf_ok (xs : List S30) (hl : Sh xs) (m : Int) : EvS (fun k => impl_ExposureOf.f k xs m) (fun r => if VLs xs m then Tab m (expo xs) (lentL xs) r else r = []) := by
  simp only [impl_ExposureOf.f]
  refine EvS.bindv (impl_ValidLoans_ok xs hl m) ?_
  by_cases hv : VLs xs m
  · simp only [if_pos hv]
    have hm := hv.1
    exact EvS.pos (decide_eq_true hv) (EvS.pos (by omega) (EvS.pos (by omega) (impl_expo_l0 xs m hv xs 0 _ (At.zero xs) (by simp; omega) (fun j _ _ => by rw [rd_zeros]; omega) (by rw [tot_zeros]; omega))))
  · simp only [if_neg hv]
    exact EvS.neg (by simp [hv]) (EvS.now rfl)
theorem spec_expo_l1 (xs : List S30) (m : Int) (hv : VLs xs m) (y : S30) (ys : List S30) (i : Int) (h : At xs i (y :: ys)) (parts : List Int) (hp : IsSplit y.f1 y.f2.length parts)
    (K : ∀ s : List Int, (s.length : Int) = m → (∀ j : Int, 0 ≤ j → j < m → rd s j + expo ys j = expo xs j) → tot s + lentL ys = lentL xs → EvS (fun k => spec_exposures.l0 k xs s (wrap64 (i + 1))) (Tab m (expo xs) (lentL xs))) (zs : List Int) : ∀ (q : Int) (s : List Int), At y.f2 q zs → (s.length : Int) = m → (∀ j : Int, 0 ≤ j → j < m → rd s j + (partsFrom y.f1 y.f2.length q zs j + expo ys j) = expo xs j) → tot s + (y.f1 - spSum y.f1 y.f2.length q) + lentL ys = lentL xs →
    EvS (fun k => spec_exposures.l1 k xs s i parts q) (Tab m (expo xs) (lentL xs)) := by
  have hxl := hv.2.1
  have hy := hv.2.2 y h.mem
  have hpl := hp.len
  have hy2 := hy.2.1
  have hy3 := hy.2.2.1
  have hbx := expo_bound hv.1.2 xs hv.2.2
  have hby := expo_bound hv.1.2 ys (fun e he => hv.2.2 e (h.sub e (List.mem_cons_of_mem _ he)))
  have hysl : ys.length ≤ 16 := by have a := h.len; have b := h.nonneg; simp only [List.length_cons] at a; omega
  induction zs with
  | nil =>
    intro q s hq h8 hs ht
    have := hq.ge
    refine EvS.step (fun k => by rw [spec_exposures.l1]) ?_
    refine EvS.neg (by omega) (K s h8 (fun j h0 h1 => by have := hs j h0 h1; simp [partsFrom] at this; exact this) ?_)
    rw [this, spSum_all _ _ (by omega)] at ht; omega
  | cons z zs ih =>
    intro q s hq h8 hs ht
    have q0 := hq.nonneg
    have q1 := hq.lt
    have hq12 : (y.f2.length : Int) ≤ 12 := by
      rcases diff_len hy.2.2.2.1 with g | g
      · have := hv.1.2; omega
      · rw [g] at hy3; simp at hy3
    have hz := hy.2.2.2.1.2 z hq.mem
    have hsp := sp_range (n := y.f1) (p := y.f2.length) (i := q) (by omega) (by omega)
    have hpb := partsFrom_bound (n := y.f1) (p := y.f2.length) (by omega) (by omega) (z :: zs) q
    have hzl : ((z :: zs).length : Int) ≤ 12 := by
      have a := hq.len
      rcases diff_len hy.2.2.2.1 with g | g
      · have := hv.1.2; omega
      · rw [g] at hy3; simp at hy3
    have hmul : (y.f1 + 1) * ((z :: zs).length : Int) ≤ 100001 * 12 := Int.mul_le_mul (by omega) hzl (by omega) (by omega)
    refine EvS.step (fun k => by rw [spec_exposures.l1]) ?_
    rw [at_rdL h]
    refine EvS.pos (by omega) (EvS.pos h.nonneg (EvS.pos h.lt (EvS.pos q0 (EvS.pos q1 ?_))))
    rw [At.rd hq, hp.val q q0 q1]
    have b1 : -100000000 ≤ rd s z ∧ rd s z ≤ 100000000 := by have := hs z hz.1 hz.2; have := hbx z; have := hby z; have := hpb z; omega
    refine EvS.pos hz.1 (EvS.pos (by omega) ?_)
    rw [w64 (x := rd s z + sp y.f1 y.f2.length q) (by omega) (by omega), w64 (x := q + 1) (by omega) (by omega)]
    refine ih _ _ hq.next (by simpa using h8) (fun j h0 h1 => ?_) ?_
    · rw [rd_set _ _ _ _ hz.1 (by omega) h0]
      have := hs j h0 h1
      simp only [partsFrom] at this
      by_cases c : z = j
      · rw [if_pos c]; rw [if_pos c] at this; rw [c] at *; omega
      · rw [if_neg c]; rw [if_neg c] at this; omega
    · rw [tot_set _ _ _ hz.1 (by omega), spSum_succ]; omega
theorem spec_expo_l0 (xs : List S30) (m : Int) (hv : VLs xs m) (ys : List S30) : ∀ (i : Int) (s : List Int), At xs i ys → (s.length : Int) = m → (∀ j : Int, 0 ≤ j → j < m → rd s j + expo ys j = expo xs j) → tot s + lentL ys = lentL xs → EvS (fun k => spec_exposures.l0 k xs s i) (Tab m (expo xs) (lentL xs)) := by
  have hxl := hv.2.1
  induction ys with
  | nil =>
    intro i s h h8 hs ht
    refine EvS.step (fun k => by rw [spec_exposures.l0]) ?_
    exact EvS.neg (by have := h.ge; omega) (EvS.now ⟨h8, fun j h0 h1 => by have := hs j h0 h1; simp [expo] at this; exact this, by simp [lentL] at ht; exact ht⟩)
  | cons y ys ih =>
    intro i s h h8 hs ht
    have hy := hv.2.2 y h.mem
    have hy2 := hy.2.1
    have hy3 := hy.2.2.1
    have hy4 : (y.f2.length : Int) ≤ 12 := by
      rcases diff_len hy.2.2.2.1 with g | g
      · have := hv.1.2; omega
      · rw [g] at hy3; simp at hy3
    refine EvS.step (fun k => by rw [spec_exposures.l0]) ?_
    refine EvS.pos h.lt (EvS.pos h.nonneg ?_)
    rw [at_rdL h]
    refine EvS.bind (split_ok y.f1 y.f2.length (by omega) (by omega) (by omega) hy4) (fun parts hp => ?_)
    refine spec_expo_l1 xs m hv y ys i h parts hp (fun s g1 g2 g3 => ih _ s (h.wnext (by omega)) g1 g2 g3) y.f2 0 s (At.zero _) h8 (fun j h0 h1 => by have := hs j h0 h1; simp only [expo] at this; omega) ?_
    rw [spSum_zero _ _ (by omega) (by omega)]; simp only [lentL] at ht; omega
theorem spec_ExposureOf_ok (xs : List S30) (hl : Sh xs) (m : Int) (h13 : 0 ≤ m ∧ m ≤ 1000) : EvS (fun k => spec_ExposureOf.f k xs m) (fun r => if VLs xs m then Tab m (expo xs) (lentL xs) r else r = []) := by
  simp only [spec_ExposureOf.f, spec_exposures.f]
  refine EvS.bindv (spec_validLoans_ok xs hl m h13) ?_
  by_cases hv : VLs xs m
  · simp only [if_pos hv]
    have hm := hv.1
    exact EvS.pos (decide_eq_true hv) (EvS.bind (EvS.pos (by omega) (EvS.pos (by omega) (spec_expo_l0 xs m hv xs 0 _ (At.zero xs) (by simp; omega) (fun j _ _ => by rw [rd_zeros]; omega) (by rw [tot_zeros]; omega)))) (fun r hr => EvS.now hr))
  · simp only [if_neg hv]
    exact EvS.neg (by simp [hv]) (EvS.now rfl)
theorem draw_ok (l : List Int) (hl : ∀ x ∈ l, 0 ≤ x ∧ x ≤ 255) : EvS (fun k => spec_DrawExposureOf.f k l) (fun r => Sh r.1 ∧ 0 ≤ r.2 ∧ r.2 ≤ 13) := by
  simp only [spec_DrawExposureOf.f]
  obtain ⟨b, be, hb⟩ := newReader_ok l hl
  refine EvS.call be ?_
  dsimp only
  refine EvS.bind (anyLoans_ok b hb 0 (by omega) (by omega)) ?_
  rintro ⟨es, m, q⟩ ⟨⟨g1, g2⟩, g3, g4, g5, g6⟩
  exact EvS.now ⟨sh_of g1 g2, g3, g4⟩
theorem halves_l0 (m : Int) (a b : List S30) (hm : m ≤ 12) (ha : ∀ e ∈ a, VL m e) (hb : ∀ e ∈ b, VL m e) (la : a.length ≤ 16) (lb : b.length ≤ 16) (sa sb s : Int) (r p q : List Int) (hr : Tab m (expo (a ++ b)) s r) (hp : Tab m (expo a) sa p) (hq : Tab m (expo b) sb q) (ys : List Int) : ∀ i : Int, At r i ys → EvS (fun k => laws_FnExposureOf.l0 k r p q i) (· = true) := by
  have l1 := hr.len
  have l2 := hp.len
  have l3 := hq.len
  induction ys with
  | nil =>
    intro i h
    refine EvS.step (fun k => by rw [laws_FnExposureOf.l0]) ?_
    exact EvS.neg (by have := h.ge; omega) (EvS.now rfl)
  | cons y ys ih =>
    intro i h
    have h0 := h.nonneg
    have h1 := h.lt
    have e1 := hr.val i h0 (by omega)
    have e2 := hp.val i h0 (by omega)
    have e3 := hq.val i h0 (by omega)
    have b1 := expo_bound hm a ha i
    have b2 := expo_bound hm b hb i
    rw [expo_append] at e1
    refine EvS.step (fun k => by rw [laws_FnExposureOf.l0]) ?_
    refine EvS.pos h1 (EvS.pos h0 (EvS.pos (by omega) (EvS.pos (by omega) (EvS.pos ?_ (ih _ (h.wnext (by omega)))))))
    rw [e1, e2, e3, w64 (by omega) (by omega)]
theorem FnExposureOf : laws_FnExposureOf.Pure := by
  intro l0 _ _ hw
  refine EvS.holds ?_
  simp only [laws_FnExposureOf.f]
  refine EvS.ite (fun _ => EvS.now rfl) (fun _ => ?_)
  refine EvS.bind (draw_ok l0 (fun x hx => u8_range (hw x hx))) ?_
  rintro ⟨l, m⟩ ⟨hl, h0, h13⟩
  dsimp only at hl h0 h13 ⊢
  refine EvS.bind (impl_ExposureOf_ok l hl m) (fun r1 hr1 => EvS.bind (spec_ExposureOf_ok l hl m (by omega)) (fun r2 hr2 => ?_))
  by_cases hv : VLs l m
  · simp only [if_pos hv] at hr1 hr2
    obtain rfl := hr1.eq hr2
    have hlen := hr1.len
    have hm := hv.1
    have hll := hv.2.1
    refine EvS.bindv (equalInts_ok r1 (by omega)) (EvS.pos rfl ?_)
    rw [beq_dec, decide_eq_false (show ¬ (r1.length : Int) = 0 by omega)]
    refine EvS.step (fun k => by rw [laws_FnExposureOf.j0]) ?_
    rw [w64 (x := (l.length : Int) / 2) (by omega) (by omega)]
    refine EvS.neg (by simp) (EvS.pos (by omega) (EvS.pos (by omega) ?_))
    generalize ((l.length : Int) / 2).toNat = n
    have va : VLs (l.take n) m := ⟨hm, by rw [List.length_take]; omega, fun e he => hv.2.2 e (List.mem_of_mem_take he)⟩
    have vb : VLs (l.drop n) m := ⟨hm, by rw [List.length_drop]; omega, fun e he => hv.2.2 e (List.mem_of_mem_drop he)⟩
    have sa : Sh (l.take n) := ⟨by have := va.2.1; omega, fun e he => hl.2 e (List.mem_of_mem_take he)⟩
    have sb : Sh (l.drop n) := ⟨by have := vb.2.1; omega, fun e he => hl.2 e (List.mem_of_mem_drop he)⟩
    refine EvS.bind (impl_ExposureOf_ok _ sa m) (fun p hp => EvS.bind (impl_ExposureOf_ok _ sb m) (fun q hq => ?_))
    simp only [if_pos va] at hp
    simp only [if_pos vb] at hq
    rw [← List.take_append_drop n l] at hr1
    exact halves_l0 m _ _ hm.2 va.2.2 vb.2.2 va.2.1 vb.2.1 _ _ _ r1 p q hr1 hp hq r1 0 (At.zero _)
  · simp only [if_neg hv] at hr1 hr2
    subst hr1 hr2
    refine EvS.bindv (equalInts_ok [] (by simp)) (EvS.pos rfl ?_)
    refine EvS.step (fun k => by rw [laws_FnExposureOf.j0]) ?_
    refine EvS.pos rfl (EvS.bind (spec_ExposureOf_ok l hl m (by omega)) (fun r3 hr3 => ?_))
    simp only [if_neg hv] at hr3
    subst hr3
    exact EvS.bindv (equalInts_ok [] (by simp)) (EvS.now rfl)
end Go.Proofs.Ytehomgbacebgeaa.Pure
