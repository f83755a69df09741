/- Points: PointsOf is what the reference tells; who has points, has them of those preferred to; and they add up. -/
import Derived.Test.YtlagpccnhbobiaaPFnPointsOfx0
import Derived.Test.YtlagpccnhbobiaaMFnPointsOfx1
import Derived.Test.YtlagpccnhbobiaaMFnPointsOfx2
import Derived.Test.YtlagpccnhbobiaaMFnPointsOfx3
import Derived.Test.YtlagpccnhbobiaaMFnPointsOfx4
import Derived.Test.YtlagpccnhbobiaaMFnPointsOfx5
import Derived.Test.YtlagpccnhbobiaaMFnPointsOfx6
import Derived.Test.YtlagpccnhbobiaaBase
set_option linter.unusedVariables false
set_option linter.unusedSimpArgs false
namespace Go.Proofs.Ytlagpccnhbobiaa.Pure
open Go.RowKit Go.Proofs.Ytlagpccnhbobiaa.PFnPointsOf Go.Proofs.YtlagpccnhbobiaaW.PrintWords Go.Proofs.YtlagpccnhbobiaaW.PrintLast Go.Proofs.YtlagpccnhbobiaaW.PrintMore Go.Proofs.Ytlagpccnhbobiaa.Base
theorem u8_range {x : Int} (h : (Lit.int .u8 x).wf = true) : 0 ≤ x ∧ x ≤ 255 := by
  simp [Lit.wf, IntKind.min, IntKind.max, IntKind.bits, IntKind.signed] at h
  omega
/-! ## The reader that draws. -/
structure BytesOk (b : List Int) : Prop where
  len : b.length ≤ 2000
  mem : ∀ x ∈ b, 0 ≤ x ∧ x ≤ 255

theorem newReader_ok (l : List Int) (h : ∀ x ∈ l, 0 ≤ x ∧ x ≤ 255) : ∃ b, spec_newReader.f l = some (b, 0) ∧ BytesOk b := by
  unfold spec_newReader.f
  by_cases c : (l.length : Int) > 2000
  · rw [if_pos c, if_pos (by omega)]
    exact ⟨_, rfl, by rw [List.length_take]; omega, fun x hx => h x (List.mem_of_mem_take hx)⟩
  · rw [if_neg c]
    exact ⟨_, rfl, by omega, h⟩

theorem pick_ok (b : List Int) (p n : Int) (hb : BytesOk b) (h0 : 0 ≤ p) (h1 : p ≤ 100000) :
    EvS (fun k => spec_reader_pick.f k b p n) (fun r => 0 ≤ r.1 ∧ (1 ≤ n → r.1 < n) ∧ (n < 1 → r.1 = 0) ∧ r.2 = p + 1) := by
  have hp : wrap64 (p + 1) = p + 1 := w64 (by omega) (by omega)
  have hq : wrap64 (p + 1 - 1) = p := by rw [show p + 1 - 1 = p by omega]; exact w64 (by omega) (by omega)
  have hbl := hb.len
  simp only [spec_reader_pick.f]
  rw [hp]
  by_cases hn : n < 1
  · refine EvS.pos hn ?_
    refine EvS.step (fun k => by rw [spec_reader_pick.j0]) ?_
    refine EvS.pos rfl ?_
    exact EvS.now ⟨by simp, fun h => by omega, fun _ => rfl, rfl⟩
  · refine EvS.neg hn ?_
    refine EvS.step (fun k => by rw [spec_reader_pick.j0]) ?_
    simp only [hq]
    by_cases hl : b.length = 0
    · refine EvS.pos (by simp [hl]) ?_
      exact EvS.now ⟨by simp, fun h => by simp; omega, fun _ => rfl, rfl⟩
    · refine EvS.neg (by simp; intro h; exact hl (by simp [h])) ?_
      by_cases hpl : p < b.length
      · refine EvS.pos hpl (EvS.pos h0 (EvS.neg (by omega) ?_))
        have hr := rd_range hb.mem p h0 hpl
        rw [w64 (by omega) (by omega)]
        have ht := tmod_range (rd b p) n (by omega) (by omega)
        exact EvS.now ⟨ht.1, fun _ => ht.2, fun h => by omega, rfl⟩
      · refine EvS.neg hpl (EvS.neg (by omega) ?_)
        have e1 : wrap64 (wrap64 (p * 7) + 3) = p * 7 + 3 := by
          rw [w64 (x := p * 7) (by omega) (by omega)]; exact w64 (by omega) (by omega)
        simp only [e1]
        have i1 := tmod_range p b.length h0 (by omega)
        have i2 := tmod_range (p * 7 + 3) b.length (by omega) (by omega)
        refine EvS.pos i1.1 (EvS.pos i1.2 (EvS.pos i2.1 (EvS.pos i2.2 (EvS.neg (by omega) ?_))))
        have r1 := rd_range hb.mem _ i1.1 i1.2
        have r2 := rd_range hb.mem _ i2.1 i2.2
        generalize rd b (Int.tmod p b.length) = v1 at r1 ⊢
        generalize rd b (Int.tmod (p * 7 + 3) b.length) = v2 at r2 ⊢
        have d0 : 0 ≤ Int.tdiv p b.length ∧ Int.tdiv p b.length ≤ p := by
          rw [tdiv_pos _ _ h0]
          exact ⟨Int.ediv_nonneg h0 (by omega), Int.ediv_le_self _ h0⟩
        generalize Int.tdiv p b.length = dv at d0 ⊢
        simp (disch := omega) only [w64]
        have hx0 : 0 ≤ v1 * 131 + v2 * 1117 + p * 29 + dv * 53 := by omega
        have hx1 : v1 * 131 + v2 * 1117 + p * 29 + dv * 53 < 1000000000 := by omega
        generalize v1 * 131 + v2 * 1117 + p * 29 + dv * 53 = X at hx0 hx1 ⊢
        rw [tdiv_pos X 64 hx0, w64 (x := X / 64) (by omega) (by omega)]
        have ht := tmod_range (Go.bits .xor .i64 X (X / 64)) n (xor_nonneg _ _ (by omega) (by omega) (by omega) (by omega)) (by omega)
        exact EvS.now ⟨ht.1, fun _ => ht.2, fun h => by omega, rfl⟩

theorem one_ok (b : List Int) (p : Int) (l : List Int) (hb : BytesOk b) (h0 : 0 ≤ p) (h1 : p ≤ 100000) (hl : 1 ≤ l.length) :
    EvS (fun k => spec_reader_one.f k b p l) (fun r => r.1 ∈ l ∧ r.2 = p + 1) := by
  simp only [spec_reader_one.f]
  refine EvS.bind (pick_ok b p l.length hb h0 h1) ?_
  rintro ⟨v, q⟩ ⟨a1, a2, a3, a4⟩
  have a5 := a2 (by omega)
  refine EvS.pos a1 (EvS.pos a5 ?_)
  exact EvS.now ⟨rd_mem _ a1 a5, a4⟩
/-! ## Lists of numbers. -/
theorem inRange_eq (n lo hi : Int) : spec_inRange.f n lo hi = some (decide (lo ≤ n ∧ n ≤ hi)) := by
  unfold spec_inRange.f
  split
  · exact congrArg some (decide_eq_decide.2 (by omega))
  · exact congrArg some (decide_eq_false (by omega)).symm
def AllW (xs : List Int) (lo hi : Int) : Prop := ∀ x ∈ xs, lo ≤ x ∧ x ≤ hi
instance (xs : List Int) (lo hi : Int) : Decidable (AllW xs lo hi) := by unfold AllW; infer_instance
theorem allW_cons (y : Int) (ys : List Int) (lo hi : Int) : AllW (y :: ys) lo hi ↔ (lo ≤ y ∧ y ≤ hi) ∧ AllW ys lo hi := by
  unfold AllW; simp
/-- The first place of a number, counted from i on; -1 if it is not there. -/
def posF (v : Int) : Int → List Int → Int
  | _, [] => -1
  | i, x :: xs => if x = v then i else posF v (i + 1) xs
theorem posF_range (v : Int) (xs : List Int) : ∀ i : Int, 0 ≤ i → (v ∈ xs → i ≤ posF v i xs ∧ posF v i xs < i + xs.length) ∧ (v ∉ xs → posF v i xs = -1) := by
  induction xs with
  | nil => intro i h0; exact ⟨fun h => by simp at h, fun _ => rfl⟩
  | cons x xs ih =>
    intro i h0
    have h := ih (i + 1) (by omega)
    simp only [posF, List.length_cons]
    by_cases c : x = v
    · rw [if_pos c]; exact ⟨fun _ => by omega, fun g => absurd (by simp [c]) g⟩
    · rw [if_neg c]
      refine ⟨fun g => ?_, fun g => h.2 (fun g2 => g (List.mem_cons_of_mem _ g2))⟩
      have := h.1 ((List.mem_cons.1 g).resolve_left (fun e => c e.symm))
      omega
theorem posF_nonneg (v : Int) (xs : List Int) (i : Int) (h : 0 ≤ i) : (0 ≤ posF v i xs) ↔ v ∈ xs := by
  by_cases c : v ∈ xs
  · have := (posF_range v xs i h).1 c; exact ⟨fun _ => c, fun _ => by omega⟩
  · have := (posF_range v xs i h).2 c; exact ⟨fun g => by omega, fun g => absurd g c⟩
theorem placeIn_l0 (xs : List Int) (hl : xs.length ≤ 1099511627776) (v : Int) (ys : List Int) : ∀ i : Int, At xs i ys → EvS (fun k => spec_placeIn.l0 k xs v i) (· = posF v i ys) := by
  induction ys with
  | nil =>
    intro i h
    refine EvS.step (fun k => by rw [spec_placeIn.l0]) ?_
    exact EvS.neg (by have := h.ge; omega) (EvS.now rfl)
  | cons y ys ih =>
    intro i h
    have h1 := h.lt
    have h2 := h.nonneg
    have hw : wrap64 (i + 1) = i + 1 := w64 (by omega) (by omega)
    refine EvS.step (fun k => by rw [spec_placeIn.l0]) ?_
    refine EvS.pos h.lt (EvS.pos h.nonneg ?_)
    rw [At.rd h, hw, posF]
    by_cases c : y = v
    · rw [if_pos c]; exact EvS.pos c (EvS.now rfl)
    · rw [if_neg c]; exact EvS.neg c (ih _ h.next)
theorem placeIn_ok (xs : List Int) (hl : xs.length ≤ 1099511627776) (v : Int) : EvS (fun k => spec_placeIn.f k xs v) (· = posF v 0 xs) := by
  simp only [spec_placeIn.f]
  exact placeIn_l0 xs hl v xs 0 (At.zero xs)
theorem index_l0 (xs : List Int) (hl : xs.length ≤ 1099511627776) (v : Int) (ys : List Int) : ∀ i : Int, At xs i ys → EvS (fun k => slices_Index_int_int.l0 k xs v xs.length i) (· = posF v i ys) := by
  induction ys with
  | nil =>
    intro i h
    refine EvS.step (fun k => by rw [slices_Index_int_int.l0]) ?_
    exact EvS.neg (by have := h.ge; omega) (EvS.now rfl)
  | cons y ys ih =>
    intro i h
    have h1 := h.lt
    have h2 := h.nonneg
    have hw : wrap64 (i + 1) = i + 1 := w64 (by omega) (by omega)
    refine EvS.step (fun k => by rw [slices_Index_int_int.l0]) ?_
    refine EvS.pos h.lt (EvS.pos h.nonneg (EvS.pos h.lt ?_))
    rw [At.rd h, hw, posF]
    by_cases c : y = v
    · rw [if_pos c]; exact EvS.pos c.symm (EvS.now rfl)
    · rw [if_neg c]; exact EvS.neg (fun g => c g.symm) (ih _ h.next)
theorem index_ok (xs : List Int) (hl : xs.length ≤ 1099511627776) (v : Int) : EvS (fun k => slices_Index_int_int.f k xs v) (· = posF v 0 xs) := by
  simp only [slices_Index_int_int.f]
  exact index_l0 xs hl v xs 0 (At.zero xs)
theorem equalInts_l0 (xs : List Int) (hl : xs.length ≤ 1099511627776) (ys : List Int) : ∀ i : Int, At xs i ys → EvS (fun k => laws_equalInts.l0 k xs xs i) (· = true) := by
  induction ys with
  | nil =>
    intro i h
    refine EvS.step (fun k => by rw [laws_equalInts.l0]) ?_
    exact EvS.neg (by have := h.ge; omega) (EvS.now rfl)
  | cons y ys ih =>
    intro i h
    refine EvS.step (fun k => by rw [laws_equalInts.l0]) ?_
    exact EvS.pos h.lt (EvS.pos h.nonneg (EvS.pos h.lt (EvS.pos (by simp) (ih _ (h.wnext (by omega))))))
theorem equalInts_ok (xs : List Int) (hl : xs.length ≤ 1099511627776) : EvS (fun k => laws_equalInts.f k xs xs) (· = true) := by
  simp only [laws_equalInts.f]
  exact EvS.pos (by trivial) (equalInts_l0 xs hl xs 0 (At.zero xs))
/-- Different numbers from 0 to n - 1. -/
def Diff (xs : List Int) (n : Int) : Prop := xs.Nodup ∧ ∀ x ∈ xs, 0 ≤ x ∧ x < n
instance (xs : List Int) (n : Int) : Decidable (Diff xs n) := by unfold Diff; infer_instance
def DiffF (pre ys : List Int) (n : Int) : Prop := ys.Nodup ∧ ∀ y ∈ ys, 0 ≤ y ∧ y < n ∧ y ∉ pre
instance (pre ys : List Int) (n : Int) : Decidable (DiffF pre ys n) := by unfold DiffF; infer_instance
theorem diffF_cons (pre : List Int) (y : Int) (ys : List Int) (n : Int) : DiffF pre (y :: ys) n ↔ (0 ≤ y ∧ y < n ∧ y ∉ pre) ∧ DiffF (y :: pre) ys n := by
  unfold DiffF
  constructor
  · rintro ⟨h1, h2⟩
    have h1 := List.nodup_cons.1 h1
    refine ⟨h2 y List.mem_cons_self, h1.2, fun z hz => ?_⟩
    have := h2 z (List.mem_cons_of_mem _ hz)
    refine ⟨this.1, this.2.1, fun hm => ?_⟩
    rcases List.mem_cons.1 hm with rfl | hm
    · exact h1.1 hz
    · exact this.2.2 hm
  · rintro ⟨h1, h2, h3⟩
    refine ⟨List.nodup_cons.2 ⟨fun hm => (h3 y hm).2.2 List.mem_cons_self, h2⟩, fun z hz => ?_⟩
    rcases List.mem_cons.1 hz with rfl | hz
    · exact h1
    · have := h3 z hz
      exact ⟨this.1, this.2.1, fun hm => this.2.2 (List.mem_cons_of_mem _ hm)⟩
theorem diffF_congr {p q ys : List Int} {n : Int} (h : ∀ x, x ∈ p ↔ x ∈ q) : DiffF p ys n ↔ DiffF q ys n := by
  unfold DiffF
  simp only [h]
theorem diffF_nil (xs : List Int) (n : Int) : DiffF [] xs n ↔ Diff xs n := by
  unfold DiffF Diff; simp
theorem diff_len {xs : List Int} {n : Int} (h : Diff xs n) : (xs.length : Int) ≤ n ∨ xs = [] := by
  rcases xs with _ | ⟨x, xs⟩
  · exact .inr rfl
  · left
    have h1 : 0 ≤ n := by have := h.2 x List.mem_cons_self; omega
    have h2 : (x :: xs) ⊆ (List.range n.toNat).map (fun m : Nat => (m : Int)) := by
      intro y hy
      have := h.2 y hy
      exact List.mem_map.2 ⟨y.toNat, List.mem_range.2 (by omega), by omega⟩
    have h3 := h.1.length_le_of_subset h2
    rw [List.length_map, List.length_range] at h3
    omega
theorem differentBelow_l0 (xs : List Int) (hl : xs.length ≤ 1099511627776) (n : Int) (ys : List Int) : ∀ (i : Int) (seen : List Bool) (pre : List Int), At xs i ys → (seen.length : Int) = n → (∀ v : Int, 0 ≤ v → v < n → (rdOf false seen v = true ↔ v ∈ pre)) →
    EvS (fun k => impl_differentBelow.l0 k n seen xs xs.length i) (· = decide (DiffF pre ys n)) := by
  induction ys with
  | nil =>
    intro i seen pre h hs hv
    refine EvS.step (fun k => by rw [impl_differentBelow.l0]) ?_
    exact EvS.neg (by have := h.ge; omega) (EvS.now (by simp [DiffF]))
  | cons y ys ih =>
    intro i seen pre h hs hv
    refine EvS.step (fun k => by rw [impl_differentBelow.l0]) ?_
    refine EvS.pos h.lt (EvS.pos h.nonneg (EvS.pos h.lt ?_))
    rw [At.rd h]
    refine EvS.ite (fun c => EvS.now (decide_eq_false (fun g => by have := ((diffF_cons _ _ _ _).1 g).1; omega)).symm) (fun c1 => EvS.ite (fun c => EvS.now (decide_eq_false (fun g => by have := ((diffF_cons _ _ _ _).1 g).1; omega)).symm) (fun c2 => EvS.pos (by omega) (EvS.pos (by omega) ?_)))
    have hy := hv y (by omega) (by omega)
    refine EvS.ite (fun c => EvS.now (decide_eq_false (fun g => ((diffF_cons _ _ _ _).1 g).1.2.2 (hy.1 c))).symm) (fun c3 => ?_)
    refine EvS.mono (ih _ (seen.set y.toNat true) (y :: pre) (h.wnext (by omega)) (by simpa using hs) (fun v h0 h1 => ?_)) (fun r hr => ?_)
    · unfold rdOf
      rw [List.getD_eq_getElem?_getD, List.getElem?_set]
      by_cases e : y = v
      · subst e
        rw [if_pos rfl, if_pos (by omega)]
        exact ⟨fun _ => List.mem_cons_self, fun _ => rfl⟩
      · rw [if_neg (by omega)]
        have := hv v h0 h1
        unfold rdOf at this
        rw [List.getD_eq_getElem?_getD] at this
        rw [this, List.mem_cons]
        exact ⟨fun g => .inr g, fun g => g.resolve_left (fun e2 => e e2.symm)⟩
    · rw [hr]
      exact decide_eq_decide.2 ⟨fun g => (diffF_cons _ _ _ _).2 ⟨⟨by omega, by omega, fun hm => c3 (hy.2 hm)⟩, g⟩, fun g => ((diffF_cons _ _ _ _).1 g).2⟩
theorem differentBelow_ok (xs : List Int) (hl : xs.length ≤ 1099511627776) (n : Int) (hn : n ≤ 1099511627776) (h0 : 0 ≤ n) : EvS (fun k => impl_differentBelow.f k xs n) (· = decide (Diff xs n)) := by
  simp only [impl_differentBelow.f]
  refine EvS.ite (fun c => EvS.now (decide_eq_false (fun g => ?_)).symm) (fun c => EvS.pos h0 (EvS.pos (by omega) ?_))
  · rcases diff_len g with h | h
    · omega
    · subst h; simp at c; omega
  · refine EvS.mono (differentBelow_l0 xs hl n xs 0 _ [] (At.zero xs) (by simp; omega) (fun v _ _ => ?_)) (fun r hr => ?_)
    · unfold rdOf
      rw [List.getD_eq_getElem?_getD, List.getElem?_replicate]
      split <;> simp
    · rw [hr]
      exact decide_eq_decide.2 (diffF_nil xs n)
theorem validMembers_l0 (xs : List Int) (hl : xs.length ≤ 1099511627776) (n : Int) (hn : n ≤ 1099511627776) (h0 : 0 ≤ n) (ys : List Int) : ∀ i : Int, At xs i ys → EvS (fun k => spec_validMembers.l0 k xs n i) (· = decide (DiffF (xs.take i.toNat) ys n)) := by
  induction ys with
  | nil =>
    intro i h
    refine EvS.step (fun k => by rw [spec_validMembers.l0]) ?_
    exact EvS.neg (by have := h.ge; omega) (EvS.now (by simp [DiffF]))
  | cons y ys ih =>
    intro i h
    have h1 := h.lt
    have h2 := h.nonneg
    have hw : wrap64 (i + 1) = i + 1 := w64 (by omega) (by omega)
    refine EvS.step (fun k => by rw [spec_validMembers.l0]) ?_
    refine EvS.pos h.lt (EvS.pos h.nonneg ?_)
    rw [At.rd h, hw, w64 (x := n - 1) (by omega) (by omega)]
    refine EvS.call (inRange_eq _ _ _) (EvS.ite (fun c => EvS.pos (by omega) ?_) (fun c => EvS.now ?_))
    · have c := of_decide_eq_true c
      refine EvS.bindv (placeIn_ok _ (by rw [List.length_take]; omega) y) ?_
      have hp := posF_nonneg y (xs.take i.toNat) 0 (by omega)
      refine EvS.ite (fun g => EvS.now (decide_eq_false (fun g2 => ((diffF_cons _ _ _ _).1 g2).1.2.2 (hp.1 g))).symm) (fun g => ?_)
      refine EvS.mono (ih _ h.next) (fun r hr => ?_)
      rw [hr]
      refine decide_eq_decide.2 (Iff.trans (diffF_congr (q := y :: xs.take i.toNat) (fun x => ?_)) ⟨fun g2 => (diffF_cons _ _ _ _).2 ⟨⟨c.1, by omega, fun hm => g (hp.2 hm)⟩, g2⟩, fun g2 => ((diffF_cons _ _ _ _).1 g2).2⟩)
      simp only [h.take, List.mem_append, List.mem_cons, List.not_mem_nil, or_false]
      exact or_comm
    · have c := ndec c
      exact (decide_eq_false (fun g => c (by have := ((diffF_cons _ _ _ _).1 g).1; omega))).symm
theorem validMembers_ok (xs : List Int) (hl : xs.length ≤ 1099511627776) (n : Int) (hn : n ≤ 1099511627776) (h0 : 0 ≤ n) : EvS (fun k => spec_validMembers.f k xs n) (· = decide (Diff xs n)) := by
  simp only [spec_validMembers.f]
  refine EvS.mono (validMembers_l0 xs hl n hn h0 xs 0 (At.zero xs)) (fun r hr => ?_)
  rw [hr]
  exact decide_eq_decide.2 (diffF_nil xs n)
/-! ## Bodies that vote. -/
def tot : List Int → Int
  | [] => 0
  | x :: xs => x + tot xs
theorem tot_range {xs : List Int} {hi : Int} (h0 : 0 ≤ hi) (h : AllW xs 0 hi) : 0 ≤ tot xs ∧ tot xs ≤ xs.length * hi := by
  induction xs with
  | nil => simp [tot]
  | cons x xs ih =>
    have h1 := (allW_cons _ _ _ _).1 h
    have h2 := ih h1.2
    simp only [tot, List.length_cons, Int.natCast_add, Int.add_mul]
    omega
theorem tot_bound {xs : List Int} (h : ∀ x ∈ xs, -1000000000000 ≤ x ∧ x ≤ 1000000000000) : -(1000000000000 * (xs.length : Int)) ≤ tot xs ∧ tot xs ≤ 1000000000000 * xs.length := by
  induction xs with
  | nil => simp [tot]
  | cons x xs ih =>
    have h1 := h x List.mem_cons_self
    have h2 := ih (fun y hy => h y (List.mem_cons_of_mem _ hy))
    simp only [tot, List.length_cons]
    omega
theorem laws_total_l0 (xs : List Int) (hl : xs.length ≤ 1000) (hx : ∀ x ∈ xs, -1000000000000 ≤ x ∧ x ≤ 1000000000000) (ys : List Int) : ∀ (i acc : Int), At xs i ys → acc + tot ys = tot xs → EvS (fun k => laws_total.l0 k xs acc i) (· = tot xs) := by
  induction ys with
  | nil =>
    intro i acc h e
    refine EvS.step (fun k => by rw [laws_total.l0]) ?_
    exact EvS.neg (by have := h.ge; omega) (EvS.now (by simp [tot] at e; exact e))
  | cons y ys ih =>
    intro i acc h e
    have h1 := h.len
    have h2 := h.nonneg
    have b1 := tot_bound hx
    have b2 := tot_bound (xs := ys) (fun z hz => hx z (h.sub z (List.mem_cons_of_mem _ hz)))
    have b3 := hx y h.mem
    simp only [tot, List.length_cons] at e h1
    refine EvS.step (fun k => by rw [laws_total.l0]) ?_
    refine EvS.pos h.lt (EvS.pos h.nonneg ?_)
    rw [At.rd h, w64 (x := acc + y) (by omega) (by omega)]
    exact ih _ _ (h.wnext (by omega)) (by omega)
theorem laws_total_ok (xs : List Int) (hl : xs.length ≤ 1000) (hx : ∀ x ∈ xs, -1000000000000 ≤ x ∧ x ≤ 1000000000000) : EvS (fun k => laws_total.f k xs) (· = tot xs) := by
  simp only [laws_total.f]
  exact laws_total_l0 xs hl hx xs 0 0 (At.zero _) (by omega)
/-! ## Rankings. -/
def rowN (xs : List (List Int)) : Int := ((rd_L1 xs 0).length : Int)
def VR (xs : List (List Int)) : Prop := (1 ≤ xs.length ∧ xs.length ≤ 12) ∧ (1 ≤ rowN xs ∧ rowN xs ≤ 6) ∧ ∀ r ∈ xs, (r.length : Int) = rowN xs ∧ Diff r (rowN xs)
instance (xs : List (List Int)) : Decidable (VR xs) := by unfold VR; infer_instance
def ShR (xs : List (List Int)) : Prop := xs.length ≤ 1000000 ∧ ∀ r ∈ xs, r.length ≤ 1000000
theorem at_rdR {xs ys : List (List Int)} {i : Int} {y : List Int} (h : At xs i (y :: ys)) : rd_L1 xs i = y := h.getD _
theorem all_cons {α : Type} {P : α → Prop} {y : α} {ys : List α} (h : P y) : (∀ e ∈ y :: ys, P e) ↔ ∀ e ∈ ys, P e :=
  ⟨fun g e he => g e (List.mem_cons_of_mem _ he), fun g e he => by rcases List.mem_cons.1 he with rfl | he; exact h; exact g e he⟩
theorem rowN_range {xs : List (List Int)} (h : ShR xs) : 0 ≤ rowN xs ∧ rowN xs ≤ 1000000 := by
  unfold rowN
  refine ⟨by omega, ?_⟩
  cases xs with
  | nil => show (([] : List Int).length : Int) ≤ 1000000; simp
  | cons r l => have := h.2 r List.mem_cons_self; show (r.length : Int) ≤ 1000000; omega
theorem impl_ValidRanks_l0 (xs : List (List Int)) (hl : ShR xs) (ys : List (List Int)) : ∀ i : Int, At xs i ys → EvS (fun k => impl_ValidRanks.l0 k (rowN xs) xs xs.length i) (· = decide (∀ r ∈ ys, (r.length : Int) = rowN xs ∧ Diff r (rowN xs))) := by
  have hxl := hl.1
  have hn := rowN_range hl
  induction ys with
  | nil =>
    intro i h
    refine EvS.step (fun k => by rw [impl_ValidRanks.l0]) ?_
    exact EvS.neg (by have := h.ge; omega) (EvS.now (by simp))
  | cons y ys ih =>
    intro i h
    have hy := hl.2 y h.mem
    refine EvS.step (fun k => by rw [impl_ValidRanks.l0]) ?_
    refine EvS.pos h.lt (EvS.pos h.nonneg (EvS.pos h.lt ?_))
    rw [at_rdR h]
    have no : ¬ ((y.length : Int) = rowN xs ∧ Diff y (rowN xs)) → false = decide (∀ r ∈ y :: ys, (r.length : Int) = rowN xs ∧ Diff r (rowN xs)) := fun g => (decide_eq_false (fun q => g (q y List.mem_cons_self))).symm
    refine EvS.ite (fun c1 => EvS.bindv (differentBelow_ok y (by omega) _ (by omega) (by omega)) (EvS.ite (fun c2 => ?_) (fun c2 => EvS.now (no (fun g => ndec c2 g.2))))) (fun c1 => EvS.now (no (fun g => c1 g.1)))
    refine EvS.mono (ih _ (h.wnext (by omega))) (fun r hr => ?_)
    rw [hr]
    exact decide_eq_decide.2 (all_cons (P := fun r : List Int => (r.length : Int) = rowN xs ∧ Diff r (rowN xs)) ⟨c1, of_decide_eq_true c2⟩).symm
theorem impl_ValidRanks_ok (xs : List (List Int)) (hl : ShR xs) : EvS (fun k => impl_ValidRanks.f k xs) (· = decide (VR xs)) := by
  have jt : ¬ VR xs → EvS (fun k => impl_ValidRanks.j0 k xs true) (· = decide (VR xs)) := by
    intro g
    refine EvS.step (fun k => by rw [impl_ValidRanks.j0]) ?_
    exact EvS.pos rfl (EvS.now (decide_eq_false g).symm)
  have jt1 : ¬ VR xs → EvS (fun k => impl_ValidRanks.j1 k xs (rowN xs) true) (· = decide (VR xs)) := by
    intro g
    refine EvS.step (fun k => by rw [impl_ValidRanks.j1]) ?_
    exact EvS.pos rfl (EvS.now (decide_eq_false g).symm)
  simp only [impl_ValidRanks.f]
  refine EvS.ite (fun c => jt (fun g => by have := g.1; omega)) (fun c1 => ?_)
  by_cases c2 : (xs.length : Int) > 12
  · rw [decide_eq_true c2]; exact jt (fun g => by have := g.1; omega)
  · rw [decide_eq_false c2]
    refine EvS.step (fun k => by rw [impl_ValidRanks.j0]) ?_
    refine EvS.neg (by simp) (EvS.pos (by omega) (EvS.ite (fun c => jt1 (fun g => by have := g.2.1; unfold rowN at this; omega)) (fun c3 => ?_)))
    by_cases c4 : rowN xs > 6
    · rw [show decide (((rd_L1 xs 0).length : Int) > 6) = true from decide_eq_true c4]; exact jt1 (fun g => by have := g.2.1; omega)
    · rw [show decide (((rd_L1 xs 0).length : Int) > 6) = false from decide_eq_false c4]
      refine EvS.step (fun k => by rw [impl_ValidRanks.j1]) ?_
      refine EvS.neg (by simp) (EvS.mono (impl_ValidRanks_l0 xs hl xs 0 (At.zero _)) (fun r hr => ?_))
      rw [hr]
      exact decide_eq_decide.2 ⟨fun g => ⟨by omega, by unfold rowN at c4 ⊢; omega, g⟩, fun g => g.2.2⟩
theorem spec_validRanks_l0 (xs : List (List Int)) (hl : ShR xs) (ys : List (List Int)) : ∀ i : Int, At xs i ys → EvS (fun k => spec_validRanks.l0 k xs i) (· = decide ((1 ≤ xs.length ∧ xs.length ≤ 12) ∧ (1 ≤ rowN xs ∧ rowN xs ≤ 6) ∧ ∀ r ∈ ys, (r.length : Int) = rowN xs ∧ Diff r (rowN xs))) := by
  have hxl := hl.1
  have hn := rowN_range hl
  induction ys with
  | nil =>
    intro i h
    refine EvS.step (fun k => by rw [spec_validRanks.l0]) ?_
    refine EvS.neg (by have := h.ge; omega) (EvS.call (inRange_eq _ _ _) (EvS.ite (fun c => ?_) (fun c => EvS.now ?_)))
    · have c := of_decide_eq_true c
      refine EvS.pos (by omega) (EvS.call (inRange_eq _ _ _) (EvS.now ?_))
      exact decide_eq_decide.2 ⟨fun g => ⟨by omega, g, by simp⟩, fun g => g.2.1⟩
    · exact (decide_eq_false (fun g => ndec c (by have := g.1; omega))).symm
  | cons y ys ih =>
    intro i h
    have hy := hl.2 y h.mem
    have hlt := h.lt
    have h0 := h.nonneg
    refine EvS.step (fun k => by rw [spec_validRanks.l0]) ?_
    refine EvS.pos h.lt (EvS.pos h.nonneg (EvS.pos (by omega) ?_))
    rw [at_rdR h]
    have no : ¬ ((y.length : Int) = rowN xs ∧ Diff y (rowN xs)) → false = decide ((1 ≤ xs.length ∧ xs.length ≤ 12) ∧ (1 ≤ rowN xs ∧ rowN xs ≤ 6) ∧ ∀ r ∈ y :: ys, (r.length : Int) = rowN xs ∧ Diff r (rowN xs)) := fun g => (decide_eq_false (fun q => g (q.2.2 y List.mem_cons_self))).symm
    refine EvS.ite (fun c1 => EvS.bindv (validMembers_ok y (by omega) (rowN xs) (by omega) (by omega)) (EvS.ite (fun c2 => ?_) (fun c2 => EvS.now (no (fun g => ndec c2 g.2))))) (fun c1 => EvS.now (no (fun g => c1 g.1)))
    refine EvS.mono (ih _ (h.wnext (by omega))) (fun r hr => ?_)
    rw [hr]
    exact decide_eq_decide.2 (and_congr_right fun _ => and_congr_right fun _ => (all_cons (P := fun r : List Int => (r.length : Int) = rowN xs ∧ Diff r (rowN xs)) ⟨c1, of_decide_eq_true c2⟩).symm)
theorem spec_validRanks_ok (xs : List (List Int)) (hl : ShR xs) : EvS (fun k => spec_validRanks.f k xs) (· = decide (VR xs)) := by
  simp only [spec_validRanks.f]
  exact spec_validRanks_l0 xs hl xs 0 (At.zero _)
/-- How many rank a before b. -/
def pref : List (List Int) → Int → Int → Int
  | [], _, _ => 0
  | r :: l, a, b => (if posF a 0 r < posF b 0 r then 1 else 0) + pref l a b
theorem pref_range (l : List (List Int)) (a b : Int) : 0 ≤ pref l a b ∧ pref l a b ≤ l.length := by
  induction l with
  | nil => simp [pref]
  | cons r l ih => simp only [pref, List.length_cons]; split <;> omega
theorem prefer_l0 (xs : List (List Int)) (hl : ShR xs) (a b : Int) (ys : List (List Int)) : ∀ (i acc : Int), At xs i ys → 0 ≤ acc → acc + pref ys a b = pref xs a b → EvS (fun k => impl_Prefer.l0 k a b acc xs xs.length i) (· = pref xs a b) := by
  have hxl := hl.1
  have hb := pref_range xs a b
  induction ys with
  | nil =>
    intro i acc h h0 e
    refine EvS.step (fun k => by rw [impl_Prefer.l0]) ?_
    exact EvS.neg (by have := h.ge; omega) (EvS.now (by simp [pref] at e; exact e))
  | cons y ys ih =>
    intro i acc h h0 e
    have hy := hl.2 y h.mem
    have hb2 := pref_range ys a b
    simp only [pref] at e
    refine EvS.step (fun k => by rw [impl_Prefer.l0]) ?_
    refine EvS.pos h.lt (EvS.pos h.nonneg (EvS.pos h.lt ?_))
    rw [at_rdR h]
    refine EvS.bindv (index_ok y (by omega) a) (EvS.bindv (index_ok y (by omega) b) (EvS.ite (fun c => ?_) (fun c => ?_)))
    · rw [if_pos c] at e
      rw [w64 (x := acc + 1) (by omega) (by omega)]
      exact ih _ _ (h.wnext (by omega)) (by omega) (by omega)
    · rw [if_neg c] at e
      exact ih _ _ (h.wnext (by omega)) h0 (by omega)
theorem diff_two {a b n : Int} (ha : 0 ≤ a ∧ a < n) (hb : 0 ≤ b ∧ b < n) (ne : a ≠ b) : Diff [a, b] n := by
  refine ⟨by simp [ne], fun x hx => ?_⟩
  simp only [List.mem_cons, List.not_mem_nil, or_false] at hx
  rcases hx with rfl | rfl
  · exact ha
  · exact hb
theorem prefer_ok (xs : List (List Int)) (hl : ShR xs) (hv : VR xs) (a b : Int) (ha : 0 ≤ a ∧ a < rowN xs) (hb : 0 ≤ b ∧ b < rowN xs) (ne : a ≠ b) : EvS (fun k => impl_Prefer.f k xs a b) (· = pref xs a b) := by
  have hn := rowN_range hl
  simp only [impl_Prefer.f]
  refine EvS.bindv (impl_ValidRanks_ok xs hl) (EvS.pos (decide_eq_true hv) (EvS.neg ne (EvS.pos (by have := hv.1; omega) (EvS.bindv (differentBelow_ok [a, b] (by simp) (rowN xs) (by omega) (by omega)) ?_))))
  rw [decide_eq_true (diff_two ha hb ne)]
  refine EvS.step (fun k => by rw [impl_Prefer.j0]) ?_
  exact EvS.neg (by simp) (prefer_l0 xs hl a b xs 0 0 (At.zero _) (by omega) (by omega))
/-! ## The draw. -/
def Rows (m : Int) (l : List (List Int)) : Prop := ∀ r ∈ l, (r.length : Int) = m
theorem Rows.snoc {m : Int} {l : List (List Int)} (h : Rows m l) {r : List Int} (hr : (r.length : Int) = m) : Rows m (l ++ [r]) := by
  intro x hx
  rcases List.mem_append.1 hx with hx | hx
  · exact h x hx
  · simp only [List.mem_singleton] at hx; subst hx; exact hr
theorem copyInts_eq (l : List Int) (h : l.length ≤ 1000000) : spec_copyInts.f l = some l := by
  simp only [spec_copyInts.f, Option.bind_some, List.length_nil, List.nil_append]
  rw [if_pos (by omega)]
theorem someRanks_l0 (b : List Int) (hb : BytesOk b) (m : Int) (hm : 1 ≤ m ∧ m ≤ 6) (d : Nat) : ∀ (x4 : List (List Int)) (x5 p : Int), x5 = d → 0 ≤ p → p + 6 * d ≤ 10000 → x4.length + d ≤ 1000 → Rows m x4 →
    EvS (fun k => spec_someRanks.l0 k m x4 x5 b p) (fun r => r.1.length = x4.length + d ∧ Rows m r.1 ∧ p ≤ r.2 ∧ r.2 ≤ p + 6 * d) := by
  induction d with
  | zero =>
    intro x4 x5 p h1 h2 h3 h4 h5
    refine EvS.step (fun k => by rw [spec_someRanks.l0]) ?_
    exact EvS.neg (by omega) (EvS.now ⟨by simp, h5, by simp, by simp⟩)
  | succ d ih =>
    intro x4 x5 p h1 h2 h3 h4 h5
    have inner : ∀ (e : Nat) (j q : Int) (row : List Int), j + e = m → 0 ≤ j → (row.length : Int) = j → p ≤ q → q ≤ p + j →
        EvS (fun k => spec_someRanks.l1 k m x4 x5 row j b q) (fun r => r.1.length = x4.length + (d + 1) ∧ Rows m r.1 ∧ p ≤ r.2 ∧ r.2 ≤ p + 6 * (d + 1 : Nat)) := by
      intro e
      induction e with
      | zero =>
        intro j q row g1 g2 g3 g4 g5
        refine EvS.step (fun k => by rw [spec_someRanks.l1]) ?_
        refine EvS.neg (by omega) (EvS.pos (by omega) ?_)
        rw [w64 (x := x5 - 1) (by omega) (by omega)]
        refine EvS.mono (ih _ _ _ (by omega) (by omega) (by omega) (by simp; omega) (h5.snoc (by omega))) (fun r hr => ?_)
        obtain ⟨a1, a2, a3, a4⟩ := hr
        simp only [List.length_append, List.length_cons, List.length_nil] at a1
        exact ⟨by omega, a2, by omega, by omega⟩
      | succ e ihe =>
        intro j q row g1 g2 g3 g4 g5
        refine EvS.step (fun k => by rw [spec_someRanks.l1]) ?_
        refine EvS.pos (by omega) ?_
        rw [w64 (x := (row.length : Int) + 1) (by omega) (by omega), w64 (x := j + 1) (by omega) (by omega)]
        refine EvS.bind (pick_ok b q _ hb (by omega) (by omega)) ?_
        rintro ⟨v, q2⟩ ⟨e1, e2, -, e4⟩
        dsimp only at e1 e2 e4 ⊢
        subst e4
        have e2 := e2 (by omega)
        refine EvS.pos e1 (EvS.pos (by omega) (EvS.call (copyInts_eq _ (by rw [List.length_drop]; omega)) (EvS.onsome (EvS.pos (by rw [List.length_take]; omega) (EvS.onsome (EvS.pos (by simp; omega) ?_))))))
        exact ihe _ _ _ (by omega) (by omega) (by simp; omega) (by omega) (by omega)
    refine EvS.step (fun k => by rw [spec_someRanks.l0]) ?_
    exact EvS.pos (by omega) (inner m.toNat 0 p [] (by omega) (by omega) (by simp) (by omega) (by omega))
theorem anyRanks_ok (b : List Int) (hb : BytesOk b) (p : Int) (h0 : 0 ≤ p) (h1 : p ≤ 900) : EvS (fun k => spec_anyRanks.f k b p) (fun r => ShR r.1) := by
  simp only [spec_anyRanks.f, spec_someRanks.f]
  have hsome : EvS (fun k => (spec_reader_one.f k b p [3, 4, 2, 5, 1, 6]).bind fun bt => (spec_reader_one.f k b bt.2 [3, 5, 4, 1, 7, 2]).bind fun bt2 => spec_someRanks.l0 k bt.1 [] bt2.1 b bt2.2) (fun r => (1 ≤ r.1.length ∧ r.1.length ≤ 7) ∧ (∃ m, (1 ≤ m ∧ m ≤ 6) ∧ Rows m r.1) ∧ p ≤ r.2 ∧ r.2 ≤ p + 50) := by
    refine EvS.bind (one_ok _ _ _ hb (by omega) (by omega) (by simp)) ?_
    rintro ⟨v1, _⟩ ⟨v1_m, rfl⟩
    dsimp only at v1_m ⊢
    refine EvS.bind (one_ok _ _ _ hb (by omega) (by omega) (by simp)) ?_
    rintro ⟨v2, _⟩ ⟨v2_m, rfl⟩
    dsimp only at v2_m ⊢
    have a1 : 1 ≤ v1 ∧ v1 ≤ 6 := by simp at v1_m; omega
    have a2 : 1 ≤ v2 ∧ v2 ≤ 7 := by simp at v2_m; omega
    refine EvS.mono (someRanks_l0 b hb v1 a1 v2.toNat [] v2 _ (by omega) (by omega) (by omega) (by simp; omega) (fun r hr => by simp at hr)) (fun r hr => ?_)
    obtain ⟨g1, g2, g3, g4⟩ := hr
    simp at g1
    exact ⟨by omega, ⟨v1, a1, g2⟩, by omega, by omega⟩
  refine EvS.bind hsome ?_
  rintro ⟨l, q⟩ ⟨g1, ⟨m, gm, g2⟩, g3, g4⟩
  dsimp only at g1 g2 g3 g4 ⊢
  have sh : ShR l := ⟨by omega, fun r hr => by have := g2 r hr; omega⟩
  refine EvS.bind (pick_ok _ _ _ hb (by omega) (by omega)) ?_
  rintro ⟨v1, _⟩ ⟨v1_0, v1_1, v1_2, rfl⟩
  dsimp only at v1_0 v1_1 v1_2 ⊢
  refine EvS.ite (fun _ => ?_) (fun _ => EvS.ite (fun _ => ?_) (fun _ => EvS.now sh))
  · obtain ⟨x, l', rfl⟩ : ∃ x l', l = x :: l' := by
      cases l with
      | nil => simp at g1
      | cons x l' => exact ⟨x, l', rfl⟩
    have hx := g2 x List.mem_cons_self
    have hr : rd_L1 (x :: l') 0 = x := rfl
    simp only [hr]
    rw [w64 (x := (x.length : Int) - 1) (by omega) (by omega)]
    refine EvS.pos (by omega) (EvS.pos (by omega) (EvS.pos (by omega) ?_))
    refine EvS.bind (one_ok _ _ _ hb (by omega) (by omega) (by simp)) ?_
    rintro ⟨v3, _⟩ ⟨v3_m, rfl⟩
    dsimp only at v3_m ⊢
    refine EvS.pos (by omega) (EvS.now ⟨by simpa using sh.1, fun r hr => ?_⟩)
    rcases List.mem_or_eq_of_mem_set hr with hr | rfl
    · exact sh.2 r hr
    · simp; omega
  · refine EvS.pos (by omega) (EvS.now ⟨by simp; omega, fun r hr => ?_⟩)
    rcases List.mem_append.1 hr with hr | hr
    · exact sh.2 r hr
    · simp only [List.mem_singleton] at hr; subst hr; simp
/-! ## Points. -/
theorem rd_set (xs : List Int) (i j v : Int) (h0 : 0 ≤ i) (h1 : i < xs.length) (h2 : 0 ≤ j) : rd (xs.set i.toNat v) j = if i = j then v else rd xs j := by
  unfold rd
  rw [List.getD_eq_getElem?_getD, List.getElem?_set]
  by_cases c : i = j
  · subst c; rw [if_pos rfl, if_pos (by omega), if_pos rfl]; rfl
  · rw [if_neg (by omega), if_neg c, List.getD_eq_getElem?_getD]
theorem rd_zeros (n : Nat) (j : Int) : rd (List.replicate n 0) j = 0 := by
  unfold rd
  rw [List.getD_eq_getElem?_getD, List.getElem?_replicate]
  split <;> rfl
theorem list_ext {xs ys : List Int} (hl : xs.length = ys.length) (h : ∀ i : Int, 0 ≤ i → i < xs.length → rd xs i = rd ys i) : xs = ys := by
  apply List.ext_getElem hl
  intro n h1 h2
  have := h n (by omega) (by omega)
  unfold rd at this
  simp only [Int.toNat_natCast] at this
  rw [List.getD_eq_getElem?_getD, List.getD_eq_getElem?_getD, List.getElem?_eq_getElem h1, List.getElem?_eq_getElem h2] at this
  exact this
theorem tot_setN (xs : List Int) : ∀ (n : Nat) (v : Int), n < xs.length → tot (xs.set n v) = tot xs - xs.getD n 0 + v := by
  induction xs with
  | nil => intro n v h; simp at h
  | cons x xs ih =>
    intro n v h
    cases n with
    | zero => simp [tot]; omega
    | succ n =>
      have := ih n v (by simpa using h)
      simp only [List.set_cons_succ, tot, List.getD_cons_succ]
      omega
theorem tot_set (xs : List Int) (i v : Int) (h0 : 0 ≤ i) (h1 : i < xs.length) : tot (xs.set i.toNat v) = tot xs - rd xs i + v := tot_setN xs i.toNat v (by omega)
theorem tot_zeros (n : Nat) : tot (List.replicate n 0) = 0 := by
  induction n with
  | zero => rfl
  | succ n ih => simp [List.replicate_succ, tot, ih]
structure Tab (m : Int) (f : Int → Int) (s : Int) (r : List Int) : Prop where
  len : (r.length : Int) = m
  val : ∀ j : Int, 0 ≤ j → j < m → rd r j = f j
  sum : tot r = s
theorem Tab.eq {m s : Int} {f : Int → Int} {r q : List Int} (h : Tab m f s r) (g : Tab m f s q) : r = q :=
  list_ext (by have := h.len; have := g.len; omega) (fun i h0 h1 => by have := h.len; rw [h.val i h0 (by omega), g.val i h0 (by omega)])
theorem Tab.mem {m s B : Int} {f : Int → Int} {r : List Int} (h : Tab m f s r) (hf : ∀ j, 0 ≤ f j ∧ f j ≤ B) : ∀ x ∈ r, 0 ≤ x ∧ x ≤ B := by
  intro x hx
  obtain ⟨n, hn, rfl⟩ := List.mem_iff_getElem.1 hx
  have := h.val n (by omega) (by have := h.len; omega)
  have e : rd r n = r[n] := by unfold rd; rw [List.getD_eq_getElem?_getD]; simp [hn]
  rw [← e, this]; exact hf _
def rp : List Int → Int → Int
  | [], _ => 0
  | z :: zs, j => (if z = j then (zs.length : Int) else 0) + rp zs j
def tri : List Int → Int
  | [] => 0
  | _ :: zs => zs.length + tri zs
def pts : List (List Int) → Int → Int
  | [], _ => 0
  | r :: l, j => rp r j + pts l j
def triA : List (List Int) → Int
  | [] => 0
  | r :: l => tri r + triA l
theorem rp_bound (zs : List Int) (j : Int) : 0 ≤ rp zs j ∧ rp zs j ≤ zs.length * zs.length := by
  induction zs with
  | nil => simp [rp]
  | cons z zs ih =>
    simp only [rp, List.length_cons, Int.natCast_add, Int.add_mul, Int.mul_add]
    split <;> omega
theorem pts_bound {n : Int} (hn : n ≤ 6) (l : List (List Int)) (h : ∀ r ∈ l, (r.length : Int) = n) (j : Int) : 0 ≤ pts l j ∧ pts l j ≤ 36 * l.length := by
  induction l with
  | nil => simp [pts]
  | cons r l ih =>
    have h1 := ih (fun x hx => h x (List.mem_cons_of_mem _ hx))
    have h2 := h r List.mem_cons_self
    have h3 := rp_bound r j
    have h4 : (r.length : Int) * r.length ≤ 6 * 6 := Int.mul_le_mul (by omega) (by omega) (by omega) (by omega)
    simp only [pts, List.length_cons]
    omega
theorem impl_pts_l1 (xs : List (List Int)) (hv : VR xs) (y : List Int) (ys : List (List Int)) (i : Int) (h : At xs i (y :: ys))
    (K : ∀ s : List Int, (s.length : Int) = rowN xs → (∀ j : Int, 0 ≤ j → j < rowN xs → rd s j + pts ys j = pts xs j) → tot s + triA ys = triA xs → EvS (fun k => impl_PointsOf.l0 k s xs xs.length (wrap64 (i + 1))) (Tab (rowN xs) (pts xs) (triA xs))) (zs : List Int) : ∀ (q : Int) (s : List Int), At y q zs → (s.length : Int) = rowN xs → (∀ j : Int, 0 ≤ j → j < rowN xs → rd s j + (rp zs j + pts ys j) = pts xs j) → tot s + (tri zs + triA ys) = triA xs →
    EvS (fun k => impl_PointsOf.l1 k s y xs xs.length i y y.length q) (Tab (rowN xs) (pts xs) (triA xs)) := by
  have hn := hv.2.1
  have hy := hv.2.2 y h.mem
  have hbx := pts_bound hn.2 xs (fun r hr => (hv.2.2 r hr).1)
  have hby := pts_bound hn.2 ys (fun r hr => (hv.2.2 r (h.sub r (List.mem_cons_of_mem _ hr))).1)
  have hxl := hv.1
  have hyl : ys.length ≤ 12 := by have a := h.len; have b := h.nonneg; simp only [List.length_cons] at a; omega
  induction zs with
  | nil =>
    intro q s hq h8 hs ht
    have := hq.ge
    refine EvS.step (fun k => by rw [impl_PointsOf.l1]) ?_
    exact EvS.neg (by omega) (K s h8 (fun j h0 h1 => by have := hs j h0 h1; simp [rp] at this; exact this) (by simp [tri] at ht; exact ht))
  | cons z zs ih =>
    intro q s hq h8 hs ht
    have q0 := hq.nonneg
    have q1 := hq.lt
    have ql := hq.len
    have hz := hy.2.2 z hq.mem
    have hpb := rp_bound (z :: zs)
    simp only [List.length_cons] at ql
    have hm4 : ((z :: zs).length : Int) * (z :: zs).length ≤ 6 * 6 := Int.mul_le_mul (by simp only [List.length_cons]; omega) (by simp only [List.length_cons]; omega) (by omega) (by omega)
    refine EvS.step (fun k => by rw [impl_PointsOf.l1]) ?_
    refine EvS.pos q1 (EvS.pos q0 (EvS.pos q1 ?_))
    rw [At.rd hq]
    have b1 : -1000 ≤ rd s z ∧ rd s z ≤ 1000 := by have := hs z hz.1 hz.2; have := hbx z; have := hby z; have := hpb z; omega
    refine EvS.pos hz.1 (EvS.pos (by omega) ?_)
    rw [w64 (x := (y.length : Int) - 1) (by omega) (by omega), w64 (x := (y.length : Int) - 1 - q) (by omega) (by omega), w64 (x := rd s z + ((y.length : Int) - 1 - q)) (by omega) (by omega), w64 (x := q + 1) (by omega) (by omega)]
    refine ih _ _ hq.next (by simpa using h8) (fun j h0 h1 => ?_) ?_
    · rw [rd_set _ _ _ _ hz.1 (by omega) h0]
      have := hs j h0 h1
      simp only [rp] at this
      by_cases c : z = j
      · rw [if_pos c]; rw [if_pos c] at this; rw [c] at *; omega
      · rw [if_neg c]; rw [if_neg c] at this; omega
    · rw [tot_set _ _ _ hz.1 (by omega)]; simp only [tri] at ht; omega
theorem impl_pts_l0 (xs : List (List Int)) (hv : VR xs) (ys : List (List Int)) : ∀ (i : Int) (s : List Int), At xs i ys → (s.length : Int) = rowN xs → (∀ j : Int, 0 ≤ j → j < rowN xs → rd s j + pts ys j = pts xs j) → tot s + triA ys = triA xs → EvS (fun k => impl_PointsOf.l0 k s xs xs.length i) (Tab (rowN xs) (pts xs) (triA xs)) := by
  have hxl := hv.1
  induction ys with
  | nil =>
    intro i s h h8 hs ht
    refine EvS.step (fun k => by rw [impl_PointsOf.l0]) ?_
    exact EvS.neg (by have := h.ge; omega) (EvS.now ⟨h8, fun j h0 h1 => by have := hs j h0 h1; simp [pts] at this; exact this, by simp [triA] at ht; exact ht⟩)
  | cons y ys ih =>
    intro i s h h8 hs ht
    refine EvS.step (fun k => by rw [impl_PointsOf.l0]) ?_
    refine EvS.pos h.lt (EvS.pos h.nonneg (EvS.pos h.lt ?_))
    rw [at_rdR h]
    exact impl_pts_l1 xs hv y ys i h (fun s g1 g2 g3 => ih _ s (h.wnext (by omega)) g1 g2 g3) y 0 s (At.zero _) h8 (fun j h0 h1 => by have := hs j h0 h1; simp only [pts] at this; omega) (by simp only [triA] at ht; omega)
theorem impl_PointsOf_ok (xs : List (List Int)) (hl : ShR xs) : EvS (fun k => impl_PointsOf.f k xs) (fun r => if VR xs then Tab (rowN xs) (pts xs) (triA xs) r else r = []) := by
  simp only [impl_PointsOf.f]
  refine EvS.bindv (impl_ValidRanks_ok xs hl) ?_
  have hnn : rowN xs = ((rd_L1 xs 0).length : Int) := rfl
  by_cases hv : VR xs
  · simp only [if_pos hv]
    have hn := hv.2.1
    have hxl := hv.1
    exact EvS.pos (decide_eq_true hv) (EvS.pos (by omega) (EvS.pos (by omega) (EvS.pos (by omega) (impl_pts_l0 xs hv xs 0 _ (At.zero xs) (by simp; omega) (fun j _ _ => by rw [rd_zeros]; omega) (by rw [tot_zeros]; omega)))))
  · simp only [if_neg hv]
    exact EvS.neg (by simp [hv]) (EvS.now rfl)
theorem spec_pts_l1 (xs : List (List Int)) (hv : VR xs) (y : List Int) (ys : List (List Int)) (i : Int) (h : At xs i (y :: ys))
    (K : ∀ s : List Int, (s.length : Int) = rowN xs → (∀ j : Int, 0 ≤ j → j < rowN xs → rd s j + pts ys j = pts xs j) → tot s + triA ys = triA xs → EvS (fun k => spec_points.l0 k xs s (wrap64 (i + 1))) (Tab (rowN xs) (pts xs) (triA xs))) (zs : List Int) : ∀ (q : Int) (s : List Int), At y q zs → (s.length : Int) = rowN xs → (∀ j : Int, 0 ≤ j → j < rowN xs → rd s j + (rp zs j + pts ys j) = pts xs j) → tot s + (tri zs + triA ys) = triA xs →
    EvS (fun k => spec_points.l1 k xs s i q) (Tab (rowN xs) (pts xs) (triA xs)) := by
  have hn := hv.2.1
  have hy := hv.2.2 y h.mem
  have hbx := pts_bound hn.2 xs (fun r hr => (hv.2.2 r hr).1)
  have hby := pts_bound hn.2 ys (fun r hr => (hv.2.2 r (h.sub r (List.mem_cons_of_mem _ hr))).1)
  have hxl := hv.1
  have hyl : ys.length ≤ 12 := by have a := h.len; have b := h.nonneg; simp only [List.length_cons] at a; omega
  induction zs with
  | nil =>
    intro q s hq h8 hs ht
    have := hq.ge
    refine EvS.step (fun k => by rw [spec_points.l1]) ?_
    rw [at_rdR h]
    exact EvS.pos h.nonneg (EvS.pos h.lt (EvS.neg (by omega) (K s h8 (fun j h0 h1 => by have := hs j h0 h1; simp [rp] at this; exact this) (by simp [tri] at ht; exact ht))))
  | cons z zs ih =>
    intro q s hq h8 hs ht
    have q0 := hq.nonneg
    have q1 := hq.lt
    have ql := hq.len
    have hz := hy.2.2 z hq.mem
    have hpb := rp_bound (z :: zs)
    simp only [List.length_cons] at ql
    have hm4 : ((z :: zs).length : Int) * (z :: zs).length ≤ 6 * 6 := Int.mul_le_mul (by simp only [List.length_cons]; omega) (by simp only [List.length_cons]; omega) (by omega) (by omega)
    refine EvS.step (fun k => by rw [spec_points.l1]) ?_
    rw [at_rdR h]
    refine EvS.pos h.nonneg (EvS.pos h.lt (EvS.pos q1 (EvS.pos q0 ?_)))
    rw [At.rd hq]
    have b1 : -1000 ≤ rd s z ∧ rd s z ≤ 1000 := by have := hs z hz.1 hz.2; have := hbx z; have := hby z; have := hpb z; omega
    refine EvS.pos hz.1 (EvS.pos (by omega) ?_)
    rw [w64 (x := rd s z + (y.length : Int)) (by omega) (by omega), w64 (x := rd s z + (y.length : Int) - 1) (by omega) (by omega), w64 (x := rd s z + (y.length : Int) - 1 - q) (by omega) (by omega), w64 (x := q + 1) (by omega) (by omega)]
    refine ih _ _ hq.next (by simpa using h8) (fun j h0 h1 => ?_) ?_
    · rw [rd_set _ _ _ _ hz.1 (by omega) h0]
      have := hs j h0 h1
      simp only [rp] at this
      by_cases c : z = j
      · rw [if_pos c]; rw [if_pos c] at this; rw [c] at *; omega
      · rw [if_neg c]; rw [if_neg c] at this; omega
    · rw [tot_set _ _ _ hz.1 (by omega)]; simp only [tri] at ht; omega
theorem spec_pts_l0 (xs : List (List Int)) (hv : VR xs) (ys : List (List Int)) : ∀ (i : Int) (s : List Int), At xs i ys → (s.length : Int) = rowN xs → (∀ j : Int, 0 ≤ j → j < rowN xs → rd s j + pts ys j = pts xs j) → tot s + triA ys = triA xs → EvS (fun k => spec_points.l0 k xs s i) (Tab (rowN xs) (pts xs) (triA xs)) := by
  have hxl := hv.1
  induction ys with
  | nil =>
    intro i s h h8 hs ht
    refine EvS.step (fun k => by rw [spec_points.l0]) ?_
    exact EvS.neg (by have := h.ge; omega) (EvS.now ⟨h8, fun j h0 h1 => by have := hs j h0 h1; simp [pts] at this; exact this, by simp [triA] at ht; exact ht⟩)
  | cons y ys ih =>
    intro i s h h8 hs ht
    refine EvS.step (fun k => by rw [spec_points.l0]) ?_
    refine EvS.pos h.lt ?_
    exact spec_pts_l1 xs hv y ys i h (fun s g1 g2 g3 => ih _ s (h.wnext (by omega)) g1 g2 g3) y 0 s (At.zero _) h8 (fun j h0 h1 => by have := hs j h0 h1; simp only [pts] at this; omega) (by simp only [triA] at ht; omega)
theorem spec_PointsOf_ok (xs : List (List Int)) (hl : ShR xs) : EvS (fun k => spec_PointsOf.f k xs) (fun r => if VR xs then Tab (rowN xs) (pts xs) (triA xs) r else r = []) := by
  simp only [spec_PointsOf.f, spec_points.f]
  refine EvS.bindv (spec_validRanks_ok xs hl) ?_
  have hnn : rowN xs = ((rd_L1 xs 0).length : Int) := rfl
  by_cases hv : VR xs
  · simp only [if_pos hv]
    have hn := hv.2.1
    have hxl := hv.1
    exact EvS.pos (decide_eq_true hv) (EvS.bind (EvS.pos (by omega) (EvS.pos (by omega) (EvS.pos (by omega) (spec_pts_l0 xs hv xs 0 _ (At.zero xs) (by simp; omega) (fun j _ _ => by rw [rd_zeros]; omega) (by rw [tot_zeros]; omega))))) (fun r hr => EvS.now hr))
  · simp only [if_neg hv]
    exact EvS.neg (by simp [hv]) (EvS.now rfl)
/-! ## Points are preferences. -/
def sumN : Nat → (Int → Int) → Int
  | 0, _ => 0
  | n + 1, f => sumN n f + f n
theorem sumN_congr {n : Nat} {f g : Int → Int} (h : ∀ j : Int, 0 ≤ j → j < n → f j = g j) : sumN n f = sumN n g := by
  induction n with
  | zero => rfl
  | succ n ih => simp only [sumN]; rw [ih (fun j h0 h1 => h j h0 (by omega)), h n (by omega) (by omega)]
theorem sumN_add (n : Nat) (f g : Int → Int) : sumN n (fun j => f j + g j) = sumN n f + sumN n g := by
  induction n with
  | zero => rfl
  | succ n ih => simp only [sumN, ih]; omega
theorem sumN_one (n : Nat) (z : Int) : sumN n (fun j => if j = z then 1 else 0) = if 0 ≤ z ∧ z < n then 1 else 0 := by
  induction n with
  | zero => simp only [sumN]; rw [if_neg (by omega)]
  | succ n ih =>
    simp only [sumN, ih]
    split <;> split <;> split <;> omega
theorem sumN_mem (n : Nat) (zs : List Int) (h : zs.Nodup) (hz : ∀ z ∈ zs, 0 ≤ z ∧ z < n) : sumN n (fun j => if j ∈ zs then 1 else 0) = zs.length := by
  induction zs with
  | nil =>
    have : sumN n (fun j => if j ∈ ([] : List Int) then (1 : Int) else 0) = sumN n (fun _ => 0) := sumN_congr (fun j _ _ => by simp)
    rw [this]
    have : ∀ k : Nat, sumN k (fun _ => 0) = 0 := fun k => by
      induction k with
      | zero => rfl
      | succ k ih => simp only [sumN, ih]; rfl
    rw [this]; rfl
  | cons z zs ih =>
    obtain ⟨h1, h2⟩ := List.nodup_cons.1 h
    have e : sumN n (fun j => if j ∈ z :: zs then (1 : Int) else 0) = sumN n (fun j => (if j = z then 1 else 0) + (if j ∈ zs then 1 else 0)) := sumN_congr (fun j _ _ => by
      by_cases c : j = z
      · subst c; rw [if_pos List.mem_cons_self, if_pos rfl, if_neg h1]; rfl
      · rw [if_neg c]
        by_cases c2 : j ∈ zs
        · rw [if_pos (List.mem_cons_of_mem _ c2), if_pos c2]; rfl
        · rw [if_neg (fun g => by rcases List.mem_cons.1 g with g | g; exact c g; exact c2 g), if_neg c2]; rfl)
    rw [e, sumN_add, sumN_one, ih h2 (fun x hx => hz x (List.mem_cons_of_mem _ hx)), if_pos (hz z List.mem_cons_self)]
    simp only [List.length_cons]; omega
def aft (i : Int) : List Int → List Int
  | [] => []
  | x :: xs => if x = i then xs else aft i xs
theorem aft_sub (i : Int) (xs : List Int) : ∀ z ∈ aft i xs, z ∈ xs := by
  induction xs with
  | nil => intro z h; exact h
  | cons x xs ih =>
    intro z h
    rw [aft] at h
    split at h
    · exact List.mem_cons_of_mem _ h
    · exact List.mem_cons_of_mem _ (ih z h)
theorem aft_nodup (i : Int) (xs : List Int) (h : xs.Nodup) : (aft i xs).Nodup := by
  induction xs with
  | nil => exact h
  | cons x xs ih =>
    obtain ⟨_, h2⟩ := List.nodup_cons.1 h
    rw [aft]
    split
    · exact h2
    · exact ih h2
theorem rp_not (xs : List Int) (i : Int) (h : i ∉ xs) : rp xs i = 0 := by
  induction xs with
  | nil => rfl
  | cons x xs ih =>
    rw [rp, if_neg (fun g : x = i => h (g ▸ List.mem_cons_self)), ih (fun g => h (List.mem_cons_of_mem _ g))]; rfl
theorem rp_aft (xs : List Int) (i : Int) (h : xs.Nodup) (hi : i ∈ xs) : rp xs i = (aft i xs).length := by
  induction xs with
  | nil => simp at hi
  | cons x xs ih =>
    obtain ⟨h1, h2⟩ := List.nodup_cons.1 h
    rw [rp, aft]
    by_cases c : x = i
    · rw [if_pos c, if_pos c, rp_not xs i (c ▸ h1)]; omega
    · rw [if_neg c, if_neg c, ih h2 (by rcases List.mem_cons.1 hi with g | g; exact absurd g.symm c; exact g)]; omega
theorem pos_aft (xs : List Int) (i j : Int) (h : xs.Nodup) : ∀ q : Int, 0 ≤ q → i ∈ xs → (posF i q xs < posF j q xs ↔ j ∈ aft i xs) := by
  induction xs with
  | nil => intro q _ hi; simp at hi
  | cons x xs ih =>
    intro q hq hi
    obtain ⟨h1, h2⟩ := List.nodup_cons.1 h
    have pj := posF_range j xs (q + 1) (by omega)
    rw [posF, posF, aft]
    by_cases c : x = i
    · rw [if_pos c, if_pos c]
      by_cases c2 : x = j
      · rw [if_pos c2]
        exact ⟨fun g => by omega, fun g => absurd (c2 ▸ g) h1⟩
      · rw [if_neg c2]
        by_cases c3 : j ∈ xs
        · exact ⟨fun _ => c3, fun _ => by have := pj.1 c3; omega⟩
        · exact ⟨fun g => by have := pj.2 c3; omega, fun g => absurd g c3⟩
    · rw [if_neg c, if_neg c]
      have hi' : i ∈ xs := by rcases List.mem_cons.1 hi with g | g; exact absurd g.symm c; exact g
      have pi := (posF_range i xs (q + 1) (by omega)).1 hi'
      by_cases c2 : x = j
      · rw [if_pos c2]
        exact ⟨fun g => by omega, fun g => absurd (aft_sub i xs j g) (c2 ▸ h1)⟩
      · rw [if_neg c2]; exact ih h2 (q + 1) (by omega) hi'
theorem aft_self (xs : List Int) (i : Int) (h : xs.Nodup) : i ∉ aft i xs := by
  induction xs with
  | nil => simp [aft]
  | cons x xs ih =>
    obtain ⟨h1, h2⟩ := List.nodup_cons.1 h
    rw [aft]
    split
    · rename_i c; exact c ▸ h1
    · exact ih h2
theorem mem_full {r : List Int} {n : Nat} (hl : r.length = n) (hd : Diff r n) (i : Int) (h0 : 0 ≤ i) (h1 : i < n) : i ∈ r := by
  have h2 := sumN_mem n r hd.1 hd.2
  have key : ∀ k : Nat, (∀ j : Int, 0 ≤ j → j < k → (if j ∈ r then (1 : Int) else 0) ≤ 1) → sumN k (fun j => if j ∈ r then 1 else 0) ≤ k := by
    intro k hk
    induction k with
    | zero => simp [sumN]
    | succ k ih =>
      have a := ih (fun j h0 h1 => hk j h0 (by omega))
      have b := hk k (by omega) (by omega)
      simp only [sumN]; omega
  have lt : ∀ k : Nat, i < k → i ∉ r → sumN k (fun j => if j ∈ r then 1 else 0) ≤ k - 1 := by
    intro k hk hn
    induction k with
    | zero => omega
    | succ k ih =>
      simp only [sumN]
      by_cases c : i = k
      · have a := key k (fun j _ _ => by split <;> omega)
        rw [if_neg (c ▸ hn)]; omega
      · have a := ih (by omega)
        have b : (if (k : Int) ∈ r then (1 : Int) else 0) ≤ 1 := by split <;> omega
        omega
  by_cases c : i ∈ r
  · exact c
  · have := lt n h1 c; omega
def prefX (xs : List (List Int)) (i j : Int) : Int := if i = j then 0 else pref xs i j
theorem pts_pref (n : Nat) (xs : List (List Int)) (h : ∀ r ∈ xs, (r.length : Int) = n ∧ Diff r n) (i : Int) (h0 : 0 ≤ i) (h1 : i < n) : sumN n (prefX xs i) = pts xs i := by
  induction xs with
  | nil =>
    have : ∀ k : Nat, sumN k (prefX [] i) = 0 := fun k => by
      induction k with
      | zero => rfl
      | succ k ih => simp only [sumN, ih, prefX, pref]; split <;> rfl
    rw [this]; rfl
  | cons r l ih =>
    obtain ⟨hr, hd⟩ := h r List.mem_cons_self
    have hi := mem_full (by omega) hd i h0 h1
    have e : sumN n (prefX (r :: l) i) = sumN n (fun j => (if j ∈ aft i r then 1 else 0) + prefX l i j) := sumN_congr (fun j j0 j1 => by
      unfold prefX
      by_cases c : i = j
      · subst c; rw [if_pos rfl, if_pos rfl, if_neg (aft_self r i hd.1)]; rfl
      · rw [if_neg c, if_neg c, pref]
        have := pos_aft r i j hd.1 0 (by omega) hi
        by_cases c2 : j ∈ aft i r
        · rw [if_pos c2, if_pos (this.2 c2)]
        · rw [if_neg c2, if_neg (fun g => c2 (this.1 g))])
    rw [e, sumN_add, sumN_mem n _ (aft_nodup i r hd.1) (fun z hz => hd.2 z (aft_sub i r z hz)), ih (fun x hx => h x (List.mem_cons_of_mem _ hx)), pts, rp_aft r i hd.1 hi]
theorem tri_two (zs : List Int) : 2 * tri zs = zs.length * ((zs.length : Int) - 1) := by
  induction zs with
  | nil => rfl
  | cons z zs ih =>
    simp only [tri, List.length_cons, Int.natCast_add, Int.add_mul, Int.mul_sub] at ih ⊢
    have : (((1 : Nat) : Int)) = 1 := rfl
    simp only [this, Int.mul_add, Int.mul_one, Int.one_mul] at ih ⊢
    omega
theorem triA_two (n : Int) (xs : List (List Int)) (h : ∀ r ∈ xs, (r.length : Int) = n) : 2 * triA xs = xs.length * (n * (n - 1)) := by
  induction xs with
  | nil => simp [triA]
  | cons r l ih =>
    have a := ih (fun x hx => h x (List.mem_cons_of_mem _ hx))
    have b := tri_two r
    rw [h r List.mem_cons_self] at b
    simp only [triA, List.length_cons, Int.natCast_add, Int.add_mul, Int.mul_add]
    omega
theorem law_l1 (xs : List (List Int)) (hl : ShR xs) (hv : VR xs) (p : List Int) (hp : Tab (rowN xs) (pts xs) (triA xs) p) (i : Int) (hi : 0 ≤ i ∧ i < rowN xs) (K : EvS (fun k => laws_FnPointsOf.l0 k xs p (rowN xs) (wrap64 (i + 1))) (· = true)) (d : Nat) : ∀ (j acc : Int), j + d = rowN xs → 0 ≤ j → 0 ≤ acc → acc ≤ 20 * j → acc = sumN j.toNat (prefX xs i) → EvS (fun k => laws_FnPointsOf.l1 k xs p (rowN xs) i acc j) (· = true) := by
  have hn := hv.2.1
  have hxl := hv.1
  have hpl := hp.len
  induction d with
  | zero =>
    intro j acc e h0 ha hb hs
    have : j = rowN xs := by omega
    subst this
    refine EvS.step (fun k => by rw [laws_FnPointsOf.l1]) ?_
    refine EvS.neg (by omega) (EvS.pos hi.1 (EvS.pos (by omega) (EvS.pos ?_ K)))
    rw [hp.val i hi.1 hi.2, hs]
    exact pts_pref _ xs (fun r hr => by rw [Int.toNat_of_nonneg h0]; exact hv.2.2 r hr) i hi.1 (by omega)
  | succ d ih =>
    intro j acc e h0 ha hb hs
    have hr := pref_range xs i j
    have st : sumN (j + 1).toNat (prefX xs i) = sumN j.toNat (prefX xs i) + prefX xs i j := by
      rw [show (j + 1).toNat = j.toNat + 1 by omega]; simp only [sumN, Int.toNat_of_nonneg h0]
    refine EvS.step (fun k => by rw [laws_FnPointsOf.l1]) ?_
    rw [w64 (x := j + 1) (by omega) (by omega)]
    refine EvS.pos (by omega) (EvS.ite (fun c => ih _ _ (by omega) (by omega) ha (by omega) ?_) (fun c => EvS.bindv (prefer_ok xs hl hv i j hi (by omega) c) ?_))
    · rw [st, prefX, if_pos c]; omega
    · rw [w64 (x := acc + pref xs i j) (by omega) (by omega)]
      exact ih _ _ (by omega) (by omega) (by omega) (by omega) (by rw [st, prefX, if_neg c]; omega)
theorem law_l0 (xs : List (List Int)) (hl : ShR xs) (hv : VR xs) (p : List Int) (hp : Tab (rowN xs) (pts xs) (triA xs) p) (d : Nat) : ∀ i : Int, i + d = rowN xs → 0 ≤ i → EvS (fun k => laws_FnPointsOf.l0 k xs p (rowN xs) i) (· = true) := by
  have hn := hv.2.1
  have hxl := hv.1
  have hpl := hp.len
  induction d with
  | zero =>
    intro i e h0
    have hx := hp.mem (fun j => pts_bound hn.2 xs (fun r hr => (hv.2.2 r hr).1) j)
    have h2 := triA_two (rowN xs) xs (fun r hr => (hv.2.2 r hr).1)
    refine EvS.step (fun k => by rw [laws_FnPointsOf.l0]) ?_
    refine EvS.neg (by omega) (EvS.bindv (laws_total_ok p (by omega) (fun x hxx => by have := hx x hxx; omega)) (EvS.now ?_))
    have b1 : (xs.length : Int) * rowN xs ≤ 12 * 6 := Int.mul_le_mul (by omega) hn.2 (by omega) (by omega)
    have b0 : 0 ≤ (xs.length : Int) * rowN xs := Int.mul_nonneg (by omega) (by omega)
    have b2 : (xs.length : Int) * rowN xs * (rowN xs - 1) ≤ 72 * 5 := Int.mul_le_mul (by omega) (by omega) (by omega) (by omega)
    have b3 : 0 ≤ (xs.length : Int) * rowN xs * (rowN xs - 1) := Int.mul_nonneg b0 (by omega)
    rw [← Int.mul_assoc] at h2
    rw [hp.sum, beq_dec, w64 (x := rowN xs - 1) (by omega) (by omega), w64 (x := (xs.length : Int) * rowN xs) (by omega) (by omega), w64 (x := (xs.length : Int) * rowN xs * (rowN xs - 1)) (by omega) (by omega), w64 (x := 2 * triA xs) (by omega) (by omega)]
    exact decide_eq_true h2
  | succ d ih =>
    intro i e h0
    refine EvS.step (fun k => by rw [laws_FnPointsOf.l0]) ?_
    refine EvS.pos (by omega) (law_l1 xs hl hv p hp i ⟨h0, by omega⟩ ?_ (rowN xs).toNat 0 0 (by omega) (by omega) (by omega) (by omega) rfl)
    rw [w64 (x := i + 1) (by omega) (by omega)]
    exact ih _ (by omega) (by omega)
theorem FnPointsOf : laws_FnPointsOf.Pure := by
  intro l0 _ _ hw
  refine EvS.holds ?_
  simp only [laws_FnPointsOf.f, spec_DrawPointsOf.f]
  refine EvS.ite (fun _ => EvS.now rfl) (fun _ => ?_)
  have hdraw : EvS (fun k => (spec_newReader.f l0).bind fun bt => (spec_anyRanks.f k bt.1 bt.2).bind fun bt2 => some bt2.1) ShR := by
    have hl : ∀ x ∈ l0, 0 ≤ x ∧ x ≤ 255 := fun x hx => u8_range (hw x hx)
    obtain ⟨b, eb, hb⟩ := newReader_ok l0 hl
    exact EvS.call eb (EvS.bind (anyRanks_ok b hb 0 (by omega) (by omega)) (fun r hr => EvS.now hr))
  refine EvS.bind hdraw (fun xs hl => EvS.bind (impl_PointsOf_ok xs hl) (fun r1 hr1 => EvS.bind (spec_PointsOf_ok xs hl) (fun r2 hr2 => ?_)))
  by_cases hv : VR xs
  · simp only [if_pos hv] at hr1 hr2
    obtain rfl := hr1.eq hr2
    have hlen := hr1.len
    have hn := hv.2.1
    refine EvS.bindv (equalInts_ok r1 (by omega)) (EvS.pos rfl ?_)
    rw [beq_dec, decide_eq_false (show ¬ (r1.length : Int) = 0 by omega)]
    refine EvS.step (fun k => by rw [laws_FnPointsOf.j0]) ?_
    rw [hlen]
    exact EvS.neg (by simp) (law_l0 xs hl hv r1 hr1 (rowN xs).toNat 0 (by omega) (by omega))
  · simp only [if_neg hv] at hr1 hr2
    subst hr1 hr2
    refine EvS.bindv (equalInts_ok [] (by simp)) (EvS.pos rfl ?_)
    refine EvS.step (fun k => by rw [laws_FnPointsOf.j0]) ?_
    refine EvS.pos rfl (EvS.bind (spec_PointsOf_ok xs hl) (fun r3 hr3 => ?_))
    simp only [if_neg hv] at hr3
    subst hr3
    exact EvS.bindv (equalInts_ok [] (by simp)) (EvS.now rfl)
end Go.Proofs.Ytlagpccnhbobiaa.Pure
