/- MergeMembers has the same votes together and the same Need, and is the same the other way round; and it is what the reference tells: for every code. Conditions: none. -/
import Derived.Test.YtkbgcnpjamadeaaMFnMergeMembersx0
import Derived.Test.YtkbgcnpjamadeaaMFnMergeMembersx1
import Derived.Test.YtkbgcnpjamadeaaMFnMergeMembersx2
import Derived.Test.YtkbgcnpjamadeaaMFnMergeMembersx3
import Derived.Test.YtkbgcnpjamadeaaMFnMergeMembersx4
import Derived.Test.YtkbgcnpjamadeaaMFnMergeMembersx5
import Derived.Test.YtkbgcnpjamadeaaMFnMergeMembersx6
import Derived.Test.YtkbgcnpjamadeaaMFnMergeMembersx7
import Derived.Test.YtkbgcnpjamadeaaMFnMergeMembersx8
import Derived.Test.YtkbgcnpjamadeaaBase
set_option linter.unusedVariables false
set_option linter.unusedSimpArgs false
namespace Go.Proofs.Ytkbgcnpjamadeaa.Pure
open Go.RowKit Go.Proofs.Ytkbgcnpjamadeaa.PFnMergeMembers Go.Proofs.YtkbgcnpjamadeaaW.PrintWords Go.Proofs.YtkbgcnpjamadeaaW.PrintLast Go.Proofs.YtkbgcnpjamadeaaW.PrintMore Go.Proofs.Ytkbgcnpjamadeaa.Base
theorem u8_range {x : Int} (h : (Lit.int .u8 x).wf = true) : 0 ≤ x ∧ x ≤ 255 := by
  simp [Lit.wf, IntKind.min, IntKind.max, IntKind.bits, IntKind.signed] at h
  omega
/-! ## The reader that draws. -/
structure BytesOk (b : List Int) : Prop where
  len : b.length ≤ 2000
  mem : ∀ x ∈ b, 0 ≤ x ∧ x ≤ 255

theorem newReader_ok (l : List Int) (h : ∀ x ∈ l, 0 ≤ x ∧ x ≤ 255) : ∃ b, spec_newReader.f l = some (b, 0) ∧ BytesOk b := by
  unfold spec_newReader.f
  by_cases c : (l.length : Int) > 2000
  · rw [if_pos c, if_pos (by omega)]
    exact ⟨_, rfl, by rw [List.length_take]; omega, fun x hx => h x (List.mem_of_mem_take hx)⟩
  · rw [if_neg c]
    exact ⟨_, rfl, by omega, h⟩

theorem pick_ok (b : List Int) (p n : Int) (hb : BytesOk b) (h0 : 0 ≤ p) (h1 : p ≤ 100000) :
    EvS (fun k => spec_reader_pick.f k b p n) (fun r => 0 ≤ r.1 ∧ (1 ≤ n → r.1 < n) ∧ (n < 1 → r.1 = 0) ∧ r.2 = p + 1) := by
  have hp : wrap64 (p + 1) = p + 1 := w64 (by omega) (by omega)
  have hq : wrap64 (p + 1 - 1) = p := by rw [show p + 1 - 1 = p by omega]; exact w64 (by omega) (by omega)
  have hbl := hb.len
  simp only [spec_reader_pick.f]
  rw [hp]
  by_cases hn : n < 1
  · refine EvS.pos hn ?_
    refine EvS.step (fun k => by rw [spec_reader_pick.j0]) ?_
    refine EvS.pos rfl ?_
    exact EvS.now ⟨by simp, fun h => by omega, fun _ => rfl, rfl⟩
  · refine EvS.neg hn ?_
    refine EvS.step (fun k => by rw [spec_reader_pick.j0]) ?_
    simp only [hq]
    by_cases hl : b.length = 0
    · refine EvS.pos (by simp [hl]) ?_
      exact EvS.now ⟨by simp, fun h => by simp; omega, fun _ => rfl, rfl⟩
    · refine EvS.neg (by simp; intro h; exact hl (by simp [h])) ?_
      by_cases hpl : p < b.length
      · refine EvS.pos hpl (EvS.pos h0 (EvS.neg (by omega) ?_))
        have hr := rd_range hb.mem p h0 hpl
        rw [w64 (by omega) (by omega)]
        have ht := tmod_range (rd b p) n (by omega) (by omega)
        exact EvS.now ⟨ht.1, fun _ => ht.2, fun h => by omega, rfl⟩
      · refine EvS.neg hpl (EvS.neg (by omega) ?_)
        have e1 : wrap64 (wrap64 (p * 7) + 3) = p * 7 + 3 := by
          rw [w64 (x := p * 7) (by omega) (by omega)]; exact w64 (by omega) (by omega)
        simp only [e1]
        have i1 := tmod_range p b.length h0 (by omega)
        have i2 := tmod_range (p * 7 + 3) b.length (by omega) (by omega)
        refine EvS.pos i1.1 (EvS.pos i1.2 (EvS.pos i2.1 (EvS.pos i2.2 (EvS.neg (by omega) ?_))))
        have r1 := rd_range hb.mem _ i1.1 i1.2
        have r2 := rd_range hb.mem _ i2.1 i2.2
        generalize rd b (Int.tmod p b.length) = v1 at r1 ⊢
        generalize rd b (Int.tmod (p * 7 + 3) b.length) = v2 at r2 ⊢
        have d0 : 0 ≤ Int.tdiv p b.length ∧ Int.tdiv p b.length ≤ p := by
          rw [tdiv_pos _ _ h0]
          exact ⟨Int.ediv_nonneg h0 (by omega), Int.ediv_le_self _ h0⟩
        generalize Int.tdiv p b.length = dv at d0 ⊢
        simp (disch := omega) only [w64]
        have hx0 : 0 ≤ v1 * 131 + v2 * 1117 + p * 29 + dv * 53 := by omega
        have hx1 : v1 * 131 + v2 * 1117 + p * 29 + dv * 53 < 1000000000 := by omega
        generalize v1 * 131 + v2 * 1117 + p * 29 + dv * 53 = X at hx0 hx1 ⊢
        rw [tdiv_pos X 64 hx0, w64 (x := X / 64) (by omega) (by omega)]
        have ht := tmod_range (Go.bits .xor .i64 X (X / 64)) n (xor_nonneg _ _ (by omega) (by omega) (by omega) (by omega)) (by omega)
        exact EvS.now ⟨ht.1, fun _ => ht.2, fun h => by omega, rfl⟩

theorem one_ok (b : List Int) (p : Int) (l : List Int) (hb : BytesOk b) (h0 : 0 ≤ p) (h1 : p ≤ 100000) (hl : 1 ≤ l.length) :
    EvS (fun k => spec_reader_one.f k b p l) (fun r => r.1 ∈ l ∧ r.2 = p + 1) := by
  simp only [spec_reader_one.f]
  refine EvS.bind (pick_ok b p l.length hb h0 h1) ?_
  rintro ⟨v, q⟩ ⟨a1, a2, a3, a4⟩
  have a5 := a2 (by omega)
  refine EvS.pos a1 (EvS.pos a5 ?_)
  exact EvS.now ⟨rd_mem _ a1 a5, a4⟩
/-! ## Lists of numbers. -/
theorem inRange_eq (n lo hi : Int) : spec_inRange.f n lo hi = some (decide (lo ≤ n ∧ n ≤ hi)) := by
  unfold spec_inRange.f
  split
  · exact congrArg some (decide_eq_decide.2 (by omega))
  · exact congrArg some (decide_eq_false (by omega)).symm
def AllW (xs : List Int) (lo hi : Int) : Prop := ∀ x ∈ xs, lo ≤ x ∧ x ≤ hi
instance (xs : List Int) (lo hi : Int) : Decidable (AllW xs lo hi) := by unfold AllW; infer_instance
theorem allW_cons (y : Int) (ys : List Int) (lo hi : Int) : AllW (y :: ys) lo hi ↔ (lo ≤ y ∧ y ≤ hi) ∧ AllW ys lo hi := by
  unfold AllW; simp
theorem allWithin_l0 (xs : List Int) (hl : xs.length ≤ 1099511627776) (lo hi : Int) (ys : List Int) : ∀ i : Int, At xs i ys → EvS (fun k => impl_allWithin.l0 k lo hi xs xs.length i) (· = decide (AllW ys lo hi)) := by
  induction ys with
  | nil =>
    intro i h
    refine EvS.step (fun k => by rw [impl_allWithin.l0]) ?_
    exact EvS.neg (by have := h.ge; omega) (EvS.now (by simp [AllW]))
  | cons y ys ih =>
    intro i h
    refine EvS.step (fun k => by rw [impl_allWithin.l0]) ?_
    refine EvS.pos h.lt (EvS.pos h.nonneg (EvS.pos h.lt ?_))
    rw [At.rd h]
    refine EvS.ite (fun c => EvS.now (decide_eq_false (fun g => by have := (allW_cons _ _ _ _).1 g; omega)).symm) (fun c1 => EvS.ite (fun c => EvS.now (decide_eq_false (fun g => by have := (allW_cons _ _ _ _).1 g; omega)).symm) (fun c2 => ?_))
    refine EvS.mono (ih _ (h.wnext (by omega))) (fun r hr => ?_)
    rw [hr]
    exact decide_eq_decide.2 ⟨fun g => (allW_cons _ _ _ _).2 ⟨by omega, g⟩, fun g => ((allW_cons _ _ _ _).1 g).2⟩
theorem allWithin_ok (xs : List Int) (hl : xs.length ≤ 1099511627776) (lo hi : Int) : EvS (fun k => impl_allWithin.f k xs lo hi) (· = decide (AllW xs lo hi)) := by
  simp only [impl_allWithin.f]
  exact allWithin_l0 xs hl lo hi xs 0 (At.zero xs)
theorem allIn_l0 (xs : List Int) (hl : xs.length ≤ 1099511627776) (lo hi : Int) (ys : List Int) : ∀ i : Int, At xs i ys → EvS (fun k => spec_allIn.l0 k xs lo hi i) (· = decide (AllW ys lo hi)) := by
  induction ys with
  | nil =>
    intro i h
    refine EvS.step (fun k => by rw [spec_allIn.l0]) ?_
    exact EvS.neg (by have := h.ge; omega) (EvS.now (by simp [AllW]))
  | cons y ys ih =>
    intro i h
    refine EvS.step (fun k => by rw [spec_allIn.l0]) ?_
    refine EvS.pos h.lt (EvS.pos h.nonneg ?_)
    rw [At.rd h]
    refine EvS.call (inRange_eq _ _ _) (EvS.ite (fun c => ?_) (fun c => EvS.now ?_))
    · have c := of_decide_eq_true c
      refine EvS.mono (ih _ (h.wnext (by omega))) (fun r hr => ?_)
      rw [hr]
      exact decide_eq_decide.2 ⟨fun g => (allW_cons _ _ _ _).2 ⟨by omega, g⟩, fun g => ((allW_cons _ _ _ _).1 g).2⟩
    · have c := ndec c
      exact (decide_eq_false (fun g => c ((allW_cons _ _ _ _).1 g).1)).symm
theorem allIn_ok (xs : List Int) (hl : xs.length ≤ 1099511627776) (lo hi : Int) : EvS (fun k => spec_allIn.f k xs lo hi) (· = decide (AllW xs lo hi)) := by
  simp only [spec_allIn.f]
  exact allIn_l0 xs hl lo hi xs 0 (At.zero xs)
/-- The first place of a number, counted from i on; -1 if it is not there. -/
def posF (v : Int) : Int → List Int → Int
  | _, [] => -1
  | i, x :: xs => if x = v then i else posF v (i + 1) xs
theorem posF_range (v : Int) (xs : List Int) : ∀ i : Int, 0 ≤ i → (v ∈ xs → i ≤ posF v i xs ∧ posF v i xs < i + xs.length) ∧ (v ∉ xs → posF v i xs = -1) := by
  induction xs with
  | nil => intro i h0; exact ⟨fun h => by simp at h, fun _ => rfl⟩
  | cons x xs ih =>
    intro i h0
    have h := ih (i + 1) (by omega)
    simp only [posF, List.length_cons]
    by_cases c : x = v
    · rw [if_pos c]; exact ⟨fun _ => by omega, fun g => absurd (by simp [c]) g⟩
    · rw [if_neg c]
      refine ⟨fun g => ?_, fun g => h.2 (fun g2 => g (List.mem_cons_of_mem _ g2))⟩
      have := h.1 ((List.mem_cons.1 g).resolve_left (fun e => c e.symm))
      omega
theorem posF_nonneg (v : Int) (xs : List Int) (i : Int) (h : 0 ≤ i) : (0 ≤ posF v i xs) ↔ v ∈ xs := by
  by_cases c : v ∈ xs
  · have := (posF_range v xs i h).1 c; exact ⟨fun _ => c, fun _ => by omega⟩
  · have := (posF_range v xs i h).2 c; exact ⟨fun g => by omega, fun g => absurd g c⟩
theorem placeIn_l0 (xs : List Int) (hl : xs.length ≤ 1099511627776) (v : Int) (ys : List Int) : ∀ i : Int, At xs i ys → EvS (fun k => spec_placeIn.l0 k xs v i) (· = posF v i ys) := by
  induction ys with
  | nil =>
    intro i h
    refine EvS.step (fun k => by rw [spec_placeIn.l0]) ?_
    exact EvS.neg (by have := h.ge; omega) (EvS.now rfl)
  | cons y ys ih =>
    intro i h
    have h1 := h.lt
    have h2 := h.nonneg
    have hw : wrap64 (i + 1) = i + 1 := w64 (by omega) (by omega)
    refine EvS.step (fun k => by rw [spec_placeIn.l0]) ?_
    refine EvS.pos h.lt (EvS.pos h.nonneg ?_)
    rw [At.rd h, hw, posF]
    by_cases c : y = v
    · rw [if_pos c]; exact EvS.pos c (EvS.now rfl)
    · rw [if_neg c]; exact EvS.neg c (ih _ h.next)
theorem placeIn_ok (xs : List Int) (hl : xs.length ≤ 1099511627776) (v : Int) : EvS (fun k => spec_placeIn.f k xs v) (· = posF v 0 xs) := by
  simp only [spec_placeIn.f]
  exact placeIn_l0 xs hl v xs 0 (At.zero xs)
theorem equalInts_l0 (xs : List Int) (hl : xs.length ≤ 1099511627776) (ys : List Int) : ∀ i : Int, At xs i ys → EvS (fun k => laws_equalInts.l0 k xs xs i) (· = true) := by
  induction ys with
  | nil =>
    intro i h
    refine EvS.step (fun k => by rw [laws_equalInts.l0]) ?_
    exact EvS.neg (by have := h.ge; omega) (EvS.now rfl)
  | cons y ys ih =>
    intro i h
    refine EvS.step (fun k => by rw [laws_equalInts.l0]) ?_
    exact EvS.pos h.lt (EvS.pos h.nonneg (EvS.pos h.lt (EvS.pos (by simp) (ih _ (h.wnext (by omega))))))
theorem equalInts_ok (xs : List Int) (hl : xs.length ≤ 1099511627776) : EvS (fun k => laws_equalInts.f k xs xs) (· = true) := by
  simp only [laws_equalInts.f]
  exact EvS.pos (by trivial) (equalInts_l0 xs hl xs 0 (At.zero xs))
/-- Different numbers from 0 to n - 1. -/
def Diff (xs : List Int) (n : Int) : Prop := xs.Nodup ∧ ∀ x ∈ xs, 0 ≤ x ∧ x < n
instance (xs : List Int) (n : Int) : Decidable (Diff xs n) := by unfold Diff; infer_instance
def DiffF (pre ys : List Int) (n : Int) : Prop := ys.Nodup ∧ ∀ y ∈ ys, 0 ≤ y ∧ y < n ∧ y ∉ pre
instance (pre ys : List Int) (n : Int) : Decidable (DiffF pre ys n) := by unfold DiffF; infer_instance
theorem diffF_cons (pre : List Int) (y : Int) (ys : List Int) (n : Int) : DiffF pre (y :: ys) n ↔ (0 ≤ y ∧ y < n ∧ y ∉ pre) ∧ DiffF (y :: pre) ys n := by
  unfold DiffF
  constructor
  · rintro ⟨h1, h2⟩
    have h1 := List.nodup_cons.1 h1
    refine ⟨h2 y List.mem_cons_self, h1.2, fun z hz => ?_⟩
    have := h2 z (List.mem_cons_of_mem _ hz)
    refine ⟨this.1, this.2.1, fun hm => ?_⟩
    rcases List.mem_cons.1 hm with rfl | hm
    · exact h1.1 hz
    · exact this.2.2 hm
  · rintro ⟨h1, h2, h3⟩
    refine ⟨List.nodup_cons.2 ⟨fun hm => (h3 y hm).2.2 List.mem_cons_self, h2⟩, fun z hz => ?_⟩
    rcases List.mem_cons.1 hz with rfl | hz
    · exact h1
    · have := h3 z hz
      exact ⟨this.1, this.2.1, fun hm => this.2.2 (List.mem_cons_of_mem _ hm)⟩
theorem diffF_congr {p q ys : List Int} {n : Int} (h : ∀ x, x ∈ p ↔ x ∈ q) : DiffF p ys n ↔ DiffF q ys n := by
  unfold DiffF
  simp only [h]
theorem diffF_nil (xs : List Int) (n : Int) : DiffF [] xs n ↔ Diff xs n := by
  unfold DiffF Diff; simp
theorem diff_len {xs : List Int} {n : Int} (h : Diff xs n) : (xs.length : Int) ≤ n ∨ xs = [] := by
  rcases xs with _ | ⟨x, xs⟩
  · exact .inr rfl
  · left
    have h1 : 0 ≤ n := by have := h.2 x List.mem_cons_self; omega
    have h2 : (x :: xs) ⊆ (List.range n.toNat).map (fun m : Nat => (m : Int)) := by
      intro y hy
      have := h.2 y hy
      exact List.mem_map.2 ⟨y.toNat, List.mem_range.2 (by omega), by omega⟩
    have h3 := h.1.length_le_of_subset h2
    rw [List.length_map, List.length_range] at h3
    omega
theorem differentBelow_l0 (xs : List Int) (hl : xs.length ≤ 1099511627776) (n : Int) (ys : List Int) : ∀ (i : Int) (seen : List Bool) (pre : List Int), At xs i ys → (seen.length : Int) = n → (∀ v : Int, 0 ≤ v → v < n → (rdOf false seen v = true ↔ v ∈ pre)) →
    EvS (fun k => impl_differentBelow.l0 k n seen xs xs.length i) (· = decide (DiffF pre ys n)) := by
  induction ys with
  | nil =>
    intro i seen pre h hs hv
    refine EvS.step (fun k => by rw [impl_differentBelow.l0]) ?_
    exact EvS.neg (by have := h.ge; omega) (EvS.now (by simp [DiffF]))
  | cons y ys ih =>
    intro i seen pre h hs hv
    refine EvS.step (fun k => by rw [impl_differentBelow.l0]) ?_
    refine EvS.pos h.lt (EvS.pos h.nonneg (EvS.pos h.lt ?_))
    rw [At.rd h]
    refine EvS.ite (fun c => EvS.now (decide_eq_false (fun g => by have := ((diffF_cons _ _ _ _).1 g).1; omega)).symm) (fun c1 => EvS.ite (fun c => EvS.now (decide_eq_false (fun g => by have := ((diffF_cons _ _ _ _).1 g).1; omega)).symm) (fun c2 => EvS.pos (by omega) (EvS.pos (by omega) ?_)))
    have hy := hv y (by omega) (by omega)
    refine EvS.ite (fun c => EvS.now (decide_eq_false (fun g => ((diffF_cons _ _ _ _).1 g).1.2.2 (hy.1 c))).symm) (fun c3 => ?_)
    refine EvS.mono (ih _ (seen.set y.toNat true) (y :: pre) (h.wnext (by omega)) (by simpa using hs) (fun v h0 h1 => ?_)) (fun r hr => ?_)
    · unfold rdOf
      rw [List.getD_eq_getElem?_getD, List.getElem?_set]
      by_cases e : y = v
      · subst e
        rw [if_pos rfl, if_pos (by omega)]
        exact ⟨fun _ => List.mem_cons_self, fun _ => rfl⟩
      · rw [if_neg (by omega)]
        have := hv v h0 h1
        unfold rdOf at this
        rw [List.getD_eq_getElem?_getD] at this
        rw [this, List.mem_cons]
        exact ⟨fun g => .inr g, fun g => g.resolve_left (fun e2 => e e2.symm)⟩
    · rw [hr]
      exact decide_eq_decide.2 ⟨fun g => (diffF_cons _ _ _ _).2 ⟨⟨by omega, by omega, fun hm => c3 (hy.2 hm)⟩, g⟩, fun g => ((diffF_cons _ _ _ _).1 g).2⟩
theorem differentBelow_ok (xs : List Int) (hl : xs.length ≤ 1099511627776) (n : Int) (hn : n ≤ 1099511627776) (h0 : 0 ≤ n) : EvS (fun k => impl_differentBelow.f k xs n) (· = decide (Diff xs n)) := by
  simp only [impl_differentBelow.f]
  refine EvS.ite (fun c => EvS.now (decide_eq_false (fun g => ?_)).symm) (fun c => EvS.pos h0 (EvS.pos (by omega) ?_))
  · rcases diff_len g with h | h
    · omega
    · subst h; simp at c; omega
  · refine EvS.mono (differentBelow_l0 xs hl n xs 0 _ [] (At.zero xs) (by simp; omega) (fun v _ _ => ?_)) (fun r hr => ?_)
    · unfold rdOf
      rw [List.getD_eq_getElem?_getD, List.getElem?_replicate]
      split <;> simp
    · rw [hr]
      exact decide_eq_decide.2 (diffF_nil xs n)
theorem validMembers_l0 (xs : List Int) (hl : xs.length ≤ 1099511627776) (n : Int) (hn : n ≤ 1099511627776) (h0 : 0 ≤ n) (ys : List Int) : ∀ i : Int, At xs i ys → EvS (fun k => spec_validMembers.l0 k xs n i) (· = decide (DiffF (xs.take i.toNat) ys n)) := by
  induction ys with
  | nil =>
    intro i h
    refine EvS.step (fun k => by rw [spec_validMembers.l0]) ?_
    exact EvS.neg (by have := h.ge; omega) (EvS.now (by simp [DiffF]))
  | cons y ys ih =>
    intro i h
    have h1 := h.lt
    have h2 := h.nonneg
    have hw : wrap64 (i + 1) = i + 1 := w64 (by omega) (by omega)
    refine EvS.step (fun k => by rw [spec_validMembers.l0]) ?_
    refine EvS.pos h.lt (EvS.pos h.nonneg ?_)
    rw [At.rd h, hw, w64 (x := n - 1) (by omega) (by omega)]
    refine EvS.call (inRange_eq _ _ _) (EvS.ite (fun c => EvS.pos (by omega) ?_) (fun c => EvS.now ?_))
    · have c := of_decide_eq_true c
      refine EvS.bindv (placeIn_ok _ (by rw [List.length_take]; omega) y) ?_
      have hp := posF_nonneg y (xs.take i.toNat) 0 (by omega)
      refine EvS.ite (fun g => EvS.now (decide_eq_false (fun g2 => ((diffF_cons _ _ _ _).1 g2).1.2.2 (hp.1 g))).symm) (fun g => ?_)
      refine EvS.mono (ih _ h.next) (fun r hr => ?_)
      rw [hr]
      refine decide_eq_decide.2 (Iff.trans (diffF_congr (q := y :: xs.take i.toNat) (fun x => ?_)) ⟨fun g2 => (diffF_cons _ _ _ _).2 ⟨⟨c.1, by omega, fun hm => g (hp.2 hm)⟩, g2⟩, fun g2 => ((diffF_cons _ _ _ _).1 g2).2⟩)
      simp only [h.take, List.mem_append, List.mem_cons, List.not_mem_nil, or_false]
      exact or_comm
    · have c := ndec c
      exact (decide_eq_false (fun g => c (by have := ((diffF_cons _ _ _ _).1 g).1; omega))).symm
theorem validMembers_ok (xs : List Int) (hl : xs.length ≤ 1099511627776) (n : Int) (hn : n ≤ 1099511627776) (h0 : 0 ≤ n) : EvS (fun k => spec_validMembers.f k xs n) (· = decide (Diff xs n)) := by
  simp only [spec_validMembers.f]
  refine EvS.mono (validMembers_l0 xs hl n hn h0 xs 0 (At.zero xs)) (fun r hr => ?_)
  rw [hr]
  exact decide_eq_decide.2 (diffF_nil xs n)
/-! ## Bodies that vote. -/
def tot : List Int → Int
  | [] => 0
  | x :: xs => x + tot xs
theorem tot_range {xs : List Int} {hi : Int} (h0 : 0 ≤ hi) (h : AllW xs 0 hi) : 0 ≤ tot xs ∧ tot xs ≤ xs.length * hi := by
  induction xs with
  | nil => simp [tot]
  | cons x xs ih =>
    have h1 := (allW_cons _ _ _ _).1 h
    have h2 := ih h1.2
    simp only [tot, List.length_cons, Int.natCast_add, Int.add_mul]
    omega
theorem tot_bound {xs : List Int} (h : ∀ x ∈ xs, -1000000000000 ≤ x ∧ x ≤ 1000000000000) : -(1000000000000 * (xs.length : Int)) ≤ tot xs ∧ tot xs ≤ 1000000000000 * xs.length := by
  induction xs with
  | nil => simp [tot]
  | cons x xs ih =>
    have h1 := h x List.mem_cons_self
    have h2 := ih (fun y hy => h y (List.mem_cons_of_mem _ hy))
    simp only [tot, List.length_cons]
    omega
theorem spec_total_l0 (xs : List Int) (hl : xs.length ≤ 1000) (hx : ∀ x ∈ xs, -1000000000000 ≤ x ∧ x ≤ 1000000000000) (ys : List Int) : ∀ (i acc : Int), At xs i ys → acc + tot ys = tot xs → EvS (fun k => spec_total.l0 k xs acc i) (· = tot xs) := by
  induction ys with
  | nil =>
    intro i acc h e
    refine EvS.step (fun k => by rw [spec_total.l0]) ?_
    exact EvS.neg (by have := h.ge; omega) (EvS.now (by simp [tot] at e; exact e))
  | cons y ys ih =>
    intro i acc h e
    have h1 := h.len
    have h2 := h.nonneg
    have b1 := tot_bound hx
    have b2 := tot_bound (xs := ys) (fun z hz => hx z (h.sub z (List.mem_cons_of_mem _ hz)))
    have b3 := hx y h.mem
    simp only [tot, List.length_cons] at e h1
    refine EvS.step (fun k => by rw [spec_total.l0]) ?_
    refine EvS.pos h.lt (EvS.pos h.nonneg ?_)
    rw [At.rd h, w64 (x := acc + y) (by omega) (by omega)]
    exact ih _ _ (h.wnext (by omega)) (by omega)
theorem spec_total_ok (xs : List Int) (hl : xs.length ≤ 1000) (hx : ∀ x ∈ xs, -1000000000000 ≤ x ∧ x ≤ 1000000000000) : EvS (fun k => spec_total.f k xs) (· = tot xs) := by
  simp only [spec_total.f]
  exact spec_total_l0 xs hl hx xs 0 0 (At.zero _) (by omega)
theorem laws_total_l0 (xs : List Int) (hl : xs.length ≤ 1000) (hx : ∀ x ∈ xs, -1000000000000 ≤ x ∧ x ≤ 1000000000000) (ys : List Int) : ∀ (i acc : Int), At xs i ys → acc + tot ys = tot xs → EvS (fun k => laws_total.l0 k xs acc i) (· = tot xs) := by
  induction ys with
  | nil =>
    intro i acc h e
    refine EvS.step (fun k => by rw [laws_total.l0]) ?_
    exact EvS.neg (by have := h.ge; omega) (EvS.now (by simp [tot] at e; exact e))
  | cons y ys ih =>
    intro i acc h e
    have h1 := h.len
    have h2 := h.nonneg
    have b1 := tot_bound hx
    have b2 := tot_bound (xs := ys) (fun z hz => hx z (h.sub z (List.mem_cons_of_mem _ hz)))
    have b3 := hx y h.mem
    simp only [tot, List.length_cons] at e h1
    refine EvS.step (fun k => by rw [laws_total.l0]) ?_
    refine EvS.pos h.lt (EvS.pos h.nonneg ?_)
    rw [At.rd h, w64 (x := acc + y) (by omega) (by omega)]
    exact ih _ _ (h.wnext (by omega)) (by omega)
theorem laws_total_ok (xs : List Int) (hl : xs.length ≤ 1000) (hx : ∀ x ∈ xs, -1000000000000 ≤ x ∧ x ≤ 1000000000000) : EvS (fun k => laws_total.f k xs) (· = tot xs) := by
  simp only [laws_total.f]
  exact laws_total_l0 xs hl hx xs 0 0 (At.zero _) (by omega)
theorem sumOf_l0 (xs : List Int) (hl : xs.length ≤ 1000) (hx : ∀ x ∈ xs, -1000000000000 ≤ x ∧ x ≤ 1000000000000) (ys : List Int) : ∀ (i acc : Int), At xs i ys → acc + tot ys = tot xs → EvS (fun k => impl_sumOf.l0 k acc xs xs.length i) (· = tot xs) := by
  induction ys with
  | nil =>
    intro i acc h e
    refine EvS.step (fun k => by rw [impl_sumOf.l0]) ?_
    exact EvS.neg (by have := h.ge; omega) (EvS.now (by simp [tot] at e; exact e))
  | cons y ys ih =>
    intro i acc h e
    have h1 := h.len
    have h2 := h.nonneg
    have b1 := tot_bound hx
    have b2 := tot_bound (xs := ys) (fun z hz => hx z (h.sub z (List.mem_cons_of_mem _ hz)))
    have b3 := hx y h.mem
    simp only [tot, List.length_cons] at e h1
    refine EvS.step (fun k => by rw [impl_sumOf.l0]) ?_
    refine EvS.pos h.lt (EvS.pos h.nonneg (EvS.pos h.lt ?_))
    rw [At.rd h, w64 (x := acc + y) (by omega) (by omega)]
    exact ih _ _ (h.wnext (by omega)) (by omega)
theorem sumOf_ok (xs : List Int) (hl : xs.length ≤ 1000) (hx : ∀ x ∈ xs, -1000000000000 ≤ x ∧ x ≤ 1000000000000) : EvS (fun k => impl_sumOf.f k xs) (· = tot xs) := by
  simp only [impl_sumOf.f]
  exact sumOf_l0 xs hl hx xs 0 0 (At.zero _) (by omega)
def VBody (ws : List Int) (need : Int) : Prop := (1 ≤ ws.length ∧ ws.length ≤ 12) ∧ AllW ws 0 100 ∧ 1 ≤ need ∧ need ≤ tot ws
instance (ws : List Int) (need : Int) : Decidable (VBody ws need) := by unfold VBody; infer_instance
theorem impl_ValidBody_ok (ws : List Int) (hl : ws.length ≤ 4000000) (need : Int) : EvS (fun k => impl_ValidBody.f k ws need) (· = decide (VBody ws need)) := by
  simp only [impl_ValidBody.f]
  refine EvS.ite (fun c => EvS.now (decide_eq_false (fun g => by have := g.1; omega)).symm) (fun c1 => EvS.ite (fun c => EvS.now (decide_eq_false (fun g => by have := g.1; omega)).symm) (fun c2 => ?_))
  refine EvS.bindv (allWithin_ok ws (by omega) 0 100) (EvS.ite (fun c3 => EvS.ite (fun c4 => ?_) (fun c4 => EvS.now (decide_eq_false (fun g => c4 g.2.2.1)).symm)) (fun c3 => EvS.now (decide_eq_false (fun g => ndec c3 g.2.1)).symm))
  have c3 := of_decide_eq_true c3
  exact EvS.bindv (sumOf_ok ws (by omega) (fun x hx => by have := c3 x hx; omega)) (EvS.now (decide_eq_decide.2 ⟨fun g => ⟨by omega, c3, c4, g⟩, fun g => g.2.2.2⟩))
theorem spec_validBody_ok (ws : List Int) (hl : ws.length ≤ 4000000) (need : Int) : EvS (fun k => spec_validBody.f k ws need) (· = decide (VBody ws need)) := by
  simp only [spec_validBody.f]
  refine EvS.call (inRange_eq _ _ _) (EvS.ite (fun c1 => EvS.bindv (allIn_ok ws (by omega) 0 100) (EvS.ite (fun c3 => ?_) (fun c3 => EvS.now (decide_eq_false (fun g => ndec c3 g.2.1)).symm))) (fun c1 => EvS.now (decide_eq_false (fun g => ndec c1 (by have := g.1; omega))).symm))
  have c1 := of_decide_eq_true c1
  have c3 := of_decide_eq_true c3
  exact EvS.bindv (spec_total_ok ws (by omega) (fun x hx => by have := c3 x hx; omega)) (EvS.call (inRange_eq _ _ _) (EvS.now (decide_eq_decide.2 ⟨fun g => ⟨by omega, c3, g⟩, fun g => g.2.2⟩)))
/-! ## Bodies that are drawn. -/
theorem someBody_l0 (b : List Int) (hb : BytesOk b) (d : Nat) : ∀ (n p : Int) (ws : List Int), n ≤ d → 0 ≤ p → p + 2 * d + 10 ≤ 10000 → ws.length + d ≤ 9 → AllW ws 0 100 → 1 ≤ ws.length + n →
    EvS (fun k => spec_someBody.l0 k n b p ws 0) (fun r => (1 ≤ r.1.length ∧ r.1.length ≤ ws.length + d ∧ AllW r.1 0 100) ∧ p ≤ r.2.2 ∧ r.2.2 ≤ p + 2 * d + 2) := by
  induction d with
  | zero =>
    intro n p ws h1 h2 h3 h4 h5 h6
    refine EvS.step (fun k => by rw [spec_someBody.l0]) ?_
    refine EvS.neg (by omega) (EvS.bindv (spec_total_ok ws (by omega) (fun x hx => by have := h5 x hx; omega)) ?_)
    refine EvS.bind (pick_ok _ _ _ hb (by omega) (by omega)) ?_
    rintro ⟨v1, _⟩ ⟨v1_0, v1_1, v1_2, rfl⟩
    dsimp only at v1_0 v1_1 v1_2 ⊢
    refine EvS.bind (one_ok _ _ _ hb (by omega) (by omega) (by simp)) ?_
    rintro ⟨v2, _⟩ ⟨v2_m, rfl⟩
    dsimp only at v2_m ⊢
    exact EvS.now ⟨⟨by dsimp only; omega, by dsimp only; omega, h5⟩, by dsimp only; omega, by dsimp only; omega⟩
  | succ d ih =>
    intro n p ws h1 h2 h3 h4 h5 h6
    refine EvS.step (fun k => by rw [spec_someBody.l0]) ?_
    refine EvS.ite (fun c => ?_) (fun c => ?_)
    · refine EvS.bind (pick_ok _ _ _ hb (by omega) (by omega)) ?_
      rintro ⟨v1, _⟩ ⟨v1_0, v1_1, v1_2, rfl⟩
      dsimp only at v1_0 v1_1 v1_2 ⊢
      refine EvS.bind (one_ok _ _ _ hb (by omega) (by omega) (by simp)) ?_
      rintro ⟨v2, _⟩ ⟨v2_m, rfl⟩
      dsimp only at v2_m ⊢
      rw [w64 (x := 1 + v1) (by omega) (by omega), w64 (x := n - 1) (by omega) (by omega)] at *
      refine EvS.pos (by omega) ?_
      have hv : 0 ≤ v2 ∧ v2 ≤ 100 := by
        have := v1_1 (by omega)
        simp at v2_m; omega
      refine EvS.mono (ih _ _ _ (by omega) (by omega) (by omega) (by simp; omega) ?_ (by simp; omega)) (fun r hr => ?_)
      · intro x hx
        rcases List.mem_append.1 hx with hx | hx
        · exact h5 x hx
        · rw [List.mem_singleton] at hx; omega
      · obtain ⟨⟨g1, g2, g3⟩, g4, g5⟩ := hr
        simp at g2
        exact ⟨⟨g1, by omega, g3⟩, by omega, by omega⟩
    · refine EvS.bindv (spec_total_ok ws (by omega) (fun x hx => by have := h5 x hx; omega)) ?_
      refine EvS.bind (pick_ok _ _ _ hb (by omega) (by omega)) ?_
      rintro ⟨v1, _⟩ ⟨v1_0, v1_1, v1_2, rfl⟩
      dsimp only at v1_0 v1_1 v1_2 ⊢
      refine EvS.bind (one_ok _ _ _ hb (by omega) (by omega) (by simp)) ?_
      rintro ⟨v2, _⟩ ⟨v2_m, rfl⟩
      dsimp only at v2_m ⊢
      exact EvS.now ⟨⟨by dsimp only; omega, by dsimp only; omega, h5⟩, by dsimp only; omega, by dsimp only; omega⟩
theorem someBody_ok (b : List Int) (p : Int) (hb : BytesOk b) (h0 : 0 ≤ p) (h1 : p ≤ 1000) :
    EvS (fun k => spec_someBody.f k b p) (fun r => (1 ≤ r.1.length ∧ r.1.length ≤ 8 ∧ AllW r.1 0 100) ∧ p ≤ r.2.2 ∧ r.2.2 ≤ p + 19) := by
  simp only [spec_someBody.f]
  refine EvS.bind (one_ok _ _ _ hb (by omega) (by omega) (by simp)) ?_
  rintro ⟨v1, _⟩ ⟨v1_m, rfl⟩
  dsimp only at v1_m ⊢
  have hv : 1 ≤ v1 ∧ v1 ≤ (8 : Nat) := by simp at v1_m; omega
  refine EvS.mono (someBody_l0 b hb 8 v1 _ [] hv.2 (by omega) (by omega) (by simp) (by simp [AllW]) (by simp; omega)) (fun r hr => ?_)
  obtain ⟨⟨g1, g2, g3⟩, g4, g5⟩ := hr
  simp at g2
  exact ⟨⟨g1, by omega, g3⟩, by omega, by omega⟩
theorem anyBody_l0 (b : List Int) (p need : Int) (d : Nat) : ∀ ws : List Int, ws.length + d = 9 → 1 ≤ ws.length → AllW ws (-1) 101 → EvS (fun k => spec_anyBody.l0 k b p ws need) (fun r => (1 ≤ r.1.length ∧ r.1.length ≤ 9 ∧ AllW r.1 (-1) 101) ∧ r.2.2 = p) := by
  induction d with
  | zero =>
    intro ws h1 h2 h3
    refine EvS.step (fun k => by rw [spec_anyBody.l0]) ?_
    exact EvS.neg (by omega) (EvS.now ⟨⟨h2, by dsimp only; omega, h3⟩, rfl⟩)
  | succ d ih =>
    intro ws h1 h2 h3
    refine EvS.step (fun k => by rw [spec_anyBody.l0]) ?_
    refine EvS.pos (by omega) (EvS.pos (by omega) (ih _ (by simp; omega) (by simp) ?_))
    intro x hx
    rcases List.mem_append.1 hx with hx | hx
    · exact h3 x hx
    · rw [List.mem_singleton] at hx; omega
theorem anyBody_ok (b : List Int) (p : Int) (hb : BytesOk b) (h0 : 0 ≤ p) (h1 : p ≤ 1000) :
    EvS (fun k => spec_anyBody.f k b p) (fun r => (1 ≤ r.1.length ∧ r.1.length ≤ 9 ∧ AllW r.1 (-1) 101) ∧ p ≤ r.2.2 ∧ r.2.2 ≤ p + 22) := by
  simp only [spec_anyBody.f]
  refine EvS.bind (someBody_ok b p hb h0 h1) ?_
  rintro ⟨ws, need, q⟩ ⟨⟨g1, g2, g3⟩, g4, g5⟩
  dsimp only at g1 g2 g3 g4 g5 ⊢
  have g6 : AllW ws (-1) 101 := fun x hx => by have := g3 x hx; omega
  refine EvS.bind (pick_ok _ _ _ hb (by omega) (by omega)) ?_
  rintro ⟨v1, _⟩ ⟨v1_0, v1_1, v1_2, rfl⟩
  dsimp only at v1_0 v1_1 v1_2 ⊢
  refine EvS.ite (fun _ => ?_) (fun _ => EvS.ite (fun _ => ?_) (fun _ => EvS.ite (fun _ => ?_) (fun _ => ?_)))
  · refine EvS.bindv (spec_total_ok ws (by omega) (fun x hx => by have := g3 x hx; omega)) ?_
    refine EvS.bind (one_ok _ _ _ hb (by omega) (by omega) (by simp)) ?_
    rintro ⟨v2, _⟩ ⟨v2_m, rfl⟩
    dsimp only at v2_m ⊢
    exact EvS.now ⟨⟨g1, by dsimp only; omega, g6⟩, by dsimp only; omega, by dsimp only; omega⟩
  · refine EvS.bind (one_ok _ _ _ hb (by omega) (by omega) (by simp)) ?_
    rintro ⟨v2, _⟩ ⟨v2_m, rfl⟩
    dsimp only at v2_m ⊢
    refine EvS.pos (by omega) (EvS.now ⟨⟨by simp; omega, by simp; omega, fun x hx => ?_⟩, by dsimp only; omega, by dsimp only; omega⟩)
    rcases List.mem_or_eq_of_mem_set hx with hx | hx
    · exact g6 x hx
    · simp at v2_m; omega
  · refine EvS.mono (anyBody_l0 b _ need (9 - ws.length) ws (by omega) g1 g6) (fun r hr => ?_)
    exact ⟨hr.1, by omega, by omega⟩
  · exact EvS.now ⟨⟨g1, by dsimp only; omega, g6⟩, by dsimp only; omega, by dsimp only; omega⟩
/-! ## Members who vote together. -/
theorem mn_eq (a b : Int) : mn a b = if a ≤ b then a else b := by unfold mn; split <;> split <;> omega
theorem mx_eq (a b : Int) : mx a b = if a ≤ b then b else a := by unfold mx; split <;> split <;> omega
/-- Place a holds s, and place b is gone. -/
def mrg (a b s : Int) : Int → List Int → List Int
  | _, [] => []
  | j, y :: ys => if j = a then s :: mrg a b s (j + 1) ys else if j = b then mrg a b s (j + 1) ys else y :: mrg a b s (j + 1) ys
theorem mrg_past (a b s : Int) (ys : List Int) : ∀ j : Int, a < j → b < j → mrg a b s j ys = ys := by
  induction ys with
  | nil => intro j _ _; rfl
  | cons y ys ih => intro j h1 h2; simp only [mrg]; rw [if_neg (by omega), if_neg (by omega), ih (j + 1) (by omega) (by omega)]
theorem mrg_mid (a b s : Int) (ys : List Int) : ∀ j : Int, a < j → j ≤ b → b < j + ys.length → mrg a b s j ys = ys.eraseIdx (b - j).toNat := by
  induction ys with
  | nil => intro j _ h1 h2; simp at h2; omega
  | cons y ys ih =>
    intro j h1 h2 h3
    rw [List.length_cons] at h3
    simp only [mrg]
    rw [if_neg (by omega)]
    by_cases c : j = b
    · rw [if_pos c, mrg_past a b s ys (j + 1) (by omega) (by omega), show (b - j).toNat = 0 by omega]; rfl
    · rw [if_neg c, ih (j + 1) (by omega) (by omega) (by omega), show (b - j).toNat = (b - (j + 1)).toNat + 1 by omega]; rfl
theorem mrg_all (a b s : Int) (hab : a < b) (ys : List Int) : ∀ j : Int, j ≤ a → b < j + ys.length → mrg a b s j ys = (ys.set (a - j).toNat s).eraseIdx (b - j).toNat := by
  induction ys with
  | nil => intro j h1 h2; simp at h2; omega
  | cons y ys ih =>
    intro j h1 h3
    rw [List.length_cons] at h3
    simp only [mrg]
    by_cases c : j = a
    · rw [if_pos c, mrg_mid a b s ys (j + 1) (by omega) (by omega) (by omega), show (a - j).toNat = 0 by omega, show (b - j).toNat = (b - (j + 1)).toNat + 1 by omega]; rfl
    · rw [if_neg c, if_neg (by omega), ih (j + 1) (by omega) (by omega), show (a - j).toNat = (a - (j + 1)).toNat + 1 by omega, show (b - j).toNat = (b - (j + 1)).toNat + 1 by omega]; rfl
def VM (ws : List Int) (need i k : Int) : Prop := VBody ws need ∧ Diff [i, k] ws.length ∧ rd ws i + rd ws k ≤ 100
instance (ws : List Int) (need i k : Int) : Decidable (VM ws need i k) := by unfold VM; infer_instance
def mergeL (ws : List Int) (i k : Int) : List Int := (ws.set (mn i k).toNat (rd ws i + rd ws k)).eraseIdx (mx i k).toNat
def mergeB (ws : List Int) (need i k : Int) : List Int × Int := if VM ws need i k then (mergeL ws i k, need) else ([], 0)
theorem diff2 {i k n : Int} (h : Diff [i, k] n) : i ≠ k ∧ (0 ≤ i ∧ i < n) ∧ 0 ≤ k ∧ k < n := by
  have h1 := List.nodup_cons.1 h.1
  exact ⟨fun e => h1.1 (by simp [e]), h.2 i (by simp), h.2 k (by simp)⟩
theorem mm_range {i k n : Int} (h : Diff [i, k] n) : 0 ≤ mn i k ∧ mn i k < mx i k ∧ mx i k < n := by
  have := diff2 h
  rw [mn_eq, mx_eq]
  split <;> omega
theorem diff_pair {i k n : Int} (h : i ≠ k) (h1 : 0 ≤ i ∧ i < n) (h2 : 0 ≤ k ∧ k < n) : Diff [i, k] n := ⟨by simp [h], fun x hx => by simp at hx; omega⟩
theorem delete_eq (l : List Int) (i : Int) (h0 : 0 ≤ i) (h1 : i < l.length) : slices_Delete_int_int.f l i (i + 1) = some (l.eraseIdx i.toNat) := by
  unfold slices_Delete_int_int.f
  rw [if_pos h0, if_pos h1, if_pos rfl]
theorem clone_eq (l : List Int) (h : l.length ≤ 4000000) : slices_Clone_int_int.f l = some l := by
  unfold slices_Clone_int_int.f
  simp only [Option.bind_some, List.length_nil, List.nil_append]
  rw [if_pos (by omega)]
theorem impl_Merge_ok (ws : List Int) (hl : ws.length ≤ 4000000) (need i k : Int) : EvS (fun q => impl_MergeMembers.f q ws need i k) (· = mergeB ws need i k) := by
  have jt : ¬ VM ws need i k → EvS (fun q => impl_MergeMembers.j0 q i k true ws need) (· = mergeB ws need i k) := by
    intro g
    refine EvS.step (fun q => by rw [impl_MergeMembers.j0]) ?_
    exact EvS.pos rfl (EvS.now (by unfold mergeB; rw [if_neg g]))
  simp only [impl_MergeMembers.f]
  refine EvS.bindv (impl_ValidBody_ok ws hl need) (EvS.ite (fun c1 => EvS.ite (fun c2 => jt (fun g => (diff2 g.2.1).1 c2)) (fun c2 => EvS.bindv (differentBelow_ok [i, k] (by simp) _ (by omega) (by omega)) ?_)) (fun c1 => jt (fun g => ndec c1 g.1)))
  have hv := of_decide_eq_true c1
  by_cases c3 : Diff [i, k] ws.length
  · rw [decide_eq_true c3]
    have hd := diff2 c3
    have hm := mm_range c3
    have hi := rd_range hv.2.1 i hd.2.1.1 hd.2.1.2
    have hk := rd_range hv.2.1 k hd.2.2.1 hd.2.2.2
    have hn := hv.1
    refine EvS.step (fun q => by rw [impl_MergeMembers.j0]) ?_
    rw [w64 (x := rd ws i + rd ws k) (by omega) (by omega), w64 (x := mx i k + 1) (by omega) (by omega)]
    refine EvS.neg (by simp) (EvS.pos hd.2.1.1 (EvS.pos hd.2.1.2 (EvS.pos hd.2.2.1 (EvS.pos hd.2.2.2 (EvS.ite (fun c4 => EvS.now ?_) (fun c4 => EvS.call (clone_eq ws (by omega)) (EvS.pos hm.1 (EvS.pos (by omega) (EvS.call (delete_eq _ _ (by omega) (by rw [List.length_set]; omega)) (EvS.now ?_))))))))))
    · unfold mergeB; rw [if_neg (fun g => by have := g.2.2; omega)]
    · unfold mergeB; rw [if_pos ⟨hv, c3, by omega⟩]; rfl
  · rw [decide_eq_false c3]
    exact jt (fun g => c3 g.2.1)
theorem spec_merge_l0 (ws : List Int) (hn : ws.length ≤ 12) (hw : AllW ws 0 100) (need i k : Int) (hd : Diff [i, k] ws.length) (ys : List Int) : ∀ (j : Int) (out : List Int), At ws j ys → out.length ≤ j →
    EvS (fun q => spec_MergeMembers.l0 q i k j ws need out need) (· = (out ++ mrg (mn i k) (mx i k) (rd ws i + rd ws k) j ys, need)) := by
  have hd2 := diff2 hd
  have hi := rd_range hw i hd2.2.1.1 hd2.2.1.2
  have hk := rd_range hw k hd2.2.2.1 hd2.2.2.2
  induction ys with
  | nil =>
    intro j out h ho
    refine EvS.step (fun q => by rw [spec_MergeMembers.l0]) ?_
    exact EvS.neg (by have := h.ge; omega) (EvS.now (by simp [mrg]))
  | cons y ys ih =>
    intro j out h ho
    have h0 := h.nonneg
    have h1 := h.lt
    refine EvS.step (fun q => by rw [spec_MergeMembers.l0]) ?_
    rw [At.rd h, w64 (x := rd ws i + rd ws k) (by omega) (by omega), w64 (x := j + 1) (by omega) (by omega)]
    refine EvS.pos h.lt (EvS.ite (fun c => EvS.pos hd2.2.1.1 (EvS.pos hd2.2.1.2 (EvS.pos hd2.2.2.1 (EvS.pos hd2.2.2.2 (EvS.pos (by omega) ?_))))) (fun c => EvS.ite (fun c2 => ?_) (fun c2 => EvS.pos h0 (EvS.pos (by omega) ?_))))
    · refine EvS.mono (ih (j + 1) _ h.next (by simp; omega)) (fun r hr => ?_)
      rw [hr, mrg, if_pos c]; simp
    · refine EvS.mono (ih (j + 1) _ h.next (by omega)) (fun r hr => ?_)
      rw [hr, mrg, if_neg c, if_pos c2]
    · refine EvS.mono (ih (j + 1) _ h.next (by simp; omega)) (fun r hr => ?_)
      rw [hr, mrg, if_neg c, if_neg c2]; simp
theorem spec_Merge_ok (ws : List Int) (hl : ws.length ≤ 4000000) (need i k : Int) : EvS (fun q => spec_MergeMembers.f q ws need i k) (· = mergeB ws need i k) := by
  have jt : ¬ VM ws need i k → EvS (fun q => spec_MergeMembers.j0 q i k true ws need) (· = mergeB ws need i k) := by
    intro g
    refine EvS.step (fun q => by rw [spec_MergeMembers.j0]) ?_
    exact EvS.pos rfl (EvS.now (by unfold mergeB; rw [if_neg g]))
  simp only [spec_MergeMembers.f]
  refine EvS.bindv (spec_validBody_ok ws hl need) (EvS.ite (fun c1 => EvS.bindv (validMembers_ok [i, k] (by simp) _ (by omega) (by omega)) (EvS.ite (fun c3 => ?_) (fun c3 => jt (fun g => ndec c3 g.2.1)))) (fun c1 => jt (fun g => ndec c1 g.1)))
  have hv := of_decide_eq_true c1
  have c3 := of_decide_eq_true c3
  have hd := diff2 c3
  have hm := mm_range c3
  have hi := rd_range hv.2.1 i hd.2.1.1 hd.2.1.2
  have hk := rd_range hv.2.1 k hd.2.2.1 hd.2.2.2
  have hn := hv.1
  refine EvS.pos hd.2.1.1 (EvS.pos hd.2.1.2 (EvS.pos hd.2.2.1 (EvS.pos hd.2.2.2 ?_)))
  rw [w64 (x := rd ws i + rd ws k) (by omega) (by omega)]
  by_cases c4 : rd ws i + rd ws k > 100
  · rw [decide_eq_true c4]
    exact jt (fun g => by have := g.2.2; omega)
  · rw [decide_eq_false c4]
    refine EvS.step (fun q => by rw [spec_MergeMembers.j0]) ?_
    refine EvS.neg (by simp) (EvS.mono (spec_merge_l0 ws hn.2 hv.2.1 need i k c3 ws 0 [] (At.zero _) (by simp)) (fun r hr => ?_))
    rw [hr]
    unfold mergeB
    rw [if_pos ⟨hv, c3, by omega⟩, mrg_all _ _ _ hm.2.1 ws 0 hm.1 (by omega), Int.sub_zero, Int.sub_zero]
    rfl
theorem draw_ok (l : List Int) (hl : ∀ x ∈ l, 0 ≤ x ∧ x ≤ 255) : EvS (fun k => spec_DrawMergeMembers.f k l) (fun r => r.1.length ≤ 9) := by
  simp only [spec_DrawMergeMembers.f]
  obtain ⟨b, be, hb⟩ := newReader_ok l hl
  refine EvS.call be ?_
  dsimp only
  refine EvS.bind (anyBody_ok b 0 hb (by omega) (by omega)) ?_
  rintro ⟨ws, need, q⟩ ⟨⟨g1, g2, g3⟩, g4, g5⟩
  dsimp only at g1 g2 g3 g4 g5 ⊢
  refine EvS.bind (one_ok _ _ _ hb (by omega) (by omega) (by simp)) ?_
  rintro ⟨v1, _⟩ ⟨v1_m, rfl⟩
  dsimp only at v1_m ⊢
  refine EvS.bind (one_ok _ _ _ hb (by omega) (by omega) (by simp)) ?_
  rintro ⟨v2, _⟩ ⟨v2_m, rfl⟩
  dsimp only at v2_m ⊢
  exact EvS.now g2
theorem equalBody_ok (ws : List Int) (need : Int) (hl : ws.length ≤ 4000000) : EvS (fun k => laws_equalBody.f k ws need ws need) (· = true) := by
  simp only [laws_equalBody.f]
  exact EvS.bindv (equalInts_ok ws (by omega)) (EvS.pos rfl (EvS.now (by simp)))
theorem tot_set (l : List Int) : ∀ (n : Nat) (h : n < l.length) (s : Int), tot (l.set n s) = tot l - l[n] + s := by
  induction l with
  | nil => intro n h; simp at h
  | cons x l ih =>
    intro n h s
    cases n with
    | zero => simp [tot]; omega
    | succ n => have := ih n (by simpa using h) s; simp only [List.set_cons_succ, tot, List.getElem_cons_succ]; omega
theorem tot_erase (l : List Int) : ∀ (n : Nat) (h : n < l.length), tot (l.eraseIdx n) = tot l - l[n] := by
  induction l with
  | nil => intro n h; simp at h
  | cons x l ih =>
    intro n h
    cases n with
    | zero => simp [tot]; omega
    | succ n => have := ih n (by simpa using h); simp only [List.eraseIdx_cons_succ, tot, List.getElem_cons_succ]; omega
theorem rd_get (l : List Int) (q : Int) (h0 : 0 ≤ q) (h : q.toNat < l.length) : rd l q = l[q.toNat] := by
  unfold rd
  rw [List.getD_eq_getElem?_getD, List.getElem?_eq_getElem h]; rfl
theorem merge_comm (ws : List Int) (i k : Int) (h : i ≠ k) : mergeL ws k i = mergeL ws i k := by
  unfold mergeL
  have e1 : mn k i = mn i k := by rw [mn_eq, mn_eq]; split <;> split <;> omega
  have e2 : mx k i = mx i k := by rw [mx_eq, mx_eq]; split <;> split <;> omega
  rw [e1, e2, Int.add_comm]
theorem merge_facts {ws : List Int} {need i k : Int} (h : VM ws need i k) : tot (mergeL ws i k) = tot ws ∧ ((mergeL ws i k).length : Int) = (ws.length : Int) - 1 ∧ VBody (mergeL ws i k) need ∧ rd (mergeL ws i k) (mn i k) = rd ws i + rd ws k := by
  have hv := h.1
  have hd := diff2 h.2.1
  have hm := mm_range h.2.1
  have hi := rd_range hv.2.1 i hd.2.1.1 hd.2.1.2
  have hk := rd_range hv.2.1 k hd.2.2.1 hd.2.2.2
  have hn := hv.1
  obtain ⟨a, ha⟩ := Int.eq_ofNat_of_zero_le hm.1
  obtain ⟨b, hb⟩ := Int.eq_ofNat_of_zero_le (show 0 ≤ mx i k by omega)
  have hab : a < b := by omega
  have hbl : b < ws.length := by omega
  have hl2 : (ws.set a (rd ws i + rd ws k)).length = ws.length := List.length_set
  have e : mergeL ws i k = (ws.set a (rd ws i + rd ws k)).eraseIdx b := by unfold mergeL; rw [ha, hb]; rfl
  have hpair : rd ws (a : Int) + rd ws (b : Int) = rd ws i + rd ws k := by
    rw [mn_eq] at ha
    rw [mx_eq] at hb
    by_cases c : i ≤ k
    · rw [if_pos c] at ha hb; rw [← ha, ← hb]
    · rw [if_neg c] at ha hb; rw [← ha, ← hb, Int.add_comm]
  have ra : rd ws (a : Int) = ws[a] := by rw [rd_get ws a (by omega) (by omega)]; simp only [Int.toNat_natCast]
  have rb : rd ws (b : Int) = ws[b] := by rw [rd_get ws b (by omega) (by omega)]; simp only [Int.toNat_natCast]
  have hlen : ((ws.set a (rd ws i + rd ws k)).eraseIdx b).length = ws.length - 1 := by rw [List.length_eraseIdx_of_lt (by omega), hl2]
  have ht : tot (mergeL ws i k) = tot ws := by
    rw [e, tot_erase _ b (by omega), tot_set ws a (by omega), List.getElem_set_ne (by omega)]
    omega
  refine ⟨ht, by rw [e, hlen]; omega, ⟨by rw [e, hlen]; omega, fun x hx => ?_, hv.2.2.1, by rw [ht]; exact hv.2.2.2⟩, ?_⟩
  · rw [e] at hx
    rcases List.mem_or_eq_of_mem_set (List.mem_of_mem_eraseIdx hx) with hx | hx
    · exact hv.2.1 x hx
    · have := h.2.2; omega
  · rw [e, ha, rd_get _ a (by omega) (by omega)]
    simp only [Int.toNat_natCast]
    rw [List.getElem_eraseIdx_of_lt _ hab, List.getElem_set_self]
theorem FnMergeMembers : laws_FnMergeMembers.Pure := by
  intro l0 _ _ hw
  refine EvS.holds ?_
  simp only [laws_FnMergeMembers.f]
  refine EvS.ite (fun _ => EvS.now rfl) (fun _ => ?_)
  refine EvS.bind (draw_ok l0 (fun x hx => u8_range (hw x hx))) ?_
  rintro ⟨ws, need, i, k⟩ g1
  dsimp only at g1 ⊢
  have hlen : (mergeB ws need i k).1.length ≤ 100 := by
    unfold mergeB
    split
    · unfold mergeL
      have := List.length_eraseIdx_le (ws.set (mn i k).toNat (rd ws i + rd ws k)) (mx i k).toNat
      rw [List.length_set] at this
      dsimp only
      omega
    · simp
  refine EvS.bindv (impl_Merge_ok ws (by omega) need i k) (EvS.bindv (spec_Merge_ok ws (by omega) need i k) (EvS.bindv (equalBody_ok _ _ (show (mergeB ws need i k).1.length ≤ _ by omega)) (EvS.pos rfl ?_)))
  by_cases h : VM ws need i k
  · have hf := merge_facts h
    have hd := diff2 h.2.1
    have hm := mm_range h.2.1
    have hv := h.1
    have hv2 := hf.2.2.1
    have e : mergeB ws need i k = (mergeL ws i k, need) := by unfold mergeB; rw [if_pos h]
    have h' : VM ws need k i := ⟨h.1, diff_pair (fun q => hd.1 q.symm) hd.2.2 hd.2.1, by have := h.2.2; omega⟩
    have e' : mergeB ws need k i = (mergeL ws i k, need) := by unfold mergeB; rw [if_pos h', merge_comm ws i k hd.1]
    rw [e]
    have hn := hv.1
    have hn2 := hv2.1
    rw [show (((mergeL ws i k).length : Int) == 0) = false by simp; intro q; rw [q] at hn2; simp at hn2]
    refine EvS.step (fun q => by rw [laws_FnMergeMembers.j0]) ?_
    have hi := impl_Merge_ok ws (by omega) need k i
    rw [e'] at hi
    have hik := rd_range hv.2.1 i hd.2.1.1 hd.2.1.2
    have hkk := rd_range hv.2.1 k hd.2.2.1 hd.2.2.2
    refine EvS.neg (by simp) (EvS.bindv hi (EvS.bindv (equalBody_ok (mergeL ws i k) need (by omega)) (EvS.pos rfl ?_)))
    refine EvS.bindv (laws_total_ok (mergeL ws i k) (by omega) (fun x hx => by have := hv2.2.1 x hx; omega)) (EvS.bindv (laws_total_ok ws (by omega) (fun x hx => by have := hv.2.1 x hx; omega)) (EvS.pos hf.1 ?_))
    rw [w64 (x := (ws.length : Int) - 1) (by omega) (by omega), w64 (x := rd ws i + rd ws k) (by omega) (by omega)]
    refine EvS.pos hf.2.1 (EvS.bindv (impl_ValidBody_ok (mergeL ws i k) (by omega) need) (EvS.pos (decide_eq_true hv2) (EvS.pos hm.1 (EvS.pos (show mn i k < ((mergeL ws i k).length : Int) by omega) (EvS.pos hd.2.1.1 (EvS.pos hd.2.1.2 (EvS.pos hd.2.2.1 (EvS.pos hd.2.2.2 (EvS.now ?_)))))))))
    rw [hf.2.2.2]
    simp
  · have e : mergeB ws need i k = ([], 0) := by unfold mergeB; rw [if_neg h]
    rw [e]
    refine EvS.step (fun q => by rw [laws_FnMergeMembers.j0]) ?_
    have hs := spec_Merge_ok ws (by omega) need i k
    rw [e] at hs
    exact EvS.pos rfl (EvS.bindv hs (EvS.bindv (equalBody_ok [] 0 (by simp)) (EvS.now rfl)))
end Go.Proofs.Ytkbgcnpjamadeaa.Pure
