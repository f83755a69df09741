/- Who wins, wins with one more, all win and nobody does not; and Wins is what the reference tells: for every code. Conditions: none. -/
import Derived.Test.YtkbgcnpjamadeaaMFnWinsx0
import Derived.Test.YtkbgcnpjamadeaaMFnWinsx1
import Derived.Test.YtkbgcnpjamadeaaMFnWinsx2
import Derived.Test.YtkbgcnpjamadeaaMFnWinsx3
import Derived.Test.YtkbgcnpjamadeaaMFnWinsx4
import Derived.Test.YtkbgcnpjamadeaaMFnWinsx5
import Derived.Test.YtkbgcnpjamadeaaMFnWinsx6
import Derived.Test.YtkbgcnpjamadeaaMFnWinsx7
import Derived.Test.YtkbgcnpjamadeaaBase
set_option linter.unusedVariables false
set_option linter.unusedSimpArgs false
namespace Go.Proofs.Ytkbgcnpjamadeaa.Pure
open Go.RowKit Go.Proofs.Ytkbgcnpjamadeaa.PFnWins Go.Proofs.YtkbgcnpjamadeaaW.PrintWords Go.Proofs.YtkbgcnpjamadeaaW.PrintLast Go.Proofs.YtkbgcnpjamadeaaW.PrintMore Go.Proofs.Ytkbgcnpjamadeaa.Base
theorem u8_range {x : Int} (h : (Lit.int .u8 x).wf = true) : 0 ≤ x ∧ x ≤ 255 := by
  simp [Lit.wf, IntKind.min, IntKind.max, IntKind.bits, IntKind.signed] at h
  omega
/-! ## The reader that draws. -/
structure BytesOk (b : List Int) : Prop where
  len : b.length ≤ 2000
  mem : ∀ x ∈ b, 0 ≤ x ∧ x ≤ 255

theorem newReader_ok (l : List Int) (h : ∀ x ∈ l, 0 ≤ x ∧ x ≤ 255) : ∃ b, spec_newReader.f l = some (b, 0) ∧ BytesOk b := by
  unfold spec_newReader.f
  by_cases c : (l.length : Int) > 2000
  · rw [if_pos c, if_pos (by omega)]
    exact ⟨_, rfl, by rw [List.length_take]; omega, fun x hx => h x (List.mem_of_mem_take hx)⟩
  · rw [if_neg c]
    exact ⟨_, rfl, by omega, h⟩

theorem pick_ok (b : List Int) (p n : Int) (hb : BytesOk b) (h0 : 0 ≤ p) (h1 : p ≤ 100000) :
    EvS (fun k => spec_reader_pick.f k b p n) (fun r => 0 ≤ r.1 ∧ (1 ≤ n → r.1 < n) ∧ (n < 1 → r.1 = 0) ∧ r.2 = p + 1) := by
  have hp : wrap64 (p + 1) = p + 1 := w64 (by omega) (by omega)
  have hq : wrap64 (p + 1 - 1) = p := by rw [show p + 1 - 1 = p by omega]; exact w64 (by omega) (by omega)
  have hbl := hb.len
  simp only [spec_reader_pick.f]
  rw [hp]
  by_cases hn : n < 1
  · refine EvS.pos hn ?_
    refine EvS.step (fun k => by rw [spec_reader_pick.j0]) ?_
    refine EvS.pos rfl ?_
    exact EvS.now ⟨by simp, fun h => by omega, fun _ => rfl, rfl⟩
  · refine EvS.neg hn ?_
    refine EvS.step (fun k => by rw [spec_reader_pick.j0]) ?_
    simp only [hq]
    by_cases hl : b.length = 0
    · refine EvS.pos (by simp [hl]) ?_
      exact EvS.now ⟨by simp, fun h => by simp; omega, fun _ => rfl, rfl⟩
    · refine EvS.neg (by simp; intro h; exact hl (by simp [h])) ?_
      by_cases hpl : p < b.length
      · refine EvS.pos hpl (EvS.pos h0 (EvS.neg (by omega) ?_))
        have hr := rd_range hb.mem p h0 hpl
        rw [w64 (by omega) (by omega)]
        have ht := tmod_range (rd b p) n (by omega) (by omega)
        exact EvS.now ⟨ht.1, fun _ => ht.2, fun h => by omega, rfl⟩
      · refine EvS.neg hpl (EvS.neg (by omega) ?_)
        have e1 : wrap64 (wrap64 (p * 7) + 3) = p * 7 + 3 := by
          rw [w64 (x := p * 7) (by omega) (by omega)]; exact w64 (by omega) (by omega)
        simp only [e1]
        have i1 := tmod_range p b.length h0 (by omega)
        have i2 := tmod_range (p * 7 + 3) b.length (by omega) (by omega)
        refine EvS.pos i1.1 (EvS.pos i1.2 (EvS.pos i2.1 (EvS.pos i2.2 (EvS.neg (by omega) ?_))))
        have r1 := rd_range hb.mem _ i1.1 i1.2
        have r2 := rd_range hb.mem _ i2.1 i2.2
        generalize rd b (Int.tmod p b.length) = v1 at r1 ⊢
        generalize rd b (Int.tmod (p * 7 + 3) b.length) = v2 at r2 ⊢
        have d0 : 0 ≤ Int.tdiv p b.length ∧ Int.tdiv p b.length ≤ p := by
          rw [tdiv_pos _ _ h0]
          exact ⟨Int.ediv_nonneg h0 (by omega), Int.ediv_le_self _ h0⟩
        generalize Int.tdiv p b.length = dv at d0 ⊢
        simp (disch := omega) only [w64]
        have hx0 : 0 ≤ v1 * 131 + v2 * 1117 + p * 29 + dv * 53 := by omega
        have hx1 : v1 * 131 + v2 * 1117 + p * 29 + dv * 53 < 1000000000 := by omega
        generalize v1 * 131 + v2 * 1117 + p * 29 + dv * 53 = X at hx0 hx1 ⊢
        rw [tdiv_pos X 64 hx0, w64 (x := X / 64) (by omega) (by omega)]
        have ht := tmod_range (Go.bits .xor .i64 X (X / 64)) n (xor_nonneg _ _ (by omega) (by omega) (by omega) (by omega)) (by omega)
        exact EvS.now ⟨ht.1, fun _ => ht.2, fun h => by omega, rfl⟩

theorem one_ok (b : List Int) (p : Int) (l : List Int) (hb : BytesOk b) (h0 : 0 ≤ p) (h1 : p ≤ 100000) (hl : 1 ≤ l.length) :
    EvS (fun k => spec_reader_one.f k b p l) (fun r => r.1 ∈ l ∧ r.2 = p + 1) := by
  simp only [spec_reader_one.f]
  refine EvS.bind (pick_ok b p l.length hb h0 h1) ?_
  rintro ⟨v, q⟩ ⟨a1, a2, a3, a4⟩
  have a5 := a2 (by omega)
  refine EvS.pos a1 (EvS.pos a5 ?_)
  exact EvS.now ⟨rd_mem _ a1 a5, a4⟩
/-! ## Lists of numbers. -/
theorem inRange_eq (n lo hi : Int) : spec_inRange.f n lo hi = some (decide (lo ≤ n ∧ n ≤ hi)) := by
  unfold spec_inRange.f
  split
  · exact congrArg some (decide_eq_decide.2 (by omega))
  · exact congrArg some (decide_eq_false (by omega)).symm
def AllW (xs : List Int) (lo hi : Int) : Prop := ∀ x ∈ xs, lo ≤ x ∧ x ≤ hi
instance (xs : List Int) (lo hi : Int) : Decidable (AllW xs lo hi) := by unfold AllW; infer_instance
theorem allW_cons (y : Int) (ys : List Int) (lo hi : Int) : AllW (y :: ys) lo hi ↔ (lo ≤ y ∧ y ≤ hi) ∧ AllW ys lo hi := by
  unfold AllW; simp
theorem allWithin_l0 (xs : List Int) (hl : xs.length ≤ 1099511627776) (lo hi : Int) (ys : List Int) : ∀ i : Int, At xs i ys → EvS (fun k => impl_allWithin.l0 k lo hi xs xs.length i) (· = decide (AllW ys lo hi)) := by
  induction ys with
  | nil =>
    intro i h
    refine EvS.step (fun k => by rw [impl_allWithin.l0]) ?_
    exact EvS.neg (by have := h.ge; omega) (EvS.now (by simp [AllW]))
  | cons y ys ih =>
    intro i h
    refine EvS.step (fun k => by rw [impl_allWithin.l0]) ?_
    refine EvS.pos h.lt (EvS.pos h.nonneg (EvS.pos h.lt ?_))
    rw [At.rd h]
    refine EvS.ite (fun c => EvS.now (decide_eq_false (fun g => by have := (allW_cons _ _ _ _).1 g; omega)).symm) (fun c1 => EvS.ite (fun c => EvS.now (decide_eq_false (fun g => by have := (allW_cons _ _ _ _).1 g; omega)).symm) (fun c2 => ?_))
    refine EvS.mono (ih _ (h.wnext (by omega))) (fun r hr => ?_)
    rw [hr]
    exact decide_eq_decide.2 ⟨fun g => (allW_cons _ _ _ _).2 ⟨by omega, g⟩, fun g => ((allW_cons _ _ _ _).1 g).2⟩
theorem allWithin_ok (xs : List Int) (hl : xs.length ≤ 1099511627776) (lo hi : Int) : EvS (fun k => impl_allWithin.f k xs lo hi) (· = decide (AllW xs lo hi)) := by
  simp only [impl_allWithin.f]
  exact allWithin_l0 xs hl lo hi xs 0 (At.zero xs)
theorem allIn_l0 (xs : List Int) (hl : xs.length ≤ 1099511627776) (lo hi : Int) (ys : List Int) : ∀ i : Int, At xs i ys → EvS (fun k => spec_allIn.l0 k xs lo hi i) (· = decide (AllW ys lo hi)) := by
  induction ys with
  | nil =>
    intro i h
    refine EvS.step (fun k => by rw [spec_allIn.l0]) ?_
    exact EvS.neg (by have := h.ge; omega) (EvS.now (by simp [AllW]))
  | cons y ys ih =>
    intro i h
    refine EvS.step (fun k => by rw [spec_allIn.l0]) ?_
    refine EvS.pos h.lt (EvS.pos h.nonneg ?_)
    rw [At.rd h]
    refine EvS.call (inRange_eq _ _ _) (EvS.ite (fun c => ?_) (fun c => EvS.now ?_))
    · have c := of_decide_eq_true c
      refine EvS.mono (ih _ (h.wnext (by omega))) (fun r hr => ?_)
      rw [hr]
      exact decide_eq_decide.2 ⟨fun g => (allW_cons _ _ _ _).2 ⟨by omega, g⟩, fun g => ((allW_cons _ _ _ _).1 g).2⟩
    · have c := ndec c
      exact (decide_eq_false (fun g => c ((allW_cons _ _ _ _).1 g).1)).symm
theorem allIn_ok (xs : List Int) (hl : xs.length ≤ 1099511627776) (lo hi : Int) : EvS (fun k => spec_allIn.f k xs lo hi) (· = decide (AllW xs lo hi)) := by
  simp only [spec_allIn.f]
  exact allIn_l0 xs hl lo hi xs 0 (At.zero xs)
/-- The first place of a number, counted from i on; -1 if it is not there. -/
def posF (v : Int) : Int → List Int → Int
  | _, [] => -1
  | i, x :: xs => if x = v then i else posF v (i + 1) xs
theorem posF_range (v : Int) (xs : List Int) : ∀ i : Int, 0 ≤ i → (v ∈ xs → i ≤ posF v i xs ∧ posF v i xs < i + xs.length) ∧ (v ∉ xs → posF v i xs = -1) := by
  induction xs with
  | nil => intro i h0; exact ⟨fun h => by simp at h, fun _ => rfl⟩
  | cons x xs ih =>
    intro i h0
    have h := ih (i + 1) (by omega)
    simp only [posF, List.length_cons]
    by_cases c : x = v
    · rw [if_pos c]; exact ⟨fun _ => by omega, fun g => absurd (by simp [c]) g⟩
    · rw [if_neg c]
      refine ⟨fun g => ?_, fun g => h.2 (fun g2 => g (List.mem_cons_of_mem _ g2))⟩
      have := h.1 ((List.mem_cons.1 g).resolve_left (fun e => c e.symm))
      omega
theorem posF_nonneg (v : Int) (xs : List Int) (i : Int) (h : 0 ≤ i) : (0 ≤ posF v i xs) ↔ v ∈ xs := by
  by_cases c : v ∈ xs
  · have := (posF_range v xs i h).1 c; exact ⟨fun _ => c, fun _ => by omega⟩
  · have := (posF_range v xs i h).2 c; exact ⟨fun g => by omega, fun g => absurd g c⟩
theorem placeIn_l0 (xs : List Int) (hl : xs.length ≤ 1099511627776) (v : Int) (ys : List Int) : ∀ i : Int, At xs i ys → EvS (fun k => spec_placeIn.l0 k xs v i) (· = posF v i ys) := by
  induction ys with
  | nil =>
    intro i h
    refine EvS.step (fun k => by rw [spec_placeIn.l0]) ?_
    exact EvS.neg (by have := h.ge; omega) (EvS.now rfl)
  | cons y ys ih =>
    intro i h
    have h1 := h.lt
    have h2 := h.nonneg
    have hw : wrap64 (i + 1) = i + 1 := w64 (by omega) (by omega)
    refine EvS.step (fun k => by rw [spec_placeIn.l0]) ?_
    refine EvS.pos h.lt (EvS.pos h.nonneg ?_)
    rw [At.rd h, hw, posF]
    by_cases c : y = v
    · rw [if_pos c]; exact EvS.pos c (EvS.now rfl)
    · rw [if_neg c]; exact EvS.neg c (ih _ h.next)
theorem placeIn_ok (xs : List Int) (hl : xs.length ≤ 1099511627776) (v : Int) : EvS (fun k => spec_placeIn.f k xs v) (· = posF v 0 xs) := by
  simp only [spec_placeIn.f]
  exact placeIn_l0 xs hl v xs 0 (At.zero xs)
theorem isIn_l0 (xs : List Int) (hl : xs.length ≤ 1099511627776) (v : Int) (ys : List Int) : ∀ i : Int, At xs i ys → EvS (fun k => laws_isIn.l0 k xs v i) (· = decide (v ∈ ys)) := by
  induction ys with
  | nil =>
    intro i h
    refine EvS.step (fun k => by rw [laws_isIn.l0]) ?_
    exact EvS.neg (by have := h.ge; omega) (EvS.now (by simp))
  | cons y ys ih =>
    intro i h
    refine EvS.step (fun k => by rw [laws_isIn.l0]) ?_
    refine EvS.pos h.lt (EvS.pos h.nonneg ?_)
    rw [At.rd h]
    by_cases c : y = v
    · exact EvS.pos c (EvS.now (by simp [c]))
    · refine EvS.neg c (EvS.mono (ih _ (h.wnext (by omega))) (fun r hr => ?_))
      rw [hr]
      exact decide_eq_decide.2 ⟨fun g => List.mem_cons_of_mem _ g, fun g => (List.mem_cons.1 g).resolve_left (fun e => c e.symm)⟩
theorem isIn_ok (xs : List Int) (hl : xs.length ≤ 1099511627776) (v : Int) : EvS (fun k => laws_isIn.f k xs v) (· = decide (v ∈ xs)) := by
  simp only [laws_isIn.f]
  exact isIn_l0 xs hl v xs 0 (At.zero xs)
/-- Different numbers from 0 to n - 1. -/
def Diff (xs : List Int) (n : Int) : Prop := xs.Nodup ∧ ∀ x ∈ xs, 0 ≤ x ∧ x < n
instance (xs : List Int) (n : Int) : Decidable (Diff xs n) := by unfold Diff; infer_instance
def DiffF (pre ys : List Int) (n : Int) : Prop := ys.Nodup ∧ ∀ y ∈ ys, 0 ≤ y ∧ y < n ∧ y ∉ pre
instance (pre ys : List Int) (n : Int) : Decidable (DiffF pre ys n) := by unfold DiffF; infer_instance
theorem diffF_cons (pre : List Int) (y : Int) (ys : List Int) (n : Int) : DiffF pre (y :: ys) n ↔ (0 ≤ y ∧ y < n ∧ y ∉ pre) ∧ DiffF (y :: pre) ys n := by
  unfold DiffF
  constructor
  · rintro ⟨h1, h2⟩
    have h1 := List.nodup_cons.1 h1
    refine ⟨h2 y List.mem_cons_self, h1.2, fun z hz => ?_⟩
    have := h2 z (List.mem_cons_of_mem _ hz)
    refine ⟨this.1, this.2.1, fun hm => ?_⟩
    rcases List.mem_cons.1 hm with rfl | hm
    · exact h1.1 hz
    · exact this.2.2 hm
  · rintro ⟨h1, h2, h3⟩
    refine ⟨List.nodup_cons.2 ⟨fun hm => (h3 y hm).2.2 List.mem_cons_self, h2⟩, fun z hz => ?_⟩
    rcases List.mem_cons.1 hz with rfl | hz
    · exact h1
    · have := h3 z hz
      exact ⟨this.1, this.2.1, fun hm => this.2.2 (List.mem_cons_of_mem _ hm)⟩
theorem diffF_congr {p q ys : List Int} {n : Int} (h : ∀ x, x ∈ p ↔ x ∈ q) : DiffF p ys n ↔ DiffF q ys n := by
  unfold DiffF
  simp only [h]
theorem diffF_nil (xs : List Int) (n : Int) : DiffF [] xs n ↔ Diff xs n := by
  unfold DiffF Diff; simp
theorem diff_len {xs : List Int} {n : Int} (h : Diff xs n) : (xs.length : Int) ≤ n ∨ xs = [] := by
  rcases xs with _ | ⟨x, xs⟩
  · exact .inr rfl
  · left
    have h1 : 0 ≤ n := by have := h.2 x List.mem_cons_self; omega
    have h2 : (x :: xs) ⊆ (List.range n.toNat).map (fun m : Nat => (m : Int)) := by
      intro y hy
      have := h.2 y hy
      exact List.mem_map.2 ⟨y.toNat, List.mem_range.2 (by omega), by omega⟩
    have h3 := h.1.length_le_of_subset h2
    rw [List.length_map, List.length_range] at h3
    omega
theorem differentBelow_l0 (xs : List Int) (hl : xs.length ≤ 1099511627776) (n : Int) (ys : List Int) : ∀ (i : Int) (seen : List Bool) (pre : List Int), At xs i ys → (seen.length : Int) = n → (∀ v : Int, 0 ≤ v → v < n → (rdOf false seen v = true ↔ v ∈ pre)) →
    EvS (fun k => impl_differentBelow.l0 k n seen xs xs.length i) (· = decide (DiffF pre ys n)) := by
  induction ys with
  | nil =>
    intro i seen pre h hs hv
    refine EvS.step (fun k => by rw [impl_differentBelow.l0]) ?_
    exact EvS.neg (by have := h.ge; omega) (EvS.now (by simp [DiffF]))
  | cons y ys ih =>
    intro i seen pre h hs hv
    refine EvS.step (fun k => by rw [impl_differentBelow.l0]) ?_
    refine EvS.pos h.lt (EvS.pos h.nonneg (EvS.pos h.lt ?_))
    rw [At.rd h]
    refine EvS.ite (fun c => EvS.now (decide_eq_false (fun g => by have := ((diffF_cons _ _ _ _).1 g).1; omega)).symm) (fun c1 => EvS.ite (fun c => EvS.now (decide_eq_false (fun g => by have := ((diffF_cons _ _ _ _).1 g).1; omega)).symm) (fun c2 => EvS.pos (by omega) (EvS.pos (by omega) ?_)))
    have hy := hv y (by omega) (by omega)
    refine EvS.ite (fun c => EvS.now (decide_eq_false (fun g => ((diffF_cons _ _ _ _).1 g).1.2.2 (hy.1 c))).symm) (fun c3 => ?_)
    refine EvS.mono (ih _ (seen.set y.toNat true) (y :: pre) (h.wnext (by omega)) (by simpa using hs) (fun v h0 h1 => ?_)) (fun r hr => ?_)
    · unfold rdOf
      rw [List.getD_eq_getElem?_getD, List.getElem?_set]
      by_cases e : y = v
      · subst e
        rw [if_pos rfl, if_pos (by omega)]
        exact ⟨fun _ => List.mem_cons_self, fun _ => rfl⟩
      · rw [if_neg (by omega)]
        have := hv v h0 h1
        unfold rdOf at this
        rw [List.getD_eq_getElem?_getD] at this
        rw [this, List.mem_cons]
        exact ⟨fun g => .inr g, fun g => g.resolve_left (fun e2 => e e2.symm)⟩
    · rw [hr]
      exact decide_eq_decide.2 ⟨fun g => (diffF_cons _ _ _ _).2 ⟨⟨by omega, by omega, fun hm => c3 (hy.2 hm)⟩, g⟩, fun g => ((diffF_cons _ _ _ _).1 g).2⟩
theorem differentBelow_ok (xs : List Int) (hl : xs.length ≤ 1099511627776) (n : Int) (hn : n ≤ 1099511627776) (h0 : 0 ≤ n) : EvS (fun k => impl_differentBelow.f k xs n) (· = decide (Diff xs n)) := by
  simp only [impl_differentBelow.f]
  refine EvS.ite (fun c => EvS.now (decide_eq_false (fun g => ?_)).symm) (fun c => EvS.pos h0 (EvS.pos (by omega) ?_))
  · rcases diff_len g with h | h
    · omega
    · subst h; simp at c; omega
  · refine EvS.mono (differentBelow_l0 xs hl n xs 0 _ [] (At.zero xs) (by simp; omega) (fun v _ _ => ?_)) (fun r hr => ?_)
    · unfold rdOf
      rw [List.getD_eq_getElem?_getD, List.getElem?_replicate]
      split <;> simp
    · rw [hr]
      exact decide_eq_decide.2 (diffF_nil xs n)
theorem validMembers_l0 (xs : List Int) (hl : xs.length ≤ 1099511627776) (n : Int) (hn : n ≤ 1099511627776) (h0 : 0 ≤ n) (ys : List Int) : ∀ i : Int, At xs i ys → EvS (fun k => spec_validMembers.l0 k xs n i) (· = decide (DiffF (xs.take i.toNat) ys n)) := by
  induction ys with
  | nil =>
    intro i h
    refine EvS.step (fun k => by rw [spec_validMembers.l0]) ?_
    exact EvS.neg (by have := h.ge; omega) (EvS.now (by simp [DiffF]))
  | cons y ys ih =>
    intro i h
    have h1 := h.lt
    have h2 := h.nonneg
    have hw : wrap64 (i + 1) = i + 1 := w64 (by omega) (by omega)
    refine EvS.step (fun k => by rw [spec_validMembers.l0]) ?_
    refine EvS.pos h.lt (EvS.pos h.nonneg ?_)
    rw [At.rd h, hw, w64 (x := n - 1) (by omega) (by omega)]
    refine EvS.call (inRange_eq _ _ _) (EvS.ite (fun c => EvS.pos (by omega) ?_) (fun c => EvS.now ?_))
    · have c := of_decide_eq_true c
      refine EvS.bindv (placeIn_ok _ (by rw [List.length_take]; omega) y) ?_
      have hp := posF_nonneg y (xs.take i.toNat) 0 (by omega)
      refine EvS.ite (fun g => EvS.now (decide_eq_false (fun g2 => ((diffF_cons _ _ _ _).1 g2).1.2.2 (hp.1 g))).symm) (fun g => ?_)
      refine EvS.mono (ih _ h.next) (fun r hr => ?_)
      rw [hr]
      refine decide_eq_decide.2 (Iff.trans (diffF_congr (q := y :: xs.take i.toNat) (fun x => ?_)) ⟨fun g2 => (diffF_cons _ _ _ _).2 ⟨⟨c.1, by omega, fun hm => g (hp.2 hm)⟩, g2⟩, fun g2 => ((diffF_cons _ _ _ _).1 g2).2⟩)
      simp only [h.take, List.mem_append, List.mem_cons, List.not_mem_nil, or_false]
      exact or_comm
    · have c := ndec c
      exact (decide_eq_false (fun g => c (by have := ((diffF_cons _ _ _ _).1 g).1; omega))).symm
theorem validMembers_ok (xs : List Int) (hl : xs.length ≤ 1099511627776) (n : Int) (hn : n ≤ 1099511627776) (h0 : 0 ≤ n) : EvS (fun k => spec_validMembers.f k xs n) (· = decide (Diff xs n)) := by
  simp only [spec_validMembers.f]
  refine EvS.mono (validMembers_l0 xs hl n hn h0 xs 0 (At.zero xs)) (fun r hr => ?_)
  rw [hr]
  exact decide_eq_decide.2 (diffF_nil xs n)
/-! ## Bodies that vote. -/
def tot : List Int → Int
  | [] => 0
  | x :: xs => x + tot xs
theorem tot_range {xs : List Int} {hi : Int} (h0 : 0 ≤ hi) (h : AllW xs 0 hi) : 0 ≤ tot xs ∧ tot xs ≤ xs.length * hi := by
  induction xs with
  | nil => simp [tot]
  | cons x xs ih =>
    have h1 := (allW_cons _ _ _ _).1 h
    have h2 := ih h1.2
    simp only [tot, List.length_cons, Int.natCast_add, Int.add_mul]
    omega
theorem tot_bound {xs : List Int} (h : ∀ x ∈ xs, -1000000000000 ≤ x ∧ x ≤ 1000000000000) : -(1000000000000 * (xs.length : Int)) ≤ tot xs ∧ tot xs ≤ 1000000000000 * xs.length := by
  induction xs with
  | nil => simp [tot]
  | cons x xs ih =>
    have h1 := h x List.mem_cons_self
    have h2 := ih (fun y hy => h y (List.mem_cons_of_mem _ hy))
    simp only [tot, List.length_cons]
    omega
theorem spec_total_l0 (xs : List Int) (hl : xs.length ≤ 1000) (hx : ∀ x ∈ xs, -1000000000000 ≤ x ∧ x ≤ 1000000000000) (ys : List Int) : ∀ (i acc : Int), At xs i ys → acc + tot ys = tot xs → EvS (fun k => spec_total.l0 k xs acc i) (· = tot xs) := by
  induction ys with
  | nil =>
    intro i acc h e
    refine EvS.step (fun k => by rw [spec_total.l0]) ?_
    exact EvS.neg (by have := h.ge; omega) (EvS.now (by simp [tot] at e; exact e))
  | cons y ys ih =>
    intro i acc h e
    have h1 := h.len
    have h2 := h.nonneg
    have b1 := tot_bound hx
    have b2 := tot_bound (xs := ys) (fun z hz => hx z (h.sub z (List.mem_cons_of_mem _ hz)))
    have b3 := hx y h.mem
    simp only [tot, List.length_cons] at e h1
    refine EvS.step (fun k => by rw [spec_total.l0]) ?_
    refine EvS.pos h.lt (EvS.pos h.nonneg ?_)
    rw [At.rd h, w64 (x := acc + y) (by omega) (by omega)]
    exact ih _ _ (h.wnext (by omega)) (by omega)
theorem spec_total_ok (xs : List Int) (hl : xs.length ≤ 1000) (hx : ∀ x ∈ xs, -1000000000000 ≤ x ∧ x ≤ 1000000000000) : EvS (fun k => spec_total.f k xs) (· = tot xs) := by
  simp only [spec_total.f]
  exact spec_total_l0 xs hl hx xs 0 0 (At.zero _) (by omega)
theorem sumOf_l0 (xs : List Int) (hl : xs.length ≤ 1000) (hx : ∀ x ∈ xs, -1000000000000 ≤ x ∧ x ≤ 1000000000000) (ys : List Int) : ∀ (i acc : Int), At xs i ys → acc + tot ys = tot xs → EvS (fun k => impl_sumOf.l0 k acc xs xs.length i) (· = tot xs) := by
  induction ys with
  | nil =>
    intro i acc h e
    refine EvS.step (fun k => by rw [impl_sumOf.l0]) ?_
    exact EvS.neg (by have := h.ge; omega) (EvS.now (by simp [tot] at e; exact e))
  | cons y ys ih =>
    intro i acc h e
    have h1 := h.len
    have h2 := h.nonneg
    have b1 := tot_bound hx
    have b2 := tot_bound (xs := ys) (fun z hz => hx z (h.sub z (List.mem_cons_of_mem _ hz)))
    have b3 := hx y h.mem
    simp only [tot, List.length_cons] at e h1
    refine EvS.step (fun k => by rw [impl_sumOf.l0]) ?_
    refine EvS.pos h.lt (EvS.pos h.nonneg (EvS.pos h.lt ?_))
    rw [At.rd h, w64 (x := acc + y) (by omega) (by omega)]
    exact ih _ _ (h.wnext (by omega)) (by omega)
theorem sumOf_ok (xs : List Int) (hl : xs.length ≤ 1000) (hx : ∀ x ∈ xs, -1000000000000 ≤ x ∧ x ≤ 1000000000000) : EvS (fun k => impl_sumOf.f k xs) (· = tot xs) := by
  simp only [impl_sumOf.f]
  exact sumOf_l0 xs hl hx xs 0 0 (At.zero _) (by omega)
def VBody (ws : List Int) (need : Int) : Prop := (1 ≤ ws.length ∧ ws.length ≤ 12) ∧ AllW ws 0 100 ∧ 1 ≤ need ∧ need ≤ tot ws
instance (ws : List Int) (need : Int) : Decidable (VBody ws need) := by unfold VBody; infer_instance
theorem impl_ValidBody_ok (ws : List Int) (hl : ws.length ≤ 4000000) (need : Int) : EvS (fun k => impl_ValidBody.f k ws need) (· = decide (VBody ws need)) := by
  simp only [impl_ValidBody.f]
  refine EvS.ite (fun c => EvS.now (decide_eq_false (fun g => by have := g.1; omega)).symm) (fun c1 => EvS.ite (fun c => EvS.now (decide_eq_false (fun g => by have := g.1; omega)).symm) (fun c2 => ?_))
  refine EvS.bindv (allWithin_ok ws (by omega) 0 100) (EvS.ite (fun c3 => EvS.ite (fun c4 => ?_) (fun c4 => EvS.now (decide_eq_false (fun g => c4 g.2.2.1)).symm)) (fun c3 => EvS.now (decide_eq_false (fun g => ndec c3 g.2.1)).symm))
  have c3 := of_decide_eq_true c3
  exact EvS.bindv (sumOf_ok ws (by omega) (fun x hx => by have := c3 x hx; omega)) (EvS.now (decide_eq_decide.2 ⟨fun g => ⟨by omega, c3, c4, g⟩, fun g => g.2.2.2⟩))
theorem spec_validBody_ok (ws : List Int) (hl : ws.length ≤ 4000000) (need : Int) : EvS (fun k => spec_validBody.f k ws need) (· = decide (VBody ws need)) := by
  simp only [spec_validBody.f]
  refine EvS.call (inRange_eq _ _ _) (EvS.ite (fun c1 => EvS.bindv (allIn_ok ws (by omega) 0 100) (EvS.ite (fun c3 => ?_) (fun c3 => EvS.now (decide_eq_false (fun g => ndec c3 g.2.1)).symm))) (fun c1 => EvS.now (decide_eq_false (fun g => ndec c1 (by have := g.1; omega))).symm))
  have c1 := of_decide_eq_true c1
  have c3 := of_decide_eq_true c3
  exact EvS.bindv (spec_total_ok ws (by omega) (fun x hx => by have := c3 x hx; omega)) (EvS.call (inRange_eq _ _ _) (EvS.now (decide_eq_decide.2 ⟨fun g => ⟨by omega, c3, g⟩, fun g => g.2.2⟩)))
/-! ## Bodies that are drawn. -/
theorem someBody_l0 (b : List Int) (hb : BytesOk b) (d : Nat) : ∀ (n p : Int) (ws : List Int), n ≤ d → 0 ≤ p → p + 2 * d + 10 ≤ 10000 → ws.length + d ≤ 9 → AllW ws 0 100 → 1 ≤ ws.length + n →
    EvS (fun k => spec_someBody.l0 k n b p ws 0) (fun r => (1 ≤ r.1.length ∧ r.1.length ≤ ws.length + d ∧ AllW r.1 0 100) ∧ p ≤ r.2.2 ∧ r.2.2 ≤ p + 2 * d + 2) := by
  induction d with
  | zero =>
    intro n p ws h1 h2 h3 h4 h5 h6
    refine EvS.step (fun k => by rw [spec_someBody.l0]) ?_
    refine EvS.neg (by omega) (EvS.bindv (spec_total_ok ws (by omega) (fun x hx => by have := h5 x hx; omega)) ?_)
    refine EvS.bind (pick_ok _ _ _ hb (by omega) (by omega)) ?_
    rintro ⟨v1, _⟩ ⟨v1_0, v1_1, v1_2, rfl⟩
    dsimp only at v1_0 v1_1 v1_2 ⊢
    refine EvS.bind (one_ok _ _ _ hb (by omega) (by omega) (by simp)) ?_
    rintro ⟨v2, _⟩ ⟨v2_m, rfl⟩
    dsimp only at v2_m ⊢
    exact EvS.now ⟨⟨by dsimp only; omega, by dsimp only; omega, h5⟩, by dsimp only; omega, by dsimp only; omega⟩
  | succ d ih =>
    intro n p ws h1 h2 h3 h4 h5 h6
    refine EvS.step (fun k => by rw [spec_someBody.l0]) ?_
    refine EvS.ite (fun c => ?_) (fun c => ?_)
    · refine EvS.bind (pick_ok _ _ _ hb (by omega) (by omega)) ?_
      rintro ⟨v1, _⟩ ⟨v1_0, v1_1, v1_2, rfl⟩
      dsimp only at v1_0 v1_1 v1_2 ⊢
      refine EvS.bind (one_ok _ _ _ hb (by omega) (by omega) (by simp)) ?_
      rintro ⟨v2, _⟩ ⟨v2_m, rfl⟩
      dsimp only at v2_m ⊢
      rw [w64 (x := 1 + v1) (by omega) (by omega), w64 (x := n - 1) (by omega) (by omega)] at *
      refine EvS.pos (by omega) ?_
      have hv : 0 ≤ v2 ∧ v2 ≤ 100 := by
        have := v1_1 (by omega)
        simp at v2_m; omega
      refine EvS.mono (ih _ _ _ (by omega) (by omega) (by omega) (by simp; omega) ?_ (by simp; omega)) (fun r hr => ?_)
      · intro x hx
        rcases List.mem_append.1 hx with hx | hx
        · exact h5 x hx
        · rw [List.mem_singleton] at hx; omega
      · obtain ⟨⟨g1, g2, g3⟩, g4, g5⟩ := hr
        simp at g2
        exact ⟨⟨g1, by omega, g3⟩, by omega, by omega⟩
    · refine EvS.bindv (spec_total_ok ws (by omega) (fun x hx => by have := h5 x hx; omega)) ?_
      refine EvS.bind (pick_ok _ _ _ hb (by omega) (by omega)) ?_
      rintro ⟨v1, _⟩ ⟨v1_0, v1_1, v1_2, rfl⟩
      dsimp only at v1_0 v1_1 v1_2 ⊢
      refine EvS.bind (one_ok _ _ _ hb (by omega) (by omega) (by simp)) ?_
      rintro ⟨v2, _⟩ ⟨v2_m, rfl⟩
      dsimp only at v2_m ⊢
      exact EvS.now ⟨⟨by dsimp only; omega, by dsimp only; omega, h5⟩, by dsimp only; omega, by dsimp only; omega⟩
theorem someBody_ok (b : List Int) (p : Int) (hb : BytesOk b) (h0 : 0 ≤ p) (h1 : p ≤ 1000) :
    EvS (fun k => spec_someBody.f k b p) (fun r => (1 ≤ r.1.length ∧ r.1.length ≤ 8 ∧ AllW r.1 0 100) ∧ p ≤ r.2.2 ∧ r.2.2 ≤ p + 19) := by
  simp only [spec_someBody.f]
  refine EvS.bind (one_ok _ _ _ hb (by omega) (by omega) (by simp)) ?_
  rintro ⟨v1, _⟩ ⟨v1_m, rfl⟩
  dsimp only at v1_m ⊢
  have hv : 1 ≤ v1 ∧ v1 ≤ (8 : Nat) := by simp at v1_m; omega
  refine EvS.mono (someBody_l0 b hb 8 v1 _ [] hv.2 (by omega) (by omega) (by simp) (by simp [AllW]) (by simp; omega)) (fun r hr => ?_)
  obtain ⟨⟨g1, g2, g3⟩, g4, g5⟩ := hr
  simp at g2
  exact ⟨⟨g1, by omega, g3⟩, by omega, by omega⟩
theorem anyBody_l0 (b : List Int) (p need : Int) (d : Nat) : ∀ ws : List Int, ws.length + d = 9 → 1 ≤ ws.length → AllW ws (-1) 101 → EvS (fun k => spec_anyBody.l0 k b p ws need) (fun r => (1 ≤ r.1.length ∧ r.1.length ≤ 9 ∧ AllW r.1 (-1) 101) ∧ r.2.2 = p) := by
  induction d with
  | zero =>
    intro ws h1 h2 h3
    refine EvS.step (fun k => by rw [spec_anyBody.l0]) ?_
    exact EvS.neg (by omega) (EvS.now ⟨⟨h2, by dsimp only; omega, h3⟩, rfl⟩)
  | succ d ih =>
    intro ws h1 h2 h3
    refine EvS.step (fun k => by rw [spec_anyBody.l0]) ?_
    refine EvS.pos (by omega) (EvS.pos (by omega) (ih _ (by simp; omega) (by simp) ?_))
    intro x hx
    rcases List.mem_append.1 hx with hx | hx
    · exact h3 x hx
    · rw [List.mem_singleton] at hx; omega
theorem anyBody_ok (b : List Int) (p : Int) (hb : BytesOk b) (h0 : 0 ≤ p) (h1 : p ≤ 1000) :
    EvS (fun k => spec_anyBody.f k b p) (fun r => (1 ≤ r.1.length ∧ r.1.length ≤ 9 ∧ AllW r.1 (-1) 101) ∧ p ≤ r.2.2 ∧ r.2.2 ≤ p + 22) := by
  simp only [spec_anyBody.f]
  refine EvS.bind (someBody_ok b p hb h0 h1) ?_
  rintro ⟨ws, need, q⟩ ⟨⟨g1, g2, g3⟩, g4, g5⟩
  dsimp only at g1 g2 g3 g4 g5 ⊢
  have g6 : AllW ws (-1) 101 := fun x hx => by have := g3 x hx; omega
  refine EvS.bind (pick_ok _ _ _ hb (by omega) (by omega)) ?_
  rintro ⟨v1, _⟩ ⟨v1_0, v1_1, v1_2, rfl⟩
  dsimp only at v1_0 v1_1 v1_2 ⊢
  refine EvS.ite (fun _ => ?_) (fun _ => EvS.ite (fun _ => ?_) (fun _ => EvS.ite (fun _ => ?_) (fun _ => ?_)))
  · refine EvS.bindv (spec_total_ok ws (by omega) (fun x hx => by have := g3 x hx; omega)) ?_
    refine EvS.bind (one_ok _ _ _ hb (by omega) (by omega) (by simp)) ?_
    rintro ⟨v2, _⟩ ⟨v2_m, rfl⟩
    dsimp only at v2_m ⊢
    exact EvS.now ⟨⟨g1, by dsimp only; omega, g6⟩, by dsimp only; omega, by dsimp only; omega⟩
  · refine EvS.bind (one_ok _ _ _ hb (by omega) (by omega) (by simp)) ?_
    rintro ⟨v2, _⟩ ⟨v2_m, rfl⟩
    dsimp only at v2_m ⊢
    refine EvS.pos (by omega) (EvS.now ⟨⟨by simp; omega, by simp; omega, fun x hx => ?_⟩, by dsimp only; omega, by dsimp only; omega⟩)
    rcases List.mem_or_eq_of_mem_set hx with hx | hx
    · exact g6 x hx
    · simp at v2_m; omega
  · refine EvS.mono (anyBody_l0 b _ need (9 - ws.length) ws (by omega) g1 g6) (fun r hr => ?_)
    exact ⟨hr.1, by omega, by omega⟩
  · exact EvS.now ⟨⟨g1, by dsimp only; omega, g6⟩, by dsimp only; omega, by dsimp only; omega⟩
/-! ## Members who win. -/
def wsum (ws : List Int) : List Int → Int
  | [] => 0
  | m :: ms => rd ws m + wsum ws ms
theorem wsum_range {ws ms : List Int} (hw : AllW ws 0 100) (hm : ∀ m ∈ ms, 0 ≤ m ∧ m < ws.length) : 0 ≤ wsum ws ms ∧ wsum ws ms ≤ 100 * (ms.length : Int) := by
  induction ms with
  | nil => simp [wsum]
  | cons m ms ih =>
    have h1 := ih (fun x hx => hm x (List.mem_cons_of_mem _ hx))
    have h2 := hm m List.mem_cons_self
    have h3 := rd_range hw m h2.1 h2.2
    simp only [wsum, List.length_cons]; omega
def winP (ws : List Int) (need : Int) (ms : List Int) : Bool := decide (VBody ws need ∧ Diff ms ws.length ∧ wsum ws ms ≥ need)
theorem impl_wins_l0 (ws : List Int) (need : Int) (hw : AllW ws 0 100) (ms : List Int) (hl : ms.length ≤ 12) (hm : ∀ m ∈ ms, 0 ≤ m ∧ m < ws.length) (ys : List Int) : ∀ i acc : Int, At ms i ys → 0 ≤ acc → acc ≤ 100 * i →
    EvS (fun k => impl_Wins.l0 k acc ms ms.length i ws need) (· = decide (acc + wsum ws ys ≥ need)) := by
  induction ys with
  | nil =>
    intro i acc h a0 a1
    refine EvS.step (fun k => by rw [impl_Wins.l0]) ?_
    exact EvS.neg (by have := h.ge; omega) (EvS.now (by simp [wsum]))
  | cons y ys ih =>
    intro i acc h a0 a1
    have h1 := h.lt
    have h2 := h.nonneg
    have hy := hm y h.mem
    have hr := rd_range hw y hy.1 hy.2
    refine EvS.step (fun k => by rw [impl_Wins.l0]) ?_
    refine EvS.pos h.lt (EvS.pos h.nonneg (EvS.pos h.lt ?_))
    rw [At.rd h, w64 (x := acc + rd ws y) (by omega) (by omega), w64 (x := i + 1) (by omega) (by omega)]
    refine EvS.pos hy.1 (EvS.pos hy.2 (EvS.mono (ih (i + 1) (acc + rd ws y) h.next (by omega) (by omega)) (fun r hr => ?_)))
    rw [hr]
    exact decide_eq_decide.2 (by simp only [wsum]; omega)
theorem impl_Wins_ok (ws : List Int) (hl : ws.length ≤ 4000000) (need : Int) (ms : List Int) (hm : ms.length ≤ 4000000) : EvS (fun k => impl_Wins.f k ws need ms) (· = winP ws need ms) := by
  have jt : ¬ (VBody ws need ∧ Diff ms ws.length) → EvS (fun k => impl_Wins.j0 k ms true ws need) (· = winP ws need ms) := by
    intro g
    refine EvS.step (fun k => by rw [impl_Wins.j0]) ?_
    exact EvS.pos rfl (EvS.now (decide_eq_false (fun h => g ⟨h.1, h.2.1⟩)).symm)
  simp only [impl_Wins.f]
  refine EvS.bindv (impl_ValidBody_ok ws hl need) (EvS.ite (fun c1 => EvS.bindv (differentBelow_ok ms (by omega) _ (by omega) (by omega)) ?_) (fun c1 => jt (fun g => ndec c1 g.1)))
  have c1 := of_decide_eq_true c1
  by_cases c2 : Diff ms ws.length
  · rw [decide_eq_true c2]
    have hn := c1.1
    have hlen : ms.length ≤ 12 := by rcases diff_len c2 with g | g; · omega
                                     · subst g; simp
    refine EvS.step (fun k => by rw [impl_Wins.j0]) ?_
    refine EvS.neg (by simp) (EvS.mono (impl_wins_l0 ws need c1.2.1 ms hlen c2.2 ms 0 0 (At.zero _) (by omega) (by omega)) (fun r hr => ?_))
    rw [hr]
    exact decide_eq_decide.2 ⟨fun g => ⟨c1, c2, by omega⟩, fun g => by have := g.2.2; omega⟩
  · rw [decide_eq_false c2]
    exact jt (fun g => c2 g.2)
/-! ## Sets told as numbers. -/
def hasB (s : Int) : Nat → Bool
  | 0 => s % 2 == 1
  | n + 1 => hasB (s / 2) n
def pow2 : Nat → Int
  | 0 => 1
  | n + 1 => 2 * pow2 n
theorem pow2_pos (n : Nat) : 1 ≤ pow2 n := by
  induction n with
  | zero => simp [pow2]
  | succ n ih => simp only [pow2]; omega
theorem pow2_le (n : Nat) (h : n ≤ 40) : pow2 n ≤ 1099511627776 := by
  have mono : ∀ d n : Nat, pow2 n ≤ pow2 (n + d) := by
    intro d
    induction d with
    | zero => intro n; exact Int.le_refl _
    | succ d ih => intro n; have h1 := ih n; have h2 := pow2_pos (n + d); show pow2 n ≤ 2 * pow2 (n + d); omega
  have := mono (40 - n) n
  rw [show n + (40 - n) = 40 by omega] at this
  have e : pow2 40 = 1099511627776 := by decide
  omega
theorem pow2_12 (n : Nat) (h : n ≤ 12) : pow2 n ≤ 4096 := by
  have : ∀ n : Fin 13, pow2 n.val ≤ 4096 := by decide
  exact this ⟨n, by omega⟩
theorem hasB_add (m : Nat) : ∀ (s : Int) (i : Nat), 0 ≤ s → hasB s m = false → hasB (s + pow2 m) i = (decide (i = m) || hasB s i) := by
  induction m with
  | zero =>
    intro s i h0 h
    have h1 : s % 2 ≠ 1 := by simpa [hasB] using h
    cases i with
    | zero => simp only [hasB, pow2]; have : (s + 1) % 2 = 1 := by omega
              simp [this]
    | succ i => simp only [hasB, pow2]; have : (s + 1) / 2 = s / 2 := by omega
                simp [this]
  | succ m ih =>
    intro s i h0 h
    simp only [hasB] at h
    cases i with
    | zero =>
      simp only [hasB, pow2]
      have : (s + 2 * pow2 m) % 2 = s % 2 := by omega
      simp [this]
    | succ i =>
      simp only [hasB, pow2]
      have : (s + 2 * pow2 m) / 2 = s / 2 + pow2 m := by omega
      rw [this, ih _ _ (by omega) h]
      simp
def setS : List Int → Int
  | [] => 0
  | m :: ms => pow2 m.toNat + setS ms
theorem setS_nonneg (ms : List Int) : 0 ≤ setS ms := by
  induction ms with
  | nil => simp [setS]
  | cons m ms ih => have := pow2_pos m.toNat; simp only [setS]; omega
theorem hasB_zero (i : Nat) : hasB 0 i = false := by
  induction i with
  | zero => rfl
  | succ i ih => exact ih
theorem hasB_setS (ms : List Int) (hd : ms.Nodup) (h0 : ∀ m ∈ ms, 0 ≤ m) (i : Int) (hi : 0 ≤ i) : hasB (setS ms) i.toNat = decide (i ∈ ms) := by
  induction ms generalizing i with
  | nil => simp [setS, hasB_zero]
  | cons m ms ih =>
    have h1 := List.nodup_cons.1 hd
    have h2 := h0 m List.mem_cons_self
    have ih := ih h1.2 (fun x hx => h0 x (List.mem_cons_of_mem _ hx))
    simp only [setS]
    rw [Int.add_comm, hasB_add _ _ _ (setS_nonneg ms) (by rw [ih m h2]; exact decide_eq_false h1.1), ih i hi]
    rw [Bool.eq_iff_iff]
    simp only [Bool.or_eq_true, decide_eq_true_eq, List.mem_cons]
    have e : i.toNat = m.toNat ↔ i = m := by omega
    rw [e]
/-- The sum of those of the numbers, from place i on, whose place p tells. -/
def selW (p : Int → Bool) : Int → List Int → Int
  | _, [] => 0
  | i, y :: ys => (if p i = true then y else 0) + selW p (i + 1) ys
theorem selW_congr {p q : Int → Bool} (ys : List Int) : ∀ i : Int, (∀ j, i ≤ j → p j = q j) → selW p i ys = selW q i ys := by
  induction ys with
  | nil => intro i _; rfl
  | cons y ys ih => intro i h; simp only [selW]; rw [h i (Int.le_refl _), ih (i + 1) (fun j hj => h j (by omega))]
theorem selW_none (ys : List Int) : ∀ i : Int, selW (fun _ => false) i ys = 0 := by
  induction ys with
  | nil => intro i; rfl
  | cons y ys ih => intro i; simp [selW, ih]
theorem rd_cons_0 (y : Int) (ys : List Int) : rd (y :: ys) 0 = y := rfl
theorem rd_cons_s (y : Int) (ys : List Int) (i : Int) (h : 0 < i) : rd (y :: ys) i = rd ys (i - 1) := by
  unfold rd
  rw [show i.toNat = (i - 1).toNat + 1 by omega, List.getD_cons_succ]
theorem selW_add (p : Int → Bool) (m : Int) (hp : p m = false) (ys : List Int) : ∀ i : Int, i ≤ m → m < i + ys.length → selW (fun j => decide (j = m) || p j) i ys = rd ys (m - i) + selW p i ys := by
  induction ys with
  | nil => intro i h1 h2; simp at h2; omega
  | cons y ys ih =>
    intro i h1 h2
    rw [List.length_cons] at h2
    simp only [selW]
    by_cases e : i = m
    · subst e
      rw [Int.sub_self, rd_cons_0, selW_congr (p := fun j => decide (j = i) || p j) (q := p) ys (i + 1) (fun j hj => by rw [decide_eq_false (by omega), Bool.false_or])]
      simp [hp]
    · rw [ih (i + 1) (by omega) (by omega), rd_cons_s _ _ _ (by omega), show m - i - 1 = m - (i + 1) by omega]
      simp only [decide_eq_false e, Bool.false_or]
      omega
theorem selW_wsum (ws : List Int) (ms : List Int) (hd : ms.Nodup) (hm : ∀ m ∈ ms, 0 ≤ m ∧ m < ws.length) : selW (fun i => decide (i ∈ ms)) 0 ws = wsum ws ms := by
  induction ms with
  | nil => simp only [List.not_mem_nil, decide_false, wsum]; exact selW_none ws 0
  | cons m ms ih =>
    have h1 := List.nodup_cons.1 hd
    have h2 := hm m List.mem_cons_self
    have e : (fun i => decide (i ∈ m :: ms)) = (fun j => decide (j = m) || decide (j ∈ ms)) := by
      funext i
      rw [Bool.eq_iff_iff]
      simp
    rw [e, selW_add (fun j => decide (j ∈ ms)) m (decide_eq_false h1.1) ws 0 h2.1 (by omega), Int.sub_zero, ih h1.2 (fun x hx => hm x (List.mem_cons_of_mem _ hx))]
    rfl
theorem selW_range (p : Int → Bool) (ys : List Int) (hy : AllW ys 0 100) : ∀ i : Int, 0 ≤ selW p i ys ∧ selW p i ys ≤ 100 * (ys.length : Int) := by
  induction ys with
  | nil => intro i; simp [selW]
  | cons y ys ih =>
    intro i
    have h1 := (allW_cons _ _ _ _).1 hy
    have h2 := ih h1.2 (i + 1)
    simp only [selW, List.length_cons]
    split <;> omega
theorem spec_has_l0 (n : Int) (hn : n ≤ 1000) (d : Nat) : ∀ (s i : Int), 0 ≤ s → s ≤ 4611686018427387904 → i + d = n → 0 ≤ i → EvS (fun k => spec_has.l0 k s n i) (· = hasB s d) := by
  induction d with
  | zero =>
    intro s i h0 h1 e i0
    refine EvS.step (fun k => by rw [spec_has.l0]) ?_
    refine EvS.neg (by omega) (EvS.now ?_)
    rw [tmod_pos s 2 h0]; rfl
  | succ d ih =>
    intro s i h0 h1 e i0
    refine EvS.step (fun k => by rw [spec_has.l0]) ?_
    rw [tdiv_pos s 2 h0, w64 (x := s / 2) (by omega) (by omega), w64 (x := i + 1) (by omega) (by omega)]
    exact EvS.pos (by omega) (ih (s / 2) (i + 1) (by omega) (by omega) (by omega) (by omega))
theorem spec_has_ok (s i : Int) (h0 : 0 ≤ s) (h1 : s ≤ 4611686018427387904) (i0 : 0 ≤ i) (i1 : i ≤ 1000) : EvS (fun k => spec_has.f k s i) (· = hasB s i.toNat) := by
  simp only [spec_has.f]
  exact spec_has_l0 i i1 i.toNat s 0 h0 h1 (by omega) (by omega)
theorem spec_weightOf_l0 (ws : List Int) (hl : ws.length ≤ 12) (hw : AllW ws 0 100) (need s : Int) (h0 : 0 ≤ s) (h1 : s ≤ 4611686018427387904) (ys : List Int) : ∀ i acc : Int, At ws i ys → 0 ≤ acc → acc ≤ 100 * i →
    EvS (fun k => spec_weightOf.l0 k s acc i ws need) (· = acc + selW (fun j => hasB s j.toNat) i ys) := by
  induction ys with
  | nil =>
    intro i acc h a0 a1
    refine EvS.step (fun k => by rw [spec_weightOf.l0]) ?_
    exact EvS.neg (by have := h.ge; omega) (EvS.now (by simp [selW]))
  | cons y ys ih =>
    intro i acc h a0 a1
    have g1 := h.lt
    have g2 := h.nonneg
    have hr := hw y h.mem
    refine EvS.step (fun k => by rw [spec_weightOf.l0]) ?_
    refine EvS.pos h.lt (EvS.bindv (spec_has_ok s i h0 h1 g2 (by omega)) ?_)
    rw [At.rd h, w64 (x := i + 1) (by omega) (by omega)]
    refine EvS.ite (fun c => EvS.pos g2 ?_) (fun c => ?_)
    · rw [w64 (x := acc + y) (by omega) (by omega)]
      refine EvS.mono (ih (i + 1) (acc + y) h.next (by omega) (by omega)) (fun r hr => ?_)
      rw [hr, selW, if_pos c]
      omega
    · refine EvS.mono (ih (i + 1) acc h.next (by omega) (by omega)) (fun r hr => ?_)
      rw [hr, selW, if_neg c]
      omega
theorem spec_weightOf_ok (ws : List Int) (hl : ws.length ≤ 12) (hw : AllW ws 0 100) (need s : Int) (h0 : 0 ≤ s) (h1 : s ≤ 4611686018427387904) : EvS (fun k => spec_weightOf.f k ws need s) (· = selW (fun j => hasB s j.toNat) 0 ws) := by
  simp only [spec_weightOf.f]
  refine EvS.mono (spec_weightOf_l0 ws hl hw need s h0 h1 ws 0 0 (At.zero _) (by omega) (by omega)) (fun r hr => ?_)
  rw [hr]; omega
theorem spec_wins_ok (ws : List Int) (hl : ws.length ≤ 12) (hw : AllW ws 0 100) (need s : Int) (h0 : 0 ≤ s) (h1 : s ≤ 4611686018427387904) : EvS (fun k => spec_wins.f k ws need s) (· = decide (selW (fun j => hasB s j.toNat) 0 ws ≥ need)) := by
  simp only [spec_wins.f]
  exact EvS.bindv (spec_weightOf_ok ws hl hw need s h0 h1) (EvS.now rfl)
theorem spec_power_l0 (n : Int) (hn : n ≤ 40) (d : Nat) : ∀ (i : Int) (e : Nat), i + d = n → i = e → EvS (fun k => spec_power.l0 k n (pow2 e) i) (· = pow2 (e + d)) := by
  induction d with
  | zero =>
    intro i e h1 h2
    refine EvS.step (fun k => by rw [spec_power.l0]) ?_
    exact EvS.neg (by omega) (EvS.now rfl)
  | succ d ih =>
    intro i e h1 h2
    have hp := pow2_le e (by omega)
    have hp2 := pow2_pos e
    refine EvS.step (fun k => by rw [spec_power.l0]) ?_
    rw [w64 (x := 2 * pow2 e) (by omega) (by omega), w64 (x := i + 1) (by omega) (by omega)]
    refine EvS.pos (by omega) (EvS.mono (ih (i + 1) (e + 1) (by omega) (by omega)) (fun r hr => ?_))
    rw [hr, show e + (d + 1) = e + 1 + d by omega]
theorem spec_power_ok (n : Int) (h0 : 0 ≤ n) (hn : n ≤ 40) : EvS (fun k => spec_power.f k n) (· = pow2 n.toNat) := by
  simp only [spec_power.f]
  have := spec_power_l0 n hn n.toNat 0 0 (by omega) rfl
  rwa [Nat.zero_add] at this
theorem setS_bound (ms : List Int) (hm : ∀ m ∈ ms, 0 ≤ m ∧ m ≤ 12) : setS ms ≤ 4096 * (ms.length : Int) := by
  induction ms with
  | nil => simp [setS]
  | cons m ms ih =>
    have h1 := ih (fun x hx => hm x (List.mem_cons_of_mem _ hx))
    have h2 := hm m List.mem_cons_self
    have h3 := pow2_12 m.toNat (by omega)
    simp only [setS, List.length_cons]
    omega
theorem spec_setOf_l0 (ms : List Int) (hl : ms.length ≤ 1000) (hm : ∀ m ∈ ms, 0 ≤ m ∧ m ≤ 12) (ys : List Int) : ∀ i acc : Int, At ms i ys → 0 ≤ acc → acc ≤ 4096 * i → EvS (fun k => spec_setOf.l0 k ms acc i) (· = acc + setS ys) := by
  induction ys with
  | nil =>
    intro i acc h a0 a1
    refine EvS.step (fun k => by rw [spec_setOf.l0]) ?_
    exact EvS.neg (by have := h.ge; omega) (EvS.now (by simp [setS]))
  | cons y ys ih =>
    intro i acc h a0 a1
    have g1 := h.lt
    have g2 := h.nonneg
    have hy := hm y h.mem
    have h3 := pow2_12 y.toNat (by omega)
    have h4 := pow2_pos y.toNat
    refine EvS.step (fun k => by rw [spec_setOf.l0]) ?_
    rw [At.rd h, w64 (x := i + 1) (by omega) (by omega)]
    refine EvS.pos h.lt (EvS.pos h.nonneg (EvS.bindv (spec_power_ok y hy.1 (by omega)) ?_))
    rw [w64 (x := acc + pow2 y.toNat) (by omega) (by omega)]
    refine EvS.mono (ih (i + 1) _ h.next (by omega) (by omega)) (fun r hr => ?_)
    rw [hr, setS]; omega
theorem spec_setOf_ok (ms : List Int) (hl : ms.length ≤ 1000) (hm : ∀ m ∈ ms, 0 ≤ m ∧ m ≤ 12) : EvS (fun k => spec_setOf.f k ms) (· = setS ms) := by
  simp only [spec_setOf.f]
  refine EvS.mono (spec_setOf_l0 ms hl hm ms 0 0 (At.zero _) (by omega) (by omega)) (fun r hr => ?_)
  rw [hr]; omega
theorem spec_Wins_ok (ws : List Int) (hl : ws.length ≤ 4000000) (need : Int) (ms : List Int) (hm : ms.length ≤ 4000000) : EvS (fun k => spec_Wins.f k ws need ms) (· = winP ws need ms) := by
  simp only [spec_Wins.f]
  have no : ¬ (VBody ws need ∧ Diff ms ws.length) → EvS (fun _ => some false) (· = winP ws need ms) := fun g => EvS.now (decide_eq_false (fun h => g ⟨h.1, h.2.1⟩)).symm
  refine EvS.bindv (spec_validBody_ok ws hl need) (EvS.ite (fun c1 => EvS.bindv (validMembers_ok ms (by omega) _ (by omega) (by omega)) (EvS.ite (fun c2 => ?_) (fun c2 => no (fun g => ndec c2 g.2)))) (fun c1 => no (fun g => ndec c1 g.1)))
  have c1 := of_decide_eq_true c1
  have c2 := of_decide_eq_true c2
  have hn := c1.1
  have hlen : ms.length ≤ 12 := by
    rcases diff_len c2 with g | g
    · omega
    · subst g; simp
  have hr : ∀ m ∈ ms, 0 ≤ m ∧ m ≤ 12 := fun m hx => by have := c2.2 m hx; omega
  have hb := setS_bound ms hr
  refine EvS.bindv (spec_setOf_ok ms (by omega) hr) (EvS.bindv (spec_wins_ok ws hn.2 c1.2.1 need (setS ms) (setS_nonneg ms) (by omega)) (EvS.now ?_))
  rw [selW_congr (q := fun i => decide (i ∈ ms)) ws 0 (fun j hj => hasB_setS ms c2.1 (fun m hx => (hr m hx).1) j hj), selW_wsum ws ms c2.1 c2.2]
  exact decide_eq_decide.2 ⟨fun g => ⟨c1, c2, g⟩, fun g => g.2.2⟩
/-! ## Members that are drawn. -/
theorem someMembers_l0 (b : List Int) (hb : BytesOk b) (n : Int) (hn : 0 ≤ n) (hn2 : n ≤ 100) (d : Nat) : ∀ (i p : Int) (out : List Int), i + d = n → 0 ≤ i → out.length ≤ i → 0 ≤ p → p + 2 * d + 4 ≤ 10000 →
    EvS (fun k => spec_someMembers.l0 k n out i b p) (fun r => (r.1.length : Int) ≤ n + 1) := by
  induction d with
  | zero =>
    intro i p out h1 h2 h3 h4 h5
    refine EvS.step (fun k => by rw [spec_someMembers.l0]) ?_
    refine EvS.neg (by omega) (EvS.ite (fun c => ?_) (fun c => EvS.now (by dsimp only; omega)))
    refine EvS.bind (pick_ok _ _ _ hb (by omega) (by omega)) ?_
    rintro ⟨v1, _⟩ ⟨v1_0, v1_1, v1_2, rfl⟩
    dsimp only at v1_0 v1_1 v1_2 ⊢
    refine EvS.ite (fun _ => EvS.pos (by omega) ?_) (fun _ => EvS.now (by dsimp only; omega))
    refine EvS.bind (one_ok _ _ _ hb (by omega) (by omega) (by simp)) ?_
    rintro ⟨v2, _⟩ ⟨v2_m, rfl⟩
    dsimp only at v2_m ⊢
    exact EvS.pos (by omega) (EvS.now (by simp; omega))
  | succ d ih =>
    intro i p out h1 h2 h3 h4 h5
    refine EvS.step (fun k => by rw [spec_someMembers.l0]) ?_
    refine EvS.pos (by omega) ?_
    refine EvS.bind (pick_ok _ _ _ hb (by omega) (by omega)) ?_
    rintro ⟨v1, _⟩ ⟨v1_0, v1_1, v1_2, rfl⟩
    dsimp only at v1_0 v1_1 v1_2 ⊢
    rw [w64 (x := i + 1) (by omega) (by omega)]
    refine EvS.ite (fun _ => EvS.pos (by omega) ?_) (fun _ => ?_)
    · exact ih _ _ _ (by omega) (by omega) (by simp; omega) (by omega) (by omega)
    · exact ih _ _ _ (by omega) (by omega) (by omega) (by omega) (by omega)
theorem someMembers_ok (b : List Int) (hb : BytesOk b) (n p : Int) (hn : 0 ≤ n) (hn2 : n ≤ 100) (h0 : 0 ≤ p) (h1 : p ≤ 5000) :
    EvS (fun k => spec_someMembers.f k b p n) (fun r => (r.1.length : Int) ≤ n + 1) := by
  simp only [spec_someMembers.f]
  exact someMembers_l0 b hb n hn hn2 n.toNat 0 p [] (by omega) (by omega) (by simp) h0 (by omega)
theorem drawWins_ok (l : List Int) (hl : ∀ x ∈ l, 0 ≤ x ∧ x ≤ 255) : EvS (fun k => spec_DrawWins.f k l) (fun r => r.1.length ≤ 9 ∧ r.2.2.length ≤ 10) := by
  simp only [spec_DrawWins.f]
  obtain ⟨b, be, hb⟩ := newReader_ok l hl
  refine EvS.call be ?_
  dsimp only
  refine EvS.bind (anyBody_ok b 0 hb (by omega) (by omega)) ?_
  rintro ⟨ws, need, q⟩ ⟨⟨g1, g2, g3⟩, g4, g5⟩
  dsimp only at g1 g2 g3 g4 g5 ⊢
  refine EvS.bind (someMembers_ok b hb (ws.length : Int) q (by omega) (by omega) (by omega) (by omega)) ?_
  rintro ⟨ms, q2⟩ h1
  dsimp only at h1 ⊢
  exact EvS.now ⟨g2, by dsimp only; omega⟩
/-! ## The others. -/
def othL (ms : List Int) : Nat → Int → List Int
  | 0, _ => []
  | d + 1, i => if i ∈ ms then othL ms d (i + 1) else i :: othL ms d (i + 1)
theorem othL_mem (ms : List Int) (d : Nat) : ∀ i c : Int, c ∈ othL ms d i ↔ i ≤ c ∧ c < i + d ∧ c ∉ ms := by
  induction d with
  | zero => intro i c; simp [othL]; omega
  | succ d ih =>
    intro i c
    simp only [othL]
    by_cases h : i ∈ ms
    · rw [if_pos h, ih]
      refine ⟨fun ⟨a, b, e⟩ => ⟨by omega, by omega, e⟩, fun ⟨a, b, e⟩ => ⟨?_, by omega, e⟩⟩
      by_cases q : c = i
      · subst q; exact absurd h e
      · omega
    · rw [if_neg h, List.mem_cons, ih]
      constructor
      · rintro (rfl | ⟨a, b, e⟩)
        · exact ⟨by omega, by omega, h⟩
        · exact ⟨by omega, by omega, e⟩
      · rintro ⟨a, b, e⟩
        by_cases q : c = i
        · exact .inl q
        · exact .inr ⟨by omega, by omega, e⟩
theorem othL_nodup (ms : List Int) (d : Nat) : ∀ i : Int, (othL ms d i).Nodup := by
  induction d with
  | zero => intro i; simp [othL]
  | succ d ih =>
    intro i
    simp only [othL]
    by_cases h : i ∈ ms
    · rw [if_pos h]; exact ih _
    · rw [if_neg h]
      refine List.nodup_cons.2 ⟨fun hm => ?_, ih _⟩
      have := ((othL_mem ms d (i + 1) i).1 hm).1
      omega
theorem othL_len (ms : List Int) (d : Nat) : ∀ i : Int, (othL ms d i).length ≤ d := by
  induction d with
  | zero => intro i; simp [othL]
  | succ d ih => intro i; have := ih (i + 1); simp only [othL]; split <;> simp <;> omega
theorem others_l0 (ms : List Int) (hl : ms.length ≤ 2000000) (n : Int) (hn : n ≤ 2000000) (d : Nat) : ∀ (i : Int) (out : List Int), i + d = n → 0 ≤ i → out.length ≤ i → EvS (fun k => laws_others.l0 k ms n out i) (· = out ++ othL ms d i) := by
  induction d with
  | zero =>
    intro i out h1 h2 h3
    refine EvS.step (fun k => by rw [laws_others.l0]) ?_
    exact EvS.neg (by omega) (EvS.now (by simp [othL]))
  | succ d ih =>
    intro i out h1 h2 h3
    refine EvS.step (fun k => by rw [laws_others.l0]) ?_
    rw [w64 (x := i + 1) (by omega) (by omega)]
    refine EvS.pos (by omega) (EvS.bindv (isIn_ok ms (by omega) i) (EvS.ite (fun c => ?_) (fun c => EvS.pos (by omega) ?_)))
    · refine EvS.mono (ih (i + 1) out (by omega) (by omega) (by omega)) (fun r hr => ?_)
      rw [hr, othL, if_pos (of_decide_eq_true c)]
    · refine EvS.mono (ih (i + 1) _ (by omega) (by omega) (by simp; omega)) (fun r hr => ?_)
      rw [hr, othL, if_neg (ndec c)]
      simp
theorem others_ok (ms : List Int) (hl : ms.length ≤ 2000000) (n : Nat) (hn : n ≤ 2000000) : EvS (fun k => laws_others.f k ms n) (· = othL ms n 0) := by
  simp only [laws_others.f]
  refine EvS.mono (others_l0 ms hl n (by omega) n 0 [] (by omega) (by omega) (by simp)) (fun r hr => ?_)
  rw [hr]; simp
/-- Members and all others together have all votes. -/
theorem selW_split (p : Int → Bool) (ys : List Int) : ∀ i : Int, selW p i ys + selW (fun j => !p j) i ys = tot ys := by
  induction ys with
  | nil => intro i; rfl
  | cons y ys ih =>
    intro i
    have := ih (i + 1)
    simp only [selW, tot]
    by_cases hp : p i = true
    · simp only [hp, Bool.not_true, Bool.false_eq_true, if_true, if_false]; omega
    · rw [Bool.not_eq_true] at hp
      simp only [hp, Bool.not_false, Bool.false_eq_true, if_true, if_false]; omega
theorem selW_ext {p q : Int → Bool} (ys : List Int) : ∀ i : Int, (∀ j, i ≤ j → j < i + ys.length → p j = q j) → selW p i ys = selW q i ys := by
  induction ys with
  | nil => intro i _; rfl
  | cons y ys ih =>
    intro i h
    simp only [selW]
    rw [ih (i + 1) (fun j h1 h2 => h j (by omega) (by rw [List.length_cons]; omega))]
    simp only [h i (Int.le_refl _) (by rw [List.length_cons]; omega)]
theorem wsum_others (ws ms : List Int) (hd : Diff ms ws.length) : wsum ws ms + wsum ws (othL ms ws.length 0) = tot ws := by
  rw [← selW_wsum ws ms hd.1 hd.2, ← selW_wsum ws (othL ms ws.length 0) (othL_nodup _ _ _) (fun m hm => by have := (othL_mem _ _ _ _).1 hm; omega)]
  rw [selW_ext (p := fun i => decide (i ∈ othL ms ws.length 0)) (q := fun j => !decide (j ∈ ms)) ws 0 (fun j h1 h2 => ?_)]
  · exact selW_split _ ws 0
  · rw [Bool.eq_iff_iff]
    simp only [decide_eq_true_eq, Bool.not_eq_true', decide_eq_false_iff_not]
    rw [othL_mem]
    exact ⟨fun g => g.2.2, fun g => ⟨h1, h2, g⟩⟩
theorem others_diff (ws ms : List Int) : Diff (othL ms ws.length 0) ws.length := ⟨othL_nodup _ _ _, fun m hm => by have := (othL_mem _ _ _ _).1 hm; omega⟩
theorem numbers_l0 (n : Int) (hn : n ≤ 2000000) (d : Nat) : ∀ (i : Int) (out : List Int), i + d = n → 0 ≤ i → out.length ≤ i → EvS (fun k => laws_numbers.l0 k n out i) (· = out ++ othL [] d i) := by
  induction d with
  | zero =>
    intro i out h1 h2 h3
    refine EvS.step (fun k => by rw [laws_numbers.l0]) ?_
    exact EvS.neg (by omega) (EvS.now (by simp [othL]))
  | succ d ih =>
    intro i out h1 h2 h3
    refine EvS.step (fun k => by rw [laws_numbers.l0]) ?_
    rw [w64 (x := i + 1) (by omega) (by omega)]
    refine EvS.pos (by omega) (EvS.pos (by omega) ?_)
    refine EvS.mono (ih (i + 1) _ (by omega) (by omega) (by simp; omega)) (fun r hr => ?_)
    rw [hr, othL, if_neg (by simp)]
    simp
theorem numbers_ok (n : Nat) (hn : n ≤ 2000000) : EvS (fun k => laws_numbers.f k n) (· = othL [] n 0) := by
  simp only [laws_numbers.f]
  refine EvS.mono (numbers_l0 n (by omega) n 0 [] (by omega) (by omega) (by simp)) (fun r hr => ?_)
  rw [hr]; simp
theorem wsum_snoc (ws ms : List Int) (x : Int) : wsum ws (ms ++ [x]) = wsum ws ms + rd ws x := by
  induction ms with
  | nil => simp [wsum]
  | cons m ms ih => simp only [List.cons_append, wsum, ih]; omega
theorem law_l0 (ws : List Int) (need : Int) (ms : List Int) (hm : ms.length ≤ 1000) (hw : VBody ws need ∧ Diff ms ws.length ∧ wsum ws ms ≥ need) (ys : List Int) : ∀ i : Int, At (othL ms ws.length 0) i ys →
    EvS (fun k => laws_FnWins.l0 k ms (othL [] ws.length 0) (othL ms ws.length 0) i ws need) (· = true) := by
  have hv := hw.1
  have hn := hv.1
  have hol := othL_len ms ws.length 0
  have hal := othL_len [] ws.length 0
  induction ys with
  | nil =>
    intro i h
    have hi := h.ge
    refine EvS.step (fun k => by rw [laws_FnWins.l0]) ?_
    have e1 : winP ws need (othL [] ws.length 0) = true := by
      have := wsum_others ws [] ⟨by simp, by simp⟩
      simp only [wsum] at this
      exact decide_eq_true ⟨hv, others_diff ws [], by have := hv.2.2; omega⟩
    have e2 : winP ws need [] = false := decide_eq_false (fun g => by have := g.2.2; simp only [wsum] at this; have := hv.2.2; omega)
    refine EvS.neg (by omega) (EvS.bindv (impl_Wins_ok ws (by omega) need _ (by omega)) ?_)
    rw [e1]
    refine EvS.pos rfl (EvS.bindv (impl_Wins_ok ws (by omega) need [] (by simp)) (EvS.now ?_))
    rw [e2]; rfl
  | cons y ys ih =>
    intro i h
    have h1 := h.lt
    have h2 := h.nonneg
    have hy := (othL_mem ms ws.length 0 y).1 h.mem
    have hr := rd_range hv.2.1 y (by omega) (by omega)
    have e1 : winP ws need (ms ++ [y]) = true := by
      refine decide_eq_true ⟨hv, ⟨?_, fun z hz => ?_⟩, ?_⟩
      · rw [List.nodup_append]
        refine ⟨hw.2.1.1, by simp, fun a ha b hb e => ?_⟩
        rw [List.mem_singleton] at hb
        subst hb; subst e
        exact hy.2.2 ha
      · rcases List.mem_append.1 hz with hz | hz
        · exact hw.2.1.2 z hz
        · rw [List.mem_singleton] at hz; subst hz; omega
      · rw [wsum_snoc]; have := hw.2.2; omega
    refine EvS.step (fun k => by rw [laws_FnWins.l0]) ?_
    rw [At.rd h, w64 (x := i + 1) (by omega) (by omega)]
    refine EvS.pos h.lt (EvS.call rfl (EvS.pos (by simp; omega) (EvS.call rfl (EvS.pos h.nonneg (EvS.call rfl (EvS.pos (by simp; omega) (EvS.bindv (impl_Wins_ok ws (by omega) need _ (by simp; omega)) ?_)))))))
    rw [List.nil_append, e1]
    exact EvS.pos rfl (ih _ h.next)
theorem FnWins : laws_FnWins.Pure := by
  intro l0 _ _ hw
  refine EvS.holds ?_
  simp only [laws_FnWins.f]
  refine EvS.ite (fun _ => EvS.now rfl) (fun _ => ?_)
  refine EvS.bind (drawWins_ok l0 (fun x hx => u8_range (hw x hx))) ?_
  rintro ⟨ws, need, ms⟩ ⟨g1, g2⟩
  dsimp only at g1 g2 ⊢
  refine EvS.bindv (impl_Wins_ok ws (by omega) need ms (by omega)) (EvS.bindv (spec_Wins_ok ws (by omega) need ms (by omega)) (EvS.neg (by simp) ?_))
  by_cases hv : VBody ws need ∧ Diff ms ws.length ∧ wsum ws ms ≥ need
  · rw [show winP ws need ms = true from decide_eq_true hv]
    refine EvS.step (fun k => by rw [laws_FnWins.j0]) ?_
    exact EvS.neg (by simp) (EvS.bindv (numbers_ok ws.length (by omega)) (EvS.bindv (others_ok ms (by omega) ws.length (by omega)) (law_l0 ws need ms (by omega) hv _ 0 (At.zero _))))
  · rw [show winP ws need ms = false from decide_eq_false hv]
    refine EvS.step (fun k => by rw [laws_FnWins.j0]) ?_
    refine EvS.pos rfl (EvS.bindv (spec_Wins_ok ws (by omega) need ms (by omega)) (EvS.now ?_))
    rw [show winP ws need ms = false from decide_eq_false hv]; rfl
end Go.Proofs.Ytkbgcnpjamadeaa.Pure
