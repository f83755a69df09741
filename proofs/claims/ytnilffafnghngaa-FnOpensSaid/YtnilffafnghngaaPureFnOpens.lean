/- Who opens a lock, opens it with one more, and nobody does not; and Opens is what the reference tells: for every code. Conditions: none. -/
import Derived.Test.YtnilffafnghngaaMFnOpensx0
import Derived.Test.YtnilffafnghngaaMFnOpensx1
import Derived.Test.YtnilffafnghngaaMFnOpensx2
import Derived.Test.YtnilffafnghngaaMFnOpensx3
import Derived.Test.YtnilffafnghngaaMFnOpensx4
import Derived.Test.YtnilffafnghngaaMFnOpensx5
import Derived.Test.YtnilffafnghngaaMFnOpensx6
import Derived.Test.YtnilffafnghngaaMFnOpensx7
import Derived.Test.YtnilffafnghngaaMFnOpensx8
import Derived.Test.YtnilffafnghngaaBase
set_option linter.unusedVariables false
set_option linter.unusedSimpArgs false
namespace Go.Proofs.Ytnilffafnghngaa.Pure
open Go.RowKit Go.Proofs.Ytnilffafnghngaa.PFnOpens Go.Proofs.YtnilffafnghngaaW.PrintWords Go.Proofs.YtnilffafnghngaaW.PrintLast Go.Proofs.YtnilffafnghngaaW.PrintMore Go.Proofs.Ytnilffafnghngaa.Base
theorem u8_range {x : Int} (h : (Lit.int .u8 x).wf = true) : 0 ≤ x ∧ x ≤ 255 := by
  simp [Lit.wf, IntKind.min, IntKind.max, IntKind.bits, IntKind.signed] at h
  omega
/-! ## The reader that draws. -/
structure BytesOk (b : List Int) : Prop where
  len : b.length ≤ 2000
  mem : ∀ x ∈ b, 0 ≤ x ∧ x ≤ 255

theorem newReader_ok (l : List Int) (h : ∀ x ∈ l, 0 ≤ x ∧ x ≤ 255) : ∃ b, spec_newReader.f l = some (b, 0) ∧ BytesOk b := by
  unfold spec_newReader.f
  by_cases c : (l.length : Int) > 2000
  · rw [if_pos c, if_pos (by omega)]
    exact ⟨_, rfl, by rw [List.length_take]; omega, fun x hx => h x (List.mem_of_mem_take hx)⟩
  · rw [if_neg c]
    exact ⟨_, rfl, by omega, h⟩

theorem pick_ok (b : List Int) (p n : Int) (hb : BytesOk b) (h0 : 0 ≤ p) (h1 : p ≤ 100000) :
    EvS (fun k => spec_reader_pick.f k b p n) (fun r => 0 ≤ r.1 ∧ (1 ≤ n → r.1 < n) ∧ (n < 1 → r.1 = 0) ∧ r.2 = p + 1) := by
  have hp : wrap64 (p + 1) = p + 1 := w64 (by omega) (by omega)
  have hq : wrap64 (p + 1 - 1) = p := by rw [show p + 1 - 1 = p by omega]; exact w64 (by omega) (by omega)
  have hbl := hb.len
  simp only [spec_reader_pick.f]
  rw [hp]
  by_cases hn : n < 1
  · refine EvS.pos hn ?_
    refine EvS.step (fun k => by rw [spec_reader_pick.j0]) ?_
    refine EvS.pos rfl ?_
    exact EvS.now ⟨by simp, fun h => by omega, fun _ => rfl, rfl⟩
  · refine EvS.neg hn ?_
    refine EvS.step (fun k => by rw [spec_reader_pick.j0]) ?_
    simp only [hq]
    by_cases hl : b.length = 0
    · refine EvS.pos (by simp [hl]) ?_
      exact EvS.now ⟨by simp, fun h => by simp; omega, fun _ => rfl, rfl⟩
    · refine EvS.neg (by simp; intro h; exact hl (by simp [h])) ?_
      by_cases hpl : p < b.length
      · refine EvS.pos hpl (EvS.pos h0 (EvS.neg (by omega) ?_))
        have hr := rd_range hb.mem p h0 hpl
        rw [w64 (by omega) (by omega)]
        have ht := tmod_range (rd b p) n (by omega) (by omega)
        exact EvS.now ⟨ht.1, fun _ => ht.2, fun h => by omega, rfl⟩
      · refine EvS.neg hpl (EvS.neg (by omega) ?_)
        have e1 : wrap64 (wrap64 (p * 7) + 3) = p * 7 + 3 := by
          rw [w64 (x := p * 7) (by omega) (by omega)]; exact w64 (by omega) (by omega)
        simp only [e1]
        have i1 := tmod_range p b.length h0 (by omega)
        have i2 := tmod_range (p * 7 + 3) b.length (by omega) (by omega)
        refine EvS.pos i1.1 (EvS.pos i1.2 (EvS.pos i2.1 (EvS.pos i2.2 (EvS.neg (by omega) ?_))))
        have r1 := rd_range hb.mem _ i1.1 i1.2
        have r2 := rd_range hb.mem _ i2.1 i2.2
        generalize rd b (Int.tmod p b.length) = v1 at r1 ⊢
        generalize rd b (Int.tmod (p * 7 + 3) b.length) = v2 at r2 ⊢
        have d0 : 0 ≤ Int.tdiv p b.length ∧ Int.tdiv p b.length ≤ p := by
          rw [tdiv_pos _ _ h0]
          exact ⟨Int.ediv_nonneg h0 (by omega), Int.ediv_le_self _ h0⟩
        generalize Int.tdiv p b.length = dv at d0 ⊢
        simp (disch := omega) only [w64]
        have hx0 : 0 ≤ v1 * 131 + v2 * 1117 + p * 29 + dv * 53 := by omega
        have hx1 : v1 * 131 + v2 * 1117 + p * 29 + dv * 53 < 1000000000 := by omega
        generalize v1 * 131 + v2 * 1117 + p * 29 + dv * 53 = X at hx0 hx1 ⊢
        rw [tdiv_pos X 64 hx0, w64 (x := X / 64) (by omega) (by omega)]
        have ht := tmod_range (Go.bits .xor .i64 X (X / 64)) n (xor_nonneg _ _ (by omega) (by omega) (by omega) (by omega)) (by omega)
        exact EvS.now ⟨ht.1, fun _ => ht.2, fun h => by omega, rfl⟩

theorem one_ok (b : List Int) (p : Int) (l : List Int) (hb : BytesOk b) (h0 : 0 ≤ p) (h1 : p ≤ 100000) (hl : 1 ≤ l.length) :
    EvS (fun k => spec_reader_one.f k b p l) (fun r => r.1 ∈ l ∧ r.2 = p + 1) := by
  simp only [spec_reader_one.f]
  refine EvS.bind (pick_ok b p l.length hb h0 h1) ?_
  rintro ⟨v, q⟩ ⟨a1, a2, a3, a4⟩
  have a5 := a2 (by omega)
  refine EvS.pos a1 (EvS.pos a5 ?_)
  exact EvS.now ⟨rd_mem _ a1 a5, a4⟩
/-! ## Lists of numbers. -/
theorem inRange_eq (n lo hi : Int) : spec_inRange.f n lo hi = some (decide (lo ≤ n ∧ n ≤ hi)) := by
  unfold spec_inRange.f
  split
  · exact congrArg some (decide_eq_decide.2 (by omega))
  · exact congrArg some (decide_eq_false (by omega)).symm
def AllW (xs : List Int) (lo hi : Int) : Prop := ∀ x ∈ xs, lo ≤ x ∧ x ≤ hi
instance (xs : List Int) (lo hi : Int) : Decidable (AllW xs lo hi) := by unfold AllW; infer_instance
theorem allW_cons (y : Int) (ys : List Int) (lo hi : Int) : AllW (y :: ys) lo hi ↔ (lo ≤ y ∧ y ≤ hi) ∧ AllW ys lo hi := by
  unfold AllW; simp
/-- The first place of a number, counted from i on; -1 if it is not there. -/
def posF (v : Int) : Int → List Int → Int
  | _, [] => -1
  | i, x :: xs => if x = v then i else posF v (i + 1) xs
theorem posF_range (v : Int) (xs : List Int) : ∀ i : Int, 0 ≤ i → (v ∈ xs → i ≤ posF v i xs ∧ posF v i xs < i + xs.length) ∧ (v ∉ xs → posF v i xs = -1) := by
  induction xs with
  | nil => intro i h0; exact ⟨fun h => by simp at h, fun _ => rfl⟩
  | cons x xs ih =>
    intro i h0
    have h := ih (i + 1) (by omega)
    simp only [posF, List.length_cons]
    by_cases c : x = v
    · rw [if_pos c]; exact ⟨fun _ => by omega, fun g => absurd (by simp [c]) g⟩
    · rw [if_neg c]
      refine ⟨fun g => ?_, fun g => h.2 (fun g2 => g (List.mem_cons_of_mem _ g2))⟩
      have := h.1 ((List.mem_cons.1 g).resolve_left (fun e => c e.symm))
      omega
theorem posF_nonneg (v : Int) (xs : List Int) (i : Int) (h : 0 ≤ i) : (0 ≤ posF v i xs) ↔ v ∈ xs := by
  by_cases c : v ∈ xs
  · have := (posF_range v xs i h).1 c; exact ⟨fun _ => c, fun _ => by omega⟩
  · have := (posF_range v xs i h).2 c; exact ⟨fun g => by omega, fun g => absurd g c⟩
theorem placeIn_l0 (xs : List Int) (hl : xs.length ≤ 1099511627776) (v : Int) (ys : List Int) : ∀ i : Int, At xs i ys → EvS (fun k => spec_placeIn.l0 k xs v i) (· = posF v i ys) := by
  induction ys with
  | nil =>
    intro i h
    refine EvS.step (fun k => by rw [spec_placeIn.l0]) ?_
    exact EvS.neg (by have := h.ge; omega) (EvS.now rfl)
  | cons y ys ih =>
    intro i h
    have h1 := h.lt
    have h2 := h.nonneg
    have hw : wrap64 (i + 1) = i + 1 := w64 (by omega) (by omega)
    refine EvS.step (fun k => by rw [spec_placeIn.l0]) ?_
    refine EvS.pos h.lt (EvS.pos h.nonneg ?_)
    rw [At.rd h, hw, posF]
    by_cases c : y = v
    · rw [if_pos c]; exact EvS.pos c (EvS.now rfl)
    · rw [if_neg c]; exact EvS.neg c (ih _ h.next)
theorem placeIn_ok (xs : List Int) (hl : xs.length ≤ 1099511627776) (v : Int) : EvS (fun k => spec_placeIn.f k xs v) (· = posF v 0 xs) := by
  simp only [spec_placeIn.f]
  exact placeIn_l0 xs hl v xs 0 (At.zero xs)
theorem isIn_l0 (xs : List Int) (hl : xs.length ≤ 1099511627776) (v : Int) (ys : List Int) : ∀ i : Int, At xs i ys → EvS (fun k => laws_isIn.l0 k xs v i) (· = decide (v ∈ ys)) := by
  induction ys with
  | nil =>
    intro i h
    refine EvS.step (fun k => by rw [laws_isIn.l0]) ?_
    exact EvS.neg (by have := h.ge; omega) (EvS.now (by simp))
  | cons y ys ih =>
    intro i h
    refine EvS.step (fun k => by rw [laws_isIn.l0]) ?_
    refine EvS.pos h.lt (EvS.pos h.nonneg ?_)
    rw [At.rd h]
    by_cases c : y = v
    · exact EvS.pos c (EvS.now (by simp [c]))
    · refine EvS.neg c (EvS.mono (ih _ (h.wnext (by omega))) (fun r hr => ?_))
      rw [hr]
      exact decide_eq_decide.2 ⟨fun g => List.mem_cons_of_mem _ g, fun g => (List.mem_cons.1 g).resolve_left (fun e => c e.symm)⟩
theorem isIn_ok (xs : List Int) (hl : xs.length ≤ 1099511627776) (v : Int) : EvS (fun k => laws_isIn.f k xs v) (· = decide (v ∈ xs)) := by
  simp only [laws_isIn.f]
  exact isIn_l0 xs hl v xs 0 (At.zero xs)
/-- Different numbers from 0 to n - 1. -/
def Diff (xs : List Int) (n : Int) : Prop := xs.Nodup ∧ ∀ x ∈ xs, 0 ≤ x ∧ x < n
instance (xs : List Int) (n : Int) : Decidable (Diff xs n) := by unfold Diff; infer_instance
def DiffF (pre ys : List Int) (n : Int) : Prop := ys.Nodup ∧ ∀ y ∈ ys, 0 ≤ y ∧ y < n ∧ y ∉ pre
instance (pre ys : List Int) (n : Int) : Decidable (DiffF pre ys n) := by unfold DiffF; infer_instance
theorem diffF_cons (pre : List Int) (y : Int) (ys : List Int) (n : Int) : DiffF pre (y :: ys) n ↔ (0 ≤ y ∧ y < n ∧ y ∉ pre) ∧ DiffF (y :: pre) ys n := by
  unfold DiffF
  constructor
  · rintro ⟨h1, h2⟩
    have h1 := List.nodup_cons.1 h1
    refine ⟨h2 y List.mem_cons_self, h1.2, fun z hz => ?_⟩
    have := h2 z (List.mem_cons_of_mem _ hz)
    refine ⟨this.1, this.2.1, fun hm => ?_⟩
    rcases List.mem_cons.1 hm with rfl | hm
    · exact h1.1 hz
    · exact this.2.2 hm
  · rintro ⟨h1, h2, h3⟩
    refine ⟨List.nodup_cons.2 ⟨fun hm => (h3 y hm).2.2 List.mem_cons_self, h2⟩, fun z hz => ?_⟩
    rcases List.mem_cons.1 hz with rfl | hz
    · exact h1
    · have := h3 z hz
      exact ⟨this.1, this.2.1, fun hm => this.2.2 (List.mem_cons_of_mem _ hm)⟩
theorem diffF_congr {p q ys : List Int} {n : Int} (h : ∀ x, x ∈ p ↔ x ∈ q) : DiffF p ys n ↔ DiffF q ys n := by
  unfold DiffF
  simp only [h]
theorem diffF_nil (xs : List Int) (n : Int) : DiffF [] xs n ↔ Diff xs n := by
  unfold DiffF Diff; simp
theorem diff_len {xs : List Int} {n : Int} (h : Diff xs n) : (xs.length : Int) ≤ n ∨ xs = [] := by
  rcases xs with _ | ⟨x, xs⟩
  · exact .inr rfl
  · left
    have h1 : 0 ≤ n := by have := h.2 x List.mem_cons_self; omega
    have h2 : (x :: xs) ⊆ (List.range n.toNat).map (fun m : Nat => (m : Int)) := by
      intro y hy
      have := h.2 y hy
      exact List.mem_map.2 ⟨y.toNat, List.mem_range.2 (by omega), by omega⟩
    have h3 := h.1.length_le_of_subset h2
    rw [List.length_map, List.length_range] at h3
    omega
theorem differentBelow_l0 (xs : List Int) (hl : xs.length ≤ 1099511627776) (n : Int) (ys : List Int) : ∀ (i : Int) (seen : List Bool) (pre : List Int), At xs i ys → (seen.length : Int) = n → (∀ v : Int, 0 ≤ v → v < n → (rdOf false seen v = true ↔ v ∈ pre)) →
    EvS (fun k => impl_differentBelow.l0 k n seen xs xs.length i) (· = decide (DiffF pre ys n)) := by
  induction ys with
  | nil =>
    intro i seen pre h hs hv
    refine EvS.step (fun k => by rw [impl_differentBelow.l0]) ?_
    exact EvS.neg (by have := h.ge; omega) (EvS.now (by simp [DiffF]))
  | cons y ys ih =>
    intro i seen pre h hs hv
    refine EvS.step (fun k => by rw [impl_differentBelow.l0]) ?_
    refine EvS.pos h.lt (EvS.pos h.nonneg (EvS.pos h.lt ?_))
    rw [At.rd h]
    refine EvS.ite (fun c => EvS.now (decide_eq_false (fun g => by have := ((diffF_cons _ _ _ _).1 g).1; omega)).symm) (fun c1 => EvS.ite (fun c => EvS.now (decide_eq_false (fun g => by have := ((diffF_cons _ _ _ _).1 g).1; omega)).symm) (fun c2 => EvS.pos (by omega) (EvS.pos (by omega) ?_)))
    have hy := hv y (by omega) (by omega)
    refine EvS.ite (fun c => EvS.now (decide_eq_false (fun g => ((diffF_cons _ _ _ _).1 g).1.2.2 (hy.1 c))).symm) (fun c3 => ?_)
    refine EvS.mono (ih _ (seen.set y.toNat true) (y :: pre) (h.wnext (by omega)) (by simpa using hs) (fun v h0 h1 => ?_)) (fun r hr => ?_)
    · unfold rdOf
      rw [List.getD_eq_getElem?_getD, List.getElem?_set]
      by_cases e : y = v
      · subst e
        rw [if_pos rfl, if_pos (by omega)]
        exact ⟨fun _ => List.mem_cons_self, fun _ => rfl⟩
      · rw [if_neg (by omega)]
        have := hv v h0 h1
        unfold rdOf at this
        rw [List.getD_eq_getElem?_getD] at this
        rw [this, List.mem_cons]
        exact ⟨fun g => .inr g, fun g => g.resolve_left (fun e2 => e e2.symm)⟩
    · rw [hr]
      exact decide_eq_decide.2 ⟨fun g => (diffF_cons _ _ _ _).2 ⟨⟨by omega, by omega, fun hm => c3 (hy.2 hm)⟩, g⟩, fun g => ((diffF_cons _ _ _ _).1 g).2⟩
theorem differentBelow_ok (xs : List Int) (hl : xs.length ≤ 1099511627776) (n : Int) (hn : n ≤ 1099511627776) (h0 : 0 ≤ n) : EvS (fun k => impl_differentBelow.f k xs n) (· = decide (Diff xs n)) := by
  simp only [impl_differentBelow.f]
  refine EvS.ite (fun c => EvS.now (decide_eq_false (fun g => ?_)).symm) (fun c => EvS.pos h0 (EvS.pos (by omega) ?_))
  · rcases diff_len g with h | h
    · omega
    · subst h; simp at c; omega
  · refine EvS.mono (differentBelow_l0 xs hl n xs 0 _ [] (At.zero xs) (by simp; omega) (fun v _ _ => ?_)) (fun r hr => ?_)
    · unfold rdOf
      rw [List.getD_eq_getElem?_getD, List.getElem?_replicate]
      split <;> simp
    · rw [hr]
      exact decide_eq_decide.2 (diffF_nil xs n)
theorem validMembers_l0 (xs : List Int) (hl : xs.length ≤ 1099511627776) (n : Int) (hn : n ≤ 1099511627776) (h0 : 0 ≤ n) (ys : List Int) : ∀ i : Int, At xs i ys → EvS (fun k => spec_validMembers.l0 k xs n i) (· = decide (DiffF (xs.take i.toNat) ys n)) := by
  induction ys with
  | nil =>
    intro i h
    refine EvS.step (fun k => by rw [spec_validMembers.l0]) ?_
    exact EvS.neg (by have := h.ge; omega) (EvS.now (by simp [DiffF]))
  | cons y ys ih =>
    intro i h
    have h1 := h.lt
    have h2 := h.nonneg
    have hw : wrap64 (i + 1) = i + 1 := w64 (by omega) (by omega)
    refine EvS.step (fun k => by rw [spec_validMembers.l0]) ?_
    refine EvS.pos h.lt (EvS.pos h.nonneg ?_)
    rw [At.rd h, hw, w64 (x := n - 1) (by omega) (by omega)]
    refine EvS.call (inRange_eq _ _ _) (EvS.ite (fun c => EvS.pos (by omega) ?_) (fun c => EvS.now ?_))
    · have c := of_decide_eq_true c
      refine EvS.bindv (placeIn_ok _ (by rw [List.length_take]; omega) y) ?_
      have hp := posF_nonneg y (xs.take i.toNat) 0 (by omega)
      refine EvS.ite (fun g => EvS.now (decide_eq_false (fun g2 => ((diffF_cons _ _ _ _).1 g2).1.2.2 (hp.1 g))).symm) (fun g => ?_)
      refine EvS.mono (ih _ h.next) (fun r hr => ?_)
      rw [hr]
      refine decide_eq_decide.2 (Iff.trans (diffF_congr (q := y :: xs.take i.toNat) (fun x => ?_)) ⟨fun g2 => (diffF_cons _ _ _ _).2 ⟨⟨c.1, by omega, fun hm => g (hp.2 hm)⟩, g2⟩, fun g2 => ((diffF_cons _ _ _ _).1 g2).2⟩)
      simp only [h.take, List.mem_append, List.mem_cons, List.not_mem_nil, or_false]
      exact or_comm
    · have c := ndec c
      exact (decide_eq_false (fun g => c (by have := ((diffF_cons _ _ _ _).1 g).1; omega))).symm
theorem validMembers_ok (xs : List Int) (hl : xs.length ≤ 1099511627776) (n : Int) (hn : n ≤ 1099511627776) (h0 : 0 ≤ n) : EvS (fun k => spec_validMembers.f k xs n) (· = decide (Diff xs n)) := by
  simp only [spec_validMembers.f]
  refine EvS.mono (validMembers_l0 xs hl n hn h0 xs 0 (At.zero xs)) (fun r hr => ?_)
  rw [hr]
  exact decide_eq_decide.2 (diffF_nil xs n)
/-! ## Sets told as numbers. -/
def hasB (s : Int) : Nat → Bool
  | 0 => s % 2 == 1
  | n + 1 => hasB (s / 2) n
def pow2 : Nat → Int
  | 0 => 1
  | n + 1 => 2 * pow2 n
theorem pow2_pos (n : Nat) : 1 ≤ pow2 n := by
  induction n with
  | zero => simp [pow2]
  | succ n ih => simp only [pow2]; omega
theorem pow2_le (n : Nat) (h : n ≤ 40) : pow2 n ≤ 1099511627776 := by
  have mono : ∀ d n : Nat, pow2 n ≤ pow2 (n + d) := by
    intro d
    induction d with
    | zero => intro n; exact Int.le_refl _
    | succ d ih => intro n; have h1 := ih n; have h2 := pow2_pos (n + d); show pow2 n ≤ 2 * pow2 (n + d); omega
  have := mono (40 - n) n
  rw [show n + (40 - n) = 40 by omega] at this
  have e : pow2 40 = 1099511627776 := by decide
  omega
theorem pow2_12 (n : Nat) (h : n ≤ 12) : pow2 n ≤ 4096 := by
  have : ∀ n : Fin 13, pow2 n.val ≤ 4096 := by decide
  exact this ⟨n, by omega⟩
theorem hasB_add (m : Nat) : ∀ (s : Int) (i : Nat), 0 ≤ s → hasB s m = false → hasB (s + pow2 m) i = (decide (i = m) || hasB s i) := by
  induction m with
  | zero =>
    intro s i h0 h
    have h1 : s % 2 ≠ 1 := by simpa [hasB] using h
    cases i with
    | zero => simp only [hasB, pow2]; have : (s + 1) % 2 = 1 := by omega
              simp [this]
    | succ i => simp only [hasB, pow2]; have : (s + 1) / 2 = s / 2 := by omega
                simp [this]
  | succ m ih =>
    intro s i h0 h
    simp only [hasB] at h
    cases i with
    | zero =>
      simp only [hasB, pow2]
      have : (s + 2 * pow2 m) % 2 = s % 2 := by omega
      simp [this]
    | succ i =>
      simp only [hasB, pow2]
      have : (s + 2 * pow2 m) / 2 = s / 2 + pow2 m := by omega
      rw [this, ih _ _ (by omega) h]
      simp
def setS : List Int → Int
  | [] => 0
  | m :: ms => pow2 m.toNat + setS ms
theorem setS_nonneg (ms : List Int) : 0 ≤ setS ms := by
  induction ms with
  | nil => simp [setS]
  | cons m ms ih => have := pow2_pos m.toNat; simp only [setS]; omega
theorem hasB_zero (i : Nat) : hasB 0 i = false := by
  induction i with
  | zero => rfl
  | succ i ih => exact ih
theorem hasB_setS (ms : List Int) (hd : ms.Nodup) (h0 : ∀ m ∈ ms, 0 ≤ m) (i : Int) (hi : 0 ≤ i) : hasB (setS ms) i.toNat = decide (i ∈ ms) := by
  induction ms generalizing i with
  | nil => simp [setS, hasB_zero]
  | cons m ms ih =>
    have h1 := List.nodup_cons.1 hd
    have h2 := h0 m List.mem_cons_self
    have ih := ih h1.2 (fun x hx => h0 x (List.mem_cons_of_mem _ hx))
    simp only [setS]
    rw [Int.add_comm, hasB_add _ _ _ (setS_nonneg ms) (by rw [ih m h2]; exact decide_eq_false h1.1), ih i hi]
    rw [Bool.eq_iff_iff]
    simp only [Bool.or_eq_true, decide_eq_true_eq, List.mem_cons]
    have e : i.toNat = m.toNat ↔ i = m := by omega
    rw [e]
theorem spec_has_l0 (n : Int) (hn : n ≤ 1000) (d : Nat) : ∀ (s i : Int), 0 ≤ s → s ≤ 4611686018427387904 → i + d = n → 0 ≤ i → EvS (fun k => spec_has.l0 k s n i) (· = hasB s d) := by
  induction d with
  | zero =>
    intro s i h0 h1 e i0
    refine EvS.step (fun k => by rw [spec_has.l0]) ?_
    refine EvS.neg (by omega) (EvS.now ?_)
    rw [tmod_pos s 2 h0]; rfl
  | succ d ih =>
    intro s i h0 h1 e i0
    refine EvS.step (fun k => by rw [spec_has.l0]) ?_
    rw [tdiv_pos s 2 h0, w64 (x := s / 2) (by omega) (by omega), w64 (x := i + 1) (by omega) (by omega)]
    exact EvS.pos (by omega) (ih (s / 2) (i + 1) (by omega) (by omega) (by omega) (by omega))
theorem spec_has_ok (s i : Int) (h0 : 0 ≤ s) (h1 : s ≤ 4611686018427387904) (i0 : 0 ≤ i) (i1 : i ≤ 1000) : EvS (fun k => spec_has.f k s i) (· = hasB s i.toNat) := by
  simp only [spec_has.f]
  exact spec_has_l0 i i1 i.toNat s 0 h0 h1 (by omega) (by omega)
theorem spec_power_l0 (n : Int) (hn : n ≤ 40) (d : Nat) : ∀ (i : Int) (e : Nat), i + d = n → i = e → EvS (fun k => spec_power.l0 k n (pow2 e) i) (· = pow2 (e + d)) := by
  induction d with
  | zero =>
    intro i e h1 h2
    refine EvS.step (fun k => by rw [spec_power.l0]) ?_
    exact EvS.neg (by omega) (EvS.now rfl)
  | succ d ih =>
    intro i e h1 h2
    have hp := pow2_le e (by omega)
    have hp2 := pow2_pos e
    refine EvS.step (fun k => by rw [spec_power.l0]) ?_
    rw [w64 (x := 2 * pow2 e) (by omega) (by omega), w64 (x := i + 1) (by omega) (by omega)]
    refine EvS.pos (by omega) (EvS.mono (ih (i + 1) (e + 1) (by omega) (by omega)) (fun r hr => ?_))
    rw [hr, show e + (d + 1) = e + 1 + d by omega]
theorem spec_power_ok (n : Int) (h0 : 0 ≤ n) (hn : n ≤ 40) : EvS (fun k => spec_power.f k n) (· = pow2 n.toNat) := by
  simp only [spec_power.f]
  have := spec_power_l0 n hn n.toNat 0 0 (by omega) rfl
  rwa [Nat.zero_add] at this
theorem setS_bound (ms : List Int) (hm : ∀ m ∈ ms, 0 ≤ m ∧ m ≤ 12) : setS ms ≤ 4096 * (ms.length : Int) := by
  induction ms with
  | nil => simp [setS]
  | cons m ms ih =>
    have h1 := ih (fun x hx => hm x (List.mem_cons_of_mem _ hx))
    have h2 := hm m List.mem_cons_self
    have h3 := pow2_12 m.toNat (by omega)
    simp only [setS, List.length_cons]
    omega
theorem spec_setOf_l0 (ms : List Int) (hl : ms.length ≤ 1000) (hm : ∀ m ∈ ms, 0 ≤ m ∧ m ≤ 12) (ys : List Int) : ∀ i acc : Int, At ms i ys → 0 ≤ acc → acc ≤ 4096 * i → EvS (fun k => spec_setOf.l0 k ms acc i) (· = acc + setS ys) := by
  induction ys with
  | nil =>
    intro i acc h a0 a1
    refine EvS.step (fun k => by rw [spec_setOf.l0]) ?_
    exact EvS.neg (by have := h.ge; omega) (EvS.now (by simp [setS]))
  | cons y ys ih =>
    intro i acc h a0 a1
    have g1 := h.lt
    have g2 := h.nonneg
    have hy := hm y h.mem
    have h3 := pow2_12 y.toNat (by omega)
    have h4 := pow2_pos y.toNat
    refine EvS.step (fun k => by rw [spec_setOf.l0]) ?_
    rw [At.rd h, w64 (x := i + 1) (by omega) (by omega)]
    refine EvS.pos h.lt (EvS.pos h.nonneg (EvS.bindv (spec_power_ok y hy.1 (by omega)) ?_))
    rw [w64 (x := acc + pow2 y.toNat) (by omega) (by omega)]
    refine EvS.mono (ih (i + 1) _ h.next (by omega) (by omega)) (fun r hr => ?_)
    rw [hr, setS]; omega
theorem spec_setOf_ok (ms : List Int) (hl : ms.length ≤ 1000) (hm : ∀ m ∈ ms, 0 ≤ m ∧ m ≤ 12) : EvS (fun k => spec_setOf.f k ms) (· = setS ms) := by
  simp only [spec_setOf.f]
  refine EvS.mono (spec_setOf_l0 ms hl hm ms 0 0 (At.zero _) (by omega) (by omega)) (fun r hr => ?_)
  rw [hr]; omega
/-! ## Members that are drawn. -/
theorem someMembers_l0 (b : List Int) (hb : BytesOk b) (n : Int) (hn : 0 ≤ n) (hn2 : n ≤ 100) (d : Nat) : ∀ (i p : Int) (out : List Int), i + d = n → 0 ≤ i → out.length ≤ i → 0 ≤ p → p + 2 * d + 4 ≤ 10000 →
    EvS (fun k => spec_someMembers.l0 k n out i b p) (fun r => (r.1.length : Int) ≤ n + 1) := by
  induction d with
  | zero =>
    intro i p out h1 h2 h3 h4 h5
    refine EvS.step (fun k => by rw [spec_someMembers.l0]) ?_
    refine EvS.neg (by omega) (EvS.ite (fun c => ?_) (fun c => EvS.now (by dsimp only; omega)))
    refine EvS.bind (pick_ok _ _ _ hb (by omega) (by omega)) ?_
    rintro ⟨v1, _⟩ ⟨v1_0, v1_1, v1_2, rfl⟩
    dsimp only at v1_0 v1_1 v1_2 ⊢
    refine EvS.ite (fun _ => EvS.pos (by omega) ?_) (fun _ => EvS.now (by dsimp only; omega))
    refine EvS.bind (one_ok _ _ _ hb (by omega) (by omega) (by simp)) ?_
    rintro ⟨v2, _⟩ ⟨v2_m, rfl⟩
    dsimp only at v2_m ⊢
    exact EvS.pos (by omega) (EvS.now (by simp; omega))
  | succ d ih =>
    intro i p out h1 h2 h3 h4 h5
    refine EvS.step (fun k => by rw [spec_someMembers.l0]) ?_
    refine EvS.pos (by omega) ?_
    refine EvS.bind (pick_ok _ _ _ hb (by omega) (by omega)) ?_
    rintro ⟨v1, _⟩ ⟨v1_0, v1_1, v1_2, rfl⟩
    dsimp only at v1_0 v1_1 v1_2 ⊢
    rw [w64 (x := i + 1) (by omega) (by omega)]
    refine EvS.ite (fun _ => EvS.pos (by omega) ?_) (fun _ => ?_)
    · exact ih _ _ _ (by omega) (by omega) (by simp; omega) (by omega) (by omega)
    · exact ih _ _ _ (by omega) (by omega) (by omega) (by omega) (by omega)
theorem someMembers_ok (b : List Int) (hb : BytesOk b) (n p : Int) (hn : 0 ≤ n) (hn2 : n ≤ 100) (h0 : 0 ≤ p) (h1 : p ≤ 5000) :
    EvS (fun k => spec_someMembers.f k b p n) (fun r => (r.1.length : Int) ≤ n + 1) := by
  simp only [spec_someMembers.f]
  exact someMembers_l0 b hb n hn hn2 n.toNat 0 p [] (by omega) (by omega) (by simp) h0 (by omega)
/-! ## The others. -/
def othL (ms : List Int) : Nat → Int → List Int
  | 0, _ => []
  | d + 1, i => if i ∈ ms then othL ms d (i + 1) else i :: othL ms d (i + 1)
theorem othL_mem (ms : List Int) (d : Nat) : ∀ i c : Int, c ∈ othL ms d i ↔ i ≤ c ∧ c < i + d ∧ c ∉ ms := by
  induction d with
  | zero => intro i c; simp [othL]; omega
  | succ d ih =>
    intro i c
    simp only [othL]
    by_cases h : i ∈ ms
    · rw [if_pos h, ih]
      refine ⟨fun ⟨a, b, e⟩ => ⟨by omega, by omega, e⟩, fun ⟨a, b, e⟩ => ⟨?_, by omega, e⟩⟩
      by_cases q : c = i
      · subst q; exact absurd h e
      · omega
    · rw [if_neg h, List.mem_cons, ih]
      constructor
      · rintro (rfl | ⟨a, b, e⟩)
        · exact ⟨by omega, by omega, h⟩
        · exact ⟨by omega, by omega, e⟩
      · rintro ⟨a, b, e⟩
        by_cases q : c = i
        · exact .inl q
        · exact .inr ⟨by omega, by omega, e⟩
theorem othL_nodup (ms : List Int) (d : Nat) : ∀ i : Int, (othL ms d i).Nodup := by
  induction d with
  | zero => intro i; simp [othL]
  | succ d ih =>
    intro i
    simp only [othL]
    by_cases h : i ∈ ms
    · rw [if_pos h]; exact ih _
    · rw [if_neg h]
      refine List.nodup_cons.2 ⟨fun hm => ?_, ih _⟩
      have := ((othL_mem ms d (i + 1) i).1 hm).1
      omega
theorem othL_len (ms : List Int) (d : Nat) : ∀ i : Int, (othL ms d i).length ≤ d := by
  induction d with
  | zero => intro i; simp [othL]
  | succ d ih => intro i; have := ih (i + 1); simp only [othL]; split <;> simp <;> omega
theorem others_l0 (ms : List Int) (hl : ms.length ≤ 2000000) (n : Int) (hn : n ≤ 2000000) (d : Nat) : ∀ (i : Int) (out : List Int), i + d = n → 0 ≤ i → out.length ≤ i → EvS (fun k => laws_others.l0 k ms n out i) (· = out ++ othL ms d i) := by
  induction d with
  | zero =>
    intro i out h1 h2 h3
    refine EvS.step (fun k => by rw [laws_others.l0]) ?_
    exact EvS.neg (by omega) (EvS.now (by simp [othL]))
  | succ d ih =>
    intro i out h1 h2 h3
    refine EvS.step (fun k => by rw [laws_others.l0]) ?_
    rw [w64 (x := i + 1) (by omega) (by omega)]
    refine EvS.pos (by omega) (EvS.bindv (isIn_ok ms (by omega) i) (EvS.ite (fun c => ?_) (fun c => EvS.pos (by omega) ?_)))
    · refine EvS.mono (ih (i + 1) out (by omega) (by omega) (by omega)) (fun r hr => ?_)
      rw [hr, othL, if_pos (of_decide_eq_true c)]
    · refine EvS.mono (ih (i + 1) _ (by omega) (by omega) (by simp; omega)) (fun r hr => ?_)
      rw [hr, othL, if_neg (ndec c)]
      simp
theorem others_ok (ms : List Int) (hl : ms.length ≤ 2000000) (n : Nat) (hn : n ≤ 2000000) : EvS (fun k => laws_others.f k ms n) (· = othL ms n 0) := by
  simp only [laws_others.f]
  refine EvS.mono (others_l0 ms hl n (by omega) n 0 [] (by omega) (by omega) (by simp)) (fun r hr => ?_)
  rw [hr]; simp
/-! ## Locks. -/
theorem or_bit (s : Nat) (hs : s < 256) (m : Nat) (hm : m < 8) : Go.bits .or .i64 (s : Int) (pow2 m) = (if hasB s m = true then (s : Int) else s + pow2 m) ∧ Go.bits .or .i64 (s : Int) (pow2 m) < 256 := by
  have h : ∀ m : Fin 8, ∀ s : Fin 256, Go.bits .or .i64 (s.val : Int) (pow2 m.val) = (if hasB s.val m.val = true then (s.val : Int) else s.val + pow2 m.val) ∧ Go.bits .or .i64 (s.val : Int) (pow2 m.val) < 256 := by decide +kernel
  exact h ⟨m, hm⟩ ⟨s, hs⟩
theorem and_bit (s : Nat) (hs : s < 256) (m : Nat) (hm : m < 8) : Go.bits .and .i64 (shr .i64 (s : Int) (m : Int)) 1 = if hasB s m = true then 1 else 0 := by
  have h : ∀ m : Fin 8, ∀ s : Fin 256, Go.bits .and .i64 (shr .i64 (s.val : Int) ((m.val : Nat) : Int)) 1 = if hasB s.val m.val = true then 1 else 0 := by decide +kernel
  exact h ⟨m, hm⟩ ⟨s, hs⟩
theorem shl_bit (m : Nat) (hm : m < 8) : shl .i64 1 (m : Int) = pow2 m := by
  have h : ∀ m : Fin 8, shl .i64 1 ((m.val : Nat) : Int) = pow2 m.val := by decide +kernel
  exact h ⟨m, hm⟩
theorem impl_setOf_l0 (ms : List Int) (hl : ms.length ≤ 1000) (ys : List Int) : ∀ (i s : Int), At ms i ys → 0 ≤ s → s < 256 → ys.Nodup → (∀ y ∈ ys, (0 ≤ y ∧ y < 8) ∧ hasB s y.toNat = false) → EvS (fun k => impl_setOf.l0 k s ms ms.length i) (fun r => r = s + setS ys ∧ r < 256) := by
  induction ys with
  | nil =>
    intro i s h h0 h1 _ _
    refine EvS.step (fun k => by rw [impl_setOf.l0]) ?_
    exact EvS.neg (by have := h.ge; omega) (EvS.now ⟨by simp [setS], h1⟩)
  | cons y ys ih =>
    intro i s h h0 h1 hd hy
    have hy0 := hy y List.mem_cons_self
    have hd2 := List.nodup_cons.1 hd
    obtain ⟨n, rfl⟩ := Int.eq_ofNat_of_zero_le h0
    obtain ⟨m, rfl⟩ := Int.eq_ofNat_of_zero_le hy0.1.1
    have ho := or_bit n (by omega) m (by omega)
    have hb : hasB (n : Int) m = false := by simpa using hy0.2
    rw [if_neg (by rw [hb]; simp)] at ho
    have hp := pow2_pos m
    refine EvS.step (fun k => by rw [impl_setOf.l0]) ?_
    refine EvS.pos h.lt (EvS.pos h.nonneg (EvS.pos h.lt ?_))
    rw [At.rd h, shl_bit m (by omega), ho.1]
    refine EvS.pos (by omega) (EvS.mono (ih _ _ (h.wnext (by omega)) (by omega) (by have := ho.2; rw [ho.1] at this; exact this) hd2.2 (fun z hz => ⟨(hy z (List.mem_cons_of_mem _ hz)).1, ?_⟩)) (fun r hr => ⟨?_, hr.2⟩))
    · have hz2 := hy z (List.mem_cons_of_mem _ hz)
      have hzm : ¬ z.toNat = m := fun e => hd2.1 (by rw [show (m : Int) = z by omega]; exact hz)
      rw [hasB_add m (n : Int) z.toNat (by omega) hb, hz2.2, decide_eq_false hzm]
      rfl
    · rw [hr.1]; simp only [setS, Int.toNat_natCast]; omega
theorem impl_setOf_ok (ms : List Int) (hl : ms.length ≤ 1000) (hd : Diff ms 8) : EvS (fun k => impl_setOf.f k ms) (fun r => r = setS ms ∧ r < 256) := by
  simp only [impl_setOf.f]
  refine EvS.mono (impl_setOf_l0 ms hl ms 0 0 (At.zero _) (by omega) (by omega) hd.1 (fun y hy => ⟨hd.2 y hy, hasB_zero _⟩)) (fun r hr => ⟨by rw [hr.1]; omega, hr.2⟩)
theorem at_rdL {xs ys : List S38} {i : Int} {y : S38} (h : At xs i (y :: ys)) : rd_T38 xs i = y := h.getD _
def sumC (f : S38 → Int) : List S38 → Int
  | [] => 0
  | y :: ys => f y + sumC f ys
/-- A lock that is not deeper than d, and small. -/
def OkD : Nat → S38 → Prop
  | 0, _ => False
  | d + 1, x => x.f1.length ≤ 6 ∧ x.f2.length ≤ 2 ∧ ∀ y ∈ x.f2, OkD d y
def VD : Nat → S38 → Prop
  | 0, _ => False
  | d + 1, x => ((1 ≤ x.f0 ∧ x.f0 ≤ (x.f1.length : Int) + x.f2.length) ∧ (x.f1.length : Int) + x.f2.length ≤ 8 ∧ Diff x.f1 8) ∧ ∀ y ∈ x.f2, VD d y
def cD : Nat → S38 → Int
  | 0, _ => 1
  | d + 1, x => 1 + sumC (cD d) x.f2
def opD : Nat → Int → S38 → Bool
  | 0, _, _ => false
  | d + 1, s, x => decide (x.f0 ≤ (x.f1.countP (fun m => hasB s m.toNat) : Int) + (x.f2.countP (opD d s) : Int))
theorem sumC_nonneg {f : S38 → Int} (hf : ∀ x, 1 ≤ f x) (ys : List S38) : 0 ≤ sumC f ys ∧ ∀ y ∈ ys, f y ≤ sumC f ys := by
  induction ys with
  | nil => exact ⟨Int.le_refl _, fun y hy => by simp at hy⟩
  | cons y ys ih =>
    have := hf y
    simp only [sumC]
    refine ⟨by omega, fun z hz => ?_⟩
    rcases List.mem_cons.1 hz with rfl | hz
    · omega
    · have := ih.2 z hz; omega
theorem cD_pos (d : Nat) : ∀ x, 1 ≤ cD d x := by
  induction d with
  | zero => intro x; exact Int.le_refl _
  | succ d ih => intro x; have := (sumC_nonneg ih x.f2).1; simp only [cD]; omega
def Cnt (d : Nat) (x : S38) (left : Int) : Prop := VD d x ∧ cD d x ≤ left
/-! ### the program's count -/
theorem count_l0 (d : Nat) (x : S38) (left : Int) (h12 : left ≤ 12) (h1 : 1 ≤ left) (hx : OkD (d + 1) x) (hloc : (1 ≤ x.f0 ∧ x.f0 ≤ (x.f1.length : Int) + x.f2.length) ∧ (x.f1.length : Int) + x.f2.length ≤ 8 ∧ Diff x.f1 8)
    (ih : ∀ y left, left ≤ 12 → OkD d y → EvS (fun k => impl_lockCount.f k y.f0 y.f1 y.f2 left) (fun r => (Cnt d y left ∧ r = cD d y) ∨ (¬ Cnt d y left ∧ 12 < r ∧ r ≤ 13 + 12 * d))) (hd : d ≤ 1000) (ys : List S38) :
    ∀ (i c : Int), At x.f2 i ys → 1 ≤ c → c ≤ left → c + sumC (cD d) ys = cD (d + 1) x → ((∀ y ∈ ys, VD d y) → ∀ y ∈ x.f2, VD d y) →
    EvS (fun k => impl_lockCount.l0 k left c x.f2 x.f2.length i) (fun r => (Cnt (d + 1) x left ∧ r = cD (d + 1) x) ∨ (¬ Cnt (d + 1) x left ∧ 12 < r ∧ r ≤ 13 + 12 * ((d + 1 : Nat) : Int))) := by
  induction ys with
  | nil =>
    intro i c h c1 c2 hs hv
    simp only [sumC, Int.add_zero] at hs
    refine EvS.step (fun k => by rw [impl_lockCount.l0]) ?_
    exact EvS.neg (by have := h.ge; omega) (EvS.now (.inl ⟨⟨⟨hloc, hv (fun y hy => by simp at hy)⟩, by omega⟩, hs⟩))
  | cons y ys ih2 =>
    intro i c h c1 c2 hs hv
    have hlen := hx.2.1
    have hy := hx.2.2 y h.mem
    have hp := sumC_nonneg (cD_pos d) ys
    have hcy := cD_pos d y
    simp only [sumC] at hs
    refine EvS.step (fun k => by rw [impl_lockCount.l0]) ?_
    refine EvS.pos h.lt (EvS.pos h.nonneg (EvS.pos h.lt ?_))
    rw [at_rdL h, w64 (x := left - c) (by omega) (by omega)]
    refine EvS.bind (ih y (left - c) (by omega) hy) (fun t ht => ?_)
    rcases ht with ⟨⟨g1, g2⟩, rfl⟩ | ⟨g1, g2, g3⟩
    · rw [w64 (x := c + cD d y) (by omega) (by omega)]
      refine EvS.neg (by omega) (ih2 _ _ (h.wnext (by omega)) (by omega) (by omega) (by omega) (fun q => hv (fun z hz => ?_)))
      rcases List.mem_cons.1 hz with rfl | hz
      · exact g1
      · exact q z hz
    · rw [w64 (x := c + t) (by omega) (by omega)]
      refine EvS.pos (by omega) (EvS.now (.inr ⟨fun q => g1 ⟨q.1.2 y h.mem, ?_⟩, by omega, by push_cast; omega⟩))
      have := q.2
      omega
theorem impl_lockCount_ok (d : Nat) (hd : d ≤ 1000) : ∀ (x : S38) (left : Int), left ≤ 12 → OkD d x → EvS (fun k => impl_lockCount.f k x.f0 x.f1 x.f2 left) (fun r => (Cnt d x left ∧ r = cD d x) ∨ (¬ Cnt d x left ∧ 12 < r ∧ r ≤ 13 + 12 * d)) := by
  induction d with
  | zero => intro x left _ hx; exact absurd hx (by simp [OkD])
  | succ d ih =>
    intro x left h12 hx
    have hl1 := hx.1
    have hl2 := hx.2.1
    have jt : ¬ Cnt (d + 1) x left → EvS (fun k => impl_lockCount.j0 k left true x.f0 x.f1 x.f2) (fun r => (Cnt (d + 1) x left ∧ r = cD (d + 1) x) ∨ (¬ Cnt (d + 1) x left ∧ 12 < r ∧ r ≤ 13 + 12 * ((d + 1 : Nat) : Int))) := by
      intro g
      refine EvS.step (fun k => by rw [impl_lockCount.j0]) ?_
      exact EvS.pos rfl (EvS.now (.inr ⟨g, by omega, by omega⟩))
    have hc := cD_pos (d + 1) x
    refine EvS.step (fun k => by rw [impl_lockCount.f]) ?_
    rw [w64 (x := (x.f1.length : Int) + (x.f2.length : Int)) (by omega) (by omega)]
    refine EvS.ite (fun c => jt (fun g => by have := g.2; omega)) (fun c1 => EvS.ite (fun c => jt (fun g => by have := g.1.1.2.1; omega)) (fun c2 => EvS.ite (fun c => jt (fun g => by have := g.1.1.1.1; omega)) (fun c3 => EvS.ite (fun c => jt (fun g => by have := g.1.1.1.2; omega)) (fun c4 => EvS.bindv (differentBelow_ok x.f1 (by omega) 8 (by omega) (by omega)) ?_))))
    by_cases c5 : Diff x.f1 8
    · rw [decide_eq_true c5]
      refine EvS.step (fun k => by rw [impl_lockCount.j0]) ?_
      exact EvS.neg (by simp) (count_l0 d x left h12 (by omega) hx ⟨⟨by omega, by omega⟩, by omega, c5⟩ (ih (by omega)) (by omega) x.f2 0 1 (At.zero _) (by omega) (by omega) rfl (fun q => q))
    · rw [decide_eq_false c5]
      exact jt (fun g => c5 g.1.1.2.2)
/-! ### the reference's count -/
theorem size_l0 (d : Nat) (x : S38) (hx : OkD (d + 1) x)
    (ih : ∀ y, OkD d y → EvS (fun k => spec_lockSize.f k y.f0 y.f1 y.f2) (fun r => (Cnt d y 12 ∧ r = cD d y) ∨ (¬ Cnt d y 12 ∧ r = -1))) (ys : List S38) :
    ∀ (i c : Int), At x.f2 i ys → 1 ≤ c → c ≤ 1 + 12 * i → c + sumC (cD d) ys = cD (d + 1) x → ((∀ y ∈ ys, VD d y) → ∀ y ∈ x.f2, VD d y) →
    EvS (fun k => spec_lockSize.l0 k c i x.f0 x.f1 x.f2) (fun r => (Cnt (d + 1) x 12 ∧ r = cD (d + 1) x) ∨ (¬ Cnt (d + 1) x 12 ∧ r = -1)) := by
  have hl1 := hx.1
  have hl2 := hx.2.1
  induction ys with
  | nil =>
    intro i c h c1 c2 hs hv
    simp only [sumC, Int.add_zero] at hs
    have no : ¬ Cnt (d + 1) x 12 → EvS (fun _ => some (-1)) (fun r => (Cnt (d + 1) x 12 ∧ r = cD (d + 1) x) ∨ (¬ Cnt (d + 1) x 12 ∧ r = -1)) := fun g => EvS.now (.inr ⟨g, rfl⟩)
    refine EvS.step (fun k => by rw [spec_lockSize.l0]) ?_
    rw [w64 (x := (x.f1.length : Int) + (x.f2.length : Int)) (by omega) (by omega)]
    refine EvS.neg (by have := h.ge; omega) (EvS.ite (fun c3 => no (fun g => by have := g.2; omega)) (fun c3 => EvS.bindv (validMembers_ok x.f1 (by omega) 8 (by omega) (by omega)) (EvS.ite (fun c4 => EvS.call (inRange_eq _ _ _) (EvS.ite (fun c5 => EvS.ite (fun c6 => no (fun g => by have := g.1.1.2.1; omega)) (fun c6 => EvS.now (.inl ⟨⟨⟨⟨?_, by omega, of_decide_eq_true c4⟩, hv (fun y hy => by simp at hy)⟩, by omega⟩, hs⟩))) (fun c5 => no (fun g => ndec c5 ?_)))) (fun c4 => no (fun g => ndec c4 g.1.1.2.2)))))
    · have := of_decide_eq_true c5; omega
    · have := g.1.1.1; omega
  | cons y ys ih2 =>
    intro i c h c1 c2 hs hv
    have hi := h.lt
    have hy := hx.2.2 y h.mem
    have hcy := cD_pos d y
    have hp := sumC_nonneg (cD_pos d) ys
    simp only [sumC] at hs
    refine EvS.step (fun k => by rw [spec_lockSize.l0]) ?_
    refine EvS.pos h.lt (EvS.pos h.nonneg ?_)
    rw [at_rdL h, w64 (x := i + 1) (by have := h.nonneg; omega) (by omega)]
    refine EvS.bind (ih y hy) (fun t ht => ?_)
    rcases ht with ⟨⟨g1, g2⟩, rfl⟩ | ⟨g1, rfl⟩
    · rw [w64 (x := c + cD d y) (by omega) (by omega)]
      refine EvS.neg (by omega) (ih2 _ _ h.next (by omega) (by omega) (by omega) (fun q => hv (fun z hz => ?_)))
      rcases List.mem_cons.1 hz with rfl | hz
      · exact g1
      · exact q z hz
    · refine EvS.pos (by omega) (EvS.now (.inr ⟨fun q => g1 ⟨q.1.2 y h.mem, ?_⟩, rfl⟩))
      have := q.2
      omega
theorem spec_lockSize_ok (d : Nat) : ∀ x : S38, OkD d x → EvS (fun k => spec_lockSize.f k x.f0 x.f1 x.f2) (fun r => (Cnt d x 12 ∧ r = cD d x) ∨ (¬ Cnt d x 12 ∧ r = -1)) := by
  induction d with
  | zero => intro x hx; exact absurd hx (by simp [OkD])
  | succ d ih =>
    intro x hx
    refine EvS.step (fun k => by rw [spec_lockSize.f]) ?_
    exact size_l0 d x hx ih x.f2 0 1 (At.zero _) (by omega) (by omega) rfl (fun q => q)
/-! ### who opens -/
theorem impl_opens_l1 (d : Nat) (s : Int) (x : S38) (hl : x.f2.length ≤ 8) (ih : ∀ y ∈ x.f2, EvS (fun k => impl_opensWith.f k y.f0 y.f1 y.f2 s) (· = opD d s y)) (ys : List S38) : ∀ (i c : Int), At x.f2 i ys → 0 ≤ c → c ≤ 100 + i →
    EvS (fun k => impl_opensWith.l1 k s c x.f2 x.f2.length i x.f0 x.f1 x.f2) (· = decide (c + (ys.countP (opD d s) : Int) ≥ x.f0)) := by
  induction ys with
  | nil =>
    intro i c h c0 c1
    refine EvS.step (fun k => by rw [impl_opensWith.l1]) ?_
    exact EvS.neg (by have := h.ge; omega) (EvS.now (by simp))
  | cons y ys ih2 =>
    intro i c h c0 c1
    have hi := h.lt
    have hi0 := h.nonneg
    refine EvS.step (fun k => by rw [impl_opensWith.l1]) ?_
    refine EvS.pos h.lt (EvS.pos h.nonneg (EvS.pos h.lt ?_))
    rw [at_rdL h, w64 (x := i + 1) (by omega) (by omega), w64 (x := c + 1) (by omega) (by omega)]
    refine EvS.bindv (ih y h.mem) (EvS.ite (fun q => EvS.mono (ih2 _ _ h.next (by omega) (by omega)) (fun r hr => ?_)) (fun q => EvS.mono (ih2 _ _ h.next (by omega) (by omega)) (fun r hr => ?_)))
    · rw [hr, List.countP_cons, if_pos q]; exact decide_eq_decide.2 (by push_cast; omega)
    · rw [hr, List.countP_cons, if_neg q]; rfl
theorem impl_opens_l0 (d : Nat) (s : Int) (s0 : 0 ≤ s) (s1 : s < 256) (x : S38) (hl : (x.f1.length : Int) + x.f2.length ≤ 8) (hm : ∀ m ∈ x.f1, 0 ≤ m ∧ m < 8) (ih : ∀ y ∈ x.f2, EvS (fun k => impl_opensWith.f k y.f0 y.f1 y.f2 s) (· = opD d s y)) (ys : List Int) : ∀ (i c : Int), At x.f1 i ys → 0 ≤ c → c ≤ i →
    EvS (fun k => impl_opensWith.l0 k s c x.f1 x.f1.length i x.f0 x.f1 x.f2) (· = decide (c + (ys.countP (fun m => hasB s m.toNat) : Int) + (x.f2.countP (opD d s) : Int) ≥ x.f0)) := by
  induction ys with
  | nil =>
    intro i c h c0 c1
    have := h.ge
    refine EvS.step (fun k => by rw [impl_opensWith.l0]) ?_
    refine EvS.neg (by omega) (EvS.mono (impl_opens_l1 d s x (by omega) ih x.f2 0 c (At.zero _) c0 (by omega)) (fun r hr => ?_))
    rw [hr]; simp
  | cons y ys ih2 =>
    intro i c h c0 c1
    have hi := h.lt
    have hi0 := h.nonneg
    have hy := hm y h.mem
    obtain ⟨n, rfl⟩ := Int.eq_ofNat_of_zero_le s0
    obtain ⟨m, rfl⟩ := Int.eq_ofNat_of_zero_le hy.1
    refine EvS.step (fun k => by rw [impl_opensWith.l0]) ?_
    refine EvS.pos h.lt (EvS.pos h.nonneg (EvS.pos h.lt ?_))
    rw [At.rd h, and_bit n (by omega) m (by omega), w64 (x := i + 1) (by omega) (by omega)]
    refine EvS.pos (by omega) ?_
    by_cases q : hasB (n : Int) m = true
    · rw [if_pos q, w64 (x := c + 1) (by omega) (by omega)]
      refine EvS.mono (ih2 _ _ h.next (by omega) (by omega)) (fun r hr => ?_)
      rw [hr, List.countP_cons, if_pos (by simpa using q)]; exact decide_eq_decide.2 (by push_cast; omega)
    · rw [if_neg q, w64 (x := c + 0) (by omega) (by omega)]
      refine EvS.mono (ih2 _ _ h.next (by omega) (by omega)) (fun r hr => ?_)
      rw [hr, List.countP_cons, if_neg (by simpa using q)]; exact decide_eq_decide.2 (by omega)
theorem impl_opensWith_ok (d : Nat) (s : Int) (s0 : 0 ≤ s) (s1 : s < 256) : ∀ x : S38, VD d x → EvS (fun k => impl_opensWith.f k x.f0 x.f1 x.f2 s) (· = opD d s x) := by
  induction d with
  | zero => intro x hx; exact absurd hx (by simp [VD])
  | succ d ih =>
    intro x hx
    refine EvS.step (fun k => by rw [impl_opensWith.f]) ?_
    refine EvS.mono (impl_opens_l0 d s s0 s1 x hx.1.2.1 hx.1.2.2.2 (fun y hy => ih y (hx.2 y hy)) x.f1 0 0 (At.zero _) (by omega) (by omega)) (fun r hr => ?_)
    rw [hr, opD]; exact decide_eq_decide.2 (by omega)
theorem spec_opens_l1 (d : Nat) (s : Int) (x : S38) (hl : x.f2.length ≤ 8) (ih : ∀ y ∈ x.f2, EvS (fun k => spec_opens.f k y.f0 y.f1 y.f2 s) (· = opD d s y)) (ys : List S38) : ∀ (i c : Int), At x.f2 i ys → 0 ≤ c → c ≤ 100 + i →
    EvS (fun k => spec_opens.l1 k s c i x.f0 x.f1 x.f2) (· = decide (c + (ys.countP (opD d s) : Int) ≥ x.f0)) := by
  induction ys with
  | nil =>
    intro i c h c0 c1
    refine EvS.step (fun k => by rw [spec_opens.l1]) ?_
    exact EvS.neg (by have := h.ge; omega) (EvS.now (by simp))
  | cons y ys ih2 =>
    intro i c h c0 c1
    have hi := h.lt
    have hi0 := h.nonneg
    refine EvS.step (fun k => by rw [spec_opens.l1]) ?_
    refine EvS.pos h.lt (EvS.pos h.nonneg ?_)
    rw [at_rdL h, w64 (x := i + 1) (by omega) (by omega), w64 (x := c + 1) (by omega) (by omega)]
    refine EvS.bindv (ih y h.mem) (EvS.ite (fun q => EvS.mono (ih2 _ _ h.next (by omega) (by omega)) (fun r hr => ?_)) (fun q => EvS.mono (ih2 _ _ h.next (by omega) (by omega)) (fun r hr => ?_)))
    · rw [hr, List.countP_cons, if_pos q]; exact decide_eq_decide.2 (by push_cast; omega)
    · rw [hr, List.countP_cons, if_neg q]; rfl
theorem spec_opens_l0 (d : Nat) (s : Int) (s0 : 0 ≤ s) (s1 : s < 256) (x : S38) (hl : (x.f1.length : Int) + x.f2.length ≤ 8) (hm : ∀ m ∈ x.f1, 0 ≤ m ∧ m < 8) (ih : ∀ y ∈ x.f2, EvS (fun k => spec_opens.f k y.f0 y.f1 y.f2 s) (· = opD d s y)) (ys : List Int) : ∀ (i c : Int), At x.f1 i ys → 0 ≤ c → c ≤ i →
    EvS (fun k => spec_opens.l0 k s c i x.f0 x.f1 x.f2) (· = decide (c + (ys.countP (fun m => hasB s m.toNat) : Int) + (x.f2.countP (opD d s) : Int) ≥ x.f0)) := by
  induction ys with
  | nil =>
    intro i c h c0 c1
    have := h.ge
    refine EvS.step (fun k => by rw [spec_opens.l0]) ?_
    refine EvS.neg (by omega) (EvS.mono (spec_opens_l1 d s x (by omega) ih x.f2 0 c (At.zero _) c0 (by omega)) (fun r hr => ?_))
    rw [hr]; simp
  | cons y ys ih2 =>
    intro i c h c0 c1
    have hi := h.lt
    have hi0 := h.nonneg
    have hy := hm y h.mem
    refine EvS.step (fun k => by rw [spec_opens.l0]) ?_
    refine EvS.pos h.lt (EvS.pos h.nonneg ?_)
    rw [At.rd h, w64 (x := i + 1) (by omega) (by omega), w64 (x := c + 1) (by omega) (by omega)]
    refine EvS.bindv (spec_has_ok s y s0 (by omega) hy.1 (by omega)) (EvS.ite (fun q => EvS.mono (ih2 _ _ h.next (by omega) (by omega)) (fun r hr => ?_)) (fun q => EvS.mono (ih2 _ _ h.next (by omega) (by omega)) (fun r hr => ?_)))
    · rw [hr, List.countP_cons, if_pos q]; exact decide_eq_decide.2 (by push_cast; omega)
    · rw [hr, List.countP_cons, if_neg q]; rfl
theorem spec_opens_ok (d : Nat) (s : Int) (s0 : 0 ≤ s) (s1 : s < 256) : ∀ x : S38, VD d x → EvS (fun k => spec_opens.f k x.f0 x.f1 x.f2 s) (· = opD d s x) := by
  induction d with
  | zero => intro x hx; exact absurd hx (by simp [VD])
  | succ d ih =>
    intro x hx
    refine EvS.step (fun k => by rw [spec_opens.f]) ?_
    refine EvS.mono (spec_opens_l0 d s s0 s1 x hx.1.2.1 hx.1.2.2.2 (fun y hy => ih y (hx.2 y hy)) x.f1 0 0 (At.zero _) (by omega) (by omega)) (fun r hr => ?_)
    rw [hr, opD]; exact decide_eq_decide.2 (by omega)
/-- Who opens, opens with more. -/
theorem opD_mono (d : Nat) (s t : Int) (hst : ∀ m : Int, 0 ≤ m → hasB s m.toNat = true → hasB t m.toNat = true) : ∀ x : S38, VD d x → opD d s x = true → opD d t x = true := by
  induction d with
  | zero => intro x hx; exact absurd hx (by simp [VD])
  | succ d ih =>
    intro x hx h
    have h := of_decide_eq_true h
    have h1 : x.f1.countP (fun m => hasB s m.toNat) ≤ x.f1.countP (fun m => hasB t m.toNat) := List.countP_mono_left (fun m hm q => hst m (hx.1.2.2.2 m hm).1 q)
    have h2 : x.f2.countP (opD d s) ≤ x.f2.countP (opD d t) := List.countP_mono_left (fun y hy q => ih y (hx.2 y hy) q)
    exact decide_eq_true (by omega)
theorem opD_none (d : Nat) : ∀ x : S38, VD d x → opD d 0 x = false := by
  induction d with
  | zero => intro x hx; exact absurd hx (by simp [VD])
  | succ d ih =>
    intro x hx
    have h1 : x.f1.countP (fun m => hasB 0 m.toNat) = 0 := List.countP_eq_zero.2 (fun m _ => by rw [hasB_zero]; simp)
    have h2 : x.f2.countP (opD d 0) = 0 := List.countP_eq_zero.2 (fun y hy => by rw [ih y (hx.2 y hy)]; simp)
    refine decide_eq_false ?_
    rw [h1, h2]
    have := hx.1.1.1
    omega
/-! ### drawn locks -/
def BB : Nat → Int
  | 0 => 37
  | d + 1 => 11 + 2 * BB d
theorem some_j2 (b : List Int) (hb : BytesOk b) (d : Nat) (p : Int) (h0 : 0 ≤ p) (h1 : p ≤ 9000) (n : Int) (ms : List Int) (ls : List S38) (hm : ms.length ≤ 5) (hl : ls.length ≤ 2) (hv : ∀ y ∈ ls, OkD d y) :
    EvS (fun k => spec_someLock.j2 k b p n ms ls) (fun r => OkD (d + 1) ⟨r.1, r.2.1, r.2.2.1⟩ ∧ r.2.1.length ≤ 5 ∧ p ≤ r.2.2.2 ∧ r.2.2.2 ≤ p + 2) := by
  refine EvS.step (fun k => by rw [spec_someLock.j2]) ?_
  refine EvS.ite (fun c => ?_) (fun c => ?_)
  · refine EvS.bind (pick_ok _ _ _ hb (by omega) (by omega)) ?_
    rintro ⟨v1, _⟩ ⟨v1_0, v1_1, v1_2, rfl⟩
    dsimp only at v1_0 v1_1 v1_2 ⊢
    refine EvS.onsome ?_
    refine EvS.bind (pick_ok _ _ _ hb (by omega) (by omega)) ?_
    rintro ⟨v2, _⟩ ⟨v2_0, v2_1, v2_2, rfl⟩
    dsimp only at v2_0 v2_1 v2_2 ⊢
    exact EvS.now ⟨⟨by simp, hl, hv⟩, by simp, by dsimp only; omega, by dsimp only; omega⟩
  · refine EvS.bind (pick_ok _ _ _ hb (by omega) (by omega)) ?_
    rintro ⟨v1, _⟩ ⟨v1_0, v1_1, v1_2, rfl⟩
    dsimp only at v1_0 v1_1 v1_2 ⊢
    exact EvS.now ⟨⟨by dsimp only; omega, hl, hv⟩, hm, by dsimp only; omega, by dsimp only; omega⟩
theorem some_l1 (b : List Int) (hb : BytesOk b) (d : Nat) (hd : d ≤ 10) (T : Int) (hT : 13 ≤ T ∧ T ≤ 2000) (M : Int) (hM : M ≤ 9000) (ih : 0 < d → ∀ p, 0 ≤ p → p ≤ M → EvS (fun k => spec_someLock.f k b p ((d : Int) - 1)) (fun r => OkD d ⟨r.1, r.2.1, r.2.2.1⟩ ∧ r.2.1.length ≤ 5 ∧ p ≤ r.2.2.2 ∧ r.2.2.2 ≤ p + T)) (c : Nat) :
    ∀ (x7 p n : Int) (ms : List Int) (ls : List S38), x7 ≤ c → 0 ≤ p → p + c * T ≤ M → ms.length ≤ 5 → ls.length + c ≤ 2 → (∀ y ∈ ls, OkD d y) →
    EvS (fun k => spec_someLock.l1 k d x7 b p n ms ls) (fun r => OkD (d + 1) ⟨r.1, r.2.1, r.2.2.1⟩ ∧ r.2.1.length ≤ 5 ∧ p ≤ r.2.2.2 ∧ r.2.2.2 ≤ p + c * T + 2) := by
  induction c with
  | zero =>
    intro x7 p n ms ls h7 h0 h1 hm hl hv
    refine EvS.step (fun k => by rw [spec_someLock.l1]) ?_
    refine EvS.neg (by omega) (EvS.mono (some_j2 b hb d p h0 (by omega) n ms ls hm (by omega) hv) (fun r hr => ⟨hr.1, hr.2.1, hr.2.2.1, by have := hr.2.2.2; omega⟩))
  | succ c ih2 =>
    intro x7 p n ms ls h7 h0 h1 hm hl hv
    have hc : ((c + 1 : Nat) : Int) * T = c * T + T := by push_cast; rw [Int.add_mul, Int.one_mul]
    have hc0 : 0 ≤ (c : Int) * T := Int.mul_nonneg (by omega) (by omega)
    rw [hc] at h1 ⊢
    have stop : EvS (fun k => spec_someLock.j2 k b p n ms ls) (fun r => OkD (d + 1) ⟨r.1, r.2.1, r.2.2.1⟩ ∧ r.2.1.length ≤ 5 ∧ p ≤ r.2.2.2 ∧ r.2.2.2 ≤ p + (c * T + T) + 2) := EvS.mono (some_j2 b hb d p h0 (by omega) n ms ls hm (by omega) hv) (fun r hr => ⟨hr.1, hr.2.1, hr.2.2.1, by have := hr.2.2.2; omega⟩)
    refine EvS.step (fun k => by rw [spec_someLock.l1]) ?_
    refine EvS.ite (fun c1 => EvS.ite (fun c2 => ?_) (fun _ => stop)) (fun _ => stop)
    rw [w64 (x := (d : Int) - 1) (by omega) (by omega), w64 (x := x7 - 1) (by omega) (by omega)]
    refine EvS.bind (ih (by omega) p h0 (by omega)) ?_
    rintro ⟨rn, rm, rl, q⟩ ⟨g1, _, g2, g3⟩
    dsimp only at g1 g2 g3 ⊢
    refine EvS.pos (by omega) (EvS.mono (ih2 (x7 - 1) q n ms _ (by omega) (by omega) (by omega) hm (by simp; omega) (fun y hy => ?_)) (fun r hr => ⟨hr.1, hr.2.1, by have := hr.2.2.1; omega, by have := hr.2.2.2; omega⟩))
    rcases List.mem_append.1 hy with hy | hy
    · exact hv y hy
    · rw [List.mem_singleton] at hy; subst hy; exact g1
theorem some_l0 (b : List Int) (hb : BytesOk b) (d : Nat) (hd : d ≤ 10) (T : Int) (hT : 13 ≤ T ∧ T ≤ 2000) (M : Int) (hM : M ≤ 9000) (ih : 0 < d → ∀ p, 0 ≤ p → p ≤ M → EvS (fun k => spec_someLock.f k b p ((d : Int) - 1)) (fun r => OkD d ⟨r.1, r.2.1, r.2.2.1⟩ ∧ r.2.1.length ≤ 5 ∧ p ≤ r.2.2.2 ∧ r.2.2.2 ≤ p + T)) (e : Nat) :
    ∀ (i p n : Int) (ms : List Int), i + e = 8 → 0 ≤ p → p + e + 1 + 2 * T ≤ M → ms.length ≤ 5 →
    EvS (fun k => spec_someLock.l0 k d i b p n ms) (fun r => OkD (d + 1) ⟨r.1, r.2.1, r.2.2.1⟩ ∧ r.2.1.length ≤ 5 ∧ p ≤ r.2.2.2 ∧ r.2.2.2 ≤ p + e + 3 + 2 * T) := by
  induction e with
  | zero =>
    intro i p n ms h8 h0 h1 hm
    refine EvS.step (fun k => by rw [spec_someLock.l0]) ?_
    refine EvS.neg (by omega) ?_
    refine EvS.bind (one_ok _ _ _ hb (by omega) (by omega) (by simp)) ?_
    rintro ⟨v1, _⟩ ⟨v1_m, rfl⟩
    dsimp only at v1_m ⊢
    have hv : 0 ≤ v1 ∧ v1 ≤ 2 := by simp at v1_m; omega
    exact EvS.mono (some_l1 b hb d hd T hT M hM ih 2 v1 _ n ms [] (by omega) (by omega) (by push_cast; omega) hm (by simp) (fun y hy => by simp at hy)) (fun r hr => ⟨hr.1, hr.2.1, by have := hr.2.2.1; omega, by have := hr.2.2.2; push_cast at this ⊢; omega⟩)
  | succ e ih2 =>
    intro i p n ms h8 h0 h1 hm
    refine EvS.step (fun k => by rw [spec_someLock.l0]) ?_
    refine EvS.pos (by omega) ?_
    refine EvS.bind (pick_ok _ _ _ hb (by omega) (by omega)) ?_
    rintro ⟨v1, _⟩ ⟨v1_0, v1_1, v1_2, rfl⟩
    dsimp only at v1_0 v1_1 v1_2 ⊢
    rw [w64 (x := i + 1) (by omega) (by omega)]
    have nx : ∀ ms' : List Int, ms'.length ≤ 5 → EvS (fun k => spec_someLock.l0 k d (i + 1) b (p + 1) n ms') (fun r => OkD (d + 1) ⟨r.1, r.2.1, r.2.2.1⟩ ∧ r.2.1.length ≤ 5 ∧ p ≤ r.2.2.2 ∧ r.2.2.2 ≤ p + ((e + 1 : Nat) : Int) + 3 + 2 * T) := fun ms' h => EvS.mono (ih2 (i + 1) (p + 1) n ms' (by omega) (by omega) (by omega) h) (fun r hr => ⟨hr.1, hr.2.1, by have := hr.2.2.1; omega, by have := hr.2.2.2; omega⟩)
    exact EvS.ite (fun _ => EvS.ite (fun c => EvS.pos (by omega) (nx _ (by simp; omega))) (fun _ => nx _ hm)) (fun _ => nx _ hm)
theorem someLock_ok (b : List Int) (hb : BytesOk b) (d : Nat) (hd : d ≤ 3) : ∀ p : Int, 0 ≤ p → p ≤ 8000 - 1000 * d → EvS (fun k => spec_someLock.f k b p d) (fun r => OkD (d + 1) ⟨r.1, r.2.1, r.2.2.1⟩ ∧ r.2.1.length ≤ 5 ∧ p ≤ r.2.2.2 ∧ r.2.2.2 ≤ p + BB d) := by
  have hB : ∀ d : Fin 4, 13 ≤ BB d.val ∧ BB d.val ≤ 400 := by decide
  induction d with
  | zero =>
    intro p h0 h1
    refine EvS.step (fun k => by rw [spec_someLock.f]) ?_
    refine EvS.mono (some_l0 b hb 0 (by omega) 13 (by omega) 9000 (by omega) (fun q => absurd q (by omega)) 8 0 p 0 [] (by omega) h0 (by push_cast; omega) (by simp)) (fun r hr => ⟨hr.1, hr.2.1, hr.2.2.1, ?_⟩)
    have := hr.2.2.2
    simp only [BB]
    push_cast at this
    omega
  | succ d ih =>
    intro p h0 h1
    have hBd := hB ⟨d, by omega⟩
    dsimp only at hBd
    have ih := ih (by omega)
    refine EvS.step (fun k => by rw [spec_someLock.f]) ?_
    refine EvS.mono (some_l0 b hb (d + 1) (by omega) (BB d) (by omega) (8000 - 1000 * d) (by omega) (fun _ q q0 q1 => ?_) 8 0 p 0 [] (by omega) h0 (by push_cast at h1 ⊢; omega) (by simp)) (fun r hr => ⟨hr.1, hr.2.1, hr.2.2.1, ?_⟩)
    · rw [show ((d + 1 : Nat) : Int) - 1 = d by push_cast; omega]
      exact ih q q0 q1
    · have := hr.2.2.2
      simp only [BB]
      push_cast at this
      omega
theorem anyLock_ok (b : List Int) (hb : BytesOk b) : EvS (fun k => spec_anyLock.f k b 0) (fun r => (∃ d, d ≤ 10 ∧ OkD d ⟨r.1, r.2.1, r.2.2.1⟩) ∧ 0 ≤ r.2.2.2 ∧ r.2.2.2 ≤ 500) := by
  simp only [spec_anyLock.f]
  refine EvS.bind (one_ok _ _ _ hb (by omega) (by omega) (by simp)) ?_
  rintro ⟨v1, _⟩ ⟨v1_m, rfl⟩
  dsimp only at v1_m ⊢
  have hv : 0 ≤ v1 ∧ v1 ≤ 2 := by simp at v1_m; omega
  obtain ⟨d, rfl⟩ := Int.eq_ofNat_of_zero_le hv.1
  have hB : ∀ d : Fin 4, 13 ≤ BB d.val ∧ BB d.val ≤ 400 := by decide
  have hBd := hB ⟨d, by omega⟩
  dsimp only at hBd
  refine EvS.bind (someLock_ok b hb d (by omega) _ (by omega) (by omega)) ?_
  rintro ⟨n, ms, ls, q⟩ ⟨g1, g2, g3, g4⟩
  dsimp only at g1 g2 g3 g4 ⊢
  refine EvS.bind (pick_ok _ _ _ hb (by omega) (by omega)) ?_
  rintro ⟨v2, _⟩ ⟨v2_0, v2_1, v2_2, rfl⟩
  dsimp only at v2_0 v2_1 v2_2 ⊢
  refine EvS.ite (fun _ => ?_) (fun _ => EvS.ite (fun _ => ?_) (fun _ => EvS.now ⟨⟨d + 1, by omega, g1⟩, by dsimp only; omega, by dsimp only; omega⟩))
  · refine EvS.bind (one_ok _ _ _ hb (by omega) (by omega) (by simp)) ?_
    rintro ⟨v3, _⟩ ⟨v3_m, rfl⟩
    dsimp only at v3_m ⊢
    exact EvS.now ⟨⟨d + 1, by omega, ⟨g1.1, g1.2.1, g1.2.2⟩⟩, by dsimp only; omega, by dsimp only; omega⟩
  · refine EvS.bind (one_ok _ _ _ hb (by omega) (by omega) (by simp)) ?_
    rintro ⟨v3, _⟩ ⟨v3_m, rfl⟩
    dsimp only at v3_m ⊢
    exact EvS.pos (by omega) (EvS.now ⟨⟨d + 1, by omega, ⟨by simp; omega, g1.2.1, g1.2.2⟩⟩, by dsimp only; omega, by dsimp only; omega⟩)
theorem draw_ok (l : List Int) (hl : ∀ x ∈ l, 0 ≤ x ∧ x ≤ 255) : EvS (fun k => spec_DrawOpens.f k l) (fun r => (∃ d, d ≤ 10 ∧ OkD d ⟨r.1, r.2.1, r.2.2.1⟩) ∧ r.2.2.2.length ≤ 9) := by
  simp only [spec_DrawOpens.f]
  obtain ⟨b, be, hb⟩ := newReader_ok l hl
  refine EvS.call be ?_
  dsimp only
  refine EvS.bind (anyLock_ok b hb) ?_
  rintro ⟨n, ms, ls, q⟩ ⟨g1, g2, g3⟩
  dsimp only at g1 g2 g3 ⊢
  refine EvS.bind (someMembers_ok b hb 8 q (by omega) (by omega) (by omega) (by omega)) ?_
  rintro ⟨os, q2⟩ h1
  dsimp only at h1 ⊢
  exact EvS.now ⟨g1, by dsimp only; omega⟩
/-! ### the law -/
def OP (d : Nat) (x : S38) (ms : List Int) : Prop := Cnt d x 12 ∧ Diff ms 8 ∧ opD d (setS ms) x = true
theorem set_256 {ms : List Int} (hl : ms.length ≤ 1000) (hd : Diff ms 8) : setS ms < 256 := by
  obtain ⟨k, r, hr⟩ := impl_setOf_ok ms hl hd
  omega
theorem impl_Opens_ok (d : Nat) (hd : d ≤ 1000) (x : S38) (hx : OkD d x) (ms : List Int) (hl : ms.length ≤ 1000) : EvS (fun k => impl_Opens.f k x.f0 x.f1 x.f2 ms) (fun r => r = true ↔ OP d x ms) := by
  simp only [impl_Opens.f, impl_ValidLock.f]
  have hv : EvS (fun k => (impl_lockCount.f k x.f0 x.f1 x.f2 12).bind fun t => some (decide (t ≤ 12))) (fun r => r = true ↔ Cnt d x 12) := by
    refine EvS.bind (impl_lockCount_ok d hd x 12 (by omega) hx) (fun t ht => EvS.now ?_)
    rcases ht with ⟨g, e⟩ | ⟨g, e, _⟩
    · exact ⟨fun _ => g, fun _ => decide_eq_true (by rw [e]; exact g.2)⟩
    · exact ⟨fun q => absurd (of_decide_eq_true q) (by omega), fun q => absurd q g⟩
  refine EvS.bind hv (fun t ht => EvS.ite (fun c1 => EvS.bindv (differentBelow_ok ms (by omega) 8 (by omega) (by omega)) (EvS.ite (fun c2 => ?_) (fun c2 => EvS.now ⟨fun q => by simp at q, fun q => absurd q.2.1 (ndec c2)⟩))) (fun c1 => EvS.now ⟨fun q => by simp at q, fun q => absurd (ht.2 q.1) c1⟩))
  have c1 := ht.1 c1
  have c2 := of_decide_eq_true c2
  refine EvS.bind (impl_setOf_ok ms hl c2) (fun s hs => ?_)
  obtain ⟨rfl, hs⟩ := hs
  refine EvS.bindv (impl_opensWith_ok d _ (setS_nonneg ms) hs x c1.1) (EvS.now ⟨fun q => ⟨c1, c2, q⟩, fun q => q.2.2⟩)
theorem spec_Opens_ok (d : Nat) (x : S38) (hx : OkD d x) (ms : List Int) (hl : ms.length ≤ 1000) : EvS (fun k => spec_Opens.f k x.f0 x.f1 x.f2 ms) (fun r => r = true ↔ OP d x ms) := by
  simp only [spec_Opens.f]
  refine EvS.bind (spec_lockSize_ok d x hx) (fun t ht => EvS.ite (fun c1 => EvS.bindv (validMembers_ok ms (by omega) 8 (by omega) (by omega)) (EvS.ite (fun c2 => ?_) (fun c2 => EvS.now ⟨fun q => by simp at q, fun q => absurd q.2.1 (ndec c2)⟩))) (fun c1 => EvS.now ⟨fun q => by simp at q, fun q => ?_⟩))
  · have c2 := of_decide_eq_true c2
    rcases ht with ⟨g, _⟩ | ⟨_, e⟩
    · refine EvS.bindv (spec_setOf_ok ms hl (fun m hm => by have := c2.2 m hm; omega)) (EvS.bindv (spec_opens_ok d _ (setS_nonneg ms) (set_256 hl c2) x g.1) (EvS.now ⟨fun q => ⟨g, c2, q⟩, fun q => q.2.2⟩))
    · exfalso; omega
  · rcases ht with ⟨g, e⟩ | ⟨g, _⟩
    · have := cD_pos d x; exfalso; omega
    · exact absurd q.1 g
theorem law_l0 (d : Nat) (hd : d ≤ 1000) (x : S38) (hx : OkD d x) (ms : List Int) (hm : ms.length ≤ 900) (hw : OP d x ms) (ys : List Int) : ∀ i : Int, At (othL ms 8 0) i ys →
    EvS (fun k => laws_FnOpens.l0 k ms (othL ms 8 0) i x.f0 x.f1 x.f2) (· = true) := by
  have hol := othL_len ms 8 0
  induction ys with
  | nil =>
    intro i h
    refine EvS.step (fun k => by rw [laws_FnOpens.l0]) ?_
    refine EvS.neg (by have := h.ge; omega) (EvS.bind (impl_Opens_ok d hd x hx [] (by simp)) (fun r hr => EvS.now ?_))
    cases r with
    | false => rfl
    | true =>
      have := (hr.1 rfl).2.2
      rw [show setS [] = 0 from rfl, opD_none d x hw.1.1] at this
      simp at this
  | cons y ys ih =>
    intro i h
    have h1 := h.lt
    have h2 := h.nonneg
    have hy := (othL_mem ms 8 0 y).1 h.mem
    have hdf : Diff (ms ++ [y]) 8 := by
      refine ⟨?_, fun z hz => ?_⟩
      · rw [List.nodup_append]
        refine ⟨hw.2.1.1, by simp, fun a ha b hb e => ?_⟩
        rw [List.mem_singleton] at hb
        subst hb; subst e
        exact hy.2.2 ha
      · rcases List.mem_append.1 hz with hz | hz
        · exact hw.2.1.2 z hz
        · rw [List.mem_singleton] at hz; subst hz; omega
    have hop : OP d x (ms ++ [y]) := by
      refine ⟨hw.1, hdf, opD_mono d (setS ms) _ (fun m m0 hb => ?_) x hw.1.1 hw.2.2⟩
      rw [hasB_setS ms hw.2.1.1 (fun z hz => (hw.2.1.2 z hz).1) m m0] at hb
      rw [hasB_setS _ hdf.1 (fun z hz => (hdf.2 z hz).1) m m0]
      exact decide_eq_true (List.mem_append.2 (.inl (of_decide_eq_true hb)))
    refine EvS.step (fun k => by rw [laws_FnOpens.l0]) ?_
    rw [At.rd h, w64 (x := i + 1) (by omega) (by omega)]
    refine EvS.pos h.lt (EvS.call rfl (EvS.pos (by simp; omega) (EvS.call rfl (EvS.pos h.nonneg (EvS.call rfl (EvS.pos (by simp; omega) ?_))))))
    rw [List.nil_append]
    exact EvS.bind (impl_Opens_ok d hd x hx (ms ++ [y]) (by simp; omega)) (fun r hr => EvS.pos (hr.2 hop) (ih _ h.next))
theorem FnOpens : laws_FnOpens.Pure := by
  intro l0 _ _ hw
  refine EvS.holds ?_
  simp only [laws_FnOpens.f]
  refine EvS.ite (fun _ => EvS.now rfl) (fun _ => ?_)
  refine EvS.bind (draw_ok l0 (fun x hx => u8_range (hw x hx))) ?_
  rintro ⟨n, ms, ls, os⟩ ⟨⟨d, hd, hx⟩, ho⟩
  dsimp only at hx ho ⊢
  have hi := impl_Opens_ok d (by omega) ⟨n, ms, ls⟩ hx os (by omega)
  have hs := spec_Opens_ok d ⟨n, ms, ls⟩ hx os (by omega)
  have hl := law_l0 d (by omega) ⟨n, ms, ls⟩ hx os (by omega)
  dsimp only at hi hs hl
  refine EvS.bind hi (fun r1 hr1 => EvS.bind hs (fun r2 hr2 => ?_))
  have e : r1 = r2 := by rw [Bool.eq_iff_iff, hr1, hr2]
  subst e
  refine EvS.neg (by simp) ?_
  cases r1 with
  | true =>
    refine EvS.step (fun k => by rw [laws_FnOpens.j0]) ?_
    refine EvS.neg (by simp) (EvS.bindv (others_ok os (by omega) 8 (by omega)) (hl (hr1.1 rfl) _ 0 (At.zero _)))
  | false =>
    refine EvS.step (fun k => by rw [laws_FnOpens.j0]) ?_
    refine EvS.pos rfl (EvS.bind hs (fun r3 hr3 => EvS.now ?_))
    have e3 : r3 = false := by
      cases r3 with
      | false => rfl
      | true => exact absurd (hr1.2 (hr3.1 rfl)) (by simp)
    rw [e3]; rfl
end Go.Proofs.Ytnilffafnghngaa.Pure
