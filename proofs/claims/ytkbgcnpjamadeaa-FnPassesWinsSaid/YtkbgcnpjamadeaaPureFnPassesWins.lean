/- Without quorum and not simple, a motion passes exactly if those with BaYes win, and a quorum is no more than the votes of those who are there; and Passes is what the reference tells: for every code. Conditions: none. -/
import Derived.Test.YtkbgcnpjamadeaaPFnPassesWinsx0
import Derived.Test.YtkbgcnpjamadeaaPFnPassesWinsx1
import Derived.Test.YtkbgcnpjamadeaaPFnPassesWinsx2
import Derived.Test.YtkbgcnpjamadeaaPFnPassesWinsx3
import Derived.Test.YtkbgcnpjamadeaaPFnPassesWinsx4
import Derived.Test.YtkbgcnpjamadeaaPFnPassesWinsx5
import Derived.Test.YtkbgcnpjamadeaaPFnPassesWinsx6
import Derived.Test.YtkbgcnpjamadeaaPFnPassesWinsx7
import Derived.Test.YtkbgcnpjamadeaaPFnPassesWinsx8
import Derived.Test.YtkbgcnpjamadeaaBase
set_option linter.unusedVariables false
set_option linter.unusedSimpArgs false
namespace Go.Proofs.Ytkbgcnpjamadeaa.Pure
open Go.RowKit Go.Proofs.Ytkbgcnpjamadeaa.PFnPassesWins Go.Proofs.YtkbgcnpjamadeaaW.PrintWords Go.Proofs.YtkbgcnpjamadeaaW.PrintLast Go.Proofs.YtkbgcnpjamadeaaW.PrintMore Go.Proofs.Ytkbgcnpjamadeaa.Base
theorem u8_range {x : Int} (h : (Lit.int .u8 x).wf = true) : 0 ≤ x ∧ x ≤ 255 := by
  simp [Lit.wf, IntKind.min, IntKind.max, IntKind.bits, IntKind.signed] at h
  omega
/-! ## The reader that draws. -/
structure BytesOk (b : List Int) : Prop where
  len : b.length ≤ 2000
  mem : ∀ x ∈ b, 0 ≤ x ∧ x ≤ 255

theorem newReader_ok (l : List Int) (h : ∀ x ∈ l, 0 ≤ x ∧ x ≤ 255) : ∃ b, spec_newReader.f l = some (b, 0) ∧ BytesOk b := by
  unfold spec_newReader.f
  by_cases c : (l.length : Int) > 2000
  · rw [if_pos c, if_pos (by omega)]
    exact ⟨_, rfl, by rw [List.length_take]; omega, fun x hx => h x (List.mem_of_mem_take hx)⟩
  · rw [if_neg c]
    exact ⟨_, rfl, by omega, h⟩

theorem pick_ok (b : List Int) (p n : Int) (hb : BytesOk b) (h0 : 0 ≤ p) (h1 : p ≤ 100000) :
    EvS (fun k => spec_reader_pick.f k b p n) (fun r => 0 ≤ r.1 ∧ (1 ≤ n → r.1 < n) ∧ (n < 1 → r.1 = 0) ∧ r.2 = p + 1) := by
  have hp : wrap64 (p + 1) = p + 1 := w64 (by omega) (by omega)
  have hq : wrap64 (p + 1 - 1) = p := by rw [show p + 1 - 1 = p by omega]; exact w64 (by omega) (by omega)
  have hbl := hb.len
  simp only [spec_reader_pick.f]
  rw [hp]
  by_cases hn : n < 1
  · refine EvS.pos hn ?_
    refine EvS.step (fun k => by rw [spec_reader_pick.j0]) ?_
    refine EvS.pos rfl ?_
    exact EvS.now ⟨by simp, fun h => by omega, fun _ => rfl, rfl⟩
  · refine EvS.neg hn ?_
    refine EvS.step (fun k => by rw [spec_reader_pick.j0]) ?_
    simp only [hq]
    by_cases hl : b.length = 0
    · refine EvS.pos (by simp [hl]) ?_
      exact EvS.now ⟨by simp, fun h => by simp; omega, fun _ => rfl, rfl⟩
    · refine EvS.neg (by simp; intro h; exact hl (by simp [h])) ?_
      by_cases hpl : p < b.length
      · refine EvS.pos hpl (EvS.pos h0 (EvS.neg (by omega) ?_))
        have hr := rd_range hb.mem p h0 hpl
        rw [w64 (by omega) (by omega)]
        have ht := tmod_range (rd b p) n (by omega) (by omega)
        exact EvS.now ⟨ht.1, fun _ => ht.2, fun h => by omega, rfl⟩
      · refine EvS.neg hpl (EvS.neg (by omega) ?_)
        have e1 : wrap64 (wrap64 (p * 7) + 3) = p * 7 + 3 := by
          rw [w64 (x := p * 7) (by omega) (by omega)]; exact w64 (by omega) (by omega)
        simp only [e1]
        have i1 := tmod_range p b.length h0 (by omega)
        have i2 := tmod_range (p * 7 + 3) b.length (by omega) (by omega)
        refine EvS.pos i1.1 (EvS.pos i1.2 (EvS.pos i2.1 (EvS.pos i2.2 (EvS.neg (by omega) ?_))))
        have r1 := rd_range hb.mem _ i1.1 i1.2
        have r2 := rd_range hb.mem _ i2.1 i2.2
        generalize rd b (Int.tmod p b.length) = v1 at r1 ⊢
        generalize rd b (Int.tmod (p * 7 + 3) b.length) = v2 at r2 ⊢
        have d0 : 0 ≤ Int.tdiv p b.length ∧ Int.tdiv p b.length ≤ p := by
          rw [tdiv_pos _ _ h0]
          exact ⟨Int.ediv_nonneg h0 (by omega), Int.ediv_le_self _ h0⟩
        generalize Int.tdiv p b.length = dv at d0 ⊢
        simp (disch := omega) only [w64]
        have hx0 : 0 ≤ v1 * 131 + v2 * 1117 + p * 29 + dv * 53 := by omega
        have hx1 : v1 * 131 + v2 * 1117 + p * 29 + dv * 53 < 1000000000 := by omega
        generalize v1 * 131 + v2 * 1117 + p * 29 + dv * 53 = X at hx0 hx1 ⊢
        rw [tdiv_pos X 64 hx0, w64 (x := X / 64) (by omega) (by omega)]
        have ht := tmod_range (Go.bits .xor .i64 X (X / 64)) n (xor_nonneg _ _ (by omega) (by omega) (by omega) (by omega)) (by omega)
        exact EvS.now ⟨ht.1, fun _ => ht.2, fun h => by omega, rfl⟩

theorem one_ok (b : List Int) (p : Int) (l : List Int) (hb : BytesOk b) (h0 : 0 ≤ p) (h1 : p ≤ 100000) (hl : 1 ≤ l.length) :
    EvS (fun k => spec_reader_one.f k b p l) (fun r => r.1 ∈ l ∧ r.2 = p + 1) := by
  simp only [spec_reader_one.f]
  refine EvS.bind (pick_ok b p l.length hb h0 h1) ?_
  rintro ⟨v, q⟩ ⟨a1, a2, a3, a4⟩
  have a5 := a2 (by omega)
  refine EvS.pos a1 (EvS.pos a5 ?_)
  exact EvS.now ⟨rd_mem _ a1 a5, a4⟩
/-! ## Lists of numbers. -/
theorem inRange_eq (n lo hi : Int) : spec_inRange.f n lo hi = some (decide (lo ≤ n ∧ n ≤ hi)) := by
  unfold spec_inRange.f
  split
  · exact congrArg some (decide_eq_decide.2 (by omega))
  · exact congrArg some (decide_eq_false (by omega)).symm
def AllW (xs : List Int) (lo hi : Int) : Prop := ∀ x ∈ xs, lo ≤ x ∧ x ≤ hi
instance (xs : List Int) (lo hi : Int) : Decidable (AllW xs lo hi) := by unfold AllW; infer_instance
theorem allW_cons (y : Int) (ys : List Int) (lo hi : Int) : AllW (y :: ys) lo hi ↔ (lo ≤ y ∧ y ≤ hi) ∧ AllW ys lo hi := by
  unfold AllW; simp
theorem allWithin_l0 (xs : List Int) (hl : xs.length ≤ 1099511627776) (lo hi : Int) (ys : List Int) : ∀ i : Int, At xs i ys → EvS (fun k => impl_allWithin.l0 k lo hi xs xs.length i) (· = decide (AllW ys lo hi)) := by
  induction ys with
  | nil =>
    intro i h
    refine EvS.step (fun k => by rw [impl_allWithin.l0]) ?_
    exact EvS.neg (by have := h.ge; omega) (EvS.now (by simp [AllW]))
  | cons y ys ih =>
    intro i h
    refine EvS.step (fun k => by rw [impl_allWithin.l0]) ?_
    refine EvS.pos h.lt (EvS.pos h.nonneg (EvS.pos h.lt ?_))
    rw [At.rd h]
    refine EvS.ite (fun c => EvS.now (decide_eq_false (fun g => by have := (allW_cons _ _ _ _).1 g; omega)).symm) (fun c1 => EvS.ite (fun c => EvS.now (decide_eq_false (fun g => by have := (allW_cons _ _ _ _).1 g; omega)).symm) (fun c2 => ?_))
    refine EvS.mono (ih _ (h.wnext (by omega))) (fun r hr => ?_)
    rw [hr]
    exact decide_eq_decide.2 ⟨fun g => (allW_cons _ _ _ _).2 ⟨by omega, g⟩, fun g => ((allW_cons _ _ _ _).1 g).2⟩
theorem allWithin_ok (xs : List Int) (hl : xs.length ≤ 1099511627776) (lo hi : Int) : EvS (fun k => impl_allWithin.f k xs lo hi) (· = decide (AllW xs lo hi)) := by
  simp only [impl_allWithin.f]
  exact allWithin_l0 xs hl lo hi xs 0 (At.zero xs)
theorem allIn_l0 (xs : List Int) (hl : xs.length ≤ 1099511627776) (lo hi : Int) (ys : List Int) : ∀ i : Int, At xs i ys → EvS (fun k => spec_allIn.l0 k xs lo hi i) (· = decide (AllW ys lo hi)) := by
  induction ys with
  | nil =>
    intro i h
    refine EvS.step (fun k => by rw [spec_allIn.l0]) ?_
    exact EvS.neg (by have := h.ge; omega) (EvS.now (by simp [AllW]))
  | cons y ys ih =>
    intro i h
    refine EvS.step (fun k => by rw [spec_allIn.l0]) ?_
    refine EvS.pos h.lt (EvS.pos h.nonneg ?_)
    rw [At.rd h]
    refine EvS.call (inRange_eq _ _ _) (EvS.ite (fun c => ?_) (fun c => EvS.now ?_))
    · have c := of_decide_eq_true c
      refine EvS.mono (ih _ (h.wnext (by omega))) (fun r hr => ?_)
      rw [hr]
      exact decide_eq_decide.2 ⟨fun g => (allW_cons _ _ _ _).2 ⟨by omega, g⟩, fun g => ((allW_cons _ _ _ _).1 g).2⟩
    · have c := ndec c
      exact (decide_eq_false (fun g => c ((allW_cons _ _ _ _).1 g).1)).symm
theorem allIn_ok (xs : List Int) (hl : xs.length ≤ 1099511627776) (lo hi : Int) : EvS (fun k => spec_allIn.f k xs lo hi) (· = decide (AllW xs lo hi)) := by
  simp only [spec_allIn.f]
  exact allIn_l0 xs hl lo hi xs 0 (At.zero xs)
/-- The first place of a number, counted from i on; -1 if it is not there. -/
def posF (v : Int) : Int → List Int → Int
  | _, [] => -1
  | i, x :: xs => if x = v then i else posF v (i + 1) xs
theorem posF_range (v : Int) (xs : List Int) : ∀ i : Int, 0 ≤ i → (v ∈ xs → i ≤ posF v i xs ∧ posF v i xs < i + xs.length) ∧ (v ∉ xs → posF v i xs = -1) := by
  induction xs with
  | nil => intro i h0; exact ⟨fun h => by simp at h, fun _ => rfl⟩
  | cons x xs ih =>
    intro i h0
    have h := ih (i + 1) (by omega)
    simp only [posF, List.length_cons]
    by_cases c : x = v
    · rw [if_pos c]; exact ⟨fun _ => by omega, fun g => absurd (by simp [c]) g⟩
    · rw [if_neg c]
      refine ⟨fun g => ?_, fun g => h.2 (fun g2 => g (List.mem_cons_of_mem _ g2))⟩
      have := h.1 ((List.mem_cons.1 g).resolve_left (fun e => c e.symm))
      omega
theorem posF_nonneg (v : Int) (xs : List Int) (i : Int) (h : 0 ≤ i) : (0 ≤ posF v i xs) ↔ v ∈ xs := by
  by_cases c : v ∈ xs
  · have := (posF_range v xs i h).1 c; exact ⟨fun _ => c, fun _ => by omega⟩
  · have := (posF_range v xs i h).2 c; exact ⟨fun g => by omega, fun g => absurd g c⟩
/-- Different numbers from 0 to n - 1. -/
def Diff (xs : List Int) (n : Int) : Prop := xs.Nodup ∧ ∀ x ∈ xs, 0 ≤ x ∧ x < n
instance (xs : List Int) (n : Int) : Decidable (Diff xs n) := by unfold Diff; infer_instance
def DiffF (pre ys : List Int) (n : Int) : Prop := ys.Nodup ∧ ∀ y ∈ ys, 0 ≤ y ∧ y < n ∧ y ∉ pre
instance (pre ys : List Int) (n : Int) : Decidable (DiffF pre ys n) := by unfold DiffF; infer_instance
theorem diffF_cons (pre : List Int) (y : Int) (ys : List Int) (n : Int) : DiffF pre (y :: ys) n ↔ (0 ≤ y ∧ y < n ∧ y ∉ pre) ∧ DiffF (y :: pre) ys n := by
  unfold DiffF
  constructor
  · rintro ⟨h1, h2⟩
    have h1 := List.nodup_cons.1 h1
    refine ⟨h2 y List.mem_cons_self, h1.2, fun z hz => ?_⟩
    have := h2 z (List.mem_cons_of_mem _ hz)
    refine ⟨this.1, this.2.1, fun hm => ?_⟩
    rcases List.mem_cons.1 hm with rfl | hm
    · exact h1.1 hz
    · exact this.2.2 hm
  · rintro ⟨h1, h2, h3⟩
    refine ⟨List.nodup_cons.2 ⟨fun hm => (h3 y hm).2.2 List.mem_cons_self, h2⟩, fun z hz => ?_⟩
    rcases List.mem_cons.1 hz with rfl | hz
    · exact h1
    · have := h3 z hz
      exact ⟨this.1, this.2.1, fun hm => this.2.2 (List.mem_cons_of_mem _ hm)⟩
theorem diffF_congr {p q ys : List Int} {n : Int} (h : ∀ x, x ∈ p ↔ x ∈ q) : DiffF p ys n ↔ DiffF q ys n := by
  unfold DiffF
  simp only [h]
theorem diffF_nil (xs : List Int) (n : Int) : DiffF [] xs n ↔ Diff xs n := by
  unfold DiffF Diff; simp
theorem diff_len {xs : List Int} {n : Int} (h : Diff xs n) : (xs.length : Int) ≤ n ∨ xs = [] := by
  rcases xs with _ | ⟨x, xs⟩
  · exact .inr rfl
  · left
    have h1 : 0 ≤ n := by have := h.2 x List.mem_cons_self; omega
    have h2 : (x :: xs) ⊆ (List.range n.toNat).map (fun m : Nat => (m : Int)) := by
      intro y hy
      have := h.2 y hy
      exact List.mem_map.2 ⟨y.toNat, List.mem_range.2 (by omega), by omega⟩
    have h3 := h.1.length_le_of_subset h2
    rw [List.length_map, List.length_range] at h3
    omega
theorem differentBelow_l0 (xs : List Int) (hl : xs.length ≤ 1099511627776) (n : Int) (ys : List Int) : ∀ (i : Int) (seen : List Bool) (pre : List Int), At xs i ys → (seen.length : Int) = n → (∀ v : Int, 0 ≤ v → v < n → (rdOf false seen v = true ↔ v ∈ pre)) →
    EvS (fun k => impl_differentBelow.l0 k n seen xs xs.length i) (· = decide (DiffF pre ys n)) := by
  induction ys with
  | nil =>
    intro i seen pre h hs hv
    refine EvS.step (fun k => by rw [impl_differentBelow.l0]) ?_
    exact EvS.neg (by have := h.ge; omega) (EvS.now (by simp [DiffF]))
  | cons y ys ih =>
    intro i seen pre h hs hv
    refine EvS.step (fun k => by rw [impl_differentBelow.l0]) ?_
    refine EvS.pos h.lt (EvS.pos h.nonneg (EvS.pos h.lt ?_))
    rw [At.rd h]
    refine EvS.ite (fun c => EvS.now (decide_eq_false (fun g => by have := ((diffF_cons _ _ _ _).1 g).1; omega)).symm) (fun c1 => EvS.ite (fun c => EvS.now (decide_eq_false (fun g => by have := ((diffF_cons _ _ _ _).1 g).1; omega)).symm) (fun c2 => EvS.pos (by omega) (EvS.pos (by omega) ?_)))
    have hy := hv y (by omega) (by omega)
    refine EvS.ite (fun c => EvS.now (decide_eq_false (fun g => ((diffF_cons _ _ _ _).1 g).1.2.2 (hy.1 c))).symm) (fun c3 => ?_)
    refine EvS.mono (ih _ (seen.set y.toNat true) (y :: pre) (h.wnext (by omega)) (by simpa using hs) (fun v h0 h1 => ?_)) (fun r hr => ?_)
    · unfold rdOf
      rw [List.getD_eq_getElem?_getD, List.getElem?_set]
      by_cases e : y = v
      · subst e
        rw [if_pos rfl, if_pos (by omega)]
        exact ⟨fun _ => List.mem_cons_self, fun _ => rfl⟩
      · rw [if_neg (by omega)]
        have := hv v h0 h1
        unfold rdOf at this
        rw [List.getD_eq_getElem?_getD] at this
        rw [this, List.mem_cons]
        exact ⟨fun g => .inr g, fun g => g.resolve_left (fun e2 => e e2.symm)⟩
    · rw [hr]
      exact decide_eq_decide.2 ⟨fun g => (diffF_cons _ _ _ _).2 ⟨⟨by omega, by omega, fun hm => c3 (hy.2 hm)⟩, g⟩, fun g => ((diffF_cons _ _ _ _).1 g).2⟩
theorem differentBelow_ok (xs : List Int) (hl : xs.length ≤ 1099511627776) (n : Int) (hn : n ≤ 1099511627776) (h0 : 0 ≤ n) : EvS (fun k => impl_differentBelow.f k xs n) (· = decide (Diff xs n)) := by
  simp only [impl_differentBelow.f]
  refine EvS.ite (fun c => EvS.now (decide_eq_false (fun g => ?_)).symm) (fun c => EvS.pos h0 (EvS.pos (by omega) ?_))
  · rcases diff_len g with h | h
    · omega
    · subst h; simp at c; omega
  · refine EvS.mono (differentBelow_l0 xs hl n xs 0 _ [] (At.zero xs) (by simp; omega) (fun v _ _ => ?_)) (fun r hr => ?_)
    · unfold rdOf
      rw [List.getD_eq_getElem?_getD, List.getElem?_replicate]
      split <;> simp
    · rw [hr]
      exact decide_eq_decide.2 (diffF_nil xs n)
/-! ## Bodies that vote. -/
def tot : List Int → Int
  | [] => 0
  | x :: xs => x + tot xs
theorem tot_range {xs : List Int} {hi : Int} (h0 : 0 ≤ hi) (h : AllW xs 0 hi) : 0 ≤ tot xs ∧ tot xs ≤ xs.length * hi := by
  induction xs with
  | nil => simp [tot]
  | cons x xs ih =>
    have h1 := (allW_cons _ _ _ _).1 h
    have h2 := ih h1.2
    simp only [tot, List.length_cons, Int.natCast_add, Int.add_mul]
    omega
theorem tot_bound {xs : List Int} (h : ∀ x ∈ xs, -1000000000000 ≤ x ∧ x ≤ 1000000000000) : -(1000000000000 * (xs.length : Int)) ≤ tot xs ∧ tot xs ≤ 1000000000000 * xs.length := by
  induction xs with
  | nil => simp [tot]
  | cons x xs ih =>
    have h1 := h x List.mem_cons_self
    have h2 := ih (fun y hy => h y (List.mem_cons_of_mem _ hy))
    simp only [tot, List.length_cons]
    omega
theorem spec_total_l0 (xs : List Int) (hl : xs.length ≤ 1000) (hx : ∀ x ∈ xs, -1000000000000 ≤ x ∧ x ≤ 1000000000000) (ys : List Int) : ∀ (i acc : Int), At xs i ys → acc + tot ys = tot xs → EvS (fun k => spec_total.l0 k xs acc i) (· = tot xs) := by
  induction ys with
  | nil =>
    intro i acc h e
    refine EvS.step (fun k => by rw [spec_total.l0]) ?_
    exact EvS.neg (by have := h.ge; omega) (EvS.now (by simp [tot] at e; exact e))
  | cons y ys ih =>
    intro i acc h e
    have h1 := h.len
    have h2 := h.nonneg
    have b1 := tot_bound hx
    have b2 := tot_bound (xs := ys) (fun z hz => hx z (h.sub z (List.mem_cons_of_mem _ hz)))
    have b3 := hx y h.mem
    simp only [tot, List.length_cons] at e h1
    refine EvS.step (fun k => by rw [spec_total.l0]) ?_
    refine EvS.pos h.lt (EvS.pos h.nonneg ?_)
    rw [At.rd h, w64 (x := acc + y) (by omega) (by omega)]
    exact ih _ _ (h.wnext (by omega)) (by omega)
theorem spec_total_ok (xs : List Int) (hl : xs.length ≤ 1000) (hx : ∀ x ∈ xs, -1000000000000 ≤ x ∧ x ≤ 1000000000000) : EvS (fun k => spec_total.f k xs) (· = tot xs) := by
  simp only [spec_total.f]
  exact spec_total_l0 xs hl hx xs 0 0 (At.zero _) (by omega)
theorem laws_total_l0 (xs : List Int) (hl : xs.length ≤ 1000) (hx : ∀ x ∈ xs, -1000000000000 ≤ x ∧ x ≤ 1000000000000) (ys : List Int) : ∀ (i acc : Int), At xs i ys → acc + tot ys = tot xs → EvS (fun k => laws_total.l0 k xs acc i) (· = tot xs) := by
  induction ys with
  | nil =>
    intro i acc h e
    refine EvS.step (fun k => by rw [laws_total.l0]) ?_
    exact EvS.neg (by have := h.ge; omega) (EvS.now (by simp [tot] at e; exact e))
  | cons y ys ih =>
    intro i acc h e
    have h1 := h.len
    have h2 := h.nonneg
    have b1 := tot_bound hx
    have b2 := tot_bound (xs := ys) (fun z hz => hx z (h.sub z (List.mem_cons_of_mem _ hz)))
    have b3 := hx y h.mem
    simp only [tot, List.length_cons] at e h1
    refine EvS.step (fun k => by rw [laws_total.l0]) ?_
    refine EvS.pos h.lt (EvS.pos h.nonneg ?_)
    rw [At.rd h, w64 (x := acc + y) (by omega) (by omega)]
    exact ih _ _ (h.wnext (by omega)) (by omega)
theorem laws_total_ok (xs : List Int) (hl : xs.length ≤ 1000) (hx : ∀ x ∈ xs, -1000000000000 ≤ x ∧ x ≤ 1000000000000) : EvS (fun k => laws_total.f k xs) (· = tot xs) := by
  simp only [laws_total.f]
  exact laws_total_l0 xs hl hx xs 0 0 (At.zero _) (by omega)
theorem sumOf_l0 (xs : List Int) (hl : xs.length ≤ 1000) (hx : ∀ x ∈ xs, -1000000000000 ≤ x ∧ x ≤ 1000000000000) (ys : List Int) : ∀ (i acc : Int), At xs i ys → acc + tot ys = tot xs → EvS (fun k => impl_sumOf.l0 k acc xs xs.length i) (· = tot xs) := by
  induction ys with
  | nil =>
    intro i acc h e
    refine EvS.step (fun k => by rw [impl_sumOf.l0]) ?_
    exact EvS.neg (by have := h.ge; omega) (EvS.now (by simp [tot] at e; exact e))
  | cons y ys ih =>
    intro i acc h e
    have h1 := h.len
    have h2 := h.nonneg
    have b1 := tot_bound hx
    have b2 := tot_bound (xs := ys) (fun z hz => hx z (h.sub z (List.mem_cons_of_mem _ hz)))
    have b3 := hx y h.mem
    simp only [tot, List.length_cons] at e h1
    refine EvS.step (fun k => by rw [impl_sumOf.l0]) ?_
    refine EvS.pos h.lt (EvS.pos h.nonneg (EvS.pos h.lt ?_))
    rw [At.rd h, w64 (x := acc + y) (by omega) (by omega)]
    exact ih _ _ (h.wnext (by omega)) (by omega)
theorem sumOf_ok (xs : List Int) (hl : xs.length ≤ 1000) (hx : ∀ x ∈ xs, -1000000000000 ≤ x ∧ x ≤ 1000000000000) : EvS (fun k => impl_sumOf.f k xs) (· = tot xs) := by
  simp only [impl_sumOf.f]
  exact sumOf_l0 xs hl hx xs 0 0 (At.zero _) (by omega)
def VBody (ws : List Int) (need : Int) : Prop := (1 ≤ ws.length ∧ ws.length ≤ 12) ∧ AllW ws 0 100 ∧ 1 ≤ need ∧ need ≤ tot ws
instance (ws : List Int) (need : Int) : Decidable (VBody ws need) := by unfold VBody; infer_instance
theorem impl_ValidBody_ok (ws : List Int) (hl : ws.length ≤ 4000000) (need : Int) : EvS (fun k => impl_ValidBody.f k ws need) (· = decide (VBody ws need)) := by
  simp only [impl_ValidBody.f]
  refine EvS.ite (fun c => EvS.now (decide_eq_false (fun g => by have := g.1; omega)).symm) (fun c1 => EvS.ite (fun c => EvS.now (decide_eq_false (fun g => by have := g.1; omega)).symm) (fun c2 => ?_))
  refine EvS.bindv (allWithin_ok ws (by omega) 0 100) (EvS.ite (fun c3 => EvS.ite (fun c4 => ?_) (fun c4 => EvS.now (decide_eq_false (fun g => c4 g.2.2.1)).symm)) (fun c3 => EvS.now (decide_eq_false (fun g => ndec c3 g.2.1)).symm))
  have c3 := of_decide_eq_true c3
  exact EvS.bindv (sumOf_ok ws (by omega) (fun x hx => by have := c3 x hx; omega)) (EvS.now (decide_eq_decide.2 ⟨fun g => ⟨by omega, c3, c4, g⟩, fun g => g.2.2.2⟩))
theorem spec_validBody_ok (ws : List Int) (hl : ws.length ≤ 4000000) (need : Int) : EvS (fun k => spec_validBody.f k ws need) (· = decide (VBody ws need)) := by
  simp only [spec_validBody.f]
  refine EvS.call (inRange_eq _ _ _) (EvS.ite (fun c1 => EvS.bindv (allIn_ok ws (by omega) 0 100) (EvS.ite (fun c3 => ?_) (fun c3 => EvS.now (decide_eq_false (fun g => ndec c3 g.2.1)).symm))) (fun c1 => EvS.now (decide_eq_false (fun g => ndec c1 (by have := g.1; omega))).symm))
  have c1 := of_decide_eq_true c1
  have c3 := of_decide_eq_true c3
  exact EvS.bindv (spec_total_ok ws (by omega) (fun x hx => by have := c3 x hx; omega)) (EvS.call (inRange_eq _ _ _) (EvS.now (decide_eq_decide.2 ⟨fun g => ⟨by omega, c3, g⟩, fun g => g.2.2⟩)))
/-! ## Bodies that are drawn. -/
theorem someBody_l0 (b : List Int) (hb : BytesOk b) (d : Nat) : ∀ (n p : Int) (ws : List Int), n ≤ d → 0 ≤ p → p + 2 * d + 10 ≤ 10000 → ws.length + d ≤ 9 → AllW ws 0 100 → 1 ≤ ws.length + n →
    EvS (fun k => spec_someBody.l0 k n b p ws 0) (fun r => (1 ≤ r.1.length ∧ r.1.length ≤ ws.length + d ∧ AllW r.1 0 100) ∧ p ≤ r.2.2 ∧ r.2.2 ≤ p + 2 * d + 2) := by
  induction d with
  | zero =>
    intro n p ws h1 h2 h3 h4 h5 h6
    refine EvS.step (fun k => by rw [spec_someBody.l0]) ?_
    refine EvS.neg (by omega) (EvS.bindv (spec_total_ok ws (by omega) (fun x hx => by have := h5 x hx; omega)) ?_)
    refine EvS.bind (pick_ok _ _ _ hb (by omega) (by omega)) ?_
    rintro ⟨v1, _⟩ ⟨v1_0, v1_1, v1_2, rfl⟩
    dsimp only at v1_0 v1_1 v1_2 ⊢
    refine EvS.bind (one_ok _ _ _ hb (by omega) (by omega) (by simp)) ?_
    rintro ⟨v2, _⟩ ⟨v2_m, rfl⟩
    dsimp only at v2_m ⊢
    exact EvS.now ⟨⟨by dsimp only; omega, by dsimp only; omega, h5⟩, by dsimp only; omega, by dsimp only; omega⟩
  | succ d ih =>
    intro n p ws h1 h2 h3 h4 h5 h6
    refine EvS.step (fun k => by rw [spec_someBody.l0]) ?_
    refine EvS.ite (fun c => ?_) (fun c => ?_)
    · refine EvS.bind (pick_ok _ _ _ hb (by omega) (by omega)) ?_
      rintro ⟨v1, _⟩ ⟨v1_0, v1_1, v1_2, rfl⟩
      dsimp only at v1_0 v1_1 v1_2 ⊢
      refine EvS.bind (one_ok _ _ _ hb (by omega) (by omega) (by simp)) ?_
      rintro ⟨v2, _⟩ ⟨v2_m, rfl⟩
      dsimp only at v2_m ⊢
      rw [w64 (x := 1 + v1) (by omega) (by omega), w64 (x := n - 1) (by omega) (by omega)] at *
      refine EvS.pos (by omega) ?_
      have hv : 0 ≤ v2 ∧ v2 ≤ 100 := by
        have := v1_1 (by omega)
        simp at v2_m; omega
      refine EvS.mono (ih _ _ _ (by omega) (by omega) (by omega) (by simp; omega) ?_ (by simp; omega)) (fun r hr => ?_)
      · intro x hx
        rcases List.mem_append.1 hx with hx | hx
        · exact h5 x hx
        · rw [List.mem_singleton] at hx; omega
      · obtain ⟨⟨g1, g2, g3⟩, g4, g5⟩ := hr
        simp at g2
        exact ⟨⟨g1, by omega, g3⟩, by omega, by omega⟩
    · refine EvS.bindv (spec_total_ok ws (by omega) (fun x hx => by have := h5 x hx; omega)) ?_
      refine EvS.bind (pick_ok _ _ _ hb (by omega) (by omega)) ?_
      rintro ⟨v1, _⟩ ⟨v1_0, v1_1, v1_2, rfl⟩
      dsimp only at v1_0 v1_1 v1_2 ⊢
      refine EvS.bind (one_ok _ _ _ hb (by omega) (by omega) (by simp)) ?_
      rintro ⟨v2, _⟩ ⟨v2_m, rfl⟩
      dsimp only at v2_m ⊢
      exact EvS.now ⟨⟨by dsimp only; omega, by dsimp only; omega, h5⟩, by dsimp only; omega, by dsimp only; omega⟩
theorem someBody_ok (b : List Int) (p : Int) (hb : BytesOk b) (h0 : 0 ≤ p) (h1 : p ≤ 1000) :
    EvS (fun k => spec_someBody.f k b p) (fun r => (1 ≤ r.1.length ∧ r.1.length ≤ 8 ∧ AllW r.1 0 100) ∧ p ≤ r.2.2 ∧ r.2.2 ≤ p + 19) := by
  simp only [spec_someBody.f]
  refine EvS.bind (one_ok _ _ _ hb (by omega) (by omega) (by simp)) ?_
  rintro ⟨v1, _⟩ ⟨v1_m, rfl⟩
  dsimp only at v1_m ⊢
  have hv : 1 ≤ v1 ∧ v1 ≤ (8 : Nat) := by simp at v1_m; omega
  refine EvS.mono (someBody_l0 b hb 8 v1 _ [] hv.2 (by omega) (by omega) (by simp) (by simp [AllW]) (by simp; omega)) (fun r hr => ?_)
  obtain ⟨⟨g1, g2, g3⟩, g4, g5⟩ := hr
  simp at g2
  exact ⟨⟨g1, by omega, g3⟩, by omega, by omega⟩
theorem anyBody_l0 (b : List Int) (p need : Int) (d : Nat) : ∀ ws : List Int, ws.length + d = 9 → 1 ≤ ws.length → AllW ws (-1) 101 → EvS (fun k => spec_anyBody.l0 k b p ws need) (fun r => (1 ≤ r.1.length ∧ r.1.length ≤ 9 ∧ AllW r.1 (-1) 101) ∧ r.2.2 = p) := by
  induction d with
  | zero =>
    intro ws h1 h2 h3
    refine EvS.step (fun k => by rw [spec_anyBody.l0]) ?_
    exact EvS.neg (by omega) (EvS.now ⟨⟨h2, by dsimp only; omega, h3⟩, rfl⟩)
  | succ d ih =>
    intro ws h1 h2 h3
    refine EvS.step (fun k => by rw [spec_anyBody.l0]) ?_
    refine EvS.pos (by omega) (EvS.pos (by omega) (ih _ (by simp; omega) (by simp) ?_))
    intro x hx
    rcases List.mem_append.1 hx with hx | hx
    · exact h3 x hx
    · rw [List.mem_singleton] at hx; omega
theorem anyBody_ok (b : List Int) (p : Int) (hb : BytesOk b) (h0 : 0 ≤ p) (h1 : p ≤ 1000) :
    EvS (fun k => spec_anyBody.f k b p) (fun r => (1 ≤ r.1.length ∧ r.1.length ≤ 9 ∧ AllW r.1 (-1) 101) ∧ p ≤ r.2.2 ∧ r.2.2 ≤ p + 22) := by
  simp only [spec_anyBody.f]
  refine EvS.bind (someBody_ok b p hb h0 h1) ?_
  rintro ⟨ws, need, q⟩ ⟨⟨g1, g2, g3⟩, g4, g5⟩
  dsimp only at g1 g2 g3 g4 g5 ⊢
  have g6 : AllW ws (-1) 101 := fun x hx => by have := g3 x hx; omega
  refine EvS.bind (pick_ok _ _ _ hb (by omega) (by omega)) ?_
  rintro ⟨v1, _⟩ ⟨v1_0, v1_1, v1_2, rfl⟩
  dsimp only at v1_0 v1_1 v1_2 ⊢
  refine EvS.ite (fun _ => ?_) (fun _ => EvS.ite (fun _ => ?_) (fun _ => EvS.ite (fun _ => ?_) (fun _ => ?_)))
  · refine EvS.bindv (spec_total_ok ws (by omega) (fun x hx => by have := g3 x hx; omega)) ?_
    refine EvS.bind (one_ok _ _ _ hb (by omega) (by omega) (by simp)) ?_
    rintro ⟨v2, _⟩ ⟨v2_m, rfl⟩
    dsimp only at v2_m ⊢
    exact EvS.now ⟨⟨g1, by dsimp only; omega, g6⟩, by dsimp only; omega, by dsimp only; omega⟩
  · refine EvS.bind (one_ok _ _ _ hb (by omega) (by omega) (by simp)) ?_
    rintro ⟨v2, _⟩ ⟨v2_m, rfl⟩
    dsimp only at v2_m ⊢
    refine EvS.pos (by omega) (EvS.now ⟨⟨by simp; omega, by simp; omega, fun x hx => ?_⟩, by dsimp only; omega, by dsimp only; omega⟩)
    rcases List.mem_or_eq_of_mem_set hx with hx | hx
    · exact g6 x hx
    · simp at v2_m; omega
  · refine EvS.mono (anyBody_l0 b _ need (9 - ws.length) ws (by omega) g1 g6) (fun r hr => ?_)
    exact ⟨hr.1, by omega, by omega⟩
  · exact EvS.now ⟨⟨g1, by dsimp only; omega, g6⟩, by dsimp only; omega, by dsimp only; omega⟩
/-! ## Ballots. -/
def tal (kind : Int) : List Int → List Int → Int
  | b :: bs, w :: ws => (if b = kind then w else 0) + tal kind bs ws
  | _, _ => 0
theorem tal_range (kind : Int) (bs : List Int) : ∀ ws : List Int, AllW ws 0 100 → 0 ≤ tal kind bs ws ∧ tal kind bs ws ≤ 100 * (bs.length : Int) := by
  induction bs with
  | nil => intro ws h; simp [tal]
  | cons b bs ih =>
    intro ws h
    cases ws with
    | nil => simp [tal]; omega
    | cons w ws =>
      have h1 := (allW_cons _ _ _ _).1 h
      have h2 := ih ws h1.2
      simp only [tal, List.length_cons]
      split <;> omega
theorem tal_all (bs : List Int) : ∀ ws : List Int, bs.length = ws.length → AllW bs 0 3 → tal 0 bs ws + tal 1 bs ws + tal 2 bs ws + tal 3 bs ws = tot ws := by
  induction bs with
  | nil => intro ws h _; cases ws with | nil => simp [tal, tot] | cons w ws => simp at h
  | cons b bs ih =>
    intro ws h hb
    cases ws with
    | nil => simp at h
    | cons w ws =>
      have h1 := (allW_cons _ _ _ _).1 hb
      have h2 := ih ws (by simpa using h) h1.2
      obtain ⟨a1, a2⟩ := h1.1
      simp only [tal, tot]
      obtain rfl | rfl | rfl | rfl : b = 0 ∨ b = 1 ∨ b = 2 ∨ b = 3 := by omega
      all_goals simp; omega
theorem tal_set (kind : Int) (bs : List Int) : ∀ (ws : List Int) (n : Nat), bs.length = ws.length → n < bs.length → ∃ w b : Int, w ∈ ws ∧ b ∈ bs ∧ tal kind (bs.set n 1) ws = tal kind bs ws - (if b = kind then w else 0) + (if 1 = kind then w else 0) ∧ bs[n]? = some b ∧ ws[n]? = some w := by
  induction bs with
  | nil => intro ws n h h2; simp at h2
  | cons b bs ih =>
    intro ws n h h2
    cases ws with
    | nil => simp at h
    | cons w ws =>
      cases n with
      | zero => exact ⟨w, b, List.mem_cons_self, List.mem_cons_self, by simp only [List.set_cons_zero, tal]; omega, rfl, rfl⟩
      | succ n =>
        obtain ⟨w', b', h3, h4, h5, h6, h7⟩ := ih ws n (by simpa using h) (by simpa using h2)
        exact ⟨w', b', List.mem_cons_of_mem _ h3, List.mem_cons_of_mem _ h4, by simp only [List.set_cons_succ, tal, h5]; omega, by simpa using h6, by simpa using h7⟩
def VBal (ws : List Int) (need : Int) (bs : List Int) : Prop := VBody ws need ∧ bs.length = ws.length ∧ AllW bs 0 3
instance (ws : List Int) (need : Int) (bs : List Int) : Decidable (VBal ws need bs) := by unfold VBal; infer_instance
theorem impl_validBallots_ok (ws : List Int) (hl : ws.length ≤ 4000000) (need : Int) (bs : List Int) (hb : bs.length ≤ 4000000) : EvS (fun k => impl_validBallots.f k ws need bs) (· = decide (VBal ws need bs)) := by
  simp only [impl_validBallots.f]
  refine EvS.bindv (impl_ValidBody_ok ws hl need) (EvS.ite (fun c1 => EvS.ite (fun c2 => ?_) (fun c2 => EvS.now (decide_eq_false (fun g => c2 (by rw [g.2.1]))).symm)) (fun c1 => EvS.now (decide_eq_false (fun g => ndec c1 g.1)).symm))
  exact EvS.bindv (allWithin_ok bs (by omega) 0 3) (EvS.now (decide_eq_decide.2 ⟨fun g => ⟨of_decide_eq_true c1, by omega, g⟩, fun g => g.2.2⟩))
theorem spec_validBallots_ok (ws : List Int) (hl : ws.length ≤ 4000000) (need : Int) (bs : List Int) (hb : bs.length ≤ 4000000) : EvS (fun k => spec_validBallots.f k ws need bs) (· = decide (VBal ws need bs)) := by
  simp only [spec_validBallots.f]
  refine EvS.bindv (spec_validBody_ok ws hl need) (EvS.ite (fun c1 => EvS.ite (fun c2 => ?_) (fun c2 => EvS.now (decide_eq_false (fun g => c2 (by rw [g.2.1]))).symm)) (fun c1 => EvS.now (decide_eq_false (fun g => ndec c1 g.1)).symm))
  exact EvS.bindv (allIn_ok bs (by omega) 0 3) (EvS.now (decide_eq_decide.2 ⟨fun g => ⟨of_decide_eq_true c1, by omega, g⟩, fun g => g.2.2⟩))
theorem impl_tally_l0 (ws bs : List Int) (need kind : Int) (hl : bs.length = ws.length) (hs : bs.length ≤ 12) (hw : AllW ws 0 100) (ys : List Int) : ∀ (zs : List Int) (i acc : Int), At bs i ys → At ws i zs → 0 ≤ acc → acc ≤ 100 * i →
    EvS (fun k => impl_TallyOf.l0 k kind acc bs bs.length i ws need) (· = acc + tal kind ys zs) := by
  induction ys with
  | nil =>
    intro zs i acc h g a0 a1
    refine EvS.step (fun k => by rw [impl_TallyOf.l0]) ?_
    exact EvS.neg (by have := h.ge; omega) (EvS.now (by simp [tal]))
  | cons y ys ih =>
    intro zs i acc h g a0 a1
    have h1 := h.lt
    have h2 := h.nonneg
    cases zs with
    | nil => have := g.ge; omega
    | cons z zs =>
      have hz := hw z g.mem
      refine EvS.step (fun k => by rw [impl_TallyOf.l0]) ?_
      refine EvS.pos h.lt (EvS.pos h.nonneg (EvS.pos h.lt ?_))
      rw [At.rd h, At.rd g, w64 (x := acc + z) (by omega) (by omega), w64 (x := i + 1) (by omega) (by omega)]
      simp only [tal]
      refine EvS.ite (fun c => EvS.pos (by omega) ?_) (fun c => ?_)
      · rw [if_pos c]
        refine EvS.mono (ih zs (i + 1) (acc + z) h.next g.next (by omega) (by omega)) (fun r hr => by rw [hr]; omega)
      · rw [if_neg c]
        refine EvS.mono (ih zs (i + 1) acc h.next g.next (by omega) (by omega)) (fun r hr => by rw [hr]; omega)
theorem spec_tally_l0 (ws bs : List Int) (need kind : Int) (hl : bs.length = ws.length) (hs : bs.length ≤ 12) (hw : AllW ws 0 100) (ys : List Int) : ∀ (zs : List Int) (i acc : Int), At bs i ys → At ws i zs → 0 ≤ acc → acc ≤ 100 * i →
    EvS (fun k => spec_tally.l0 k bs kind acc i ws need) (· = acc + tal kind ys zs) := by
  induction ys with
  | nil =>
    intro zs i acc h g a0 a1
    refine EvS.step (fun k => by rw [spec_tally.l0]) ?_
    exact EvS.neg (by have := h.ge; omega) (EvS.now (by simp [tal]))
  | cons y ys ih =>
    intro zs i acc h g a0 a1
    have h1 := h.lt
    have h2 := h.nonneg
    cases zs with
    | nil => have := g.ge; omega
    | cons z zs =>
      have hz := hw z g.mem
      refine EvS.step (fun k => by rw [spec_tally.l0]) ?_
      refine EvS.pos h.lt (EvS.pos h.nonneg ?_)
      rw [At.rd h, At.rd g, w64 (x := acc + z) (by omega) (by omega), w64 (x := i + 1) (by omega) (by omega)]
      simp only [tal]
      refine EvS.ite (fun c => EvS.pos (by omega) ?_) (fun c => ?_)
      · rw [if_pos c]
        refine EvS.mono (ih zs (i + 1) (acc + z) h.next g.next (by omega) (by omega)) (fun r hr => by rw [hr]; omega)
      · rw [if_neg c]
        refine EvS.mono (ih zs (i + 1) acc h.next g.next (by omega) (by omega)) (fun r hr => by rw [hr]; omega)
theorem spec_tally_ok (ws bs : List Int) (need kind : Int) (hv : VBal ws need bs) : EvS (fun k => spec_tally.f k ws need bs kind) (· = tal kind bs ws) := by
  simp only [spec_tally.f]
  have hn := hv.1.1
  refine EvS.mono (spec_tally_l0 ws bs need kind hv.2.1 (by have := hv.2.1; omega) hv.1.2.1 bs ws 0 0 (At.zero _) (At.zero _) (by omega) (by omega)) (fun r hr => by rw [hr]; omega)
theorem impl_TallyOf_ok (ws : List Int) (hl : ws.length ≤ 4000000) (need : Int) (bs : List Int) (hb : bs.length ≤ 4000000) (kind : Int) : EvS (fun k => impl_TallyOf.f k ws need bs kind) (· = if VBal ws need bs ∧ (0 ≤ kind ∧ kind ≤ 3) then tal kind bs ws else -1) := by
  have jt : ¬ (VBal ws need bs ∧ (0 ≤ kind ∧ kind ≤ 3)) → EvS (fun k => impl_TallyOf.j0 k bs kind true ws need) (· = if VBal ws need bs ∧ (0 ≤ kind ∧ kind ≤ 3) then tal kind bs ws else -1) := by
    intro g
    refine EvS.step (fun k => by rw [impl_TallyOf.j0]) ?_
    exact EvS.pos rfl (EvS.now (by rw [if_neg g]))
  simp only [impl_TallyOf.f]
  refine EvS.bindv (impl_validBallots_ok ws hl need bs hb) (EvS.ite (fun c1 => EvS.ite (fun c2 => jt (by omega)) (fun c2 => ?_)) (fun c1 => jt (fun g => ndec c1 g.1)))
  have c1 := of_decide_eq_true c1
  by_cases c3 : kind > 3
  · rw [decide_eq_true c3]; exact jt (by omega)
  · rw [decide_eq_false c3]
    refine EvS.step (fun k => by rw [impl_TallyOf.j0]) ?_
    rw [if_pos ⟨c1, by omega⟩]
    have hn := c1.1.1
    refine EvS.neg (by simp) (EvS.mono (impl_tally_l0 ws bs need kind c1.2.1 (by have := c1.2.1; omega) c1.1.2.1 bs ws 0 0 (At.zero _) (At.zero _) (by omega) (by omega)) (fun r hr => by rw [hr]; omega))
/-- What Passes tells. -/
def passP (ws : List Int) (need : Int) (bs : List Int) (quorum : Int) (simple : Bool) : Bool :=
  decide (VBal ws need bs ∧ quorum ≤ tal 1 bs ws + tal 3 bs ws + tal 2 bs ws ∧ (if simple = true then tal 1 bs ws > tal 3 bs ws else tal 1 bs ws ≥ need))
theorem impl_Passes_ok (ws : List Int) (hl : ws.length ≤ 4000000) (need : Int) (bs : List Int) (hb : bs.length ≤ 4000000) (quorum : Int) (simple : Bool) : EvS (fun k => impl_Passes.f k ws need bs quorum simple) (· = passP ws need bs quorum simple) := by
  simp only [impl_Passes.f]
  refine EvS.bindv (impl_validBallots_ok ws hl need bs hb) (EvS.ite (fun c1 => ?_) (fun c1 => EvS.now (decide_eq_false (fun g => ndec c1 g.1)).symm))
  have c1 := of_decide_eq_true c1
  have t1 := impl_TallyOf_ok ws hl need bs hb 1
  have t2 := impl_TallyOf_ok ws hl need bs hb 2
  have t3 := impl_TallyOf_ok ws hl need bs hb 3
  rw [if_pos ⟨c1, by omega⟩] at t1 t2 t3
  have r1 := tal_range 1 bs ws c1.1.2.1
  have r2 := tal_range 2 bs ws c1.1.2.1
  have r3 := tal_range 3 bs ws c1.1.2.1
  have hn := c1.1.1
  have hn2 := c1.2.1
  refine EvS.bindv t1 (EvS.bindv t3 (EvS.bindv t2 ?_))
  rw [w64 (x := tal 1 bs ws + tal 3 bs ws) (by omega) (by omega), w64 (x := tal 1 bs ws + tal 3 bs ws + tal 2 bs ws) (by omega) (by omega)]
  refine EvS.ite (fun c => EvS.now (decide_eq_false (fun g => by have := g.2.1; omega)).symm) (fun c => ?_)
  cases simple with
  | true => exact EvS.pos rfl (EvS.now (decide_eq_decide.2 ⟨fun g => ⟨c1, by omega, by rw [if_pos rfl]; exact g⟩, fun g => by have := g.2.2; rwa [if_pos rfl] at this⟩))
  | false => exact EvS.neg (by simp) (EvS.now (decide_eq_decide.2 ⟨fun g => ⟨c1, by omega, by rw [if_neg (by simp)]; exact g⟩, fun g => by have := g.2.2; rwa [if_neg (by simp)] at this⟩))
theorem spec_Passes_ok (ws : List Int) (hl : ws.length ≤ 4000000) (need : Int) (bs : List Int) (hb : bs.length ≤ 4000000) (quorum : Int) (simple : Bool) : EvS (fun k => spec_Passes.f k ws need bs quorum simple) (· = passP ws need bs quorum simple) := by
  have jt : passP ws need bs quorum simple = false → EvS (fun k => spec_Passes.j0 k bs simple true ws need) (· = passP ws need bs quorum simple) := by
    intro g
    refine EvS.step (fun k => by rw [spec_Passes.j0]) ?_
    exact EvS.pos rfl (EvS.now g.symm)
  simp only [spec_Passes.f]
  refine EvS.bindv (spec_validBallots_ok ws hl need bs hb) (EvS.ite (fun c1 => ?_) (fun c1 => jt (decide_eq_false (fun g => ndec c1 g.1))))
  have c1 := of_decide_eq_true c1
  have r0 := tal_range 0 bs ws c1.1.2.1
  have r1 := tal_range 1 bs ws c1.1.2.1
  have r2 := tal_range 2 bs ws c1.1.2.1
  have r3 := tal_range 3 bs ws c1.1.2.1
  have ra := tal_all bs ws c1.2.1 c1.2.2
  have hn := c1.1.1
  have hn2 := c1.2.1
  refine EvS.bindv (spec_total_ok ws (by omega) (fun x hx => by have := c1.1.2.1 x hx; omega)) (EvS.bindv (spec_tally_ok ws bs need 0 c1) ?_)
  rw [w64 (x := tot ws - tal 0 bs ws) (by omega) (by omega)]
  by_cases c : tot ws - tal 0 bs ws < quorum
  · rw [decide_eq_true c]
    exact jt (decide_eq_false (fun g => by have := g.2.1; omega))
  · rw [decide_eq_false c]
    refine EvS.step (fun k => by rw [spec_Passes.j0]) ?_
    refine EvS.neg (by simp) (EvS.bindv (spec_tally_ok ws bs need 1 c1) ?_)
    cases simple with
    | true => exact EvS.pos rfl (EvS.bindv (spec_tally_ok ws bs need 3 c1) (EvS.now (decide_eq_decide.2 ⟨fun g => ⟨c1, by omega, by rw [if_pos rfl]; exact g⟩, fun g => by have := g.2.2; rwa [if_pos rfl] at this⟩)))
    | false => exact EvS.neg (by simp) (EvS.now (decide_eq_decide.2 ⟨fun g => ⟨c1, by omega, by rw [if_neg (by simp)]; exact g⟩, fun g => by have := g.2.2; rwa [if_neg (by simp)] at this⟩))
theorem someBallots_l0 (b : List Int) (hb : BytesOk b) (n : Int) (hn : 0 ≤ n) (hn2 : n ≤ 12) (d : Nat) : ∀ (i p : Int) (out : List Int), i + d = n → 0 ≤ i → out.length = i → 0 ≤ p → p + d + 2 ≤ 10000 →
    EvS (fun k => spec_someBallots.l0 k n out i b p) (fun r => (r.1.length : Int) = n ∧ p ≤ r.2 ∧ r.2 ≤ p + d + 2) := by
  induction d with
  | zero =>
    intro i p out h1 h2 h3 h4 h5
    refine EvS.step (fun k => by rw [spec_someBallots.l0]) ?_
    refine EvS.neg (by omega) (EvS.ite (fun c => ?_) (fun c => EvS.now ⟨by dsimp only; omega, by dsimp only; omega, by dsimp only; omega⟩))
    refine EvS.bind (pick_ok _ _ _ hb (by omega) (by omega)) ?_
    rintro ⟨v1, _⟩ ⟨v1_0, v1_1, v1_2, rfl⟩
    dsimp only at v1_0 v1_1 v1_2 ⊢
    refine EvS.ite (fun _ => ?_) (fun _ => EvS.now ⟨by dsimp only; omega, by dsimp only; omega, by dsimp only; omega⟩)
    refine EvS.bind (one_ok _ _ _ hb (by omega) (by omega) (by simp)) ?_
    rintro ⟨v2, _⟩ ⟨v2_m, rfl⟩
    dsimp only at v2_m ⊢
    exact EvS.pos (by omega) (EvS.now ⟨by simp; omega, by dsimp only; omega, by dsimp only; omega⟩)
  | succ d ih =>
    intro i p out h1 h2 h3 h4 h5
    refine EvS.step (fun k => by rw [spec_someBallots.l0]) ?_
    refine EvS.pos (by omega) ?_
    refine EvS.bind (one_ok _ _ _ hb (by omega) (by omega) (by simp)) ?_
    rintro ⟨v1, _⟩ ⟨v1_m, rfl⟩
    dsimp only at v1_m ⊢
    rw [w64 (x := i + 1) (by omega) (by omega)]
    refine EvS.pos (by omega) (EvS.mono (ih _ _ _ (by omega) (by omega) (by simp; omega) (by omega) (by omega)) (fun r hr => ?_))
    obtain ⟨g1, g2, g3⟩ := hr
    exact ⟨g1, by omega, by omega⟩
theorem drawPasses_ok (l : List Int) (hl : ∀ x ∈ l, 0 ≤ x ∧ x ≤ 255) : EvS (fun k => spec_DrawPasses.f k l) (fun r => r.1.length ≤ 12 ∧ r.2.2.1.length ≤ 12) := by
  simp only [spec_DrawPasses.f]
  obtain ⟨b, be, hb⟩ := newReader_ok l hl
  refine EvS.call be ?_
  dsimp only
  refine EvS.bind (anyBody_ok b 0 hb (by omega) (by omega)) ?_
  rintro ⟨ws, need, q⟩ ⟨⟨g1, g2, g3⟩, g4, g5⟩
  dsimp only at g1 g2 g3 g4 g5 ⊢
  refine EvS.bind (Q := fun r => (r.1.length : Int) = ws.length ∧ q ≤ r.2 ∧ r.2 ≤ q + 20) ?_ ?_
  · simp only [spec_someBallots.f]
    refine EvS.mono (someBallots_l0 b hb ws.length (by omega) (by omega) ws.length 0 q [] (by omega) (by omega) (by simp) (by omega) (by omega)) (fun r hr => ?_)
    exact ⟨hr.1, hr.2.1, by have := hr.2.2; omega⟩
  · rintro ⟨bs, q2⟩ ⟨e1, e2, e3⟩
    dsimp only at e1 e2 e3 ⊢
    have ht := spec_total_ok ws (by omega) (fun x hx => by have := g3 x hx; omega)
    refine EvS.bindv ht (EvS.bindv ht ?_)
    refine EvS.bind (one_ok _ _ _ hb (by omega) (by omega) (by simp)) ?_
    rintro ⟨v1, _⟩ ⟨v1_m, rfl⟩
    dsimp only at v1_m ⊢
    refine EvS.bind (pick_ok _ _ _ hb (by omega) (by omega)) ?_
    rintro ⟨v2, _⟩ ⟨v2_0, v2_1, v2_2, rfl⟩
    dsimp only at v2_0 v2_1 v2_2 ⊢
    exact EvS.now ⟨by dsimp only; omega, by dsimp only; omega⟩
/-! ## Members who win. -/
def wsum (ws : List Int) : List Int → Int
  | [] => 0
  | m :: ms => rd ws m + wsum ws ms
theorem wsum_range {ws ms : List Int} (hw : AllW ws 0 100) (hm : ∀ m ∈ ms, 0 ≤ m ∧ m < ws.length) : 0 ≤ wsum ws ms ∧ wsum ws ms ≤ 100 * (ms.length : Int) := by
  induction ms with
  | nil => simp [wsum]
  | cons m ms ih =>
    have h1 := ih (fun x hx => hm x (List.mem_cons_of_mem _ hx))
    have h2 := hm m List.mem_cons_self
    have h3 := rd_range hw m h2.1 h2.2
    simp only [wsum, List.length_cons]; omega
def winP (ws : List Int) (need : Int) (ms : List Int) : Bool := decide (VBody ws need ∧ Diff ms ws.length ∧ wsum ws ms ≥ need)
theorem impl_wins_l0 (ws : List Int) (need : Int) (hw : AllW ws 0 100) (ms : List Int) (hl : ms.length ≤ 12) (hm : ∀ m ∈ ms, 0 ≤ m ∧ m < ws.length) (ys : List Int) : ∀ i acc : Int, At ms i ys → 0 ≤ acc → acc ≤ 100 * i →
    EvS (fun k => impl_Wins.l0 k acc ms ms.length i ws need) (· = decide (acc + wsum ws ys ≥ need)) := by
  induction ys with
  | nil =>
    intro i acc h a0 a1
    refine EvS.step (fun k => by rw [impl_Wins.l0]) ?_
    exact EvS.neg (by have := h.ge; omega) (EvS.now (by simp [wsum]))
  | cons y ys ih =>
    intro i acc h a0 a1
    have h1 := h.lt
    have h2 := h.nonneg
    have hy := hm y h.mem
    have hr := rd_range hw y hy.1 hy.2
    refine EvS.step (fun k => by rw [impl_Wins.l0]) ?_
    refine EvS.pos h.lt (EvS.pos h.nonneg (EvS.pos h.lt ?_))
    rw [At.rd h, w64 (x := acc + rd ws y) (by omega) (by omega), w64 (x := i + 1) (by omega) (by omega)]
    refine EvS.pos hy.1 (EvS.pos hy.2 (EvS.mono (ih (i + 1) (acc + rd ws y) h.next (by omega) (by omega)) (fun r hr => ?_)))
    rw [hr]
    exact decide_eq_decide.2 (by simp only [wsum]; omega)
theorem impl_Wins_ok (ws : List Int) (hl : ws.length ≤ 4000000) (need : Int) (ms : List Int) (hm : ms.length ≤ 4000000) : EvS (fun k => impl_Wins.f k ws need ms) (· = winP ws need ms) := by
  have jt : ¬ (VBody ws need ∧ Diff ms ws.length) → EvS (fun k => impl_Wins.j0 k ms true ws need) (· = winP ws need ms) := by
    intro g
    refine EvS.step (fun k => by rw [impl_Wins.j0]) ?_
    exact EvS.pos rfl (EvS.now (decide_eq_false (fun h => g ⟨h.1, h.2.1⟩)).symm)
  simp only [impl_Wins.f]
  refine EvS.bindv (impl_ValidBody_ok ws hl need) (EvS.ite (fun c1 => EvS.bindv (differentBelow_ok ms (by omega) _ (by omega) (by omega)) ?_) (fun c1 => jt (fun g => ndec c1 g.1)))
  have c1 := of_decide_eq_true c1
  by_cases c2 : Diff ms ws.length
  · rw [decide_eq_true c2]
    have hn := c1.1
    have hlen : ms.length ≤ 12 := by rcases diff_len c2 with g | g; · omega
                                     · subst g; simp
    refine EvS.step (fun k => by rw [impl_Wins.j0]) ?_
    refine EvS.neg (by simp) (EvS.mono (impl_wins_l0 ws need c1.2.1 ms hlen c2.2 ms 0 0 (At.zero _) (by omega) (by omega)) (fun r hr => ?_))
    rw [hr]
    exact decide_eq_decide.2 ⟨fun g => ⟨c1, c2, by omega⟩, fun g => by have := g.2.2; omega⟩
  · rw [decide_eq_false c2]
    exact jt (fun g => c2 g.2)
/-- Who votes for it, from index i on. -/
def yesF : Int → List Int → List Int
  | _, [] => []
  | i, b :: bs => if b = 1 then i :: yesF (i + 1) bs else yesF (i + 1) bs
theorem yesF_range (bs : List Int) : ∀ i : Int, (∀ x ∈ yesF i bs, i ≤ x ∧ x < i + bs.length) ∧ (yesF i bs).Nodup ∧ (yesF i bs).length ≤ bs.length := by
  induction bs with
  | nil => intro i; simp [yesF]
  | cons b bs ih =>
    intro i
    obtain ⟨h1, h2, h3⟩ := ih (i + 1)
    simp only [yesF, List.length_cons]
    split
    · refine ⟨fun x hx => ?_, List.nodup_cons.2 ⟨fun hm => ?_, h2⟩, by simp; omega⟩
      · rcases List.mem_cons.1 hx with rfl | hx
        · omega
        · have := h1 x hx; omega
      · have := h1 i hm; omega
    · exact ⟨fun x hx => by have := h1 x hx; omega, h2, by omega⟩
theorem yesF_sum (ws : List Int) (ys : List Int) : ∀ (zs : List Int) (i : Int), At ws i zs → ys.length = zs.length → wsum ws (yesF i ys) = tal 1 ys zs := by
  induction ys with
  | nil => intro zs i h e; simp [yesF, wsum, tal]
  | cons y ys ih =>
    intro zs i h e
    cases zs with
    | nil => simp at e
    | cons z zs =>
      have := ih zs (i + 1) h.next (by simpa using e)
      simp only [yesF, tal]
      split
      · rw [wsum, At.rd h, this]
      · rw [this]; omega
theorem law_l0 (ws : List Int) (hl : ws.length ≤ 12) (need : Int) (bs : List Int) (quorum : Int) (simple : Bool) (hv : VBal ws need bs) (ys : List Int) : ∀ (i : Int) (acc : List Int), At bs i ys → acc.length ≤ i → yesF 0 bs = acc ++ yesF i ys →
    EvS (fun k => laws_FnPassesWins.l0 k bs quorum (passP ws need bs quorum simple) acc i ws need) (· = true) := by
  have hbl := hv.2.1
  induction ys with
  | nil =>
    intro i acc h e1 e2
    have hge := h.ge
    refine EvS.step (fun k => by rw [laws_FnPassesWins.l0]) ?_
    refine EvS.neg (by omega) (EvS.bindv (impl_Passes_ok ws (by omega) need bs (by omega) 0 false) (EvS.bindv (impl_Wins_ok ws (by omega) need acc (by omega)) ?_))
    have hy : yesF 0 bs = acc := by rw [e2]; simp [yesF]
    have hr := yesF_range bs 0
    have hs := yesF_sum ws bs ws 0 (At.zero _) hbl
    rw [hy] at hr hs
    have r1 := tal_range 1 bs ws hv.1.2.1
    have r2 := tal_range 2 bs ws hv.1.2.1
    have r3 := tal_range 3 bs ws hv.1.2.1
    have r0 := tal_range 0 bs ws hv.1.2.1
    have ra := tal_all bs ws hv.2.1 hv.2.2
    have heq : passP ws need bs 0 false = winP ws need acc := by
      unfold passP winP
      refine decide_eq_decide.2 ⟨fun g => ⟨hv.1, ⟨hr.2.1, fun x hx => by have := hr.1 x hx; omega⟩, ?_⟩, fun g => ⟨hv, by omega, ?_⟩⟩
      · have := g.2.2; rw [if_neg (by simp)] at this; omega
      · have := g.2.2; rw [if_neg (by simp)]; omega
    rw [heq]
    refine EvS.pos (by simp) (EvS.ite (fun c => ?_) (fun c => EvS.now rfl))
    have t0 := impl_TallyOf_ok ws (by omega) need bs (by omega) 0
    rw [if_pos ⟨hv, by omega⟩] at t0
    refine EvS.bindv (laws_total_ok ws (by omega) (fun x hx => by have := hv.1.2.1 x hx; omega)) (EvS.bindv t0 (EvS.now ?_))
    have hq := (of_decide_eq_true c).2.1
    rw [w64 (x := tot ws - tal 0 bs ws) (by omega) (by omega)]
    exact decide_eq_true (by omega)
  | cons y ys ih =>
    intro i acc h e1 e2
    have h1 := h.lt
    have h2 := h.nonneg
    refine EvS.step (fun k => by rw [laws_FnPassesWins.l0]) ?_
    refine EvS.pos h.lt (EvS.pos h.nonneg ?_)
    rw [At.rd h, w64 (x := i + 1) (by omega) (by omega)]
    rw [yesF] at e2
    refine EvS.ite (fun c => EvS.pos (by omega) ?_) (fun c => ?_)
    · rw [if_pos c] at e2
      exact ih _ _ h.next (by simp; omega) (by rw [e2]; simp)
    · rw [if_neg c] at e2
      exact ih _ _ h.next (by omega) e2
theorem FnPassesWins : laws_FnPassesWins.Pure := by
  intro l0 _ _ hw
  refine EvS.holds ?_
  simp only [laws_FnPassesWins.f]
  refine EvS.ite (fun _ => EvS.now rfl) (fun _ => ?_)
  refine EvS.bind (drawPasses_ok l0 (fun x hx => u8_range (hw x hx))) ?_
  rintro ⟨ws, need, bs, quorum, simple⟩ ⟨g1, g2⟩
  dsimp only at g1 g2 ⊢
  refine EvS.bindv (impl_Passes_ok ws (by omega) need bs (by omega) quorum simple) (EvS.bindv (spec_Passes_ok ws (by omega) need bs (by omega) quorum simple) (EvS.neg (by simp) (EvS.bindv (impl_TallyOf_ok ws (by omega) need bs (by omega) 1) ?_)))
  refine EvS.step (fun k => by rw [laws_FnPassesWins.j0]) ?_
  refine EvS.ite (fun c => EvS.bindv (spec_Passes_ok ws (by omega) need bs (by omega) quorum simple) (EvS.now (by simp))) (fun c => ?_)
  have c := fun g => c (decide_eq_true g)
  by_cases hv : VBal ws need bs
  · exact law_l0 ws g1 need bs quorum simple hv bs 0 [] (At.zero _) (by simp) (by simp)
  · exfalso; exact c (by rw [if_neg (fun g => hv g.1)]; omega)
end Go.Proofs.Ytkbgcnpjamadeaa.Pure
