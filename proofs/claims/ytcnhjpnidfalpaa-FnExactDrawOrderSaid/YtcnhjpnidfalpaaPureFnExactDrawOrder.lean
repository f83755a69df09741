/- DrawOrder is what the reference tells, for all reveals. Conditions: none. -/
import Derived.Test.YtcnhjpnidfalpaaMFnExactDrawOrderx0
import Derived.Test.YtcnhjpnidfalpaaMFnExactDrawOrderx1
import Derived.Test.YtcnhjpnidfalpaaMFnExactDrawOrderx2
import Derived.Test.YtcnhjpnidfalpaaMFnExactDrawOrderx3
import Derived.Test.YtcnhjpnidfalpaaMFnExactDrawOrderx4
import Derived.Test.YtcnhjpnidfalpaaMFnExactDrawOrderx5
import Derived.Test.YtcnhjpnidfalpaaBase
set_option linter.unusedVariables false
set_option linter.unusedSimpArgs false
namespace Go.Proofs.Ytcnhjpnidfalpaa.Pure
open Go.RowKit Go.Proofs.Ytcnhjpnidfalpaa.PFnExactDrawOrder Go.Proofs.YtcnhjpnidfalpaaW.PrintWords Go.Proofs.YtcnhjpnidfalpaaW.PrintLast Go.Proofs.YtcnhjpnidfalpaaW.PrintMore Go.Proofs.Ytcnhjpnidfalpaa.Base
theorem u8_range {x : Int} (h : (Lit.int .u8 x).wf = true) : 0 ≤ x ∧ x ≤ 255 := by
  simp [Lit.wf, IntKind.min, IntKind.max, IntKind.bits, IntKind.signed] at h
  omega
/-! ## Lists of numbers. -/
theorem inRange_eq (n lo hi : Int) : spec_inRange.f n lo hi = some (decide (lo ≤ n ∧ n ≤ hi)) := by
  unfold spec_inRange.f
  split
  · exact congrArg some (decide_eq_decide.2 (by omega))
  · exact congrArg some (decide_eq_false (by omega)).symm
def AllW (xs : List Int) (lo hi : Int) : Prop := ∀ x ∈ xs, lo ≤ x ∧ x ≤ hi
instance (xs : List Int) (lo hi : Int) : Decidable (AllW xs lo hi) := by unfold AllW; infer_instance
theorem allW_cons (y : Int) (ys : List Int) (lo hi : Int) : AllW (y :: ys) lo hi ↔ (lo ≤ y ∧ y ≤ hi) ∧ AllW ys lo hi := by
  unfold AllW; simp
/-- The first place of a number, counted from i on; -1 if it is not there. -/
def posF (v : Int) : Int → List Int → Int
  | _, [] => -1
  | i, x :: xs => if x = v then i else posF v (i + 1) xs
theorem posF_range (v : Int) (xs : List Int) : ∀ i : Int, 0 ≤ i → (v ∈ xs → i ≤ posF v i xs ∧ posF v i xs < i + xs.length) ∧ (v ∉ xs → posF v i xs = -1) := by
  induction xs with
  | nil => intro i h0; exact ⟨fun h => by simp at h, fun _ => rfl⟩
  | cons x xs ih =>
    intro i h0
    have h := ih (i + 1) (by omega)
    simp only [posF, List.length_cons]
    by_cases c : x = v
    · rw [if_pos c]; exact ⟨fun _ => by omega, fun g => absurd (by simp [c]) g⟩
    · rw [if_neg c]
      refine ⟨fun g => ?_, fun g => h.2 (fun g2 => g (List.mem_cons_of_mem _ g2))⟩
      have := h.1 ((List.mem_cons.1 g).resolve_left (fun e => c e.symm))
      omega
theorem posF_nonneg (v : Int) (xs : List Int) (i : Int) (h : 0 ≤ i) : (0 ≤ posF v i xs) ↔ v ∈ xs := by
  by_cases c : v ∈ xs
  · have := (posF_range v xs i h).1 c; exact ⟨fun _ => c, fun _ => by omega⟩
  · have := (posF_range v xs i h).2 c; exact ⟨fun g => by omega, fun g => absurd g c⟩
/-- Different numbers from 0 to n - 1. -/
def Diff (xs : List Int) (n : Int) : Prop := xs.Nodup ∧ ∀ x ∈ xs, 0 ≤ x ∧ x < n
instance (xs : List Int) (n : Int) : Decidable (Diff xs n) := by unfold Diff; infer_instance
def DiffF (pre ys : List Int) (n : Int) : Prop := ys.Nodup ∧ ∀ y ∈ ys, 0 ≤ y ∧ y < n ∧ y ∉ pre
instance (pre ys : List Int) (n : Int) : Decidable (DiffF pre ys n) := by unfold DiffF; infer_instance
theorem diffF_cons (pre : List Int) (y : Int) (ys : List Int) (n : Int) : DiffF pre (y :: ys) n ↔ (0 ≤ y ∧ y < n ∧ y ∉ pre) ∧ DiffF (y :: pre) ys n := by
  unfold DiffF
  constructor
  · rintro ⟨h1, h2⟩
    have h1 := List.nodup_cons.1 h1
    refine ⟨h2 y List.mem_cons_self, h1.2, fun z hz => ?_⟩
    have := h2 z (List.mem_cons_of_mem _ hz)
    refine ⟨this.1, this.2.1, fun hm => ?_⟩
    rcases List.mem_cons.1 hm with rfl | hm
    · exact h1.1 hz
    · exact this.2.2 hm
  · rintro ⟨h1, h2, h3⟩
    refine ⟨List.nodup_cons.2 ⟨fun hm => (h3 y hm).2.2 List.mem_cons_self, h2⟩, fun z hz => ?_⟩
    rcases List.mem_cons.1 hz with rfl | hz
    · exact h1
    · have := h3 z hz
      exact ⟨this.1, this.2.1, fun hm => this.2.2 (List.mem_cons_of_mem _ hm)⟩
theorem diffF_congr {p q ys : List Int} {n : Int} (h : ∀ x, x ∈ p ↔ x ∈ q) : DiffF p ys n ↔ DiffF q ys n := by
  unfold DiffF
  simp only [h]
theorem diffF_nil (xs : List Int) (n : Int) : DiffF [] xs n ↔ Diff xs n := by
  unfold DiffF Diff; simp
theorem diff_len {xs : List Int} {n : Int} (h : Diff xs n) : (xs.length : Int) ≤ n ∨ xs = [] := by
  rcases xs with _ | ⟨x, xs⟩
  · exact .inr rfl
  · left
    have h1 : 0 ≤ n := by have := h.2 x List.mem_cons_self; omega
    have h2 : (x :: xs) ⊆ (List.range n.toNat).map (fun m : Nat => (m : Int)) := by
      intro y hy
      have := h.2 y hy
      exact List.mem_map.2 ⟨y.toNat, List.mem_range.2 (by omega), by omega⟩
    have h3 := h.1.length_le_of_subset h2
    rw [List.length_map, List.length_range] at h3
    omega
/-! ## Amounts divided into equal parts. -/
theorem list_ext {xs ys : List Int} (hl : xs.length = ys.length) (h : ∀ i : Int, 0 ≤ i → i < xs.length → rd xs i = rd ys i) : xs = ys := by
  apply List.ext_getElem hl
  intro n h1 h2
  have := h n (by omega) (by omega)
  unfold rd at this
  simp only [Int.toNat_natCast] at this
  rw [List.getD_eq_getElem?_getD, List.getD_eq_getElem?_getD, List.getElem?_eq_getElem h1, List.getElem?_eq_getElem h2] at this
  exact this
theorem rd_set (xs : List Int) (i j v : Int) (h0 : 0 ≤ i) (h1 : i < xs.length) (h2 : 0 ≤ j) : rd (xs.set i.toNat v) j = if i = j then v else rd xs j := by
  unfold rd
  rw [List.getD_eq_getElem?_getD, List.getElem?_set]
  by_cases c : i = j
  · subst c; rw [if_pos rfl, if_pos (by omega), if_pos rfl]; rfl
  · rw [if_neg (by omega), if_neg c, List.getD_eq_getElem?_getD]
theorem rd_zeros (n : Nat) (j : Int) : rd (List.replicate n 0) j = 0 := by
  unfold rd
  rw [List.getD_eq_getElem?_getD, List.getElem?_replicate]
  split <;> rfl
theorem rd_snoc (xs : List Int) (v j : Int) (h0 : 0 ≤ j) : rd (xs ++ [v]) j = if j < xs.length then rd xs j else if j = xs.length then v else 0 := by
  unfold rd
  rw [List.getD_eq_getElem?_getD, List.getD_eq_getElem?_getD]
  by_cases c : j < xs.length
  · rw [if_pos c, List.getElem?_append_left (by omega)]
  · rw [if_neg c, List.getElem?_append_right (by omega)]
    by_cases c2 : j = xs.length
    · rw [if_pos c2, c2]; simp
    · rw [if_neg c2, List.getElem?_eq_none (by simp; omega)]; rfl
/-! ## What an exact law asks of lists of numbers. -/
theorem eqIntS_l0 (xs : List Int) (hl : xs.length ≤ 4000000) (ys : List Int) : ∀ i : Int, At xs i ys → EvS (fun k => laws_eqIntS.l0 k xs xs i) (· = true) := by
  induction ys with
  | nil =>
    intro i h
    refine EvS.step (fun k => by rw [laws_eqIntS.l0]) ?_
    exact EvS.neg (by have := h.ge; omega) (EvS.now rfl)
  | cons y ys ih =>
    intro i h
    refine EvS.step (fun k => by rw [laws_eqIntS.l0]) ?_
    exact EvS.pos h.lt (EvS.pos h.nonneg (EvS.pos h.lt (EvS.pos (by simp) (ih _ (h.wnext (by omega))))))
theorem eqIntS_ok (xs : List Int) (hl : xs.length ≤ 4000000) : EvS (fun k => laws_eqIntS.f k xs xs) (· = true) := by
  simp only [laws_eqIntS.f]
  exact EvS.pos (by trivial) (eqIntS_l0 xs hl xs 0 (At.zero xs))
structure Marked (k : Int) (n : Nat) (m : List Int) : Prop where
  len : m.length = n
  val : ∀ j : Int, 0 ≤ j → j < n → rd m j = k + j
theorem markIntS_l0 (n : Nat) (hn : n ≤ 4000000) (k0 : Int) (h0 : 0 ≤ k0) (h1 : k0 ≤ 1099511627776) (d : Nat) : ∀ (i : Int) (m : List Int), i + d = n → 0 ≤ i → m.length = n → (∀ j : Int, 0 ≤ j → j < i → rd m j = k0 + j) →
    EvS (fun k => laws_markIntS.l0 k m (k0 + i) i) (fun r => r.1 = k0 + n ∧ Marked k0 n r.2) := by
  induction d with
  | zero =>
    intro i m e1 e2 e3 e4
    refine EvS.step (fun k => by rw [laws_markIntS.l0]) ?_
    exact EvS.neg (by omega) (EvS.now ⟨by dsimp only; omega, e3, fun j j0 j1 => e4 j j0 (by omega)⟩)
  | succ d ih =>
    intro i m e1 e2 e3 e4
    refine EvS.step (fun k => by rw [laws_markIntS.l0]) ?_
    refine EvS.pos (by omega) (EvS.pos e2 ?_)
    rw [w64 (x := k0 + i + 1) (by omega) (by omega), w64 (x := i + 1) (by omega) (by omega), show k0 + i + 1 = k0 + (i + 1) by omega]
    refine ih _ _ (by omega) (by omega) (by simpa using e3) (fun j j0 j1 => ?_)
    rw [rd_set _ _ _ _ e2 (by omega) j0]
    by_cases e : i = j
    · rw [if_pos e, e]
    · rw [if_neg e]; exact e4 j j0 (by omega)
theorem markIntS_ok (xs : List Int) (hl : xs.length ≤ 4000000) (k0 : Int) (h0 : 0 ≤ k0) (h1 : k0 ≤ 1099511627776) : EvS (fun k => laws_markIntS.f k xs k0) (fun r => r.1 = k0 + xs.length ∧ Marked k0 xs.length r.2) := by
  simp only [laws_markIntS.f]
  have := markIntS_l0 xs.length hl k0 h0 h1 xs.length 0 xs (by omega) (by omega) rfl (fun j j0 j1 => by omega)
  rw [show k0 + 0 = k0 by omega] at this
  exact this
theorem heldIntS_l0 (n : Nat) (hn : n ≤ 4000000) (k0 : Int) (h0 : 0 ≤ k0) (h1 : k0 ≤ 1099511627776) (m : List Int) (hm : Marked k0 n m) (d : Nat) : ∀ i : Int, i + d = n → 0 ≤ i → EvS (fun k => laws_heldIntS.l0 k m (k0 + i) i) (· = k0 + n) := by
  have e3 := hm.len
  induction d with
  | zero =>
    intro i e1 e2
    refine EvS.step (fun k => by rw [laws_heldIntS.l0]) ?_
    exact EvS.neg (by omega) (EvS.now (by omega))
  | succ d ih =>
    intro i e1 e2
    refine EvS.step (fun k => by rw [laws_heldIntS.l0]) ?_
    refine EvS.pos (by omega) (EvS.pos e2 (EvS.pos (hm.val i e2 (by omega)) ?_))
    rw [w64 (x := k0 + i + 1) (by omega) (by omega), w64 (x := i + 1) (by omega) (by omega), show k0 + i + 1 = k0 + (i + 1) by omega]
    exact ih _ (by omega) (by omega)
theorem heldIntS_ok (n : Nat) (hn : n ≤ 4000000) (k0 : Int) (h0 : 0 ≤ k0) (h1 : k0 ≤ 1099511627776) (m : List Int) (hm : Marked k0 n m) : EvS (fun k => laws_heldIntS.f k m k0) (· = k0 + n) := by
  simp only [laws_heldIntS.f]
  have := heldIntS_l0 n hn k0 h0 h1 m hm n 0 (by omega) (by omega)
  rw [show k0 + 0 = k0 by omega] at this
  exact this
/-! ## What an exact law asks of lists of the struct Reveal. -/
def cvReveal (x : S72) : S70 := ⟨x.f0, x.f1, x.f2⟩
theorem at_rdReveal {xs ys : List S70} {i : Int} {y : S70} (h : At xs i (y :: ys)) : rd_T70 xs i = y := h.getD _
theorem at_rdLReveal {xs ys : List S72} {i : Int} {y : S72} (h : At xs i (y :: ys)) : rd_T72 xs i = y := h.getD _
theorem rdReveal_set (xs : List S70) (i j : Int) (v : S70) (h0 : 0 ≤ i) (h1 : i < xs.length) (h2 : 0 ≤ j) : rd_T70 (xs.set i.toNat v) j = if i = j then v else rd_T70 xs j := by
  unfold rd_T70
  rw [List.getD_eq_getElem?_getD, List.getElem?_set]
  by_cases c : i = j
  · subst c; rw [if_pos rfl, if_pos (by omega), if_pos rfl]; rfl
  · rw [if_neg (by omega), if_neg c, List.getD_eq_getElem?_getD]
theorem listReveal_ext {xs ys : List S70} (hl : xs.length = ys.length) (h : ∀ i : Int, 0 ≤ i → i < xs.length → rd_T70 xs i = rd_T70 ys i) : xs = ys := by
  apply List.ext_getElem hl
  intro n h1 h2
  have := h n (by omega) (by omega)
  unfold rd_T70 at this
  simp only [Int.toNat_natCast] at this
  rw [List.getD_eq_getElem?_getD, List.getD_eq_getElem?_getD, List.getElem?_eq_getElem h1, List.getElem?_eq_getElem h2] at this
  exact this
theorem rdReveal_map (xs : List S72) (i : Int) (h0 : 0 ≤ i) (h1 : i < xs.length) : rd_T70 (xs.map cvReveal) i = cvReveal (rd_T72 xs i) := by
  unfold rd_T70 rd_T72
  rw [List.getD_eq_getElem?_getD, List.getD_eq_getElem?_getD, List.getElem?_map, List.getElem?_eq_getElem (show i.toNat < xs.length by omega)]
  rfl
theorem szReveal_eq (xs : List S72) (c : Int) (h0 : 0 ≤ c) (h1 : c ≤ 1048576) (hx : xs.length ≤ 9223372036854775807) : laws_szRevealS.f xs c = some (if c - xs.length < 0 then -1 else c - xs.length) := by
  unfold laws_szRevealS.f
  rw [w64 (x := c - (xs.length : Int)) (by omega) (by omega)]
  split <;> rfl
theorem toRevealS_l0 (xs : List S72) (hl : xs.length ≤ 4000000) (ys : List S72) : ∀ (i : Int) (s : List S70), At xs i ys → s.length = xs.length → (∀ j : Int, 0 ≤ j → j < i → rd_T70 s j = cvReveal (rd_T72 xs j)) → EvS (fun k => laws_toRevealS.l0 k xs s i) (· = xs.map cvReveal) := by
  induction ys with
  | nil =>
    intro i s h h1 h2
    have := h.ge
    refine EvS.step (fun k => by rw [laws_toRevealS.l0]) ?_
    exact EvS.neg (by omega) (EvS.now (listReveal_ext (by rw [List.length_map, h1]) (fun j j0 j1 => by rw [h2 j j0 (by omega), rdReveal_map xs j j0 (by omega)])))
  | cons y ys ih =>
    intro i s h h1 h2
    have g1 := h.lt
    have g2 := h.nonneg
    refine EvS.step (fun k => by rw [laws_toRevealS.l0]) ?_
    refine EvS.pos h.lt (EvS.pos h.nonneg (EvS.call (by unfold laws_toReveal.f; rfl) (EvS.pos (by omega) ?_)))
    rw [at_rdLReveal h, w64 (by omega) (by omega)]
    refine ih _ _ h.next (by simpa using h1) (fun j j0 j1 => ?_)
    rw [rdReveal_set _ _ _ _ g2 (by omega) j0]
    by_cases e : i = j
    · subst e; rw [if_pos rfl, at_rdLReveal h]; rfl
    · rw [if_neg e]; exact h2 j j0 (by omega)
theorem toRevealS_ok (xs : List S72) (hl : xs.length ≤ 4000000) : EvS (fun k => laws_toRevealS.f k xs) (· = xs.map cvReveal) := by
  simp only [laws_toRevealS.f]
  exact EvS.pos (by omega) (EvS.pos (by omega) (toRevealS_l0 xs hl xs 0 _ (At.zero _) (by simp) (fun j j0 j1 => by omega)))
theorem eqReveal_self (x : S70) : laws_eqReveal.f x.f0 x.f1 x.f2 x.f0 x.f1 x.f2 = some true := by
  unfold laws_eqReveal.f
  simp
theorem eqRevealS_l0 (xs : List S70) (hl : xs.length ≤ 4000000) (ys : List S70) : ∀ i : Int, At xs i ys → EvS (fun k => laws_eqRevealS.l0 k xs xs i) (· = true) := by
  induction ys with
  | nil =>
    intro i h
    refine EvS.step (fun k => by rw [laws_eqRevealS.l0]) ?_
    exact EvS.neg (by have := h.ge; omega) (EvS.now rfl)
  | cons y ys ih =>
    intro i h
    refine EvS.step (fun k => by rw [laws_eqRevealS.l0]) ?_
    exact EvS.pos h.lt (EvS.pos h.nonneg (EvS.pos h.lt (EvS.call (eqReveal_self _) (EvS.pos rfl (ih _ (h.wnext (by omega)))))))
theorem eqRevealS_ok (xs : List S70) (hl : xs.length ≤ 4000000) : EvS (fun k => laws_eqRevealS.f k xs xs) (· = true) := by
  simp only [laws_eqRevealS.f]
  exact EvS.pos (by trivial) (eqRevealS_l0 xs hl xs 0 (At.zero xs))
structure MarkedReveal (k : Int) (n : Nat) (m : List S70) : Prop where
  len : m.length = n
  val : ∀ j : Int, 0 ≤ j → j < n → rd_T70 m j = ⟨k + 3 * j, k + 3 * j + 1, k + 3 * j + 2⟩
theorem markRevealS_l0 (n : Nat) (hn : n ≤ 4000000) (k0 : Int) (h0 : 0 ≤ k0) (h1 : k0 ≤ 1099511627776) (d : Nat) : ∀ (i : Int) (m : List S70), i + d = n → 0 ≤ i → m.length = n → (∀ j : Int, 0 ≤ j → j < i → rd_T70 m j = ⟨k0 + 3 * j, k0 + 3 * j + 1, k0 + 3 * j + 2⟩) →
    EvS (fun k => laws_markRevealS.l0 k m (k0 + 3 * i) i) (fun r => r.1 = k0 + 3 * n ∧ MarkedReveal k0 n r.2) := by
  induction d with
  | zero =>
    intro i m e1 e2 e3 e4
    refine EvS.step (fun k => by rw [laws_markRevealS.l0]) ?_
    exact EvS.neg (by omega) (EvS.now ⟨by dsimp only; omega, e3, fun j j0 j1 => e4 j j0 (by omega)⟩)
  | succ d ih =>
    intro i m e1 e2 e3 e4
    have self : ∀ (l : List S70) (v : S70), l.length = n → rd_T70 (l.set i.toNat v) i = v := fun l v hl => by rw [rdReveal_set _ _ _ _ e2 (by omega) e2, if_pos rfl]
    refine EvS.step (fun k => by rw [laws_markRevealS.l0]) ?_
    refine EvS.pos (by omega) (EvS.pos e2 ?_)
    refine EvS.onsome (EvS.onsome (?_))
    simp only [List.set_set, self m _ e3]
    rw [w64 (x := k0 + 3 * i + 1) (by omega) (by omega), w64 (x := k0 + 3 * i + 1 + 1) (by omega) (by omega), w64 (x := k0 + 3 * i + 1 + 1 + 1) (by omega) (by omega), w64 (x := i + 1) (by omega) (by omega)]
    rw [show k0 + 3 * i + 1 + 1 + 1 = k0 + 3 * (i + 1) by omega]
    refine ih _ _ (by omega) (by omega) (by simpa using e3) (fun j j0 j1 => ?_)
    rw [rdReveal_set _ _ _ _ e2 (by omega) j0]
    by_cases e : i = j
    · subst e; rw [if_pos rfl]; simp only [Int.add_assoc]; rfl
    · rw [if_neg e]; exact e4 j j0 (by omega)
theorem markRevealS_ok (xs : List S70) (hl : xs.length ≤ 4000000) (k0 : Int) (h0 : 0 ≤ k0) (h1 : k0 ≤ 1099511627776) : EvS (fun k => laws_markRevealS.f k xs k0) (fun r => r.1 = k0 + 3 * xs.length ∧ MarkedReveal k0 xs.length r.2) := by
  simp only [laws_markRevealS.f]
  have := markRevealS_l0 xs.length hl k0 h0 h1 xs.length 0 xs (by omega) (by omega) rfl (fun j j0 j1 => by omega)
  rw [show k0 + 3 * 0 = k0 by omega] at this
  exact this
/-! ## Orders and their numbers. -/
def fac : Nat → Int
  | 0 => 1
  | n + 1 => ((n : Int) + 1) * fac n
theorem fac_pos (n : Nat) : 1 ≤ fac n := by
  induction n with
  | zero => exact Int.le_refl _
  | succ n ih =>
    simp only [fac]
    have := Int.mul_le_mul (show (1 : Int) ≤ (n : Int) + 1 by omega) ih (by omega) (by omega)
    omega
theorem fac_9 (n : Nat) (h : n ≤ 9) : fac n ≤ 362880 := by
  have : ∀ n : Fin 10, fac n.val ≤ 362880 := by decide
  exact this ⟨n, by omega⟩
/-- Division with a rest, told by its parts. -/
theorem div_of {q f r : Int} (hf : 0 < f) (h0 : 0 ≤ r) (h1 : r < f) : (q * f + r) / f = q ∧ (q * f + r) % f = r :=
  (Int.ediv_emod_unique hf).2 ⟨by rw [Int.mul_comm]; omega, h0, h1⟩
theorem div_parts (n f : Int) (hf : 0 < f) : n / f * f + n % f = n ∧ 0 ≤ n % f ∧ n % f < f :=
  ⟨by rw [Int.mul_comm]; exact Int.mul_ediv_add_emod n f, Int.emod_nonneg _ (by omega), Int.emod_lt_of_pos _ hf⟩
theorem div_range {n : Int} {d : Nat} (h0 : 0 ≤ n) (h1 : n < fac (d + 1)) : 0 ≤ n / fac d ∧ n / fac d ≤ d := by
  have hf := fac_pos d
  refine ⟨Int.ediv_nonneg h0 (by omega), ?_⟩
  have : n / fac d < (d : Int) + 1 := Int.ediv_lt_of_lt_mul (by omega) h1
  omega
def upsL : Nat → Int → List Int
  | 0, _ => []
  | d + 1, i => i :: upsL d (i + 1)
theorem upsL_len (d : Nat) : ∀ i : Int, (upsL d i).length = d := by
  induction d with
  | zero => intro i; rfl
  | succ d ih => intro i; simp [upsL, ih]
theorem upsL_mem (d : Nat) : ∀ i c : Int, c ∈ upsL d i ↔ i ≤ c ∧ c < i + d := by
  induction d with
  | zero => intro i c; simp only [upsL, List.not_mem_nil, false_iff]; omega
  | succ d ih => intro i c; simp only [upsL, List.mem_cons, ih]; omega
abbrev Asc (l : List Int) : Prop := l.Pairwise (· < ·)
theorem upsL_asc (d : Nat) : ∀ i : Int, Asc (upsL d i) := by
  induction d with
  | zero => intro i; exact List.Pairwise.nil
  | succ d ih =>
    intro i
    refine List.Pairwise.cons (fun c hc => ?_) (ih _)
    have := (upsL_mem d (i + 1) c).1 hc
    omega
/-- The order with a number. -/
def ordL : Nat → Int → List Int → List Int
  | 0, _, _ => []
  | d + 1, n, l => rd l (n / fac d) :: ordL d (n % fac d) (l.eraseIdx (n / fac d).toNat)
theorem ordL_len (d : Nat) : ∀ (n : Int) (l : List Int), (ordL d n l).length = d := by
  induction d with
  | zero => intro n l; rfl
  | succ d ih => intro n l; simp [ordL, ih]
theorem rd_get (l : List Int) (q : Int) (h0 : 0 ≤ q) (h : q.toNat < l.length) : rd l q = l[q.toNat] := by
  unfold rd
  rw [List.getD_eq_getElem?_getD, List.getElem?_eq_getElem h]; rfl
theorem erase_perm {l : List Int} {n : Nat} (h : n < l.length) : (l[n] :: l.eraseIdx n).Perm l := by
  have e : l = l.take n ++ l[n] :: l.drop (n + 1) := by rw [List.getElem_cons_drop, List.take_append_drop]
  rw [List.eraseIdx_eq_take_drop_succ]
  refine List.perm_middle.symm.trans ?_
  rw [← e]
theorem ordL_perm (d : Nat) : ∀ (n : Int) (l : List Int), l.length = d → 0 ≤ n → n < fac d → (ordL d n l).Perm l := by
  induction d with
  | zero =>
    intro n l hl _ _
    rw [List.length_eq_zero_iff.1 hl]
    exact List.Perm.refl _
  | succ d ih =>
    intro n l hl h0 h1
    have hf := fac_pos d
    have hq := div_range h0 h1
    have hp := div_parts n (fac d) (by omega)
    have hlt : (n / fac d).toNat < l.length := by omega
    simp only [ordL]
    rw [rd_get l _ hq.1 hlt]
    exact (List.Perm.cons _ (ih _ _ (by rw [List.length_eraseIdx_of_lt hlt]; omega) hp.2.1 hp.2.2)).trans (erase_perm hlt)
def lessC (x : Int) (l : List Int) : Int := ((l.countP (fun y => decide (y < x)) : Nat) : Int)
theorem lessC_cons (x y : Int) (l : List Int) : lessC x (y :: l) = lessC x l + if y < x then 1 else 0 := by
  unfold lessC
  rw [List.countP_cons]
  by_cases h : y < x <;> simp [h]
theorem lessC_range (x : Int) (l : List Int) : 0 ≤ lessC x l ∧ lessC x l ≤ l.length := by
  have := List.countP_le_length (p := fun y => decide (y < x)) (l := l)
  unfold lessC
  omega
theorem lessC_perm {x : Int} {l l' : List Int} (h : l.Perm l') : lessC x l = lessC x l' := by
  unfold lessC
  rw [h.countP_eq]
/-- In an ascending list as many are less than a number as stand ahead of it. -/
theorem lessC_at (l : List Int) : ∀ (q : Nat) (h : q < l.length), Asc l → lessC l[q] (l.eraseIdx q) = q := by
  induction l with
  | nil => intro q h; simp at h
  | cons a l ih =>
    intro q h hs
    have h1 := List.pairwise_cons.1 hs
    cases q with
    | zero =>
      simp only [List.getElem_cons_zero, List.eraseIdx_cons_zero]
      unfold lessC
      rw [List.countP_eq_zero.2 (fun y hy => by have := h1.1 y hy; simp; omega)]
    | succ q =>
      have hq : q < l.length := by simpa using h
      simp only [List.getElem_cons_succ, List.eraseIdx_cons_succ]
      rw [lessC_cons, ih q hq h1.2, if_pos (h1.1 _ (List.getElem_mem hq))]
      omega
def rankL : List Int → Int
  | [] => 0
  | x :: xs => lessC x xs * fac xs.length + rankL xs
theorem rankL_range (l : List Int) : 0 ≤ rankL l ∧ rankL l < fac l.length := by
  induction l with
  | nil => simp [rankL, fac]
  | cons x xs ih =>
    have h1 := lessC_range x xs
    have hf := fac_pos xs.length
    have h2 : 0 ≤ lessC x xs * fac xs.length := Int.mul_nonneg h1.1 (by omega)
    have h3 : lessC x xs * fac xs.length ≤ (xs.length : Int) * fac xs.length := Int.mul_le_mul_of_nonneg_right h1.2 (by omega)
    simp only [rankL, List.length_cons, fac, Int.add_mul, Int.one_mul]
    omega
theorem rank_ord (d : Nat) : ∀ (n : Int) (l : List Int), l.length = d → 0 ≤ n → n < fac d → Asc l → rankL (ordL d n l) = n := by
  induction d with
  | zero =>
    intro n l hl h0 h1 _
    simp only [fac] at h1
    simp only [ordL, rankL]
    omega
  | succ d ih =>
    intro n l hl h0 h1 hs
    have hf := fac_pos d
    have hq := div_range h0 h1
    have hp := div_parts n (fac d) (by omega)
    have hlt : (n / fac d).toNat < l.length := by omega
    have hel : (l.eraseIdx (n / fac d).toNat).length = d := by rw [List.length_eraseIdx_of_lt hlt]; omega
    simp only [ordL, rankL]
    rw [ih _ _ hel hp.2.1 hp.2.2 (hs.sublist (List.eraseIdx_sublist l _)), ordL_len, lessC_perm (ordL_perm d _ _ hel hp.2.1 hp.2.2), rd_get l _ hq.1 hlt, lessC_at l _ hlt hs, Int.toNat_of_nonneg hq.1]
    exact hp.1
theorem ord_rank (d : Nat) : ∀ o l : List Int, o.Perm l → l.length = d → Asc l → ordL d (rankL o) l = o := by
  induction d with
  | zero =>
    intro o l hp hl _
    have := List.length_eq_zero_iff.1 hl
    subst this
    rw [List.perm_nil.1 hp]
    rfl
  | succ d ih =>
    intro o l hp hl hs
    cases o with
    | nil => have := hp.length_eq; simp at this; omega
    | cons x xs =>
      have hxl : xs.length = d := by have := hp.length_eq; simp at this; omega
      obtain ⟨j, hj, hx⟩ := List.getElem_of_mem (hp.subset List.mem_cons_self)
      have hr : xs.Perm (l.eraseIdx j) := by
        have h2 := hp.trans (erase_perm hj).symm
        rw [hx] at h2
        exact h2.cons_inv
      have hle : lessC x xs = j := by rw [lessC_perm hr, ← hx, lessC_at l j hj hs]
      have hrr := rankL_range xs
      rw [hxl] at hrr
      have hd := div_of (q := (j : Int)) (f := fac d) (r := rankL xs) (by omega) hrr.1 hrr.2
      simp only [ordL, rankL]
      rw [hle, hxl, hd.1, hd.2, Int.toNat_natCast, rd_get l j (by omega) (by omega)]
      simp only [Int.toNat_natCast]
      rw [hx, ih xs _ hr (by rw [List.length_eraseIdx_of_lt hj]; omega) (hs.sublist (List.eraseIdx_sublist l _))]
/-! ### the program's and the reference's functions -/
theorem impl_factorial_l0 (n : Nat) (hn : n ≤ 9) (d : Nat) : ∀ (i : Int) (e : Nat), i + d = n + 1 → i = (e : Int) + 1 → EvS (fun k => impl_factorial.l0 k n (fac e) i) (· = fac n) := by
  induction d with
  | zero =>
    intro i e h1 h2
    refine EvS.step (fun k => by rw [impl_factorial.l0]) ?_
    exact EvS.neg (by omega) (EvS.now (by rw [show e = n by omega]))
  | succ d ih =>
    intro i e h1 h2
    have hf := fac_9 (e + 1) (by omega)
    have hf2 := fac_pos (e + 1)
    have he : fac e * i = fac (e + 1) := by rw [h2, fac, Int.mul_comm]
    refine EvS.step (fun k => by rw [impl_factorial.l0]) ?_
    rw [he, w64 (x := fac (e + 1)) (by omega) (by omega), w64 (x := i + 1) (by omega) (by omega)]
    exact EvS.pos (by omega) (ih (i + 1) (e + 1) (by omega) (by omega))
theorem impl_factorial_ok (n : Nat) (hn : n ≤ 9) : EvS (fun k => impl_factorial.f k n) (· = fac n) := by
  simp only [impl_factorial.f]
  cases n with
  | zero =>
    refine EvS.step (fun k => by rw [impl_factorial.l0]) ?_
    exact EvS.neg (by omega) (EvS.now rfl)
  | succ n => exact impl_factorial_l0 (n + 1) hn n 2 1 (by omega) (by omega)
theorem spec_factorial_l0 (n : Nat) (hn : n ≤ 9) (d : Nat) : ∀ (i : Int) (e : Nat), i + d = n + 1 → i = (e : Int) + 1 → EvS (fun k => spec_factorial.l0 k n (fac e) i) (· = fac n) := by
  induction d with
  | zero =>
    intro i e h1 h2
    refine EvS.step (fun k => by rw [spec_factorial.l0]) ?_
    exact EvS.neg (by omega) (EvS.now (by rw [show e = n by omega]))
  | succ d ih =>
    intro i e h1 h2
    have hf := fac_9 (e + 1) (by omega)
    have hf2 := fac_pos (e + 1)
    have he : fac e * i = fac (e + 1) := by rw [h2, fac, Int.mul_comm]
    refine EvS.step (fun k => by rw [spec_factorial.l0]) ?_
    rw [he, w64 (x := fac (e + 1)) (by omega) (by omega), w64 (x := i + 1) (by omega) (by omega)]
    exact EvS.pos (by omega) (ih (i + 1) (e + 1) (by omega) (by omega))
theorem spec_factorial_ok (n : Nat) (hn : n ≤ 9) : EvS (fun k => spec_factorial.f k n) (· = fac n) := by
  simp only [spec_factorial.f]
  cases n with
  | zero =>
    refine EvS.step (fun k => by rw [spec_factorial.l0]) ?_
    exact EvS.neg (by omega) (EvS.now rfl)
  | succ n => exact spec_factorial_l0 (n + 1) hn n 2 1 (by omega) (by omega)
def orderAt (n m : Int) : List Int := if (1 ≤ m ∧ m ≤ 8) ∧ 0 ≤ n ∧ n < fac m.toNat then ordL m.toNat n (upsL m.toNat 0) else []
theorem orderAt_len (n m : Int) : (orderAt n m).length ≤ 8 := by
  unfold orderAt
  split
  · rw [ordL_len]; omega
  · simp
theorem delete_eq (l : List Int) (i : Int) (h0 : 0 ≤ i) (h1 : i < l.length) : slices_Delete_int_int.f l i (i + 1) = some (l.eraseIdx i.toNat) := by
  unfold slices_Delete_int_int.f
  rw [if_pos h0, if_pos h1, if_pos rfl]
theorem impl_order_l1 (d : Nat) : ∀ (n : Int) (l out : List Int), l.length = d → d ≤ 8 → 0 ≤ n → n < fac d → out.length + d ≤ 8 → EvS (fun k => impl_OrderAt.l1 k n l out) (· = out ++ ordL d n l) := by
  induction d with
  | zero =>
    intro n l out hl hd h0 h1 ho
    refine EvS.step (fun k => by rw [impl_OrderAt.l1]) ?_
    exact EvS.neg (by omega) (EvS.now (by simp [ordL]))
  | succ d ih =>
    intro n l out hl hd h0 h1 ho
    have hf := fac_pos d
    have hf9 := fac_9 d (by omega)
    have hf9' := fac_9 (d + 1) (by omega)
    have hq := div_range h0 h1
    have hp := div_parts n (fac d) (by omega)
    have hlt : (n / fac d).toNat < l.length := by omega
    have e1 : wrap64 ((l.length : Int) - 1) = (d : Int) := by rw [w64 (by omega) (by omega)]; omega
    refine EvS.step (fun k => by rw [impl_OrderAt.l1]) ?_
    rw [e1]
    refine EvS.pos (by omega) (EvS.bindv (impl_factorial_ok d (by omega)) (EvS.neg (by omega) ?_))
    rw [tdiv_pos n (fac d) h0, tmod_pos n (fac d) h0, w64 (x := n / fac d) (by omega) (by omega), w64 (x := n / fac d + 1) (by omega) (by omega)]
    refine EvS.pos hq.1 (EvS.pos (by omega) (EvS.pos (by omega) (EvS.call (delete_eq l _ hq.1 (by omega)) ?_)))
    refine EvS.mono (ih (n % fac d) _ _ (by rw [List.length_eraseIdx_of_lt hlt]; omega) (by omega) hp.2.1 hp.2.2 (by simp; omega)) (fun r hr => ?_)
    rw [hr, ordL]
    simp
theorem impl_order_l0 (n m : Int) (hm : 1 ≤ m ∧ m ≤ 8) (h0 : 0 ≤ n) (h1 : n < fac m.toNat) (d : Nat) : ∀ (i : Int) (out : List Int), i + d = m → 0 ≤ i → (out.length : Int) = i → out ++ upsL d i = upsL m.toNat 0 → EvS (fun k => impl_OrderAt.l0 k n out m i) (· = ordL m.toNat n (upsL m.toNat 0)) := by
  induction d with
  | zero =>
    intro i out e1 e2 e3 e4
    refine EvS.step (fun k => by rw [impl_OrderAt.l0]) ?_
    simp only [upsL, List.append_nil] at e4
    subst e4
    refine EvS.neg (by omega) (EvS.mono (impl_order_l1 m.toNat n _ [] (upsL_len _ _) (by omega) h0 h1 (by simp; omega)) (fun r hr => ?_))
    rw [hr]; rfl
  | succ d ih =>
    intro i out e1 e2 e3 e4
    refine EvS.step (fun k => by rw [impl_OrderAt.l0]) ?_
    rw [w64 (x := i + 1) (by omega) (by omega)]
    refine EvS.pos (by omega) (EvS.pos (by omega) (ih (i + 1) _ (by omega) (by omega) (by simp; omega) ?_))
    rw [← e4, upsL]
    simp
theorem impl_OrderAt_ok (n m : Int) : EvS (fun k => impl_OrderAt.f k n m) (· = orderAt n m) := by
  have jt : ¬ ((1 ≤ m ∧ m ≤ 8) ∧ 0 ≤ n ∧ n < fac m.toNat) → EvS (fun k => impl_OrderAt.j0 k n m true) (· = orderAt n m) := by
    intro g
    refine EvS.step (fun k => by rw [impl_OrderAt.j0]) ?_
    exact EvS.pos rfl (EvS.now (by unfold orderAt; rw [if_neg g]))
  simp only [impl_OrderAt.f]
  refine EvS.ite (fun c => jt (fun g => by omega)) (fun c1 => EvS.ite (fun c => jt (fun g => by omega)) (fun c2 => EvS.ite (fun c => jt (fun g => by omega)) (fun c3 => ?_)))
  obtain ⟨q, rfl⟩ := Int.eq_ofNat_of_zero_le (show 0 ≤ m by omega)
  refine EvS.bindv (impl_factorial_ok q (by omega)) ?_
  by_cases c4 : n ≥ fac q
  · rw [decide_eq_true c4]
    exact jt (fun g => by have := g.2.2; rw [Int.toNat_natCast] at this; omega)
  · rw [decide_eq_false c4]
    refine EvS.step (fun k => by rw [impl_OrderAt.j0]) ?_
    refine EvS.neg (by simp) ?_
    unfold orderAt
    rw [if_pos ⟨by omega, by omega, by rw [Int.toNat_natCast]; omega⟩]
    exact impl_order_l0 n q (by omega) (by omega) (by rw [Int.toNat_natCast]; omega) q 0 [] (by omega) (by omega) rfl (by simp)
theorem spec_copy_eq (l : List Int) (h : l.length ≤ 4000000) : spec_copyInts.f l = some l := by
  unfold spec_copyInts.f
  simp only [Option.bind_some, List.length_nil, List.nil_append]
  rw [if_pos (by omega)]
theorem spec_order_l1 (d : Nat) : ∀ (n : Int) (l out : List Int), l.length = d → d ≤ 8 → 0 ≤ n → n < fac d → out.length + d ≤ 8 → EvS (fun k => spec_orderAt.l1 k n l out d) (· = out ++ ordL d n l) := by
  induction d with
  | zero =>
    intro n l out hl hd h0 h1 ho
    refine EvS.step (fun k => by rw [spec_orderAt.l1]) ?_
    exact EvS.neg (by omega) (EvS.now (by simp [ordL]))
  | succ d ih =>
    intro n l out hl hd h0 h1 ho
    have hf := fac_pos d
    have hf9 := fac_9 d (by omega)
    have hf9' := fac_9 (d + 1) (by omega)
    have hq := div_range h0 h1
    have hp := div_parts n (fac d) (by omega)
    have hlt : (n / fac d).toNat < l.length := by omega
    have e1 : wrap64 (((d + 1 : Nat) : Int) - 1) = (d : Int) := by rw [w64 (by omega) (by omega)]; omega
    refine EvS.step (fun k => by rw [spec_orderAt.l1]) ?_
    rw [e1]
    refine EvS.pos (by omega) (EvS.bindv (spec_factorial_ok d (by omega)) (EvS.neg (by omega) (EvS.bindv (spec_factorial_ok d (by omega)) (EvS.neg (by omega) ?_))))
    rw [tdiv_pos n (fac d) h0, tmod_pos n (fac d) h0, w64 (x := n / fac d) (by omega) (by omega), w64 (x := n / fac d + 1) (by omega) (by omega)]
    refine EvS.pos hq.1 (EvS.pos (by omega) (EvS.pos (by omega) (EvS.pos (by omega) (EvS.pos (by omega) (EvS.call (spec_copy_eq _ (by rw [List.length_drop]; omega)) (EvS.pos (by omega) (EvS.onsome (EvS.pos (by rw [List.length_take, List.length_drop]; omega) ?_))))))))
    have he : l.take (n / fac d).toNat ++ l.drop (n / fac d + 1).toNat = l.eraseIdx (n / fac d).toNat := by
      rw [List.eraseIdx_eq_take_drop_succ, show (n / fac d + 1).toNat = (n / fac d).toNat + 1 by omega]
    rw [he]
    refine EvS.mono (ih (n % fac d) _ _ (by rw [List.length_eraseIdx_of_lt hlt]; omega) (by omega) hp.2.1 hp.2.2 (by simp; omega)) (fun r hr => ?_)
    rw [hr, ordL]
    simp
theorem spec_order_l0 (n m : Int) (hm : 1 ≤ m ∧ m ≤ 8) (h0 : 0 ≤ n) (h1 : n < fac m.toNat) (d : Nat) : ∀ (i : Int) (out : List Int), i + d = m → 0 ≤ i → (out.length : Int) = i → out ++ upsL d i = upsL m.toNat 0 → EvS (fun k => spec_orderAt.l0 k n m out i) (· = ordL m.toNat n (upsL m.toNat 0)) := by
  induction d with
  | zero =>
    intro i out e1 e2 e3 e4
    refine EvS.step (fun k => by rw [spec_orderAt.l0]) ?_
    simp only [upsL, List.append_nil] at e4
    subst e4
    refine EvS.neg (by omega) ?_
    have := spec_order_l1 m.toNat n (upsL m.toNat 0) [] (upsL_len _ _) (by omega) h0 h1 (by simp; omega)
    rw [Int.toNat_of_nonneg (by omega)] at this
    refine EvS.mono this (fun r hr => ?_)
    rw [hr]; rfl
  | succ d ih =>
    intro i out e1 e2 e3 e4
    refine EvS.step (fun k => by rw [spec_orderAt.l0]) ?_
    rw [w64 (x := i + 1) (by omega) (by omega)]
    refine EvS.pos (by omega) (EvS.pos (by omega) (ih (i + 1) _ (by omega) (by omega) (by simp; omega) ?_))
    rw [← e4, upsL]
    simp
theorem spec_orderAt_ok (n m : Int) (hm : 1 ≤ m ∧ m ≤ 8) (h0 : 0 ≤ n) (h1 : n < fac m.toNat) : EvS (fun k => spec_orderAt.f k n m) (· = orderAt n m) := by
  simp only [spec_orderAt.f]
  unfold orderAt
  rw [if_pos ⟨hm, h0, h1⟩]
  exact spec_order_l0 n m hm h0 h1 m.toNat 0 [] (by omega) (by omega) rfl (by simp)
/-! ## Reveals. -/
def VR1 (e : S70) : Prop := (0 ≤ e.f1 ∧ e.f1 ≤ 50000) ∧ 0 ≤ e.f2 ∧ e.f2 ≤ 9999
instance (e : S70) : Decidable (VR1 e) := by unfold VR1; infer_instance
def VRs (l : List S70) : Prop := l.length ≤ 12 ∧ ∀ e ∈ l, VR1 e
instance (l : List S70) : Decidable (VRs l) := by unfold VRs; infer_instance
theorem all_cons {α : Type} {P : α → Prop} {y : α} {ys : List α} (h : P y) : (∀ e ∈ y :: ys, P e) ↔ ∀ e ∈ ys, P e :=
  ⟨fun g e he => g e (List.mem_cons_of_mem _ he), fun g e he => by rcases List.mem_cons.1 he with rfl | he; exact h; exact g e he⟩
def com (v s : Int) : Int := (v * 7919 + s * s + s) % 99991
theorem sq_range {s : Int} (h : 0 ≤ s ∧ s ≤ 9999) : 0 ≤ s * s ∧ s * s ≤ 99980001 :=
  ⟨Int.mul_nonneg h.1 h.1, by have := Int.mul_le_mul h.2 h.2 h.1 (by omega); omega⟩
theorem com_eq {v s : Int} (hv : 0 ≤ v ∧ v ≤ 50000) (hs : 0 ≤ s ∧ s ≤ 9999) : Int.tmod (wrap64 (wrap64 (wrap64 (v * 7919) + wrap64 (s * s)) + s)) 99991 = com v s := by
  have h := sq_range hs
  rw [w64 (x := v * 7919) (by omega) (by omega), w64 (x := s * s) (by omega) (by omega), w64 (x := v * 7919 + s * s) (by omega) (by omega), w64 (x := v * 7919 + s * s + s) (by omega) (by omega), tmod_pos _ _ (by omega)]
  rfl
theorem com_range (v s : Int) : 0 ≤ com v s := Int.emod_nonneg _ (by omega)
theorem commitTo_eq (v s : Int) : impl_CommitTo.f v s = some (if (0 ≤ v ∧ v ≤ 50000) ∧ 0 ≤ s ∧ s ≤ 9999 then com v s else -1) := by
  unfold impl_CommitTo.f
  by_cases c1 : v < 0
  · rw [if_pos c1, if_neg (by omega)]
  · by_cases c2 : v > 50000
    · rw [if_neg c1, if_pos c2, if_neg (by omega)]
    · by_cases c3 : s < 0
      · rw [if_neg c1, if_neg c2, if_pos c3, if_neg (by omega)]
      · by_cases c4 : s > 9999
        · rw [if_neg c1, if_neg c2, if_neg c3, if_pos c4, if_neg (by omega)]
        · rw [if_neg c1, if_neg c2, if_neg c3, if_neg c4, if_pos (by omega), com_eq (by omega) (by omega)]
theorem impl_validReveals_l0 (xs : List S70) (hl : xs.length ≤ 12) (ys : List S70) : ∀ i : Int, At xs i ys → EvS (fun k => impl_validReveals.l0 k xs xs.length i) (· = decide (∀ e ∈ ys, VR1 e)) := by
  induction ys with
  | nil =>
    intro i h
    refine EvS.step (fun k => by rw [impl_validReveals.l0]) ?_
    exact EvS.neg (by have := h.ge; omega) (EvS.now (by simp))
  | cons y ys ih =>
    intro i h
    have h1 := h.lt
    have h0 := h.nonneg
    refine EvS.step (fun k => by rw [impl_validReveals.l0]) ?_
    rw [at_rdReveal h]
    refine EvS.pos h.lt (EvS.pos h.nonneg (EvS.pos h.lt (EvS.call (commitTo_eq _ _) ?_)))
    by_cases c : VR1 y
    · have c2 : (0 ≤ y.f1 ∧ y.f1 ≤ 50000) ∧ 0 ≤ y.f2 ∧ y.f2 ≤ 9999 := c
      rw [if_pos c2]
      have := com_range y.f1 y.f2
      refine EvS.neg (by omega) (EvS.mono (ih _ (h.wnext (by omega))) (fun r hr => ?_))
      rw [hr]
      exact decide_eq_decide.2 (all_cons (P := VR1) c).symm
    · have c' : ¬ ((0 ≤ y.f1 ∧ y.f1 ≤ 50000) ∧ 0 ≤ y.f2 ∧ y.f2 ≤ 9999) := c
      rw [if_neg c']
      exact EvS.pos (by omega) (EvS.now (decide_eq_false (fun g => c (g y List.mem_cons_self))).symm)
theorem impl_validReveals_ok (xs : List S70) (hl : xs.length ≤ 2000000) : EvS (fun k => impl_validReveals.f k xs) (· = decide (VRs xs)) := by
  simp only [impl_validReveals.f]
  refine EvS.ite (fun c => EvS.now (decide_eq_false (fun g => by have := g.1; omega)).symm) (fun c => EvS.mono (impl_validReveals_l0 xs (by omega) xs 0 (At.zero _)) (fun r hr => ?_))
  rw [hr]
  exact decide_eq_decide.2 ⟨fun g => ⟨by omega, g⟩, fun g => g.2⟩
theorem spec_validReveals_l0 (xs : List S70) (hl : xs.length ≤ 2000000) (ys : List S70) : ∀ i : Int, At xs i ys → EvS (fun k => spec_validReveals.l0 k xs i) (· = decide (xs.length ≤ 12 ∧ ∀ e ∈ ys, VR1 e)) := by
  induction ys with
  | nil =>
    intro i h
    refine EvS.step (fun k => by rw [spec_validReveals.l0]) ?_
    exact EvS.neg (by have := h.ge; omega) (EvS.now (decide_eq_decide.2 ⟨fun g => ⟨by omega, by simp⟩, fun g => by have := g.1; omega⟩))
  | cons y ys ih =>
    intro i h
    have h1 := h.lt
    have h0 := h.nonneg
    refine EvS.step (fun k => by rw [spec_validReveals.l0]) ?_
    rw [at_rdReveal h]
    have no : ¬ VR1 y → false = decide (xs.length ≤ 12 ∧ ∀ e ∈ y :: ys, VR1 e) := fun g => (decide_eq_false (fun q => g (q.2 y List.mem_cons_self))).symm
    refine EvS.pos h.lt (EvS.pos h.nonneg (EvS.call (inRange_eq _ _ _) (EvS.ite (fun c1 => EvS.call (inRange_eq _ _ _) (EvS.ite (fun c2 => ?_) (fun c2 => EvS.now (no (fun g => ndec c2 g.2))))) (fun c1 => EvS.now (no (fun g => ndec c1 g.1))))))
    refine EvS.mono (ih _ (h.wnext (by omega))) (fun r hr => ?_)
    rw [hr]
    exact decide_eq_decide.2 (and_congr_right fun _ => (all_cons (P := VR1) ⟨of_decide_eq_true c1, of_decide_eq_true c2⟩).symm)
theorem spec_validReveals_ok (xs : List S70) (hl : xs.length ≤ 2000000) : EvS (fun k => spec_validReveals.f k xs) (· = decide (VRs xs)) := by
  simp only [spec_validReveals.f]
  exact spec_validReveals_l0 xs hl xs 0 (At.zero _)
/-- The sum of the honest values. -/
def honS : List S70 → Int
  | [] => 0
  | e :: l => (if com e.f1 e.f2 = e.f0 then e.f1 else 0) + honS l
theorem honS_range (l : List S70) (h : ∀ e ∈ l, VR1 e) : 0 ≤ honS l ∧ honS l ≤ 50000 * (l.length : Int) := by
  induction l with
  | nil => simp [honS]
  | cons e l ih =>
    have h1 := ih (fun x hx => h x (List.mem_cons_of_mem _ hx))
    have h2 := (h e List.mem_cons_self).1
    simp only [honS, List.length_cons]
    split <;> omega
def honI : Int → List S70 → List Int
  | _, [] => []
  | i, e :: l => if com e.f1 e.f2 = e.f0 then i :: honI (i + 1) l else honI (i + 1) l
theorem honI_len (l : List S70) : ∀ i : Int, (honI i l).length ≤ l.length := by
  induction l with
  | nil => intro i; simp [honI]
  | cons e l ih => intro i; have := ih (i + 1); simp only [honI, List.length_cons]; split <;> simp <;> omega
theorem impl_Honest_l0 (xs : List S70) (hv : VRs xs) (ys : List S70) : ∀ (i : Int) (out : List Int), At xs i ys → out.length ≤ i → EvS (fun k => impl_Honest.l0 k out xs xs.length i) (· = out ++ honI i ys) := by
  have hxl := hv.1
  induction ys with
  | nil =>
    intro i out h ho
    refine EvS.step (fun k => by rw [impl_Honest.l0]) ?_
    exact EvS.neg (by have := h.ge; omega) (EvS.now (by simp [honI]))
  | cons y ys ih =>
    intro i out h ho
    have h1 := h.lt
    have h0 := h.nonneg
    have hy : (0 ≤ y.f1 ∧ y.f1 ≤ 50000) ∧ 0 ≤ y.f2 ∧ y.f2 ≤ 9999 := hv.2 y h.mem
    refine EvS.step (fun k => by rw [impl_Honest.l0]) ?_
    rw [at_rdReveal h, w64 (x := i + 1) (by omega) (by omega)]
    refine EvS.pos h.lt (EvS.pos h.nonneg (EvS.pos h.lt (EvS.call (commitTo_eq _ _) ?_)))
    rw [if_pos hy]
    refine EvS.ite (fun c => EvS.pos (by omega) ?_) (fun c => ?_)
    · refine EvS.mono (ih (i + 1) _ h.next (by simp; omega)) (fun r hr => ?_)
      rw [hr, honI, if_pos c]; simp
    · refine EvS.mono (ih (i + 1) _ h.next (by omega)) (fun r hr => ?_)
      rw [hr, honI, if_neg c]
theorem honI_at (xs : List S70) (ys : List S70) : ∀ i : Int, At xs i ys → ∀ c ∈ honI i ys, i ≤ c ∧ c < xs.length := by
  induction ys with
  | nil => intro i h c hc; simp [honI] at hc
  | cons y ys ih =>
    intro i h c hc
    have h1 := h.lt
    simp only [honI] at hc
    by_cases q : com y.f1 y.f2 = y.f0
    · rw [if_pos q, List.mem_cons] at hc
      rcases hc with rfl | hc
      · omega
      · have := ih (i + 1) h.next c hc; omega
    · rw [if_neg q] at hc
      have := ih (i + 1) h.next c hc; omega
def sumV (xs : List S70) : List Int → Int
  | [] => 0
  | c :: cs => (rd_T70 xs c).f1 + sumV xs cs
theorem sumV_hon (xs : List S70) (ys : List S70) : ∀ i : Int, At xs i ys → sumV xs (honI i ys) = honS ys := by
  induction ys with
  | nil => intro i h; rfl
  | cons y ys ih =>
    intro i h
    simp only [honI, honS]
    by_cases q : com y.f1 y.f2 = y.f0
    · rw [if_pos q, if_pos q, sumV, at_rdReveal h, ih (i + 1) h.next]
    · rw [if_neg q, if_neg q, ih (i + 1) h.next]; omega
theorem impl_honestSum_l0 (xs : List S70) (hv : VRs xs) (cs : List Int) (hc : ∀ c ∈ cs, 0 ≤ c ∧ c < xs.length) (hcl : cs.length ≤ 12) (ys : List Int) : ∀ (i acc : Int), At cs i ys → 0 ≤ acc → acc ≤ 50000 * i → EvS (fun k => impl_honestSum.l0 k xs acc cs cs.length i) (· = acc + sumV xs ys) := by
  induction ys with
  | nil =>
    intro i acc h a0 a1
    refine EvS.step (fun k => by rw [impl_honestSum.l0]) ?_
    exact EvS.neg (by have := h.ge; omega) (EvS.now (by simp [sumV]))
  | cons y ys ih =>
    intro i acc h a0 a1
    have h1 := h.lt
    have h0 := h.nonneg
    have hy := hc y h.mem
    have hz : VR1 (rd_T70 xs y) := by
      unfold rd_T70
      rw [List.getD_eq_getElem?_getD, List.getElem?_eq_getElem (show y.toNat < xs.length by omega)]
      exact hv.2 _ (List.getElem_mem _)
    have hz1 := hz.1
    refine EvS.step (fun k => by rw [impl_honestSum.l0]) ?_
    rw [At.rd h, w64 (x := i + 1) (by omega) (by omega), w64 (x := acc + (rd_T70 xs y).f1) (by omega) (by omega)]
    refine EvS.pos h.lt (EvS.pos h.nonneg (EvS.pos h.lt (EvS.pos hy.1 (EvS.pos hy.2 (EvS.mono (ih (i + 1) _ h.next (by omega) (by omega)) (fun r hr => ?_))))))
    rw [hr, sumV]; omega
theorem impl_honestSum_ok (xs : List S70) (hl : xs.length ≤ 2000000) (hv : VRs xs) : EvS (fun k => impl_honestSum.f k xs) (· = honS xs) := by
  simp only [impl_honestSum.f]
  have hh : EvS (fun k => impl_Honest.f k xs) (· = honI 0 xs) := by
    simp only [impl_Honest.f]
    refine EvS.bindv (impl_validReveals_ok xs hl) (EvS.pos (decide_eq_true hv) (EvS.mono (impl_Honest_l0 xs hv xs 0 [] (At.zero _) (by simp)) (fun r hr => ?_)))
    rw [hr]; rfl
  have hn := honI_len xs 0
  have hx := hv.1
  refine EvS.bindv hh (EvS.mono (impl_honestSum_l0 xs hv (honI 0 xs) (fun c hc => honI_at xs xs 0 (At.zero _) c hc) (by omega) _ 0 0 (At.zero _) (by omega) (by omega)) (fun r hr => ?_))
  rw [hr, sumV_hon xs xs 0 (At.zero _)]; omega
def drawO (xs : List S70) (m : Int) : List Int := if VRs xs ∧ 1 ≤ m ∧ m ≤ 8 then orderAt (honS xs % fac m.toNat) m else []
theorem drawO_len (xs : List S70) (m : Int) : (drawO xs m).length ≤ 8 := by
  unfold drawO
  split
  · exact orderAt_len _ _
  · simp
theorem impl_DrawOrder_ok (xs : List S70) (hl : xs.length ≤ 2000000) (m : Int) : EvS (fun k => impl_DrawOrder.f k xs m) (· = drawO xs m) := by
  have jt : ¬ (VRs xs ∧ 1 ≤ m ∧ m ≤ 8) → EvS (fun k => impl_DrawOrder.j0 k xs m true) (· = drawO xs m) := by
    intro g
    refine EvS.step (fun k => by rw [impl_DrawOrder.j0]) ?_
    exact EvS.pos rfl (EvS.now (by unfold drawO; rw [if_neg g]))
  simp only [impl_DrawOrder.f]
  refine EvS.bindv (impl_validReveals_ok xs hl) (EvS.ite (fun c => EvS.ite (fun d => jt (fun g => by have := g.2.1; omega)) (fun d => ?_)) (fun c => jt (fun g => ndec c g.1)))
  have hv := of_decide_eq_true c
  by_cases e : m > 8
  · rw [decide_eq_true e]; exact jt (fun g => by have := g.2.2; omega)
  · rw [decide_eq_false e]
    refine EvS.step (fun k => by rw [impl_DrawOrder.j0]) ?_
    obtain ⟨q, rfl⟩ := Int.eq_ofNat_of_zero_le (show 0 ≤ m by omega)
    have hf := fac_pos q
    refine EvS.neg (by simp) (EvS.bindv (impl_honestSum_ok xs hl hv) (EvS.bindv (impl_factorial_ok q (by omega)) (EvS.neg (by omega) ?_)))
    rw [tmod_pos _ _ (honS_range xs hv.2).1]
    refine EvS.bindv (impl_OrderAt_ok _ _) (EvS.now ?_)
    unfold drawO
    rw [if_pos ⟨hv, by omega, by omega⟩, Int.toNat_natCast]
theorem commit_eq (v s : Int) (hv : 0 ≤ v ∧ v ≤ 50000) (hs : 0 ≤ s ∧ s ≤ 9999) : spec_commit.f v s = some (com v s) := by
  unfold spec_commit.f
  rw [com_eq hv hs]
theorem spec_DrawOf_l0 (xs : List S70) (hv : VRs xs) (ys : List S70) : ∀ (i acc : Int), At xs i ys → 0 ≤ acc → acc ≤ 50000 * i → EvS (fun k => spec_DrawOf.l0 k xs 1 acc i) (fun r => r.1 = acc + honS ys) := by
  have hxl := hv.1
  induction ys with
  | nil =>
    intro i acc h a0 a1
    refine EvS.step (fun k => by rw [spec_DrawOf.l0]) ?_
    exact EvS.neg (by have := h.ge; omega) (EvS.neg (by omega) (EvS.now (by simp [honS])))
  | cons y ys ih =>
    intro i acc h a0 a1
    have h1 := h.lt
    have h0 := h.nonneg
    have hy := hv.2 y h.mem
    have hy1 := hy.1
    refine EvS.step (fun k => by rw [spec_DrawOf.l0]) ?_
    rw [at_rdReveal h, w64 (x := i + 1) (by omega) (by omega), w64 (x := acc + y.f1) (by omega) (by omega)]
    refine EvS.pos h.lt (EvS.pos h.nonneg (EvS.call (commit_eq _ _ hy.1 hy.2) (EvS.ite (fun c => ?_) (fun c => ?_))))
    · refine EvS.mono (ih (i + 1) _ h.next (by omega) (by omega)) (fun r hr => ?_)
      rw [hr, honS, if_pos c]; omega
    · refine EvS.mono (ih (i + 1) _ h.next (by omega) (by omega)) (fun r hr => ?_)
      rw [hr, honS, if_neg c]; omega
theorem spec_DrawOrder_ok (xs : List S70) (hl : xs.length ≤ 2000000) (m : Int) : EvS (fun k => spec_DrawOrder.f k xs m) (· = drawO xs m) := by
  have jt : ¬ (VRs xs ∧ 1 ≤ m ∧ m ≤ 8) → EvS (fun k => spec_DrawOrder.j0 k xs m true) (· = drawO xs m) := by
    intro g
    refine EvS.step (fun k => by rw [spec_DrawOrder.j0]) ?_
    exact EvS.pos rfl (EvS.now (by unfold drawO; rw [if_neg g]))
  simp only [spec_DrawOrder.f]
  refine EvS.bindv (spec_validReveals_ok xs hl) (EvS.ite (fun c => EvS.call (inRange_eq _ _ _) ?_) (fun c => jt (fun g => ndec c g.1)))
  have hv := of_decide_eq_true c
  by_cases e : 1 ≤ m ∧ m ≤ 8
  · rw [decide_eq_true e]
    refine EvS.step (fun k => by rw [spec_DrawOrder.j0]) ?_
    obtain ⟨q, rfl⟩ := Int.eq_ofNat_of_zero_le (show 0 ≤ m by omega)
    have hf := fac_pos q
    have hd : EvS (fun k => spec_DrawOf.f k xs 1) (fun r => r.1 = honS xs) := by
      simp only [spec_DrawOf.f]
      refine EvS.bindv (spec_validReveals_ok xs hl) (EvS.pos (decide_eq_true hv) (EvS.call (inRange_eq _ _ _) ?_))
      rw [decide_eq_true (by omega)]
      refine EvS.step (fun k => by rw [spec_DrawOf.j0]) ?_
      refine EvS.neg (by simp) (EvS.mono (spec_DrawOf_l0 xs hv xs 0 0 (At.zero _) (by omega) (by omega)) (fun r hr => ?_))
      rw [hr]; omega
    refine EvS.neg (by simp) (EvS.bind hd (fun r hr => EvS.bindv (spec_factorial_ok q (by omega)) (EvS.neg (by omega) ?_)))
    have h0 := (honS_range xs hv.2).1
    have hp := div_parts (honS xs) (fac q) (by omega)
    rw [hr, tmod_pos _ _ h0]
    refine EvS.bindv (spec_orderAt_ok _ _ (by omega) hp.2.1 (by rw [Int.toNat_natCast]; exact hp.2.2)) (EvS.now ?_)
    unfold drawO
    rw [if_pos ⟨hv, by omega, by omega⟩, Int.toNat_natCast]
  · rw [decide_eq_false e]
    exact jt (fun g => e g.2)
def G72 (x : S72) : Prop := ((Lit.int .i64 x.f0).wf = true) ∧ ((Lit.int .i64 x.f1).wf = true) ∧ ((Lit.int .i64 x.f2).wf = true)
theorem FnExactDrawOrder (l0 : List S72) (g0 : l0.length ≤ 9223372036854775807 ∧ ∀ y0 ∈ l0, G72 y0) (a1 : Int) (g1 : (Lit.int .i64 a1).wf = true) : ∃ k, laws_FnExactDrawOrder.f k l0 a1 = some true := by
  refine EvS.holds ?_
  simp only [laws_FnExactDrawOrder.f]
  refine EvS.call (szReveal_eq l0 1048576 (by omega) (by omega) g0.1) ?_
  by_cases c : (1048576 : Int) - l0.length < 0
  · rw [if_pos c]; exact EvS.pos (by omega) (EvS.now rfl)
  · rw [if_neg c]
    have hto := toRevealS_ok l0 (by omega)
    have hm0 : (l0.map cvReveal).length = l0.length := List.length_map _
    have hv := drawO_len (l0.map cvReveal) a1
    have he := eqIntS_ok (drawO (l0.map cvReveal) a1) (by omega)
    have ii := impl_DrawOrder_ok (l0.map cvReveal) (by omega) a1
    refine EvS.neg c (EvS.bindv hto (EvS.bindv (spec_DrawOrder_ok _ (by omega) a1) (EvS.bindv hto (EvS.bindv ii (EvS.bindv he (EvS.pos rfl (EvS.bindv hto (EvS.bindv (eqRevealS_ok _ (by omega)) (EvS.pos rfl ?_)))))))))
    refine EvS.bind (markRevealS_ok _ (by omega) 1 (by omega) (by omega)) (fun m1 hm1' => ?_)
    have e1 := hm1'.1
    refine EvS.neg (by omega) (EvS.bindv he ?_)
    refine EvS.step (fun k => by rw [laws_FnExactDrawOrder.j0]) ?_
    refine EvS.neg (by simp) (EvS.bind (markIntS_ok _ (by omega) 1 (by omega) (by omega)) (fun m3 hm3 => ?_))
    have hd := heldIntS_ok _ (by omega) 1 (by omega) (by omega) m3.2 hm3.2
    rw [← hm3.1] at hd
    have e3 := hm3.1
    refine EvS.bindv hd (EvS.neg (by omega) (EvS.pos rfl (EvS.bindv hto (EvS.bindv ii (EvS.bindv he (EvS.pos rfl (EvS.bindv hd (EvS.neg (by omega) (EvS.pos rfl (EvS.now rfl))))))))))
end Go.Proofs.Ytcnhjpnidfalpaa.Pure
