/- OnlyIn is what the reference tells, for all books. Conditions: none. -/
import Derived.Test.YtgapjelooefofaaPFnExactOnlyInx0
import Derived.Test.YtgapjelooefofaaPFnExactOnlyInx1
import Derived.Test.YtgapjelooefofaaPFnExactOnlyInx2
import Derived.Test.YtgapjelooefofaaMFnExactOnlyInx3
import Derived.Test.YtgapjelooefofaaMFnExactOnlyInx4
import Derived.Test.YtgapjelooefofaaMFnExactOnlyInx5
import Derived.Test.YtgapjelooefofaaBase
set_option linter.unusedVariables false
set_option linter.unusedSimpArgs false
namespace Go.Proofs.Ytgapjelooefofaa.Pure
open Go.RowKit Go.Proofs.Ytgapjelooefofaa.PFnExactOnlyIn Go.Proofs.YtgapjelooefofaaW.PrintWords Go.Proofs.YtgapjelooefofaaW.PrintLast Go.Proofs.YtgapjelooefofaaW.PrintMore Go.Proofs.Ytgapjelooefofaa.Base
theorem u8_range {x : Int} (h : (Lit.int .u8 x).wf = true) : 0 ≤ x ∧ x ≤ 255 := by
  simp [Lit.wf, IntKind.min, IntKind.max, IntKind.bits, IntKind.signed] at h
  omega
/-! ## Valid entries, and balances. -/
def VE (e : S33) : Prop := 0 ≤ e.f0 ∧ e.f0 ≤ 999 ∧ 0 ≤ e.f1 ∧ e.f1 ≤ 7 ∧ 0 ≤ e.f2 ∧ e.f2 ≤ 7 ∧ e.f1 ≠ e.f2 ∧ 1 ≤ e.f3 ∧ e.f3 ≤ 1000000
instance (e : S33) : Decidable (VE e) := by unfold VE; infer_instance
def VEs (l : List S33) : Prop := l.length ≤ 40 ∧ ∀ e ∈ l, VE e
instance (l : List S33) : Decidable (VEs l) := by unfold VEs; infer_instance
theorem at_rdE {xs ys : List S33} {i : Int} {y : S33} (h : At xs i (y :: ys)) : rd_T33 xs i = y := h.getD _

theorem inRange_eq (n lo hi : Int) : spec_inRange.f n lo hi = some (decide (lo ≤ n ∧ n ≤ hi)) := by
  unfold spec_inRange.f
  split
  · exact congrArg some (decide_eq_decide.2 (by omega))
  · exact congrArg some (decide_eq_false (by omega)).symm
theorem validAccount_eq (n : Int) : impl_validAccount.f n = some (decide (0 ≤ n ∧ n ≤ 7)) := by
  unfold impl_validAccount.f
  split
  · exact congrArg some (decide_eq_decide.2 (by omega))
  · exact congrArg some (decide_eq_false (by omega)).symm
theorem impl_validEntry_ok (a b c d : Int) : EvS (fun k => impl_validEntry.f k a b c d) (· = decide (VE ⟨a, b, c, d⟩)) := by
  have jt : ¬ VE ⟨a, b, c, d⟩ → EvS (fun k => impl_validEntry.j0 k true a b c d) (· = decide (VE ⟨a, b, c, d⟩)) := by
    intro h
    refine EvS.step (fun k => by rw [impl_validEntry.j0]) ?_
    exact EvS.pos rfl (EvS.now (decide_eq_false h).symm)
  simp only [impl_validEntry.f]
  refine EvS.ite (fun h => jt (by unfold VE; dsimp only; omega)) (fun h1 => EvS.ite (fun h => jt (by unfold VE; dsimp only; omega)) (fun h2 => EvS.ite (fun h => jt (by unfold VE; dsimp only; omega)) (fun h3 => ?_)))
  by_cases h4 : d > 1000000
  · rw [decide_eq_true h4]; exact jt (by unfold VE; dsimp only; omega)
  · rw [decide_eq_false h4]
    refine EvS.step (fun k => by rw [impl_validEntry.j0]) ?_
    refine EvS.neg (by simp) (EvS.call (validAccount_eq b) (EvS.ite (fun h5 => EvS.call (validAccount_eq c) (EvS.ite (fun h6 => EvS.now ?_) (fun h6 => EvS.now ?_))) (fun h5 => EvS.now ?_)))
    · have h5 := of_decide_eq_true h5
      have h6 := of_decide_eq_true h6
      by_cases hbc : b = c
      · rw [decide_eq_false (by unfold VE; dsimp only; omega)]; simp [hbc]
      · rw [decide_eq_true (by unfold VE; dsimp only; omega)]; simp [hbc]
    · simp at h6
      exact (decide_eq_false (by unfold VE; dsimp only; omega)).symm
    · simp at h5
      exact (decide_eq_false (by unfold VE; dsimp only; omega)).symm
theorem spec_validEntry_eq (a b c d : Int) : spec_validEntry.f a b c d = some (decide (VE ⟨a, b, c, d⟩)) := by
  unfold spec_validEntry.f
  simp only [inRange_eq, Option.bind_some]
  split
  · rename_i h1
    have h1 := of_decide_eq_true h1
    split
    · rename_i h2
      have h2 := of_decide_eq_true h2
      split
      · rename_i h3
        have h3 := of_decide_eq_true h3
        split
        · exact congrArg some (decide_eq_false (by unfold VE; dsimp only; omega)).symm
        · exact congrArg some (decide_eq_decide.2 (by unfold VE; dsimp only; omega))
      · rename_i h3; simp at h3
        exact congrArg some (decide_eq_false (by unfold VE; dsimp only; omega)).symm
    · rename_i h2; simp at h2
      exact congrArg some (decide_eq_false (by unfold VE; dsimp only; omega)).symm
  · rename_i h1; simp at h1
    exact congrArg some (decide_eq_false (by unfold VE; dsimp only; omega)).symm

theorem impl_ValidEntries_l0 (xs : List S33) (hl : xs.length ≤ 2000000) (ys : List S33) : ∀ i : Int, At xs i ys → EvS (fun k => impl_ValidEntries.l0 k xs xs.length i) (· = decide (∀ e ∈ ys, VE e)) := by
  induction ys with
  | nil =>
    intro i h
    refine EvS.step (fun k => by rw [impl_ValidEntries.l0]) ?_
    exact EvS.neg (by have := h.ge; omega) (EvS.now (by simp))
  | cons y ys ih =>
    intro i h
    refine EvS.step (fun k => by rw [impl_ValidEntries.l0]) ?_
    refine EvS.pos h.lt (EvS.pos h.nonneg (EvS.pos h.lt ?_))
    rw [at_rdE h]
    refine EvS.bindv (impl_validEntry_ok y.f0 y.f1 y.f2 y.f3) (EvS.ite (fun c => ?_) (fun c => EvS.now ?_))
    · have c := of_decide_eq_true c
      refine EvS.mono (ih _ (h.wnext (by omega))) (fun r hr => ?_)
      rw [hr]
      exact decide_eq_decide.2 ⟨fun g e he => by rcases List.mem_cons.1 he with rfl | he; exact c; exact g e he, fun g e he => g e (List.mem_cons_of_mem _ he)⟩
    · simp at c
      exact (decide_eq_false (fun g => c (g y List.mem_cons_self))).symm
theorem impl_ValidEntries_ok (xs : List S33) (hl : xs.length ≤ 2000000) : EvS (fun k => impl_ValidEntries.f k xs) (· = decide (VEs xs)) := by
  simp only [impl_ValidEntries.f]
  refine EvS.ite (fun c => EvS.now (decide_eq_false (fun g => by have := g.1; omega)).symm) (fun c => ?_)
  refine EvS.mono (impl_ValidEntries_l0 xs hl xs 0 (At.zero xs)) (fun r hr => ?_)
  rw [hr]
  exact decide_eq_decide.2 ⟨fun g => ⟨by omega, g⟩, fun g => g.2⟩
theorem spec_validEntries_l0 (xs : List S33) (hl : xs.length ≤ 2000000) (ys : List S33) : ∀ i : Int, At xs i ys → EvS (fun k => spec_validEntries.l0 k xs i) (· = decide (xs.length ≤ 40 ∧ ∀ e ∈ ys, VE e)) := by
  induction ys with
  | nil =>
    intro i h
    refine EvS.step (fun k => by rw [spec_validEntries.l0]) ?_
    exact EvS.neg (by have := h.ge; omega) (EvS.now (decide_eq_decide.2 ⟨fun g => ⟨by omega, by simp⟩, fun g => by omega⟩))
  | cons y ys ih =>
    intro i h
    refine EvS.step (fun k => by rw [spec_validEntries.l0]) ?_
    refine EvS.pos h.lt (EvS.pos h.nonneg ?_)
    rw [at_rdE h]
    refine EvS.call (spec_validEntry_eq y.f0 y.f1 y.f2 y.f3) (EvS.ite (fun c => ?_) (fun c => EvS.now ?_))
    · have c := of_decide_eq_true c
      refine EvS.mono (ih _ (h.wnext (by omega))) (fun r hr => ?_)
      rw [hr]
      exact decide_eq_decide.2 ⟨fun g => ⟨g.1, fun e he => by rcases List.mem_cons.1 he with rfl | he; exact c; exact g.2 e he⟩, fun g => ⟨g.1, fun e he => g.2 e (List.mem_cons_of_mem _ he)⟩⟩
    · simp at c
      exact (decide_eq_false (fun g => c (g.2 y List.mem_cons_self))).symm
theorem spec_validEntries_ok (xs : List S33) (hl : xs.length ≤ 2000000) : EvS (fun k => spec_validEntries.f k xs) (· = decide (VEs xs)) := by
  simp only [spec_validEntries.f]
  exact spec_validEntries_l0 xs hl xs 0 (At.zero xs)
/-! ## Two books. -/
def eqE (a b : S33) : Bool := a.f0 == b.f0 && (a.f1 == b.f1 && (a.f2 == b.f2 && (a.f3 == b.f3)))
theorem eqE_iff (a b : S33) : eqE a b = true ↔ a = b := by
  cases a; cases b
  simp [eqE]
theorem eqE_symm (a b : S33) : eqE a b = eqE b a := by
  rw [Bool.eq_iff_iff, eqE_iff, eqE_iff]
  exact ⟨fun h => h.symm, fun h => h.symm⟩
/-- The first entry, from place i on, that is e and is not used. -/
def find1 (e : S33) : List S33 → List Bool → Int → Int
  | b :: bs, u :: us, i => if u = true then find1 e bs us (i + 1) else if eqE b e = true then i else find1 e bs us (i + 1)
  | _, _, _ => -1
def mark1 (u : List Bool) (p : Int) : List Bool := if p < 0 then u else u.set p.toNat true
def partn (b : List S33) : List S33 → List Bool → List Int
  | [], _ => []
  | e :: es, u => find1 e b u 0 :: partn b es (mark1 u (find1 e b u 0))
theorem partn_len (b : List S33) (es : List S33) : ∀ u : List Bool, (partn b es u).length = es.length := by
  induction es with
  | nil => intro u; rfl
  | cons e es ih => intro u; simp [partn, ih]
theorem mark1_len (u : List Bool) (p : Int) : (mark1 u p).length = u.length := by unfold mark1; split <;> simp
theorem impl_match_l1 {P : List Int → Prop} (a b : List S33) (hb : b.length ≤ 2000000) (u : List Bool) (hu : u.length = b.length) (out : List Int) (ho : out.length ≤ 4000000) (e : S33) (m i p : Int)
    (K : EvS (fun k => impl_MatchBooks.l0 k b (mark1 u p) (out ++ [p]) a m (wrap64 (i + 1))) P) (ys : List S33) : ∀ (us : List Bool) (j : Int), At b j ys → At u j us → find1 e ys us j = p →
    EvS (fun k => impl_MatchBooks.l1 k b u out (-1) a m i b b.length j e.f0 e.f1 e.f2 e.f3) P := by
  induction ys with
  | nil =>
    intro us j h g ep
    simp only [find1] at ep
    subst ep
    refine EvS.step (fun k => by rw [impl_MatchBooks.l1]) ?_
    exact EvS.neg (by have := h.ge; omega) (EvS.pos (by omega) K)
  | cons y ys ih =>
    intro us j h g ep
    have h0 := h.nonneg
    have h1 := h.lt
    have h2 := h.len
    have g2 := g.len
    cases us with
    | nil => simp at h2 g2; omega
    | cons v us =>
      refine EvS.step (fun k => by rw [impl_MatchBooks.l1]) ?_
      refine EvS.pos h.lt (EvS.pos h.nonneg (EvS.pos h.lt (EvS.pos (by omega) ?_)))
      rw [show rdOf false u j = v from g.getD false, at_rdE h]
      have hn := h.wnext (by omega)
      have gn := g.wnext (by omega)
      rw [w64 (x := j + 1) (by omega) (by omega)] at hn gn ⊢
      simp only [find1] at ep
      refine EvS.ite (fun c => ?_) (fun c => ?_)
      · rw [if_pos c] at ep
        exact ih us _ hn gn ep
      · rw [if_neg c] at ep
        refine EvS.ite (fun d => ?_) (fun d => ?_)
        · rw [if_pos (show eqE y e = true from d)] at ep
          subst ep
          refine EvS.pos (by omega) ?_
          have : mark1 u j = u.set j.toNat true := by unfold mark1; rw [if_neg (by omega)]
          rw [this] at K
          exact K
        · rw [if_neg (show ¬ eqE y e = true from d)] at ep
          exact ih us _ hn gn ep
theorem impl_match_l0 (a b : List S33) (ha : a.length ≤ 2000000) (hb : b.length ≤ 2000000) (ys : List S33) : ∀ (i : Int) (u : List Bool) (out : List Int), At a i ys → u.length = b.length → out.length ≤ i →
    EvS (fun k => impl_MatchBooks.l0 k b u out a a.length i) (· = out ++ partn b ys u) := by
  induction ys with
  | nil =>
    intro i u out h hu ho
    refine EvS.step (fun k => by rw [impl_MatchBooks.l0]) ?_
    exact EvS.neg (by have := h.ge; omega) (EvS.now (by simp [partn]))
  | cons y ys ih =>
    intro i u out h hu ho
    have h1 := h.lt
    have h0 := h.nonneg
    refine EvS.step (fun k => by rw [impl_MatchBooks.l0]) ?_
    refine EvS.pos h.lt (EvS.pos h.nonneg (EvS.pos h.lt ?_))
    rw [at_rdE h]
    refine impl_match_l1 a b hb u hu out (by omega) y _ i (find1 y b u 0) ?_ b u 0 (At.zero _) (At.zero _) rfl
    rw [w64 (x := i + 1) (by omega) (by omega)]
    refine EvS.mono (ih (i + 1) _ _ h.next (by rw [mark1_len, hu]) (by simp; omega)) (fun r hr => ?_)
    rw [hr, partn]
    simp
/-- The partners that MatchBooks tells. -/
def partners (a b : List S33) : List Int := if VEs a ∧ VEs b then partn b a (List.replicate b.length false) else []
theorem partners_len (a b : List S33) : (partners a b).length ≤ 40 := by
  unfold partners
  split
  · rename_i h
    rw [partn_len]
    exact h.1.1
  · simp
theorem impl_MatchBooks_ok (a b : List S33) (ha : a.length ≤ 2000000) (hb : b.length ≤ 2000000) : EvS (fun k => impl_MatchBooks.f k a b) (· = partners a b) := by
  have jt : ¬ (VEs a ∧ VEs b) → EvS (fun k => impl_MatchBooks.j0 k a b true) (· = partners a b) := by
    intro g
    refine EvS.step (fun k => by rw [impl_MatchBooks.j0]) ?_
    exact EvS.pos rfl (EvS.now (by unfold partners; rw [if_neg g]))
  simp only [impl_MatchBooks.f]
  refine EvS.bindv (impl_ValidEntries_ok a ha) (EvS.ite (fun c => EvS.bindv (impl_ValidEntries_ok b hb) ?_) (fun c => jt (fun g => ndec c g.1)))
  by_cases d : VEs b
  · rw [decide_eq_true d]
    refine EvS.step (fun k => by rw [impl_MatchBooks.j0]) ?_
    refine EvS.neg (by simp) (EvS.pos (by omega) (EvS.pos (by omega) ?_))
    refine EvS.mono (impl_match_l0 a b ha hb a 0 _ [] (At.zero _) (by simp) (by simp)) (fun r hr => ?_)
    rw [hr]
    unfold partners
    rw [if_pos ⟨of_decide_eq_true c, d⟩]
    simp
  · rw [decide_eq_false d]
    exact jt (fun g => d g.2)
theorem spec_part_done {P : List Int → Prop} (a b : List S33) (u : List Bool) (out : List Int) (ho : out.length ≤ 4000000) (i p : Int) (hp : 0 ≤ p) (K : EvS (fun k => spec_partners.l0 k a b u (out ++ [p]) (wrap64 (i + 1))) P) (j : Int) : EvS (fun k => spec_partners.l1 k a b u out i p j) P := by
  have jf : EvS (fun k => spec_partners.j2 k a b u out i p j false) P := by
    refine EvS.step (fun k => by rw [spec_partners.j2]) ?_
    exact EvS.neg (by simp) (EvS.pos (by omega) K)
  refine EvS.step (fun k => by rw [spec_partners.l1]) ?_
  rw [decide_eq_false (show ¬ p < 0 by omega)]
  exact EvS.ite (fun _ => jf) (fun _ => jf)
theorem spec_part_l1 {P : List Int → Prop} (a b : List S33) (hb : b.length ≤ 2000000) (u : List Bool) (hu : u.length = b.length) (out : List Int) (ho : out.length ≤ 4000000) (e : S33) (i p : Int) (i0 : 0 ≤ i) (i1 : i < a.length) (he : rd_T33 a i = e)
    (K : EvS (fun k => spec_partners.l0 k a b (mark1 u p) (out ++ [p]) (wrap64 (i + 1))) P) (ys : List S33) : ∀ (us : List Bool) (j : Int), At b j ys → At u j us → find1 e ys us j = p →
    EvS (fun k => spec_partners.l1 k a b u out i (-1) j) P := by
  induction ys with
  | nil =>
    intro us j h g ep
    simp only [find1] at ep
    subst ep
    refine EvS.step (fun k => by rw [spec_partners.l1]) ?_
    refine EvS.neg (by have := h.ge; omega) (EvS.step (fun k => by rw [spec_partners.j2]) ?_)
    exact EvS.neg (by simp) (EvS.pos (by omega) K)
  | cons y ys ih =>
    intro us j h g ep
    have h0 := h.nonneg
    have h1 := h.lt
    have h2 := h.len
    have g2 := g.len
    cases us with
    | nil => simp at h2 g2; omega
    | cons v us =>
      refine EvS.step (fun k => by rw [spec_partners.l1]) ?_
      refine EvS.pos h.lt (EvS.step (fun k => by rw [spec_partners.j2]) ?_)
      refine EvS.pos (by simp) (EvS.pos h.nonneg (EvS.pos (by omega) ?_))
      rw [show rdOf false u j = v from g.getD false, at_rdE h, he]
      have hn := h.wnext (by omega)
      have gn := g.wnext (by omega)
      rw [w64 (x := j + 1) (by omega) (by omega)] at hn gn ⊢
      simp only [find1] at ep
      refine EvS.ite (fun c => ?_) (fun c => ?_)
      · rw [if_pos c] at ep
        exact ih us _ hn gn ep
      · rw [if_neg c] at ep
        refine EvS.pos i0 (EvS.pos i1 (EvS.pos h.lt (EvS.ite (fun d => ?_) (fun d => ?_))))
        · rw [if_pos (show eqE y e = true by rw [eqE_symm]; exact d)] at ep
          subst ep
          have : mark1 u j = u.set j.toNat true := by unfold mark1; rw [if_neg (by omega)]
          rw [this] at K
          exact spec_part_done a b _ out ho i j h0 K _
        · rw [if_neg (show ¬ eqE y e = true by rw [eqE_symm]; exact d)] at ep
          exact ih us _ hn gn ep
theorem spec_part_l0 (a b : List S33) (ha : a.length ≤ 2000000) (hb : b.length ≤ 2000000) (ys : List S33) : ∀ (i : Int) (u : List Bool) (out : List Int), At a i ys → u.length = b.length → out.length ≤ i →
    EvS (fun k => spec_partners.l0 k a b u out i) (· = out ++ partn b ys u) := by
  induction ys with
  | nil =>
    intro i u out h hu ho
    refine EvS.step (fun k => by rw [spec_partners.l0]) ?_
    exact EvS.neg (by have := h.ge; omega) (EvS.now (by simp [partn]))
  | cons y ys ih =>
    intro i u out h hu ho
    have h1 := h.lt
    have h0 := h.nonneg
    refine EvS.step (fun k => by rw [spec_partners.l0]) ?_
    refine EvS.pos h.lt ?_
    refine spec_part_l1 a b hb u hu out (by omega) y i (find1 y b u 0) h0 h1 (at_rdE h) ?_ b u 0 (At.zero _) (At.zero _) rfl
    rw [w64 (x := i + 1) (by omega) (by omega)]
    refine EvS.mono (ih (i + 1) _ _ h.next (by rw [mark1_len, hu]) (by simp; omega)) (fun r hr => ?_)
    rw [hr, partn]
    simp
theorem spec_partners_ok (a b : List S33) (ha : a.length ≤ 2000000) (hb : b.length ≤ 2000000) : EvS (fun k => spec_partners.f k a b) (· = partn b a (List.replicate b.length false)) := by
  simp only [spec_partners.f]
  refine EvS.pos (by omega) (EvS.pos (by omega) ?_)
  refine EvS.mono (spec_part_l0 a b ha hb a 0 _ [] (At.zero _) (by simp) (by simp)) (fun r hr => ?_)
  rw [hr]
  simp
def only : List S33 → List Int → List S33
  | a :: az, p :: ps => if p < 0 then a :: only az ps else only az ps
  | _, _ => []
theorem only_len (az : List S33) : ∀ ps : List Int, (only az ps).length ≤ ps.length := by
  induction az with
  | nil => intro ps; simp [only]
  | cons a az ih =>
    intro ps
    cases ps with
    | nil => simp [only]
    | cons p ps =>
      simp only [only, List.length_cons]
      have := ih ps
      split
      · simp; omega
      · omega
theorem impl_only_l0 (a : List S33) (t : List Int) (hl : t.length ≤ a.length) (ht : t.length ≤ 2000000) (ps : List Int) : ∀ (az : List S33) (i : Int) (out : List S33), At t i ps → At a i az → out.length ≤ i →
    EvS (fun k => impl_OnlyIn.l0 k a out t t.length i) (· = out ++ only az ps) := by
  induction ps with
  | nil =>
    intro az i out h g ho
    refine EvS.step (fun k => by rw [impl_OnlyIn.l0]) ?_
    exact EvS.neg (by have := h.ge; omega) (EvS.now (by cases az <;> simp [only]))
  | cons p ps ih =>
    intro az i out h g ho
    have h0 := h.nonneg
    have h1 := h.lt
    have g2 := g.len
    cases az with
    | nil => simp at g2; omega
    | cons e az =>
      refine EvS.step (fun k => by rw [impl_OnlyIn.l0]) ?_
      refine EvS.pos h.lt (EvS.pos h.nonneg (EvS.pos h.lt ?_))
      rw [At.rd h, at_rdE g, w64 (x := i + 1) (by omega) (by omega)]
      refine EvS.ite (fun c => EvS.pos (by omega) (EvS.pos (by omega) ?_)) (fun c => ?_)
      · refine EvS.mono (ih az (i + 1) _ h.next g.next (by simp; omega)) (fun r hr => ?_)
        rw [hr, only, if_pos c]
        simp
      · refine EvS.mono (ih az (i + 1) _ h.next g.next (by omega)) (fun r hr => ?_)
        rw [hr, only, if_neg c]
theorem impl_OnlyIn_ok (a b : List S33) (ha : a.length ≤ 2000000) (hb : b.length ≤ 2000000) : EvS (fun k => impl_OnlyIn.f k a b) (· = only a (partners a b)) := by
  simp only [impl_OnlyIn.f]
  refine EvS.bindv (impl_MatchBooks_ok a b ha hb) ?_
  have hl : (partners a b).length ≤ a.length := by
    unfold partners
    split
    · rw [partn_len]; omega
    · simp
  refine EvS.mono (impl_only_l0 a _ hl (by omega) _ a 0 [] (At.zero _) (At.zero _) (by simp)) (fun r hr => ?_)
  rw [hr]
  simp
theorem spec_only_l0 (a : List S33) (t : List Int) (hl : t.length ≤ a.length) (ht : t.length ≤ 2000000) (ps : List Int) : ∀ (az : List S33) (i : Int) (out : List S33), At t i ps → At a i az → out.length ≤ i →
    EvS (fun k => spec_onlyIn.l0 k a out t i) (· = out ++ only az ps) := by
  induction ps with
  | nil =>
    intro az i out h g ho
    refine EvS.step (fun k => by rw [spec_onlyIn.l0]) ?_
    exact EvS.neg (by have := h.ge; omega) (EvS.now (by cases az <;> simp [only]))
  | cons p ps ih =>
    intro az i out h g ho
    have h0 := h.nonneg
    have h1 := h.lt
    have g2 := g.len
    cases az with
    | nil => simp at g2; omega
    | cons e az =>
      refine EvS.step (fun k => by rw [spec_onlyIn.l0]) ?_
      refine EvS.pos h.lt (EvS.pos h.nonneg ?_)
      rw [At.rd h, at_rdE g, w64 (x := i + 1) (by omega) (by omega)]
      refine EvS.ite (fun c => EvS.pos (by omega) (EvS.pos (by omega) ?_)) (fun c => ?_)
      · refine EvS.mono (ih az (i + 1) _ h.next g.next (by simp; omega)) (fun r hr => ?_)
        rw [hr, only, if_pos c]
        simp
      · refine EvS.mono (ih az (i + 1) _ h.next g.next (by omega)) (fun r hr => ?_)
        rw [hr, only, if_neg c]
theorem only_nil (az : List S33) : only az [] = [] := by cases az <;> rfl
theorem spec_OnlyIn_ok (a b : List S33) (ha : a.length ≤ 2000000) (hb : b.length ≤ 2000000) : EvS (fun k => spec_OnlyIn.f k a b) (· = only a (partners a b)) := by
  have no : ¬ (VEs a ∧ VEs b) → EvS (fun _ => some ([] : List S33)) (· = only a (partners a b)) := fun g => EvS.now (by unfold partners; rw [if_neg g, only_nil])
  simp only [spec_OnlyIn.f]
  refine EvS.bindv (spec_validEntries_ok a ha) (EvS.ite (fun c => EvS.bindv (spec_validEntries_ok b hb) (EvS.ite (fun d => ?_) (fun d => no (fun g => ndec d g.2)))) (fun c => no (fun g => ndec c g.1)))
  refine EvS.bindv (a := only a (partners a b)) ?_ (EvS.now rfl)
  simp only [spec_onlyIn.f]
  refine EvS.bindv (spec_partners_ok a b ha hb) ?_
  have e : partners a b = partn b a (List.replicate b.length false) := by unfold partners; rw [if_pos ⟨of_decide_eq_true c, of_decide_eq_true d⟩]
  rw [e]
  refine EvS.mono (spec_only_l0 a _ (by rw [partn_len]; omega) (by rw [partn_len]; omega) _ a 0 [] (At.zero _) (At.zero _) (by simp)) (fun r hr => ?_)
  rw [hr]
  simp
/-! ## What an exact law asks of lists of the struct Entry. -/
def cvEntry (x : S60) : S33 := ⟨x.f0, x.f1, x.f2, x.f3⟩
theorem at_rdEntry {xs ys : List S33} {i : Int} {y : S33} (h : At xs i (y :: ys)) : rd_T33 xs i = y := h.getD _
theorem at_rdLEntry {xs ys : List S60} {i : Int} {y : S60} (h : At xs i (y :: ys)) : rd_T60 xs i = y := h.getD _
theorem rdEntry_set (xs : List S33) (i j : Int) (v : S33) (h0 : 0 ≤ i) (h1 : i < xs.length) (h2 : 0 ≤ j) : rd_T33 (xs.set i.toNat v) j = if i = j then v else rd_T33 xs j := by
  unfold rd_T33
  rw [List.getD_eq_getElem?_getD, List.getElem?_set]
  by_cases c : i = j
  · subst c; rw [if_pos rfl, if_pos (by omega), if_pos rfl]; rfl
  · rw [if_neg (by omega), if_neg c, List.getD_eq_getElem?_getD]
theorem listEntry_ext {xs ys : List S33} (hl : xs.length = ys.length) (h : ∀ i : Int, 0 ≤ i → i < xs.length → rd_T33 xs i = rd_T33 ys i) : xs = ys := by
  apply List.ext_getElem hl
  intro n h1 h2
  have := h n (by omega) (by omega)
  unfold rd_T33 at this
  simp only [Int.toNat_natCast] at this
  rw [List.getD_eq_getElem?_getD, List.getD_eq_getElem?_getD, List.getElem?_eq_getElem h1, List.getElem?_eq_getElem h2] at this
  exact this
theorem rdEntry_map (xs : List S60) (i : Int) (h0 : 0 ≤ i) (h1 : i < xs.length) : rd_T33 (xs.map cvEntry) i = cvEntry (rd_T60 xs i) := by
  unfold rd_T33 rd_T60
  rw [List.getD_eq_getElem?_getD, List.getD_eq_getElem?_getD, List.getElem?_map, List.getElem?_eq_getElem (show i.toNat < xs.length by omega)]
  rfl
theorem szEntry_eq (xs : List S60) (c : Int) (h0 : 0 ≤ c) (h1 : c ≤ 1048576) (hx : xs.length ≤ 9223372036854775807) : laws_szEntryS.f xs c = some (if c - xs.length < 0 then -1 else c - xs.length) := by
  unfold laws_szEntryS.f
  rw [w64 (x := c - (xs.length : Int)) (by omega) (by omega)]
  split <;> rfl
theorem toEntryS_l0 (xs : List S60) (hl : xs.length ≤ 4000000) (ys : List S60) : ∀ (i : Int) (s : List S33), At xs i ys → s.length = xs.length → (∀ j : Int, 0 ≤ j → j < i → rd_T33 s j = cvEntry (rd_T60 xs j)) → EvS (fun k => laws_toEntryS.l0 k xs s i) (· = xs.map cvEntry) := by
  induction ys with
  | nil =>
    intro i s h h1 h2
    have := h.ge
    refine EvS.step (fun k => by rw [laws_toEntryS.l0]) ?_
    exact EvS.neg (by omega) (EvS.now (listEntry_ext (by rw [List.length_map, h1]) (fun j j0 j1 => by rw [h2 j j0 (by omega), rdEntry_map xs j j0 (by omega)])))
  | cons y ys ih =>
    intro i s h h1 h2
    have g1 := h.lt
    have g2 := h.nonneg
    refine EvS.step (fun k => by rw [laws_toEntryS.l0]) ?_
    refine EvS.pos h.lt (EvS.pos h.nonneg (EvS.call (by unfold laws_toEntry.f; rfl) (EvS.pos (by omega) ?_)))
    rw [at_rdLEntry h, w64 (by omega) (by omega)]
    refine ih _ _ h.next (by simpa using h1) (fun j j0 j1 => ?_)
    rw [rdEntry_set _ _ _ _ g2 (by omega) j0]
    by_cases e : i = j
    · subst e; rw [if_pos rfl, at_rdLEntry h]; rfl
    · rw [if_neg e]; exact h2 j j0 (by omega)
theorem toEntryS_ok (xs : List S60) (hl : xs.length ≤ 4000000) : EvS (fun k => laws_toEntryS.f k xs) (· = xs.map cvEntry) := by
  simp only [laws_toEntryS.f]
  exact EvS.pos (by omega) (EvS.pos (by omega) (toEntryS_l0 xs hl xs 0 _ (At.zero _) (by simp) (fun j j0 j1 => by omega)))
theorem eqEntry_self (x : S33) : laws_eqEntry.f x.f0 x.f1 x.f2 x.f3 x.f0 x.f1 x.f2 x.f3 = some true := by
  unfold laws_eqEntry.f
  simp
theorem eqEntryS_l0 (xs : List S33) (hl : xs.length ≤ 4000000) (ys : List S33) : ∀ i : Int, At xs i ys → EvS (fun k => laws_eqEntryS.l0 k xs xs i) (· = true) := by
  induction ys with
  | nil =>
    intro i h
    refine EvS.step (fun k => by rw [laws_eqEntryS.l0]) ?_
    exact EvS.neg (by have := h.ge; omega) (EvS.now rfl)
  | cons y ys ih =>
    intro i h
    refine EvS.step (fun k => by rw [laws_eqEntryS.l0]) ?_
    exact EvS.pos h.lt (EvS.pos h.nonneg (EvS.pos h.lt (EvS.call (eqEntry_self _) (EvS.pos rfl (ih _ (h.wnext (by omega)))))))
theorem eqEntryS_ok (xs : List S33) (hl : xs.length ≤ 4000000) : EvS (fun k => laws_eqEntryS.f k xs xs) (· = true) := by
  simp only [laws_eqEntryS.f]
  exact EvS.pos (by trivial) (eqEntryS_l0 xs hl xs 0 (At.zero xs))
structure MarkedEntry (k : Int) (n : Nat) (m : List S33) : Prop where
  len : m.length = n
  val : ∀ j : Int, 0 ≤ j → j < n → rd_T33 m j = ⟨k + 4 * j, k + 4 * j + 1, k + 4 * j + 2, k + 4 * j + 3⟩
theorem markEntryS_l0 (n : Nat) (hn : n ≤ 4000000) (k0 : Int) (h0 : 0 ≤ k0) (h1 : k0 ≤ 1099511627776) (d : Nat) : ∀ (i : Int) (m : List S33), i + d = n → 0 ≤ i → m.length = n → (∀ j : Int, 0 ≤ j → j < i → rd_T33 m j = ⟨k0 + 4 * j, k0 + 4 * j + 1, k0 + 4 * j + 2, k0 + 4 * j + 3⟩) →
    EvS (fun k => laws_markEntryS.l0 k m (k0 + 4 * i) i) (fun r => r.1 = k0 + 4 * n ∧ MarkedEntry k0 n r.2) := by
  induction d with
  | zero =>
    intro i m e1 e2 e3 e4
    refine EvS.step (fun k => by rw [laws_markEntryS.l0]) ?_
    exact EvS.neg (by omega) (EvS.now ⟨by dsimp only; omega, e3, fun j j0 j1 => e4 j j0 (by omega)⟩)
  | succ d ih =>
    intro i m e1 e2 e3 e4
    have self : ∀ (l : List S33) (v : S33), l.length = n → rd_T33 (l.set i.toNat v) i = v := fun l v hl => by rw [rdEntry_set _ _ _ _ e2 (by omega) e2, if_pos rfl]
    refine EvS.step (fun k => by rw [laws_markEntryS.l0]) ?_
    refine EvS.pos (by omega) (EvS.pos e2 ?_)
    refine EvS.onsome (EvS.onsome (EvS.onsome (?_)))
    simp only [List.set_set, self m _ e3]
    rw [w64 (x := k0 + 4 * i + 1) (by omega) (by omega), w64 (x := k0 + 4 * i + 1 + 1) (by omega) (by omega), w64 (x := k0 + 4 * i + 1 + 1 + 1) (by omega) (by omega), w64 (x := k0 + 4 * i + 1 + 1 + 1 + 1) (by omega) (by omega), w64 (x := i + 1) (by omega) (by omega)]
    rw [show k0 + 4 * i + 1 + 1 + 1 + 1 = k0 + 4 * (i + 1) by omega]
    refine ih _ _ (by omega) (by omega) (by simpa using e3) (fun j j0 j1 => ?_)
    rw [rdEntry_set _ _ _ _ e2 (by omega) j0]
    by_cases e : i = j
    · subst e; rw [if_pos rfl]; simp only [Int.add_assoc]; rfl
    · rw [if_neg e]; exact e4 j j0 (by omega)
theorem markEntryS_ok (xs : List S33) (hl : xs.length ≤ 4000000) (k0 : Int) (h0 : 0 ≤ k0) (h1 : k0 ≤ 1099511627776) : EvS (fun k => laws_markEntryS.f k xs k0) (fun r => r.1 = k0 + 4 * xs.length ∧ MarkedEntry k0 xs.length r.2) := by
  simp only [laws_markEntryS.f]
  have := markEntryS_l0 xs.length hl k0 h0 h1 xs.length 0 xs (by omega) (by omega) rfl (fun j j0 j1 => by omega)
  rw [show k0 + 4 * 0 = k0 by omega] at this
  exact this
theorem heldEntryS_l0 (n : Nat) (hn : n ≤ 4000000) (k0 : Int) (h0 : 0 ≤ k0) (h1 : k0 ≤ 1099511627776) (m : List S33) (hm : MarkedEntry k0 n m) (d : Nat) : ∀ i : Int, i + d = n → 0 ≤ i → EvS (fun k => laws_heldEntryS.l0 k m (k0 + 4 * i) i) (· = k0 + 4 * n) := by
  have e3 := hm.len
  induction d with
  | zero =>
    intro i e1 e2
    refine EvS.step (fun k => by rw [laws_heldEntryS.l0]) ?_
    exact EvS.neg (by omega) (EvS.now (by omega))
  | succ d ih =>
    intro i e1 e2
    have hv := hm.val i e2 (by omega)
    refine EvS.step (fun k => by rw [laws_heldEntryS.l0]) ?_
    rw [hv]
    rw [w64 (x := k0 + 4 * i + 1) (by omega) (by omega), w64 (x := k0 + 4 * i + 1 + 1) (by omega) (by omega), w64 (x := k0 + 4 * i + 1 + 1 + 1) (by omega) (by omega), w64 (x := k0 + 4 * i + 1 + 1 + 1 + 1) (by omega) (by omega), w64 (x := i + 1) (by omega) (by omega)]
    refine EvS.pos (by omega) (EvS.pos e2 (EvS.pos (by first | rfl | (dsimp only; omega)) (EvS.pos (by first | rfl | (dsimp only; omega)) (EvS.pos (by first | rfl | (dsimp only; omega)) (EvS.pos (by first | rfl | (dsimp only; omega)) ?_)))))
    rw [show k0 + 4 * i + 1 + 1 + 1 + 1 = k0 + 4 * (i + 1) by omega]
    exact ih _ (by omega) (by omega)
theorem heldEntryS_ok (n : Nat) (hn : n ≤ 4000000) (k0 : Int) (h0 : 0 ≤ k0) (h1 : k0 ≤ 1099511627776) (m : List S33) (hm : MarkedEntry k0 n m) : EvS (fun k => laws_heldEntryS.f k m k0) (· = k0 + 4 * n) := by
  simp only [laws_heldEntryS.f]
  have := heldEntryS_l0 n hn k0 h0 h1 m hm n 0 (by omega) (by omega)
  rw [show k0 + 4 * 0 = k0 by omega] at this
  exact this
def G60 (x : S60) : Prop := ((Lit.int .i64 x.f0).wf = true) ∧ ((Lit.int .i64 x.f1).wf = true) ∧ ((Lit.int .i64 x.f2).wf = true) ∧ ((Lit.int .i64 x.f3).wf = true)
theorem FnExactOnlyIn (l0 : List S60) (g0 : l0.length ≤ 9223372036854775807 ∧ ∀ y0 ∈ l0, G60 y0) (l1 : List S60) (g1 : l1.length ≤ 9223372036854775807 ∧ ∀ y0 ∈ l1, G60 y0) : ∃ k, laws_FnExactOnlyIn.f k l0 l1 = some true := by
  refine EvS.holds ?_
  simp only [laws_FnExactOnlyIn.f]
  refine EvS.call (szEntry_eq l0 1048576 (by omega) (by omega) g0.1) ?_
  by_cases c : (1048576 : Int) - l0.length < 0
  · rw [if_pos c]; exact EvS.pos (by omega) (EvS.now rfl)
  · rw [if_neg c]
    refine EvS.neg c (EvS.call (szEntry_eq l1 _ (by omega) (by omega) g1.1) ?_)
    by_cases c1 : (1048576 : Int) - l0.length - l1.length < 0
    · rw [if_pos c1]; exact EvS.pos (by omega) (EvS.now rfl)
    · rw [if_neg c1]
      have to0 := toEntryS_ok l0 (by omega)
      have to1 := toEntryS_ok l1 (by omega)
      have hm0 : (l0.map cvEntry).length = l0.length := List.length_map _
      have hm1 : (l1.map cvEntry).length = l1.length := List.length_map _
      have hv : (only (l0.map cvEntry) (partners (l0.map cvEntry) (l1.map cvEntry))).length ≤ 40 := Nat.le_trans (only_len _ _) (partners_len _ _)
      have he := eqEntryS_ok (only (l0.map cvEntry) (partners (l0.map cvEntry) (l1.map cvEntry))) (by omega)
      have ii := impl_OnlyIn_ok (l0.map cvEntry) (l1.map cvEntry) (by omega) (by omega)
      refine EvS.neg c1 (EvS.bindv to0 (EvS.bindv to1 (EvS.bindv (spec_OnlyIn_ok _ _ (by omega) (by omega)) (EvS.bindv to0 (EvS.bindv to1 (EvS.bindv ii (EvS.bindv he (EvS.pos rfl (EvS.bindv to0 (EvS.bindv (eqEntryS_ok _ (by omega)) (EvS.pos rfl (EvS.bindv to1 (EvS.bindv (eqEntryS_ok _ (by omega)) (EvS.pos rfl ?_))))))))))))))
      refine EvS.bind (markEntryS_ok _ (by omega) 1 (by omega) (by omega)) (fun m1 hm1' => ?_)
      have e1 := hm1'.1
      refine EvS.bind (markEntryS_ok _ (by omega) m1.1 (by omega) (by omega)) (fun m2 hm2' => ?_)
      have e2 := hm2'.1
      refine EvS.neg (by omega) (EvS.bindv he ?_)
      refine EvS.step (fun k => by rw [laws_FnExactOnlyIn.j0]) ?_
      refine EvS.neg (by simp) (EvS.bind (markEntryS_ok _ (by omega) 1 (by omega) (by omega)) (fun m3 hm3 => ?_))
      have hd := heldEntryS_ok _ (by omega) 1 (by omega) (by omega) m3.2 hm3.2
      rw [← hm3.1] at hd
      have e3 := hm3.1
      refine EvS.bindv hd (EvS.neg (by omega) (EvS.pos rfl (EvS.bindv to0 (EvS.bindv to1 (EvS.bindv ii (EvS.bindv he (EvS.pos rfl (EvS.bindv hd (EvS.neg (by omega) (EvS.pos rfl (EvS.now rfl)))))))))))
end Go.Proofs.Ytgapjelooefofaa.Pure
