/- What loops over functions leave among a function's deferred calls, where such a loop stands in another loop. -/
import Derived.Test.YtnilffafnghngaaBacks
import Derived.Test.YtnilffafnghngaaWWords
import Derived.DefersIn
set_option linter.unusedVariables false
namespace Go.Proofs.Ytnilffafnghngaa.Back
open Go.RowKit Go.Shelf Go.Proofs.YtnilffafnghngaaW.PrintWords
/-- What the loops over functions leave among the deferred calls: marks; each block lies from B on, is empty, and no two are one. -/
def Marks (B : Nat) : List Deferred → World → Prop
  | [], _ => True
  | d :: ds, W => (∃ D, d = { target := .collected D, args := #[] } ∧ B ≤ D ∧ W.heap[D]? = some (.deferred (some [])) ∧ ∀ e ∈ ds, e.target ≠ .collected D) ∧ Marks B ds W
theorem Marks.keep {B : Nat} {W W1 : World} (hk : ∀ (k : Nat) (o : Obj), W.heap[k]? = some o → o.isCells = false → W1.heap[k]? = some o) : ∀ {ds : List Deferred}, Marks B ds W → Marks B ds W1
  | [], _ => trivial
  | d :: ds, ⟨⟨D, e, hB, hD, hn⟩, h⟩ => ⟨⟨D, e, hB, hk _ _ hD rfl, hn⟩, Marks.keep hk h⟩
theorem Marks.others {B : Nat} {W W1 : World} {ds : List Deferred} (h : Marks B ds W) (hk : KeepsOthers W W1) : Marks B ds W1 := Marks.keep hk.same h
theorem Marks.below {B : Nat} {W W1 : World} {ds : List Deferred} (h : Marks B ds W) (hb : Below W.heap.size W W1) : Marks B ds W1 :=
  Marks.keep (fun k o hk _ => (hb.block k (Array.getElem?_eq_some_iff.1 hk).1).trans hk) h
theorem Marks.set {B : Nat} {W : World} {ds : List Deferred} (h : Marks B ds W) (a : Addr) (v : Value) : Marks B ds (W.setCell a v) := h.others (KeepsOthers.setCell W a v)
theorem Marks.alloc {B : Nat} {W : World} {ds : List Deferred} (h : Marks B ds W) (o : Obj) : Marks B ds (W.alloc o) := h.others (KeepsOthers.alloc W o)
theorem Marks.drew {B : Nat} {W : World} {ds : List Deferred} (h : Marks B ds W) : Marks B ds W.drew := Marks.keep (W := W) (W1 := W.drew) (fun _ _ h _ => h) h
theorem Marks.drewN {B : Nat} {W : World} {ds : List Deferred} (h : Marks B ds W) (n : Nat) : Marks B ds (W.drewN n) := Marks.keep (W := W) (W1 := W.drewN n) (fun _ _ h _ => h) h
theorem Marks.grown {B : Nat} {W W1 : World} {ds : List Deferred} {row : Option Nat} (h : Marks B ds W) (hg : W.grownBy W1 row) (hr : ∀ r, row = some r → ∃ o : Obj, W.heap[r]? = some o ∧ o.isCells = true) : Marks B ds W1 :=
  Marks.keep (fun k o hk ho => (hg.block k (Array.getElem?_eq_some_iff.1 hk).1 (fun e => by obtain ⟨o', h1, h2⟩ := hr k e.symm; rw [hk] at h1; cases h1; rw [ho] at h2; cases h2)).trans hk) h
theorem Marks.row {α : Type} {d : Kd α} {e : Nat} {base : Nat} {ok : Nat → Prop} {v : Value} {xs : List α} {B : Nat} {W W1 : World} {ds : List Deferred} (h : Marks B ds W) (hr : d.R e W base ok v xs) (hg : W.grownBy W1 v.ownBlock) : Marks B ds W1 :=
  h.grown hg (fun r hv => by obtain ⟨inner, ho⟩ := Kd.R_own hr; obtain ⟨cells, hc⟩ := own_typed ho r hv; exact ⟨_, hc, rfl⟩)
theorem Marks.fresh {B : Nat} {W : World} {D : Nat} (hD : W.heap.size ≤ D) : ∀ {ds : List Deferred}, Marks B ds W → ∀ e ∈ ds, e.target ≠ .collected D
  | [], _, e, he => by simp at he
  | d :: ds, ⟨⟨D', ed, _, hD', _⟩, h⟩, e, he => by
    rcases List.mem_cons.1 he with rfl | he
    · rw [ed]
      intro q
      injection q with q
      subst q
      have := (Array.getElem?_eq_some_iff.1 hD').1
      omega
    · exact Marks.fresh hD h e he
theorem Marks.push {B : Nat} {W : World} {ds : List Deferred} {D : Nat} {W0 : World} (h0 : Marks B ds W0) (h : Marks B ds W) (hf : W0.heap.size ≤ D) (hB : B ≤ D) (hD : W.heap[D]? = some (.deferred (some []))) : Marks B ({ target := .collected D, args := #[] } :: ds) W :=
  ⟨⟨D, rfl, hB, hD, Marks.fresh hf h0⟩, h⟩
/-- All cells are as they were. -/
def Cells (W W1 : World) : Prop := ∀ (k : Nat) (o : Obj), W.heap[k]? = some o → o.isCells = true → W1.heap[k]? = some o
theorem leaves_marks {F : Fence} {n : Nat} {P : Program} {fn : Func} {tmps : Array Value} {R : Ending → World → Prop} {B : Nat} : ∀ (ds : List Deferred) (W : World), B ≤ W.heap.size → Marks B ds W → (∀ W', Below B W W' → Cells W W' → LeavesIn F n P fn tmps R [] .returning W') → LeavesInM F n P fn tmps R ds .returning W
  | [], W, _, _, h => h W (Below.refl _ _) (fun _ _ h _ => h)
  | d :: ds, W, hBs, ⟨⟨D, ed, hB, hD, hn⟩, hm⟩, h => by
    subst ed
    have hb : Below B W (W.putObj D (.deferred none)) := (Below.refl B W).grown (grownBy_putObj' W D (.deferred none)) hBs (fun k e => by cases e; exact hB)
    have hc : Cells W (W.putObj D (.deferred none)) := fun k o hk ho => (World.putObj_heap_other (fun e => by subst e; rw [hD] at hk; cases hk; cases ho)).trans hk
    refine ⟨by simp, .inl ⟨D, W.putObj D (.deferred none), rfl, run_takeDeferred hD, ?_⟩⟩
    refine leaves_marks ds _ (Nat.le_trans hBs hb.size) ?_ (fun W' h1 h2 => h W' (hb.trans h1) (fun k o hk ho => h2 k o (hc k o hk ho) ho))
    have go : ∀ ds' : List Deferred, (∀ e ∈ ds', e.target ≠ .collected D) → Marks B ds' W → Marks B ds' (W.putObj D (.deferred none)) := by
      intro ds'
      induction ds' with
      | nil => intro _ _; trivial
      | cons d' ds' ih =>
        rintro hn' ⟨⟨D', ed', hB', hD', hn2⟩, hm'⟩
        refine ⟨⟨D', ed', hB', (World.putObj_heap_other (fun e => hn' d' List.mem_cons_self (by rw [ed', e]))).trans hD', hn2⟩, ih (fun e he => hn' e (List.mem_cons_of_mem _ he)) hm'⟩
    exact go ds hn hm
theorem R_turned {α : Type} {d : Kd α} {e : Nat} {W W1 : World} {base : Nat} {ok : Nat → Prop} {v : Value} {xs : List α} (h : d.R e W base ok v xs) (hc : Cells W W1) : d.R e W1 base ok v xs :=
  Kd.R_mono (Kd.R_move (Kd.R_bound h) (fun k hk => by
    obtain ⟨_, _, _, q, _, cells, hcells⟩ := hk
    rw [hc k _ hcells rfl, hcells])) (fun _ hk => hk.1)
/-- What a body must achieve that cannot panic: marks and deferred calls at its return. -/
def retsM (n : Nat) (P : Program) (fn : Func) (R : Ending → World → Prop) : Exit → Act → World → Prop
  | .normal, a, w | .ret, a, w => LeavesInM Fence.wide n P fn a.tmps R a.defers .returning w
  | _, _, _ => False
theorem retsM_body {n : Nat} {P : Program} {fn : Func} {R : Ending → World → Prop} {c : Code} {a : Act} {w : World} (h : c.wp P (retsM n P fn R) a w) : c.wpIn Fence.wide n P (bodyPostM Fence.wide n P fn R) a w :=
  wpIn_wide.2 (wp_mono h (fun e a w h => by cases e <;> first | exact h | exact h.elim))
end Go.Proofs.Ytnilffafnghngaa.Back
