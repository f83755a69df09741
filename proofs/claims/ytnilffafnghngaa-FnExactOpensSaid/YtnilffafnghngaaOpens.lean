/- Words of this session: an argument that can be read holds a value of its kind. -/
import Derived.Test.YtnilffafnghngaaWMore
import Derived.Deep.Slices
import Derived.WideShapes
namespace Go.Proofs.Ytnilffafnghngaa.Opens
open Go.RowKit Go.Proofs.YtnilffafnghngaaW.PrintWords Go.ChangeShapes Go.WideShapes

/-- Whatever reads at type t is a value of the kind d, of which G holds. -/
def Opens {α : Type} (P : Program) (t : TypeId) (d : Kd α) (G : α → Prop) : Prop :=
  ∀ (H : Type) (enc : TypeId × Value → H) (W : World) (base : Nat) (sp : Nat → Bool) (held : Bool) (fuel : Nat) (cs : List Value) (x : DataW H × List MemPlace),
    DataW.trod enc P W base sp held fuel t cs = some x → ∃ y : α, d.K W y cs ∧ G y
theorem Opens.mono {α : Type} {P : Program} {t : TypeId} {d : Kd α} {G G' : α → Prop} (h : Opens P t d G) (k : ∀ y, G y → G' y) : Opens P t d G' := by
  intro H enc W base sp held fuel cs x hx
  obtain ⟨y, h1, h2⟩ := h H enc W base sp held fuel cs x hx
  exact ⟨y, h1, k y h2⟩
theorem opens_int {P : Program} {t : TypeId} {k : IntKind} (ht : P.underlying t = some (.int k)) : Opens P t (Kd.int k) (fun n => (Lit.int k n).wf = true) := by
  intro H enc W base sp held fuel cs x h
  obtain ⟨n, rfl, _, hw⟩ := DataW.trod_int ht h
  exact ⟨n, rfl, hw⟩
theorem list_of {α : Type} {p : Nat → α → Prop} : ∀ n : Nat, (∀ i, i < n → ∃ y, p i y) → ∃ ys : List α, ys.length = n ∧ ∀ (i : Nat) (y : α), ys[i]? = some y → p i y
  | 0, _ => ⟨[], rfl, by simp⟩
  | n + 1, h => by
    obtain ⟨ys, hl, hp⟩ := list_of n (fun i hi => h i (by omega))
    obtain ⟨y, hy⟩ := h n (by omega)
    refine ⟨ys ++ [y], by simp [hl], fun i z hz => ?_⟩
    rcases Nat.lt_or_ge i ys.length with g | g
    · rw [List.getElem?_append_left g] at hz
      exact hp i z hz
    · rw [List.getElem?_append_right g] at hz
      have e1 : i - ys.length = 0 := by
        have := (List.getElem?_eq_some_iff.1 hz).1
        simp at this
        omega
      rw [e1] at hz
      simp at hz
      subst hz
      have e2 : i = n := by omega
      subst e2
      exact hy
theorem opens_slice {α : Type} {P : Program} {t e : TypeId} {d : Kd α} {G : α → Prop} (ht : P.underlying t = some (.slice e)) (hc : P.cellsOf e = d.sz) (hd : Opens P e d G) :
    Opens P t (Kd.slice e d) (fun l => l.length ≤ 9223372036854775807 ∧ ∀ x ∈ l, G x) := by
  have hmx : maxLen ≤ 9223372036854775807 := by decide
  intro H enc W base sp held fuel cs x h
  rcases Go.Deep.open_slice ht h with ⟨rfl, _⟩ | ⟨a, len, cap, m, n, D, Pl, rfl, _, hl, hm, hmm, _, hx⟩
  · exact ⟨[], ⟨none, 0, rfl, Nat.le_refl _, ⟨rfl, by simp, fun g => by simp at g⟩⟩, by simp, by simp⟩
  · have hle : len ≤ m := by rw [hmm]; split <;> omega
    obtain ⟨ys, hyl, hy⟩ := list_of (α := α) (p := fun i y => ∃ cs', W.cells? base (a.add (i * P.cellsOf e)) (P.cellsOf e) = some cs' ∧ d.K W y cs' ∧ G y) len (fun i hi => by
      obtain ⟨cs', h1, h2⟩ := hx i (by omega)
      obtain ⟨y, h3, h4⟩ := hd H enc W base sp held n cs' _ h2
      exact ⟨y, cs', h1, h3, h4⟩)
    refine ⟨ys, ⟨some a, cap, by rw [hyl], by omega, ⟨rfl, by omega, fun _ => ⟨a, rfl, fun j p hj => ?_⟩⟩⟩, by omega, fun y hm => ?_⟩
    · obtain ⟨cs', h1, h2, _⟩ := hy j p hj
      obtain ⟨_, h4, h5⟩ := World.cells?_some h1
      refine ⟨cs', by rw [h4, hc], h2, fun i u hu => ?_⟩
      have hi : i < P.cellsOf e := by have := (List.getElem?_eq_some_iff.1 hu).1; omega
      have := h5 i hi
      rw [Go.Deep.add_add, hc, hu] at this
      exact this
    · obtain ⟨i, hi⟩ := List.mem_iff_getElem?.1 hm
      obtain ⟨_, _, _, h4⟩ := hy i y hi
      exact h4
/-- Fields from a place on. -/
def OpensFs {α : Type} (P : Program) (fs : List Field) (off : Nat) (d : Kd α) (G : α → Prop) : Prop :=
  ∀ (H : Type) (enc : TypeId × Value → H) (W : World) (base : Nat) (sp : Nat → Bool) (held : Bool) (fuel : Nat) (cs : List Value), cs.length = off + d.sz →
    (∀ f ∈ fs, ∃ x, DataW.trod enc P W base sp held fuel f.type ((cs.drop f.offset).take (P.cellsOf f.type)) = some x) → ∃ y : α, d.K W y (cs.drop off) ∧ G y
theorem opensFs_last {α : Type} {P : Program} {f : Field} {off : Nat} {d : Kd α} {G : α → Prop} (ho : f.offset = off) (hc : P.cellsOf f.type = d.sz) (h : Opens P f.type d G) : OpensFs P [f] off d G := by
  intro H enc W base sp held fuel cs hl hf
  obtain ⟨x, hx⟩ := hf f List.mem_cons_self
  obtain ⟨y, h1, h2⟩ := h H enc W base sp held fuel _ x hx
  rw [ho, List.take_of_length_le (by rw [List.length_drop]; omega)] at h1
  exact ⟨y, h1, h2⟩
theorem opensFs_cons {α β : Type} {P : Program} {f : Field} {fs : List Field} {off : Nat} {a : Kd α} {b : Kd β} {Ga : α → Prop} {Gb : β → Prop} (ho : f.offset = off) (hc : P.cellsOf f.type = a.sz) (h : Opens P f.type a Ga) (hs : OpensFs P fs (off + a.sz) b Gb) :
    OpensFs P (f :: fs) off (Kd.pair a b) (fun x => Ga x.1 ∧ Gb x.2) := by
  intro H enc W base sp held fuel cs hl hf
  have hl' : cs.length = off + (a.sz + b.sz) := hl
  obtain ⟨x, hx⟩ := hf f List.mem_cons_self
  obtain ⟨y, h1, h2⟩ := h H enc W base sp held fuel _ x hx
  obtain ⟨z, h3, h4⟩ := hs H enc W base sp held fuel cs (by omega) (fun g hg => hf g (List.mem_cons_of_mem _ hg))
  refine ⟨(y, z), ⟨(cs.drop off).take a.sz, cs.drop (off + a.sz), ?_, ?_, h3⟩, h2, h4⟩
  · rw [← List.drop_drop, List.take_append_drop]
  · rw [ho, hc] at h1
    exact h1
theorem opens_struct {α : Type} {P : Program} {t : TypeId} {fs : Array Field} {d : Kd α} {G : α → Prop} (ht : P.underlying t = some (.struct fs)) (hc : P.cellsOf t = d.sz) (h : OpensFs P fs.toList 0 d G) : Opens P t d G := by
  intro H enc W base sp held fuel cs x hx
  obtain ⟨xs, n, rfl, _, hl, hxl, hf⟩ := DataW.trod_struct ht hx
  obtain ⟨y, h1, h2⟩ := h H enc W base sp held n cs (by omega) (fun f hm => by
    obtain ⟨i, hi⟩ := List.mem_iff_getElem?.1 hm
    have h3 : fs[i]? = some f := by simpa using hi
    have h4 := hf i f h3
    have h5 : i < xs.length := by
      have := (Array.getElem?_eq_some_iff.1 h3).1
      omega
    rw [List.getElem?_eq_getElem h5] at h4
    exact ⟨_, h4⟩)
  exact ⟨y, h1, h2⟩
theorem opens_iso {α β : Type} {P : Program} {t : TypeId} {d : Kd α} {G : α → Prop} (f : β → α) (g : α → β) (hg : ∀ y, f (g y) = y) (h : Opens P t d G) : Opens P t (Kd.iso d f) (fun x => G (f x)) := by
  intro H enc W base sp held fuel cs x hx
  obtain ⟨y, h1, h2⟩ := h H enc W base sp held fuel cs x hx
  refine ⟨g y, ?_, ?_⟩
  · show d.K W (f (g y)) cs
    rw [hg]
    exact h1
  · show G (f (g y))
    rw [hg]
    exact h2
/-- A slice that came in. -/
theorem opens_arg {α : Type} {P : Program} {t e : TypeId} {d : Kd α} {G : List α → Prop} (h : Opens P t (Kd.slice e d) G) {H : Type} {enc : TypeId × Value → H} {W : World} {base : Nat} {sp : Nat → Bool} {held : Bool} {a : Option Addr} {len cap : Nat} {x : DataW H} {ps : List MemPlace}
    (hx : DataW.Trod enc P W base sp held t (.slice a len cap) x ps) : ∃ l : List α, len = l.length ∧ Kd.C d W a l.length l ∧ l.length ≤ cap ∧ G l := by
  obtain ⟨fuel, hf⟩ := hx
  obtain ⟨l, ⟨A, c, he, h1, h2⟩, h3⟩ := h H enc W base sp held fuel _ _ hf
  have he' : [Value.slice a len cap] = [.slice A l.length c] := he
  injection he' with he' _
  injection he' with e1 e2 e3
  subst e1 e2 e3
  exact ⟨l, rfl, h2, h1, h3⟩
theorem int_cell {P : Program} {t : TypeId} {k : IntKind} (ht : P.underlying t = some (.int k)) {H : Type} {enc : TypeId × Value → H} {W : World} {base : Nat} {sp : Nat → Bool} {held : Bool} {fuel : Nat} {v : Value} {x : DataW H × List MemPlace}
    (hx : DataW.trod enc P W base sp held fuel t [v] = some x) : ∃ n, v = .int k n ∧ (Lit.int k n).wf = true := by
  obtain ⟨n, he, _, hw⟩ := DataW.trod_int ht hx
  injection he with he _
  exact ⟨n, he, hw⟩
/-- .. as a list of cells. -/
theorem opens_cells {α : Type} {P : Program} {t e : TypeId} {d : Kd α} {G : List α → Prop} (h : Opens P t (Kd.slice e d) G) {H : Type} {enc : TypeId × Value → H} {W : World} {base : Nat} {sp : Nat → Bool} {held : Bool} {fuel : Nat} {v : Value} {x : DataW H × List MemPlace}
    (hx : DataW.trod enc P W base sp held fuel t [v] = some x) : ∃ (l : List α) (a : Option Addr) (cap : Nat), v = .slice a l.length cap ∧ Kd.C d W a l.length l ∧ l.length ≤ cap ∧ G l := by
  obtain ⟨l, ⟨A, c, he, h1, h2⟩, h3⟩ := h H enc W base sp held fuel _ _ hx
  injection he with he _
  exact ⟨l, A, c, he, h2, h1, h3⟩
end Go.Proofs.Ytnilffafnghngaa.Opens
