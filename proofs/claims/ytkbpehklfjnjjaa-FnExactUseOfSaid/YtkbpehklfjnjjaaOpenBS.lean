/-
  How a law's argument of a slice of blocks is opened.
-/
import Derived.Test.YtkbpehklfjnjjaaOpenSS
import Derived.Test.YtkbpehklfjnjjaaDec
import Derived.Test.YtkbpehklfjnjjaaBS
set_option linter.unusedVariables false
namespace Go.Proofs.Ytkbpehklfjnjjaa
open Go.RowKit Go.ChangeShapes Go.WideShapes Go.Deep Go.Joins

section
variable {H : Type} {enc : TypeId × Value → H} {P : Program} {w : World} {spare : Nat → Bool} {held : Bool}

theorem dec_block {e q : TypeId} {f0 f1 : Field} (he : P.underlying e = some (.struct #[f0, f1])) (hone : oneCellFields P #[f0, f1] = true) (hC : P.cellsOf e = 2) (t0 : P.underlying f0.type = some (.int .i64)) (t1 : P.underlying f1.type = some (.slice q)) (hq : P.cellsOf q = 3)
    (hdec : ∀ (n : Nat) (cs : List Value) (y : DataW H × List MemPlace), DataW.trod enc P w 0 spare held n q cs = some y → ∃ x : Cell, cellC x = cs)
    (n : Nat) (cs : List Value) (y : DataW H × List MemPlace) (h : DataW.trod enc P w 0 spare held n e cs = some y) :
    ∃ x : Bd, bdC x = cs ∧ x.n ≤ x.c ∧ x.c ≤ maxLen ∧ ∃ r : List Cell, Rd w x.A x.n 3 r cellC := by
  obtain ⟨hl, m, hf⟩ := dec_fields he hone hC h
  match cs, hl with
  | [d0, d1], _ =>
    obtain ⟨v0, y0, c0, k0⟩ := hf 0 f0 rfl
    obtain ⟨z0, rfl⟩ := dec_int1 t0 k0
    obtain ⟨v1, y1, c1, k1⟩ := hf 1 f1 rfl
    obtain ⟨A, n', c', xs, e1, h1, h2, hR, _⟩ := open_cs (sz := 3) cellC (fun _ => True) t1 hq (by decide) (fun n cs y hy => by
      obtain ⟨x, hx⟩ := hdec n cs y hy
      exact ⟨x, hx, trivial⟩) k1
    simp only [List.cons.injEq, and_true] at e1
    subst e1
    simp only [List.getElem?_cons_zero, List.getElem?_cons_succ, Option.some.injEq] at c0 c1
    subst c0 c1
    exact ⟨⟨z0, A, n', c'⟩, rfl, h1, h2, xs, hR⟩

theorem open_rdb {t e : TypeId} {v : Value} {d : DataW H} {p : List MemPlace} {r : Reach} {b0 : Nat}
    (ht : P.underlying t = some (.slice e)) (hC : P.cellsOf e = 2)
    (hdec : ∀ (n : Nat) (cs : List Value) (y : DataW H × List MemPlace), DataW.trod enc P w 0 spare held n e cs = some y → ∃ x : Bd, bdC x = cs ∧ x.n ≤ x.c ∧ x.c ≤ maxLen ∧ ∃ r : List Cell, Rd w x.A x.n 3 r cellC)
    (hv : Value.okWide P w r b0 t v) (h : DataW.Trod enc P w 0 spare held t v d p) :
    ∃ A n c rows, v = .slice A n c ∧ n ≤ c ∧ c ≤ maxLen ∧ RdB w A n rows ∧ ∀ r ∈ rows, r.2.length ≤ maxLen := by
  obtain ⟨a0, len, cap, rfl⟩ := okWide_slice ht hv
  obtain ⟨fuel, hf⟩ := h
  obtain ⟨A, n, c, hs, hcs, h1, h2, hR, hq⟩ := open_cs bdC (fun x : Bd => x.n ≤ x.c ∧ x.c ≤ maxLen ∧ ∃ r : List Cell, Rd w x.A x.n 3 r cellC) ht hC (by decide) (fun n cs y hy => by
    obtain ⟨x, e1, e2⟩ := hdec n cs y hy
    exact ⟨x, e1, e2⟩) hf
  simp [Value.cells] at hcs
  obtain ⟨rfl, rfl, rfl⟩ := hcs
  obtain ⟨rows, hlen, hrows⟩ := typed (α := Blk) (n := len) (p := fun i r => ∀ x, hs[i]? = some x → x.s = r.1 ∧ Rd w x.A x.n 3 r.2 cellC) (fun i hi => by
    have hx : hs[i]? = some (hs[i]'(by rw [hR.len]; exact hi)) := List.getElem?_eq_getElem _
    obtain ⟨_, _, r, hr⟩ := hq i _ hx
    refine ⟨((hs[i]'(by rw [hR.len]; exact hi)).s, r), fun x h' => ?_⟩
    rw [hx] at h'
    injection h' with h'
    rw [← h']
    exact ⟨rfl, hr⟩)
  refine ⟨a0, len, cap, rows, rfl, h1, h2, ⟨hlen, hs, hR, fun i k r hk hr => ⟨⟨(hrows i r hr k hk).1, (hq i k hk).1⟩, (hrows i r hr k hk).2⟩⟩, fun r hr => ?_⟩
  obtain ⟨i, hi⟩ := List.getElem?_of_mem hr
  have hil : i < len := by rw [← hlen]; exact (List.getElem?_eq_some_iff.1 hi).1
  have hx : hs[i]? = some (hs[i]'(by rw [hR.len]; exact hil)) := List.getElem?_eq_getElem _
  have h3 := (hrows i r hi _ hx).2
  have h4 := hq i _ hx
  have h5 := h3.len
  omega
end

end Go.Proofs.Ytkbpehklfjnjjaa
