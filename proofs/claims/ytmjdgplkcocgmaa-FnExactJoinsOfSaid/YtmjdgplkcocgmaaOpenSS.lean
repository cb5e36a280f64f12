/-
  How a law's argument of slices of slices is opened.
-/
import Derived.Test.YtmjdgplkcocgmaaZWords
set_option linter.unusedVariables false
namespace Go.Proofs.Ytmjdgplkcocgmaa
open Go.RowKit Go.ChangeShapes Go.WideShapes Go.Deep Go.Joins

section
variable {H : Type} {enc : TypeId × Value → H} {P : Program} {w : World} {spare : Nat → Bool} {held : Bool}

/-- The cells of a slice, each element with a property of its own. -/
theorem open_cs {α : Type} [Inhabited α] (cells : α → List Value) (Q : α → Prop) {t e : TypeId} {sz : Nat} {cs : List Value} {x : DataW H × List MemPlace} {fuel : Nat}
    (ht : P.underlying t = some (.slice e)) (hC : P.cellsOf e = sz) (hsz : 0 < sz)
    (hdec : ∀ (n : Nat) (cs : List Value) (y : DataW H × List MemPlace), DataW.trod enc P w 0 spare held n e cs = some y → ∃ x, cells x = cs ∧ Q x)
    (hf : DataW.trod enc P w 0 spare held fuel t cs = some x) :
    ∃ (A : Option Addr) (n c : Nat) (xs : List α), cs = [.slice A n c] ∧ n ≤ c ∧ c ≤ maxLen ∧ Rd w A n sz (xs : List α) cells ∧ ∀ (i : Nat) (x : α), (xs : List α)[i]? = some x → Q x := by
  rcases open_slice ht hf with ⟨hcs, _⟩ | ⟨a, len, cap, m, n, D, Pl, hcs, _, hl, hm, hmm, _, hx⟩
  · exact ⟨none, 0, 0, [], hcs, Nat.le_refl _, Nat.zero_le _, Rd.nil _ _ _ _, fun i x h => by simp at h⟩
  · have hlm : len ≤ m := by rw [hmm]; split <;> omega
    obtain ⟨xs, hlen, hxs⟩ := typed (α := α) (n := len) (p := fun i x => (∀ j u, (cells x)[j]? = some u → w.cell? ((a.add (i * sz)).add j) = some u) ∧ Q x) (fun i hi => by
      obtain ⟨cs', hc, ht'⟩ := hx i (by omega)
      obtain ⟨x, hx', hq⟩ := hdec _ _ _ ht'
      rw [hC] at hc
      obtain ⟨_, hcl, hat⟩ := World.cells?_some hc
      refine ⟨x, fun j u hu => ?_, hq⟩
      rw [hx'] at hu
      have hj : j < sz := by
        rw [← hcl]
        exact (List.getElem?_eq_some_iff.1 hu).1
      rw [hat j hj, hu])
    refine ⟨some a, len, cap, xs, hcs, hl, hm, ⟨hlen, fun hn => ?_⟩, fun i x h => (hxs i x h).2⟩
    obtain ⟨cs', hc, ht'⟩ := hx 0 (by omega)
    rw [hC] at hc
    obtain ⟨_, hcl, hat⟩ := World.cells?_some hc
    have h0 := hat 0 hsz
    have hv0 : cs'[0]? = some (cs'[0]'(by omega)) := List.getElem?_eq_getElem (by omega)
    rw [hv0, Nat.zero_mul] at h0
    have ha : a = ⟨a.block, a.off, none⟩ := addr_form (w := w) (u := cs'[0]'(by omega)) (by simpa [Addr.add] using h0)
    refine ⟨a.block, a.off, by rw [← ha], ?_, fun i x j u h1 h2 => ?_⟩
    · have := block_lt_of_cell h0
      simpa [Addr.add] using this
    · have h3 := (hxs i x h1).1 j u h2
      rw [ha, add_form, add_form, Nat.add_assoc] at h3
      exact h3

/-- A slice of slices of one-cell elements. -/
theorem open_rdss {α : Type} [Inhabited α] (cells : α → List Value) {t e q : TypeId} {v : Value} {d : DataW H} {p : List MemPlace} {r : Reach} {b0 : Nat}
    (ht : P.underlying t = some (.slice e)) (hC : P.cellsOf e = 1) (he : P.underlying e = some (.slice q)) (hQ : P.cellsOf q = 1)
    (hdec : ∀ (n : Nat) (cs : List Value) (y : DataW H × List MemPlace), DataW.trod enc P w 0 spare held n q cs = some y → ∃ x, cells x = cs)
    (hv : Value.okWide P w r b0 t v) (h : DataW.Trod enc P w 0 spare held t v d p) :
    ∃ A n c rows, v = .slice A n c ∧ n ≤ c ∧ c ≤ maxLen ∧ RdSS w A n (rows : List (List α)) cells ∧ ∀ r ∈ rows, r.length ≤ maxLen := by
  obtain ⟨a0, len, cap, rfl⟩ := okWide_slice ht hv
  obtain ⟨fuel, hf⟩ := h
  obtain ⟨A, n, c, hs, hcs, h1, h2, hR, hq⟩ := open_cs hdC (fun x : Hd => x.n ≤ x.c ∧ x.c ≤ maxLen ∧ ∃ r : List α, Rd w x.A x.n 1 r cells) ht hC (by decide) (fun n cs y hy => by
    obtain ⟨A, n, c, xs, e1, e2, e3, e4, _⟩ := open_cs cells (fun _ => True) he hQ (by decide) (fun n cs y hy => by
      obtain ⟨x, hx⟩ := hdec n cs y hy
      exact ⟨x, hx, trivial⟩) hy
    exact ⟨⟨A, n, c⟩, e1.symm, e2, e3, xs, e4⟩) hf
  simp [Value.cells] at hcs
  obtain ⟨rfl, rfl, rfl⟩ := hcs
  obtain ⟨rows, hlen, hrows⟩ := typed (α := List α) (n := len) (p := fun i r => ∀ x, hs[i]? = some x → Rd w x.A x.n 1 r cells) (fun i hi => by
    have hx : hs[i]? = some (hs[i]'(by rw [hR.len]; exact hi)) := List.getElem?_eq_getElem _
    obtain ⟨_, _, r, hr⟩ := hq i _ hx
    refine ⟨r, fun x h' => ?_⟩
    rw [hx] at h'
    injection h' with h'
    rw [← h']
    exact hr)
  refine ⟨a0, len, cap, rows, rfl, h1, h2, ⟨hlen, hs, hR, fun i k r hk hr => ⟨(hq i k hk).1, hrows i r hr k hk⟩⟩, fun r hr => ?_⟩
  obtain ⟨i, hi⟩ := List.getElem?_of_mem hr
  have hil : i < len := by rw [← hlen]; exact (List.getElem?_eq_some_iff.1 hi).1
  have hx : hs[i]? = some (hs[i]'(by rw [hR.len]; exact hil)) := List.getElem?_eq_getElem _
  have h3 := hrows i r hi _ hx
  have h4 := hq i _ hx
  have h5 := h3.len
  omega
end

end Go.Proofs.Ytmjdgplkcocgmaa
