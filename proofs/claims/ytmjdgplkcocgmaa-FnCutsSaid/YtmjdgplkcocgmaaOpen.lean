/-
  How a law's argument is opened: what comes in as data is read as a list of flat elements.
-/
import Derived.Test.YtmjdgplkcocgmaaBase
set_option linter.unusedVariables false
namespace Go.Proofs.Ytmjdgplkcocgmaa
open Go.RowKit Go.ChangeShapes Go.WideShapes Go.Deep Go.Joins

section
variable {H : Type} {enc : TypeId × Value → H} {P : Program} {w : World} {spare : Nat → Bool} {held : Bool}

/-- From 'each element has a typed form' to one typed list. -/
theorem typed {α : Type} [Inhabited α] {n : Nat} {p : Nat → α → Prop} (h : ∀ i, i < n → ∃ x, p i x) : ∃ xs : List α, xs.length = n ∧ ∀ (i : Nat) (x : α), xs[i]? = some x → p i x := by
  obtain ⟨f, hf⟩ := choose_lt h
  refine ⟨(List.range n).map f, by simp, fun i x hx => ?_⟩
  rw [List.getElem?_map] at hx
  by_cases hi : i < n
  · rw [List.getElem?_range hi] at hx
    simp at hx
    subst hx
    exact hf i hi
  · rw [List.getElem?_eq_none (by simpa using hi)] at hx
    simp at hx

/-- A slice whose elements are flat structs. -/
theorem open_rd {α : Type} [Inhabited α] (cells : α → List Value) {t e : TypeId} {sz : Nat} {v : Value} {d : DataW H} {p : List MemPlace} {r : Reach} {b0 : Nat}
    (ht : P.underlying t = some (.slice e)) (hC : P.cellsOf e = sz) (hsz : 0 < sz)
    (hdec : ∀ (n : Nat) (cs : List Value) (y : DataW H × List MemPlace), DataW.trod enc P w 0 spare held n e cs = some y → ∃ x, cells x = cs)
    (hv : Value.okWide P w r b0 t v) (h : DataW.Trod enc P w 0 spare held t v d p) :
    ∃ A n c xs, v = .slice A n c ∧ n ≤ c ∧ c ≤ maxLen ∧ Rd w A n sz (xs : List α) cells := by
  obtain ⟨a0, len, cap, rfl⟩ := okWide_slice ht hv
  obtain ⟨fuel, hf⟩ := h
  rcases open_slice ht hf with ⟨hcs, _⟩ | ⟨a, l, c, m, n, D, Pl, hcs, _, hl, hm, hmm, _, hx⟩
  · simp [Value.cells] at hcs
    obtain ⟨rfl, rfl, rfl⟩ := hcs
    exact ⟨none, 0, 0, [], rfl, Nat.le_refl _, Nat.zero_le _, Rd.nil _ _ _ _⟩
  · simp [Value.cells] at hcs
    obtain ⟨rfl, rfl, rfl⟩ := hcs
    have hlm : len ≤ m := by rw [hmm]; split <;> omega
    obtain ⟨xs, hlen, hxs⟩ := typed (α := α) (n := len) (p := fun i x => ∀ j u, (cells x)[j]? = some u → w.cell? ((a.add (i * sz)).add j) = some u) (fun i hi => by
      obtain ⟨cs', hc, ht'⟩ := hx i (by omega)
      obtain ⟨x, hx'⟩ := hdec _ _ _ ht'
      rw [hC] at hc
      obtain ⟨_, hcl, hat⟩ := World.cells?_some hc
      refine ⟨x, fun j u hu => ?_⟩
      rw [hx'] at hu
      have hj : j < sz := by
        rw [← hcl]
        exact (List.getElem?_eq_some_iff.1 hu).1
      rw [hat j hj, hu])
    refine ⟨some a, len, cap, xs, rfl, hl, hm, hlen, fun hn => ?_⟩
    obtain ⟨cs', hc, ht'⟩ := hx 0 (by omega)
    rw [hC] at hc
    obtain ⟨_, hcl, hat⟩ := World.cells?_some hc
    have h0 := hat 0 hsz
    have hv0 : cs'[0]? = some (cs'[0]'(by omega)) := List.getElem?_eq_getElem (by omega)
    rw [hv0, Nat.zero_mul] at h0
    have ha : a = ⟨a.block, a.off, none⟩ := addr_form (w := w) (u := cs'[0]'(by omega)) (by simpa [Addr.add] using h0)
    refine ⟨a.block, a.off, by rw [← ha], ?_, fun i x j u h1 h2 => ?_⟩
    · have := block_lt_of_cell h0
      simpa [Addr.add] using this
    · have h3 := hxs i x h1 j u h2
      rw [ha, add_form, add_form, Nat.add_assoc] at h3
      exact h3

/-- A flat struct's cells, each with its own reading. -/
theorem dec_fields {e : TypeId} {fs : Array Field} (he : P.underlying e = some (.struct fs)) (hone : oneCellFields P fs = true) (hC : P.cellsOf e = fs.size) {n : Nat} {cs : List Value} {y : DataW H × List MemPlace} (h : DataW.trod enc P w 0 spare held n e cs = some y) :
    cs.length = fs.size ∧ ∃ m, ∀ (j : Nat) (f : Field), fs[j]? = some f → ∃ v y', cs[j]? = some v ∧ DataW.trod enc P w 0 spare held m f.type [v] = some y' := by
  obtain ⟨ys, n', hn', hy, hlen, hyl, hf⟩ := DataW.trod_struct he h
  rw [hC] at hlen
  refine ⟨hlen, n', fun j f hj => ?_⟩
  obtain ⟨ho, hk⟩ := hone_of hone j f hj
  have hjl : j < fs.size := (Array.getElem?_eq_some_iff.1 hj).1
  have h1 := hf j f hj
  rw [ho, hk] at h1
  have hone' : (cs.drop j).take 1 = [cs[j]'(by omega)] := by
    rw [List.drop_eq_getElem_cons (by omega)]
    rfl
  rw [hone'] at h1
  exact ⟨cs[j]'(by omega), ys[j]'(by omega), List.getElem?_eq_getElem (by omega), h1.trans (List.getElem?_eq_getElem (by omega))⟩

theorem dec_int1 {e : TypeId} {k : IntKind} (he : P.underlying e = some (.int k)) {n : Nat} {v : Value} {y : DataW H × List MemPlace} (h : DataW.trod enc P w 0 spare held n e [v] = some y) : ∃ z : Int, v = .int k z := by
  obtain ⟨z, e, _, _⟩ := DataW.trod_int he h
  simp only [List.cons.injEq, and_true] at e
  exact ⟨z, e⟩
theorem dec_bool1 {e : TypeId} (he : P.underlying e = some .bool) {n : Nat} {v : Value} {y : DataW H × List MemPlace} (h : DataW.trod enc P w 0 spare held n e [v] = some y) : ∃ z : Bool, v = .bool z := by
  obtain ⟨z, e, _⟩ := DataW.trod_bool he h
  simp only [List.cons.injEq, and_true] at e
  exact ⟨z, e⟩

theorem dec_int {e : TypeId} {k : IntKind} (he : P.underlying e = some (.int k)) (n : Nat) (cs : List Value) (y : DataW H × List MemPlace) (h : DataW.trod enc P w 0 spare held n e cs = some y) : ∃ x : Int, [Value.int k x] = cs := by
  obtain ⟨z, rfl, _, _⟩ := DataW.trod_int he h
  exact ⟨z, rfl⟩
theorem dec_bool {e : TypeId} (he : P.underlying e = some .bool) (n : Nat) (cs : List Value) (y : DataW H × List MemPlace) (h : DataW.trod enc P w 0 spare held n e cs = some y) : ∃ x : Bool, [Value.bool x] = cs := by
  obtain ⟨z, rfl, _⟩ := DataW.trod_bool he h
  exact ⟨z, rfl⟩
end

end Go.Proofs.Ytmjdgplkcocgmaa
