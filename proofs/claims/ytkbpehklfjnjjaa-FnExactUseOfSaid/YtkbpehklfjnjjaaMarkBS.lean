/-
  Lists of blocks: how the law file marks them.
-/
import Derived.Test.YtkbpehklfjnjjaaFlatBS
set_option linter.unusedVariables false
namespace Go.Proofs.Ytkbpehklfjnjjaa
open Go.RowKit

/-- Block g holds the heads hs from number k on. -/
def TPart (w : World) (g : Nat) (T : TypeId) (n : Nat) (hs : List Bd) (k : Nat) : Prop :=
  ∃ c : Array Value, w.heap[g]? = some (.cells c T (0, 0)) ∧ n * 2 ≤ c.size ∧ ∀ (i : Nat) (x : Bd) (j : Nat) (u : Value), k ≤ i → hs[i]? = some x → (bdC x)[j]? = some u → c[i * 2 + j]? = some u
section
variable {w w' : World} {g : Nat} {T : TypeId} {n k : Nat} {hs : List Bd}
theorem TPart.of (h : Part w g T n 2 hs bdC n) (hl : hs.length = n) : TPart w g T n hs 0 := by
  obtain ⟨c, hc, hz, hx⟩ := h
  exact ⟨c, hc, hz, fun i x j u _ h1 h2 => hx i x j u (by rw [← hl]; exact (List.getElem?_eq_some_iff.1 h1).1) h1 h2⟩
theorem TPart.lt (h : TPart w g T n hs k) : g < w.heap.size := by
  obtain ⟨c, hc, _⟩ := h
  exact heap_lt hc
theorem TPart.frozen (h : TPart w g T n hs k) (o : Nat) : w.frozen? ⟨g, o, none⟩ = false := by
  obtain ⟨c, hc, _⟩ := h
  simp [World.frozen?, hc]
theorem TPart.block (h : TPart w g T n hs k) (e : w'.heap[g]? = w.heap[g]?) : TPart w' g T n hs k := by
  obtain ⟨c, hc, hz, hx⟩ := h
  exact ⟨c, e.trans hc, hz, hx⟩
theorem TPart.at_ (h : TPart w g T n hs k) {x : Bd} (hx : hs[k]? = some x) : w.cell? ⟨g, k * 2, none⟩ = some (.int .i64 x.s) ∧ w.cell? ⟨g, k * 2 + 1, none⟩ = some (.slice x.A x.n x.c) := by
  obtain ⟨c, hc, hz, hh⟩ := h
  refine ⟨?_, ?_⟩ <;> rw [cell_of_row w g _ c T (0, 0) hc]
  · exact hh k x 0 _ (Nat.le_refl _) hx rfl
  · exact hh k x 1 _ (Nat.le_refl _) hx rfl
theorem TPart.set (h : TPart w g T n hs k) (u : Value) : TPart (w.setCell ⟨g, k * 2, none⟩ u) g T n hs (k + 1) := by
  obtain ⟨c, hc, hz, hx⟩ := h
  refine ⟨c.setIfInBounds (k * 2) u, ?_, by simpa using hz, fun i x j v hi h1 h2 => ?_⟩
  · simp [World.setCell, Array.getElem?_modify, hc]
  · rw [Array.getElem?_setIfInBounds, if_neg (by omega)]
    exact hx i x j v (by omega) h1 h2
end

set_option maxRecDepth 100000 in
theorem markBlockS_two (A : Option Addr) (n c lo hi : Nat) (q : Int) (rows : List Blk) (W : World) (h : OwnB W lo hi A n rows) (hn : n ≤ 4194304) (hl : lens (rows.map Prod.snd) ≤ 4194304) (hq : 0 ≤ q) (hq2 : q ≤ 900000000) :
    Calls Try.prog 42 #[.slice A n c, .int .i64 q] W fun e w' => e = .returned (.int .i64 (q + ((n + 3 * lens (rows.map Prod.snd) : Nat) : Int))) ∧ Only lo hi W w' := by
  obtain ⟨hlen, hs, hO, hP, hoff⟩ := h
  by_cases hn0 : n = 0
  · subst hn0
    have hr0 : rows = [] := List.eq_nil_of_length_eq_zero hlen
    subst hr0
    go_enter Try.func42, Try.ntmps42
    go_wp2
    go_loop [1, 5] (fun s i => s = .int .i64 q ∧ i = .int .i64 0) (fun _ i => (intOf i).toNat)
    case atStart => exact ⟨rfl, rfl⟩
    case round =>
      obtain ⟨rfl, rfl⟩ := hrel
      go_wp2
      go_ret
      exact ⟨ret_i (by simp [lens]), Only.refl _ _ _⟩
  · obtain ⟨g, T, rfl, hlo, hhi, hP0⟩ := hO.2 (by omega)
    have hhl : hs.length = n := hO.len
    have hT0 := TPart.of hP0 hhl
    have HOFF := Lib.hid (hoff _ rfl (by omega))
    have HAP := Lib.hid hP.2.2
    have HLEN := Lib.hid hlen
    have HHL := Lib.hid hhl
    have hrow0 : ∀ (i : Nat) (h : Bd) (r : Blk), 0 ≤ i → hs[i]? = some h → rows[i]? = some r → Own W lo hi h.A h.n 3 r.2 cellC := fun i h r _ h1 h2 => (hP.2.1 i h r h1 h2).2
    have HROW0 := Lib.hid hrow0
    clear hlen hhl hO hP hoff hP0 hrow0
    go_enter Try.func42, Try.ntmps42
    go_wp2
    go_loopw [1, 5] (fun s i wr => ∃ (k p : Nat), k ≤ n ∧ i = .int .i64 k ∧ s = .int .i64 (q + (p : Int)) ∧ p ≤ 33554432 ∧ Hid (p = k + 3 * lens ((rows.map Prod.snd).take k)) ∧ TPart wr g T n hs k ∧ Hid (∀ (i : Nat) (h : Bd) (r : Blk), k ≤ i → hs[i]? = some h → rows[i]? = some r → Own wr lo hi h.A h.n 3 r.2 cellC) ∧ Only lo hi W wr) (fun _ i _ => n - (intOf i).toNat)
    case atStart => exact ⟨0, 0, Nat.zero_le _, rfl, by simp, by omega, by simp [Hid, lens], hT0, HROW0, Only.refl _ _ _⟩
    case round =>
      obtain ⟨k, p, hk, rfl, rfl, hp, hpe, hT, hrow, hon⟩ := hrel
      by_cases hlt : k < n
      · have hxk : hs[k]? = some (hs[k]'(by have := HHL.out; omega)) := List.getElem?_eq_getElem _
        have hrk : rows[k]? = some (rows[k]'(by have := HLEN.out; omega)) := List.getElem?_eq_getElem _
        obtain ⟨x, hx⟩ : ∃ x, hs[k]? = some x := ⟨_, hxk⟩
        obtain ⟨r, hr⟩ : ∃ r, rows[k]? = some r := ⟨_, hrk⟩
        clear hxk hrk
        have hsnd : (rows.map Prod.snd)[k]? = some r.2 := by rw [List.getElem?_map, hr]; rfl
        have hown := hrow.out k x r (Nat.le_refl _) hx hr
        obtain ⟨hc0, hc1⟩ := hT.at_ hx
        have hglt := hT.lt
        have hf0 := hT.frozen (k * 2)
        have hb2 : Only g (g + 1) wr (wr.setCell ⟨g, k * 2, none⟩ (.int .i64 (q + (p : Int)))) := ⟨rfl, rfl, rfl, by simp [World.setCell], fun j hj hd => Below.heap_setCell wr ⟨g, k * 2, none⟩ _ j (by show j ≠ g; omega)⟩
        have hown1 := hown.only' hb2 (fun g' e hn' => by have := HOFF.out k x _ hx e hn'; simp at this; omega)
        have hT1 := hT.set (.int .i64 (q + (p : Int)))
        have hrow1 : ∀ (i : Nat) (h : Bd) (r : Blk), k ≤ i → hs[i]? = some h → rows[i]? = some r → Own (wr.setCell ⟨g, k * 2, none⟩ (.int .i64 (q + (p : Int)))) lo hi h.A h.n 3 r.2 cellC := fun i h r hi h1 h2 => (hrow.out i h r hi h1 h2).only' hb2 (fun g' e hn' => by have := HOFF.out i h _ h1 e hn'; simp at this; omega)
        have HROW1 := Lib.hid hrow1
        have hon1 : Only lo hi W (wr.setCell ⟨g, k * 2, none⟩ (.int .i64 (q + (p : Int)))) := hon.trans (hb2.mono hlo (by omega))
        have hc2 : (wr.setCell ⟨g, k * 2, none⟩ (.int .i64 (q + (p : Int)))).cell? ⟨g, k * 2 + 1, none⟩ = some (.slice x.A x.n x.c) := by rw [World.cell?_setCell_other _ _ _ _ (by simp)]; exact hc1
        have hrl : r.2.length = x.n := hown.len
        have hla := lens_at hsnd
        have hpl := hpe.out
        have hxn : x.n ≤ 4194304 := by omega
        have hp2 : p + 1 + 3 * x.n ≤ 33554432 := by omega
        obtain ⟨l, u, hex, hloc, hzero⟩ := hown1.exact
        have HX := Lib.hid hx
        have HR := Lib.hid hsnd
        have HRL := Lib.hid hrl
        clear hx hr hrl hla hpl hsnd hown hown1 hrow hrow1 hT hon hb2 hc1
        obtain ⟨xs, xA, xn, xc⟩ := x
        simp only at hc0 hc2 hex hloc hzero hxn hp2
        obtain ⟨w0, hw0⟩ : ∃ v, Hid (wr.setCell ⟨g, k * 2, none⟩ (.int .i64 (q + (p : Int))) = v) := ⟨_, rfl⟩
        rw [hw0.out] at hc2 hex hT1 HROW1 hon1
        go_wp2_with (rw [hw0.out])
        refine (markCellS_any xA xn xc l u (q + (p : Int) + 1) r.2 _ hex (by omega) (by omega) (by omega)).mono ?_
        rintro e w1 ⟨rfl, hM1, ho1⟩
        go_wp2_with fail
        go_roundw
        case rel =>
          have hgt : g < l ∨ u ≤ g := by
            rcases Nat.eq_zero_or_pos xn with h0 | h0
            · have := hzero h0; omega
            · obtain ⟨g', T', e', _⟩ := hM1.2 h0
              have h4 := hloc _ e' h0
              have h5 := HOFF.out k _ _ HX.out e' h0
              simp at h4 h5
              omega
          have hap : ∀ (i : Nat) (h : Bd), k + 1 ≤ i → hs[i]? = some h → ∀ g', h.A = some ⟨g', 0, none⟩ → 0 < h.n → g' < l ∨ u ≤ g' := fun i h hi h1 g' e hn' => by
            rcases Nat.eq_zero_or_pos xn with h0 | h0
            · have := hzero h0; omega
            · obtain ⟨g2, T', e', _⟩ := hM1.2 h0
              have h4 := hloc _ e' h0
              have h5 := HAP.out k i _ h _ _ HX.out h1 (by omega) e' e h0 hn'
              simp at h4 h5
              omega
          refine ⟨k + 1, p + 1 + 3 * xn, by omega, by go_num, num_eq (by omega), hp2, ?_, hT1.block (ho1.block g hT1.lt hgt), fun i h r hi h1 h2 => (HROW1.out i h r (by omega) h1 h2).only' ho1 (hap i h hi h1), hon1.trans ?_⟩
          · show _ = _
            have := hpe.out
            have h6 := HRL.out
            rw [lens_take_succ HR.out, h6]
            omega
          · rcases Nat.eq_zero_or_pos xn with h0 | h0
            · exact ho1.all (by have := hzero h0; omega)
            · obtain ⟨g', T', e', _⟩ := hM1.2 h0
              have h4 := hloc _ e' h0
              exact ho1.mono h4.2.2.1 h4.2.2.2
        case measure => simp [intOf]; omega
      · go_wp2
        go_ret
        obtain rfl : k = n := by omega
        have e1 := hpe.out
        have e2 := HLEN.out
        rw [List.take_of_length_le (by rw [List.length_map]; omega)] at e1
        exact ⟨ret_i (by omega), hon⟩

theorem markBlockS_any (A : Option Addr) (n c lo hi : Nat) (q : Int) (rows : List Blk) (W : World) (h : OwnB W lo hi A n rows) (hn : n ≤ 4194304) (hl : lens (rows.map Prod.snd) ≤ 4194304) (hq : 0 ≤ q) (hq2 : q ≤ 900000000) :
    Calls Try.prog 42 #[.slice A n c, .int .i64 q] W fun e w' => e = .returned (.int .i64 (q + ((n + 3 * lens (rows.map Prod.snd) : Nat) : Int))) ∧ True ∧ Only lo hi W w' :=
  (markBlockS_two A n c lo hi q rows W h hn hl hq hq2).mono fun e w' h => ⟨h.1, trivial, h.2⟩

end Go.Proofs.Ytkbpehklfjnjjaa
