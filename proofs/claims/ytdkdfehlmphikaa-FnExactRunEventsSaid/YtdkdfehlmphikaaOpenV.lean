/- Events that came in, opened to their cells. No condition. -/
import Derived.Test.YtdkdfehlmphikaaOpenE
import Derived.Test.YtdkdfehlmphikaaEvl
namespace Go.Proofs.Ytdkdfehlmphikaa.OpenV
open Go.ChangeShapes Go.WideShapes Go.Deep Go.RowKit Go.Joins Go.Proofs.Ytdkdfehlmphikaa.OpenE
theorem list6 {α : Type} {l : List α} (h : l.length = 6) : ∃ a b c d e f, l = [a, b, c, d, e, f] := by
  match l, h with
  | [a, b, c, d, e, f], _ => exact ⟨a, b, c, d, e, f, rfl⟩
variable {H : Type} {enc : TypeId × Value → H} {W : World} {base : Nat} {spare : Nat → Bool} {held : Bool}
theorem cV : Try.prog.cellsOf 106 = 6 := by kernel_rfl
theorem open_events {fuel : Nat} {x : DataW H × List MemPlace} {a : Option Addr} {len cap : Nat} (hf : DataW.trod enc Try.prog W base spare held fuel 58 [.slice a len cap] = some x) : ∃ vs, IsEvs W a len cap vs := by
  rcases open_slice Try.underlying58 hf with ⟨hcs, _⟩ | ⟨ad, l, c, m, n, D, Pl, hcs, hb, hl, hm, hmm, hx, hi⟩
  · simp at hcs
    obtain ⟨rfl, rfl, rfl⟩ := hcs
    exact ⟨[], rfl, Nat.le_refl _, Nat.zero_le _, .inl rfl⟩
  · simp at hcs
    obtain ⟨rfl, rfl, rfl⟩ := hcs
    have key : ∀ i, i < len → ∃ e : V6, W.cell? (ad.add (i * 6)) = some (.int .i64 e.1) ∧ W.cell? (ad.add (i * 6 + 1)) = some (.int .i64 e.2.1) ∧ W.cell? (ad.add (i * 6 + 2)) = some (.int .i64 e.2.2.1) ∧ W.cell? (ad.add (i * 6 + 3)) = some (.int .i64 e.2.2.2.1) ∧
        W.cell? (ad.add (i * 6 + 4)) = some (.int .i64 e.2.2.2.2.1) ∧ W.cell? (ad.add (i * 6 + 5)) = some (.int .i64 e.2.2.2.2.2) := by
      intro i hil
      obtain ⟨cs, hcells, ht⟩ := hi i (by
        have : len ≤ m := by rw [hmm]; split <;> omega
        omega)
      rw [cV] at hcells
      obtain ⟨_, hlen6, hat⟩ := World.cells?_some hcells
      obtain ⟨u0, u1, u2, u3, u4, u5, rfl⟩ := list6 hlen6
      have g0 := hat 0 (by omega)
      have g1 := hat 1 (by omega)
      have g2 := hat 2 (by omega)
      have g3 := hat 3 (by omega)
      have g4 := hat 4 (by omega)
      have g5 := hat 5 (by omega)
      rw [add_add] at g0 g1 g2 g3 g4 g5
      obtain ⟨ys, n', _, _, _, hyl, hfld⟩ := DataW.trod_struct Try.underlying106 ht
      have hyl2 : ys.length = 2 := hyl
      have t0 : DataW.trod enc Try.prog W base spare held n' 3 [u0] = some (ys[0]'(by omega)) := by
        have := hfld 0 _ rfl
        simpa [ci, hyl2] using this
      have t1 : DataW.trod enc Try.prog W base spare held n' 46 [u1, u2, u3, u4, u5] = some (ys[1]'(by omega)) := by
        have := hfld 1 _ rfl
        simpa [ci, cF, hyl2] using this
      obtain ⟨v0, e0, _, _⟩ := DataW.trod_int Try.underlying3 t0
      obtain ⟨a0, a1, a2, a3, a4, e1, _⟩ := flow_cells t1
      simp only [List.cons.injEq, and_true] at e0 e1
      obtain ⟨rfl, rfl, rfl, rfl, rfl⟩ := e1
      subst e0
      exact ⟨(v0, a0, a1, a2, a3, a4), g0, g1, g2, g3, g4, g5⟩
    obtain ⟨vs, hlen, hp⟩ := choose_list _ (Go.Proofs.Ytdkdfehlmphikaa.v0 : V6) len key
    refine ⟨vs, hlen, hl, hm, ?_⟩
    by_cases h0 : len = 0
    · left
      have : vs = [] := List.eq_nil_of_length_eq_zero (by omega)
      rw [this]; rfl
    · obtain ⟨b, off, spot⟩ := ad
      have h1 := (hp 0 (by omega)).1
      have hsp : spot = none := by simpa [Addr.add] using World.cell?_spot h1
      subst hsp
      refine .inr ⟨b, off, rfl, World.block_lt_of_cell? W _ h1, fun i hi => ?_⟩
      rw [vInts_len] at hi
      have hk : i / 6 < vs.length := by omega
      obtain ⟨q0, q1, q2, q3, q4, q5⟩ := vInts_get hk
      obtain ⟨p0, p1, p2, p3, p4, p5⟩ := hp (i / 6) (by omega)
      rw [add_at] at p0 p1 p2 p3 p4 p5
      have h6 : i = i / 6 * 6 ∨ i = i / 6 * 6 + 1 ∨ i = i / 6 * 6 + 2 ∨ i = i / 6 * 6 + 3 ∨ i = i / 6 * 6 + 4 ∨ i = i / 6 * 6 + 5 := by omega
      rcases h6 with h | h | h | h | h | h
      · rw [h, q0]; exact p0
      · rw [h, q1]; exact p1
      · rw [h, q2]; exact p2
      · rw [h, q3]; exact p3
      · rw [h, q4]; exact p4
      · rw [h, q5]; exact p5
end Go.Proofs.Ytdkdfehlmphikaa.OpenV
