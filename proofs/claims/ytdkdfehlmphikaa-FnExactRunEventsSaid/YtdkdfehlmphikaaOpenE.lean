/- Flows and tables that came in, opened to their cells. No condition. -/
import Derived.Test.YtdkdfehlmphikaaMB
import Derived.Deep.Slices
import Derived.Deep.Fields
import Derived.ChangeSame
import Derived.OpenShut
import Derived.Lib.SmallJoins
namespace Go.Proofs.Ytdkdfehlmphikaa.OpenE
open Go.ChangeShapes Go.WideShapes Go.Deep Go.RowKit Go.Joins
theorem choose_list {α : Type} (P : Nat → α → Prop) (d : α) : ∀ n, (∀ i, i < n → ∃ x, P i x) → ∃ l : List α, l.length = n ∧ ∀ i, i < n → P i (l.getD i d)
  | 0, _ => ⟨[], rfl, fun i hi => by omega⟩
  | n + 1, h => by
    obtain ⟨l, hl, hp⟩ := choose_list P d n (fun i hi => h i (by omega))
    obtain ⟨x, hx⟩ := h n (by omega)
    refine ⟨l ++ [x], by simp [hl], fun i hi => ?_⟩
    by_cases hin : i < n
    · have : (l ++ [x]).getD i d = l.getD i d := by
        rw [List.getD_eq_getElem?_getD, List.getD_eq_getElem?_getD, List.getElem?_append_left (by omega)]
      rw [this]; exact hp i hin
    · have hi' : i = n := by omega
      have : (l ++ [x]).getD i d = x := by
        rw [List.getD_eq_getElem?_getD, List.getElem?_append_right (by omega), hl, hi', Nat.sub_self]; rfl
      rw [this, hi']; exact hx
theorem add_at {b off : Nat} (i : Nat) : (⟨b, off, none⟩ : Addr).add i = ⟨b, off + i, none⟩ := by
  unfold Addr.add; split <;> simp_all
theorem list5 {α : Type} {l : List α} (h : l.length = 5) : ∃ a b c d e, l = [a, b, c, d, e] := by
  match l, h with
  | [a, b, c, d, e], _ => exact ⟨a, b, c, d, e, rfl⟩
theorem list7 {α : Type} {l : List α} (h : l.length = 7) : ∃ a b c d e f g, l = [a, b, c, d, e, f, g] := by
  match l, h with
  | [a, b, c, d, e, f, g], _ => exact ⟨a, b, c, d, e, f, g, rfl⟩
variable {H : Type} {enc : TypeId × Value → H} {W : World} {base : Nat} {spare : Nat → Bool} {held : Bool}
theorem ci : Try.prog.cellsOf 3 = 1 := by kernel_rfl
theorem cF : Try.prog.cellsOf 46 = 5 := by kernel_rfl
theorem cE : Try.prog.cellsOf 121 = 7 := by kernel_rfl
theorem cT : Try.prog.cellsOf 45 = 3 := by kernel_rfl
/-- Five cells that read as a flow are five ints. -/
theorem flow_cells {fuel : Nat} {cs : List Value} {x : DataW H × List MemPlace} (h : DataW.trod enc Try.prog W base spare held fuel 46 cs = some x) :
    ∃ a b c d k : Int, cs = [.int .i64 a, .int .i64 b, .int .i64 c, .int .i64 d, .int .i64 k] ∧ (Lit.int .i64 a).wf = true ∧ (Lit.int .i64 b).wf = true ∧ (Lit.int .i64 c).wf = true ∧ (Lit.int .i64 d).wf = true ∧ (Lit.int .i64 k).wf = true := by
  obtain ⟨ys, n, _, _, hl, hyl, hfld⟩ := DataW.trod_struct Try.underlying46 h
  rw [cF] at hl
  obtain ⟨u0, u1, u2, u3, u4, rfl⟩ := list5 hl
  have hy5 : ys.length = 5 := hyl
  have t0 : DataW.trod enc Try.prog W base spare held n 3 [u0] = some (ys[0]'(by omega)) := by
    have := hfld 0 _ rfl
    simpa [ci, hy5] using this
  have t1 : DataW.trod enc Try.prog W base spare held n 3 [u1] = some (ys[1]'(by omega)) := by
    have := hfld 1 _ rfl
    simpa [ci, hy5] using this
  have t2 : DataW.trod enc Try.prog W base spare held n 3 [u2] = some (ys[2]'(by omega)) := by
    have := hfld 2 _ rfl
    simpa [ci, hy5] using this
  have t3 : DataW.trod enc Try.prog W base spare held n 3 [u3] = some (ys[3]'(by omega)) := by
    have := hfld 3 _ rfl
    simpa [ci, hy5] using this
  have t4 : DataW.trod enc Try.prog W base spare held n 3 [u4] = some (ys[4]'(by omega)) := by
    have := hfld 4 _ rfl
    simpa [ci, hy5] using this
  obtain ⟨v0, e0, _, w0⟩ := DataW.trod_int Try.underlying3 t0
  obtain ⟨v1, e1, _, w1⟩ := DataW.trod_int Try.underlying3 t1
  obtain ⟨v2, e2, _, w2⟩ := DataW.trod_int Try.underlying3 t2
  obtain ⟨v3, e3, _, w3⟩ := DataW.trod_int Try.underlying3 t3
  obtain ⟨v4, e4, _, w4⟩ := DataW.trod_int Try.underlying3 t4
  simp only [List.cons.injEq, and_true] at e0 e1 e2 e3 e4
  subst e0 e1 e2 e3 e4
  exact ⟨v0, v1, v2, v3, v4, rfl, w0, w1, w2, w3, w4⟩
set_option maxRecDepth 100000 in
theorem open_flow {r : Reach} {b0 : Nat} {v : Value} {d : DataW H} {p : List MemPlace} (hv : Value.okWide Try.prog W r b0 46 v) (h : DataW.Trod enc Try.prog W base spare held 46 v d p) :
    ∃ a b c d k : Int, v = .agg #[.int .i64 a, .int .i64 b, .int .i64 c, .int .i64 d, .int .i64 k] ∧ (Lit.int .i64 a).wf = true ∧ (Lit.int .i64 b).wf = true ∧ (Lit.int .i64 c).wf = true ∧ (Lit.int .i64 d).wf = true ∧ (Lit.int .i64 k).wf = true := by
  obtain ⟨cs, rfl, hsz⟩ := okWide_struct Try.underlying46 hv
  obtain ⟨fuel, hf⟩ := h
  obtain ⟨a, b, c, d, k, hc, hw⟩ := flow_cells hf
  refine ⟨a, b, c, d, k, ?_, hw⟩
  simp only [Value.cells] at hc
  obtain ⟨l⟩ := cs
  rw [show l = _ from hc]
theorem open_ents {fuel : Nat} {x : DataW H × List MemPlace} {a : Option Addr} {len cap : Nat} (hf : DataW.trod enc Try.prog W base spare held fuel 43 [.slice a len cap] = some x) : ∃ es, IsEnts W a len cap es := by
  rcases open_slice Try.underlying43 hf with ⟨hcs, _⟩ | ⟨ad, l, c, m, n, D, Pl, hcs, hb, hl, hm, hmm, hx, hi⟩
  · simp at hcs
    obtain ⟨rfl, rfl, rfl⟩ := hcs
    exact ⟨[], rfl, Nat.le_refl _, Nat.zero_le _, fun _ => ⟨rfl, rfl⟩, .inl rfl⟩
  · simp at hcs
    obtain ⟨rfl, rfl, rfl⟩ := hcs
    have key : ∀ i, i < len → ∃ e : E7, W.cell? (ad.add (i * 7)) = some (.int .i64 e.1.1) ∧ W.cell? (ad.add (i * 7 + 1)) = some (.int .i64 e.1.2.1) ∧ W.cell? (ad.add (i * 7 + 2)) = some (.int .i64 e.1.2.2.1) ∧ W.cell? (ad.add (i * 7 + 3)) = some (.int .i64 e.1.2.2.2.1) ∧
        W.cell? (ad.add (i * 7 + 4)) = some (.int .i64 e.1.2.2.2.2) ∧ W.cell? (ad.add (i * 7 + 5)) = some (.int .i64 e.2.1) ∧ W.cell? (ad.add (i * 7 + 6)) = some (.int .i64 e.2.2) := by
      intro i hil
      obtain ⟨cs, hcells, ht⟩ := hi i (by
        have : len ≤ m := by rw [hmm]; split <;> omega
        omega)
      rw [cE] at hcells
      obtain ⟨_, hlen7, hat⟩ := World.cells?_some hcells
      obtain ⟨u0, u1, u2, u3, u4, u5, u6, rfl⟩ := list7 hlen7
      have g0 := hat 0 (by omega)
      have g1 := hat 1 (by omega)
      have g2 := hat 2 (by omega)
      have g3 := hat 3 (by omega)
      have g4 := hat 4 (by omega)
      have g5 := hat 5 (by omega)
      have g6 := hat 6 (by omega)
      rw [add_add] at g0 g1 g2 g3 g4 g5 g6
      obtain ⟨ys, n', _, _, _, hyl, hfld⟩ := DataW.trod_struct Try.underlying121 ht
      have hyl3 : ys.length = 3 := hyl
      have t0 : DataW.trod enc Try.prog W base spare held n' 46 [u0, u1, u2, u3, u4] = some (ys[0]'(by omega)) := by
        have := hfld 0 _ rfl
        simpa [cF, hyl3] using this
      have t1 : DataW.trod enc Try.prog W base spare held n' 3 [u5] = some (ys[1]'(by omega)) := by
        have := hfld 1 _ rfl
        simpa [ci, hyl3] using this
      have t2 : DataW.trod enc Try.prog W base spare held n' 3 [u6] = some (ys[2]'(by omega)) := by
        have := hfld 2 _ rfl
        simpa [ci, hyl3] using this
      obtain ⟨a0, a1, a2, a3, a4, e0, _⟩ := flow_cells t0
      obtain ⟨v5, e5, _, _⟩ := DataW.trod_int Try.underlying3 t1
      obtain ⟨v6, e6, _, _⟩ := DataW.trod_int Try.underlying3 t2
      simp only [List.cons.injEq, and_true] at e0 e5 e6
      obtain ⟨rfl, rfl, rfl, rfl, rfl⟩ := e0
      subst e5 e6
      exact ⟨((a0, a1, a2, a3, a4), v5, v6), g0, g1, g2, g3, g4, g5, g6⟩
    obtain ⟨es, hlen, hp⟩ := choose_list _ (Go.Proofs.Ytdkdfehlmphikaa.e0 : E7) len key
    refine ⟨es, hlen, hl, hm, fun h => by simp at h, ?_⟩
    by_cases h0 : len = 0
    · left
      have : es = [] := List.eq_nil_of_length_eq_zero (by omega)
      rw [this]; rfl
    · obtain ⟨b, off, spot⟩ := ad
      have h1 := (hp 0 (by omega)).1
      have hsp : spot = none := by simpa [Addr.add] using World.cell?_spot h1
      subst hsp
      refine .inr ⟨b, off, rfl, World.block_lt_of_cell? W _ h1, fun i hi => ?_⟩
      rw [eInts_len] at hi
      have hk : i / 7 < es.length := by omega
      obtain ⟨q0, q1, q2, q3, q4, q5, q6⟩ := eInts_get hk
      obtain ⟨p0, p1, p2, p3, p4, p5, p6⟩ := hp (i / 7) (by omega)
      rw [add_at] at p0 p1 p2 p3 p4 p5 p6
      have h7 : i = i / 7 * 7 ∨ i = i / 7 * 7 + 1 ∨ i = i / 7 * 7 + 2 ∨ i = i / 7 * 7 + 3 ∨ i = i / 7 * 7 + 4 ∨ i = i / 7 * 7 + 5 ∨ i = i / 7 * 7 + 6 := by omega
      rcases h7 with h | h | h | h | h | h | h
      · rw [h, q0]; exact p0
      · rw [h, q1]; exact p1
      · rw [h, q2]; exact p2
      · rw [h, q3]; exact p3
      · rw [h, q4]; exact p4
      · rw [h, q5]; exact p5
      · rw [h, q6]; exact p6
set_option maxRecDepth 100000 in
theorem open_table {r : Reach} {b0 : Nat} {v : Value} {d : DataW H} {p : List MemPlace} (hv : Value.okWide Try.prog W r b0 45 v) (h : DataW.Trod enc Try.prog W base spare held 45 v d p) :
    ∃ (x y : Int) (a : Option Addr) (len cap : Nat) (es : List E7), v = .agg #[.int .i64 x, .int .i64 y, .slice a len cap] ∧ (Lit.int .i64 x).wf = true ∧ (Lit.int .i64 y).wf = true ∧ IsEnts W a len cap es := by
  obtain ⟨c0, c1, c2, y0, y1, y2, m, rfl, _, _, h0, h1, h2⟩ := open_agg3 Try.underlying45 (by kernel_rfl) cT hv h
  obtain ⟨v0, e0, _, w0⟩ := DataW.trod_int Try.underlying3 h0
  obtain ⟨v1, e1, _, w1⟩ := DataW.trod_int Try.underlying3 h1
  simp only [List.cons.injEq, and_true] at e0 e1
  subst e0 e1
  obtain ⟨a, l, c, hcs⟩ := slice_form Try.underlying43 h2
  simp only [List.cons.injEq, and_true] at hcs
  subst hcs
  obtain ⟨es, he⟩ := open_ents h2
  exact ⟨v0, v1, a, l, c, es, rfl, w0, w1, he⟩
end Go.Proofs.Ytdkdfehlmphikaa.OpenE
