/- A pool that came in, opened to its cells. No condition. -/
import Derived.Test.YtdkdfehlmphikaaIsH
import Derived.Deep.Slices
import Derived.Deep.Fields
import Derived.ChangeSame
import Derived.OpenShut
namespace Go.Proofs.Ytdkdfehlmphikaa.OpenH
open Go.ChangeShapes Go.WideShapes Go.Deep Go.RowKit
theorem choose_list {α : Type} (P : Nat → α → Prop) (d : α) : ∀ n, (∀ i, i < n → ∃ x, P i x) → ∃ l : List α, l.length = n ∧ ∀ i, i < n → P i (l.getD i d)
  | 0, _ => ⟨[], rfl, fun i hi => by omega⟩
  | n + 1, h => by
    obtain ⟨l, hl, hp⟩ := choose_list P d n (fun i hi => h i (by omega))
    obtain ⟨x, hx⟩ := h n (by omega)
    refine ⟨l ++ [x], by simp [hl], fun i hi => ?_⟩
    by_cases hin : i < n
    · have : (l ++ [x]).getD i d = l.getD i d := by
        rw [List.getD_eq_getElem?_getD, List.getD_eq_getElem?_getD, List.getElem?_append_left (by omega)]
      rw [this]; exact hp i hin
    · have hi' : i = n := by omega
      have : (l ++ [x]).getD i d = x := by
        rw [List.getD_eq_getElem?_getD, List.getElem?_append_right (by omega), hl, hi', Nat.sub_self]; rfl
      rw [this, hi']; exact hx
theorem add_at {b off : Nat} (i : Nat) : (⟨b, off, none⟩ : Addr).add i = ⟨b, off + i, none⟩ := by
  unfold Addr.add; split <;> simp_all
theorem open_hosts {H : Type} {enc : TypeId × Value → H} {W : World} {base fuel : Nat} {x : DataW H × List MemPlace} {a : Option Addr} {len cap : Nat}
    (hf : DataW.trod enc Try.prog W base (fun _ => true) true fuel 42 [.slice a len cap] = some x) : ∃ hs, IsHosts W a len cap hs := by
  rcases open_slice Try.underlying42 hf with ⟨hcs, _⟩ | ⟨ad, l, c, m, n, D, Pl, hcs, hb, hl, hm, hmm, hx, hi⟩
  · simp at hcs
    obtain ⟨rfl, rfl, rfl⟩ := hcs
    exact ⟨[], rfl, Nat.le_refl _, Nat.zero_le _, .inl rfl⟩
  · simp at hcs
    obtain ⟨rfl, rfl, rfl⟩ := hcs
    have hmc : m = cap := by simpa using hmm
    have hC : Try.prog.cellsOf 99 = 3 := by kernel_rfl
    have key : ∀ i, i < len → ∃ h : H3, W.cell? (ad.add (i * 3)) = some (.int .i64 h.1) ∧ W.cell? (ad.add (i * 3 + 1)) = some (.int .i64 h.2.1) ∧ W.cell? (ad.add (i * 3 + 2)) = some (.int .i64 h.2.2) := by
      intro i hil
      obtain ⟨cs, hcells, ht⟩ := hi i (by omega)
      rw [hC] at hcells
      obtain ⟨_, hlen3, hat⟩ := World.cells?_some hcells
      match cs, hlen3 with
      | [u0, u1, u2], _ =>
        have g0 := hat 0 (by omega)
        have g1 := hat 1 (by omega)
        have g2 := hat 2 (by omega)
        rw [add_add] at g0 g1 g2
        obtain ⟨ys, n', _, _, _, hyl, hfld⟩ := DataW.trod_struct Try.underlying99 ht
        have hci : Try.prog.cellsOf 3 = 1 := by kernel_rfl
        have hyl3 : ys.length = 3 := hyl
        have t0 : DataW.trod enc Try.prog W base (fun _ => true) true n' 3 [u0] = some (ys[0]'(by omega)) := by
          have := hfld 0 _ rfl
          simpa [hci, hyl3] using this
        have t1 : DataW.trod enc Try.prog W base (fun _ => true) true n' 3 [u1] = some (ys[1]'(by omega)) := by
          have := hfld 1 _ rfl
          simpa [hci, hyl3] using this
        have t2 : DataW.trod enc Try.prog W base (fun _ => true) true n' 3 [u2] = some (ys[2]'(by omega)) := by
          have := hfld 2 _ rfl
          simpa [hci, hyl3] using this
        obtain ⟨v0, e0, _, _⟩ := DataW.trod_int Try.underlying3 t0
        obtain ⟨v1, e1, _, _⟩ := DataW.trod_int Try.underlying3 t1
        obtain ⟨v2, e2, _, _⟩ := DataW.trod_int Try.underlying3 t2
        simp only [List.cons.injEq, and_true] at e0 e1 e2
        subst e0 e1 e2
        exact ⟨(v0, v1, v2), g0, g1, g2⟩
    obtain ⟨hs, hlen, hp⟩ := choose_list _ ((0, 0, 0) : H3) len key
    refine ⟨hs, hlen, hl, hm, ?_⟩
    by_cases h0 : len = 0
    · left
      have : hs = [] := List.eq_nil_of_length_eq_zero (by omega)
      rw [this]; rfl
    · obtain ⟨b, off, spot⟩ := ad
      have h1 := (hp 0 (by omega)).1
      have hsp : spot = none := by simpa [Addr.add] using World.cell?_spot h1
      subst hsp
      refine .inr ⟨b, off, rfl, World.block_lt_of_cell? W _ h1, fun i u hu => ?_⟩
      have hi3 : i < hs.length * 3 := by
        have := (List.getElem?_eq_some_iff.1 hu).1
        rwa [hcells_len] at this
      obtain ⟨a', b', c'⟩ := hcells_get hs (i / 3) (by omega)
      obtain ⟨p0, p1, p2⟩ := hp (i / 3) (by omega)
      rw [add_at] at p0 p1 p2
      have h3 : i = i / 3 * 3 ∨ i = i / 3 * 3 + 1 ∨ i = i / 3 * 3 + 2 := by omega
      rcases h3 with h | h | h
      · rw [h, a'] at hu; rw [h, p0]; exact hu
      · rw [h, b'] at hu; rw [h, p1]; exact hu
      · rw [h, c'] at hu; rw [h, p2]; exact hu
end Go.Proofs.Ytdkdfehlmphikaa.OpenH
