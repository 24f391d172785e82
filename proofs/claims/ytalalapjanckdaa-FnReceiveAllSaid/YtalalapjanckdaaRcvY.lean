/- Plain facts on ReceiveAll: numbers are handed on without gaps; two parts lead to the same as all. No program in sight but the seat's own name. -/
import Derived.Test.YtalalapjanckdaaRcvZ
import Derived.Test.YtalalapjanckdaaRcvA
namespace Go.Proofs.Ytalalapjanckdaa
open Go.RowKit
theorem fold_law (N : Int) : ∀ (l : List Int) (s : Int × Int × List Int × List Int), rv s.1 s.2.1 s.2.2.1 = true → s.2.2.2 = upFrom N s.2.2.2.length → s.1 = N + (s.2.2.2.length : Int) →
    rv (l.foldl rcvS s).1 (l.foldl rcvS s).2.1 (l.foldl rcvS s).2.2.1 = true ∧ (l.foldl rcvS s).2.2.2 = upFrom N (l.foldl rcvS s).2.2.2.length ∧ (l.foldl rcvS s).1 = N + ((l.foldl rcvS s).2.2.2.length : Int)
  | [], _, h1, h2, h3 => ⟨h1, h2, h3⟩
  | x :: t, (a, b, c, d), h1, h2, h3 => by
    simp only at h1 h2 h3
    obtain ⟨⟨v1, v2, v3, v4, v5⟩, hv⟩ : ∃ v, rcv a b c x = v := ⟨_, rfl⟩
    obtain ⟨g1, g2, g3, -, -⟩ := rcv_law h1 hv
    have e : rcvS (a, b, c, d) x = (v1, v2, v3, d ++ v4) := by simp only [rcvS, hv]
    rw [List.foldl_cons, e]
    refine fold_law N t _ g1 ?_ ?_
    · simp only [List.length_append]
      rw [← upFrom_app, ← h2, ← h3, ← g2]
    · simp only [List.length_append]; omega
theorem rcvK_law {N R : Int} {hs : List Int} (l : List Int) (h : rv N R hs = true) :
    rv (rcvK N R hs l).1 (rcvK N R hs l).2.1 (rcvK N R hs l).2.2.1 = true ∧ (rcvK N R hs l).2.2.2 = upFrom N (rcvK N R hs l).2.2.2.length ∧ (rcvK N R hs l).1 = N + ((rcvK N R hs l).2.2.2.length : Int) :=
  fold_law N l (N, R, hs, []) h rfl (by simp)
theorem fold_acc : ∀ (l : List Int) (a b : Int) (c d : List Int), l.foldl rcvS (a, b, c, d) = ((rcvK a b c l).1, (rcvK a b c l).2.1, (rcvK a b c l).2.2.1, d ++ (rcvK a b c l).2.2.2)
  | [], _, _, _, d => by simp [rcvK]
  | x :: t, a, b, c, d => by
    have e : ∀ d, rcvS (a, b, c, d) x = ((rcv a b c x).1, (rcv a b c x).2.1, (rcv a b c x).2.2.1, d ++ (rcv a b c x).2.2.2.1) := fun _ => rfl
    have e2 : rcvK a b c (x :: t) = t.foldl rcvS (rcvS (a, b, c, []) x) := rfl
    simp only [e2, List.foldl_cons, e, fold_acc t, List.nil_append, List.append_assoc]
theorem rcvK_split {N R : Int} {hs : List Int} (l : List Int) (k : Nat) {a1 a2 : Int} {a3 f : List Int} (h1 : rcvK N R hs (l.take k) = (a1, a2, a3, f)) {b1 b2 : Int} {b3 g : List Int} (h2 : rcvK a1 a2 a3 (l.drop k) = (b1, b2, b3, g)) :
    rcvK N R hs l = (b1, b2, b3, f ++ g) := by
  have e : rcvK N R hs l = (l.drop k).foldl rcvS (rcvK N R hs (l.take k)) := by
    rw [rcvK, rcvK, ← List.foldl_append, List.take_append_drop]
  rw [e, h1, fold_acc, h2]
theorem rcvA_ok {N R : Int} {hs l : List Int} (h : rv N R hs = true) (hl : l.length ≤ 40) : rcvA N R hs l = rcvK N R hs l := by
  rw [rcvA, if_neg]; rintro (e | e)
  · rw [h] at e; cases e
  · omega
theorem rcvA_law {N R : Int} {hs l : List Int} (h : rv N R hs = true) (hl : l.length ≤ 40) {v1 v2 : Int} {v3 v4 : List Int} (hv : rcvA N R hs l = (v1, v2, v3, v4)) :
    rv v1 v2 v3 = true ∧ v4 = upFrom N v4.length ∧ v1 = N + (v4.length : Int) := by
  rw [rcvA_ok h hl] at hv
  have := rcvK_law l h
  rw [hv] at this
  exact this
theorem rcvA_split {N R : Int} {hs l : List Int} (h : rv N R hs = true) (hl : l.length ≤ 40) (k : Nat) {a1 a2 : Int} {a3 f : List Int} (h1 : rcvA N R hs (l.take k) = (a1, a2, a3, f)) {b1 b2 : Int} {b3 g : List Int} (h2 : rcvA a1 a2 a3 (l.drop k) = (b1, b2, b3, g)) :
    rcvA N R hs l = (b1, b2, b3, f ++ g) := by
  obtain ⟨g1, -, -⟩ := rcvA_law h (by rw [List.length_take]; omega) h1
  rw [rcvA_ok h (by rw [List.length_take]; omega)] at h1
  rw [rcvA_ok g1 (by rw [List.length_drop]; omega)] at h2
  rw [rcvA_ok h hl]
  exact rcvK_split l k h1 h2
end Go.Proofs.Ytalalapjanckdaa
