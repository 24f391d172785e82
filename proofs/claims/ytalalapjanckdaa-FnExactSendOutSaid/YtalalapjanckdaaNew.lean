/- New rows, nil or not: they are read, marked, and stay while other blocks turn. No condition. -/
import Derived.Test.YtalalapjanckdaaMarks
namespace Go.Proofs.Ytalalapjanckdaa
open Go.RowKit
theorem own_ints {w : World} {base n cap : Nat} {a : Option Addr} {xs : List Int} (h : w.ownsRow base 3 1 (.slice a n cap) n (xs.map (Value.int .i64))) : Ints w a xs ∧ xs.length = n := by
  have hl : xs.length = n := by have := h.1; simpa using this
  rcases h.2 with ⟨h1, h2⟩ | ⟨g, c, cur, h1, _⟩
  · injection h1 with h3 _ _
    subst h3
    exact ⟨.inl (List.eq_nil_of_length_eq_zero (by omega)), hl⟩
  · injection h1 with h3 _ h4
    subst h3 h4
    exact ⟨ownsRow.ints h, hl⟩
theorem own_kept {w w' : World} {base n : Nat} {v : Value} {r : Option Nat} {xs : List Value} (h : w.ownsRow base 3 1 v n xs) (hg : w.grownBy w' r) (hne : ∀ k, v.ownBlock = some k → r ≠ some k) : w'.ownsRow base 3 1 v n xs := by
  refine h.kept hg ?_
  cases hb : v.ownBlock with
  | none => exact .inl rfl
  | some k => exact .inr (fun e => hne k hb e.symm)
theorem c_markNil (k : Int) (w : World) :
    Calls Try.prog 39 #[.slice none 0 0, .int .i64 k] w fun e w' => e = .returned (.int .i64 k) ∧ w = w' := by
  go_enter Try.func39, Try.ntmps39
  go_wp2
  go_loop [1, 5] (fun q i => q = .int .i64 k ∧ i = .int .i64 0) (fun _ _ => 0)
  case atStart => exact ⟨rfl, rfl⟩
  case round =>
    obtain ⟨rfl, rfl⟩ := hrel
    go_wp2
    go_ret
    exact ⟨rfl, rfl⟩
theorem c_markV (base n : Nat) (a : Option Addr) (cap : Nat) (k : Int) (xs : List Int) (w : World) (hn : n ≤ 1048576) (hk0 : 0 ≤ k) (hk : k ≤ 1000000000) (h : w.ownsRow base 3 1 (.slice a n cap) n (xs.map (Value.int .i64))) :
    Calls Try.prog 39 #[.slice a n cap, .int .i64 k] w fun e w' => e = .returned (.int .i64 (k + (n : Int))) ∧
      w'.ownsRow base 3 1 (.slice a n cap) n ((upFrom k n).map (Value.int .i64)) ∧ w.grownBy w' (Value.slice a n cap).ownBlock := by
  rcases h.2 with ⟨h1, h2⟩ | ⟨g, c, cur, h1, _⟩
  · injection h1 with h3 h4 h5
    subst h3 h4 h5
    refine (c_markNil k w).mono ?_
    rintro e w' ⟨rfl, rfl⟩
    exact ⟨by simp, ⟨rfl, .inl ⟨rfl, rfl⟩⟩, World.grownBy.refl _ _⟩
  · injection h1 with h3 _ h5
    subst h3 h5
    refine (c_markIntS base g n cap k xs w hn hk0 hk h).mono ?_
    rintro e w' ⟨rfl, h1, h2⟩
    exact ⟨rfl, h1, h2⟩
/-- A new list of the numbers xs (nil or not where there are none); nothing that was there has turned. -/
def RetNew (w : World) (xs : List Int) (e : Ending) (w' : World) : Prop :=
  ∃ (a : Option Addr) (cap : Nat), e = .returned (.slice a xs.length cap) ∧ w'.ownsRow w.heap.size 3 1 (.slice a xs.length cap) xs.length (xs.map (Value.int .i64)) ∧ w.grownBy w' none
end Go.Proofs.Ytalalapjanckdaa
