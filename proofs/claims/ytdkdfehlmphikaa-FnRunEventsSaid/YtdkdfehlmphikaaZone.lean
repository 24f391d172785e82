/- Contracts of ZoneHosts, of the program and of the reference. No condition but lists of at most 2^20. -/
import Derived.Test.YtdkdfehlmphikaaHost
namespace Go.Proofs.Ytdkdfehlmphikaa
open Go.RowKit
/-- The hosts among the first k that are in the zone. -/
def zoneTo (hs : List H3) (zs : List Int) (z : Int) : Nat → List H3
  | 0 => []
  | k + 1 => zoneTo hs zs z k ++ if zs.getD k 0 = z then [hs.getD k (0, 0, 0)] else []
def zoneV (hs : List H3) (zs : List Int) (z : Int) : List H3 := if pv hs && decide (zs.length = hs.length) then zoneTo hs zs z hs.length else []
theorem zoneTo_len (hs : List H3) (zs : List Int) (z : Int) : ∀ k, (zoneTo hs zs z k).length ≤ k
  | 0 => Nat.le_refl _
  | k + 1 => by
    have := zoneTo_len hs zs z k
    simp only [zoneTo, List.length_append]
    split <;> simp <;> omega
theorem zoneV_len (hs : List H3) (zs : List Int) (z : Int) : (zoneV hs zs z).length ≤ hs.length := by
  unfold zoneV
  split
  · exact zoneTo_len _ _ _ _
  · simp
theorem zoneV_no {hs : List H3} {zs : List Int} {z : Int} (h : pv hs = false ∨ zs.length ≠ hs.length) : zoneV hs zs z = [] := by
  unfold zoneV
  rcases h with h | h <;> simp [h]
theorem zoneV_yes {hs : List H3} {zs : List Int} {z : Int} (h : pv hs = true) (h2 : zs.length = hs.length) : zoneV hs zs z = zoneTo hs zs z hs.length := by
  simp [zoneV, h, h2]
theorem hcells_snoc (hs : List H3) (h : H3) : hcells (hs ++ [h]) = hcells hs ++ hcell h := by simp [hcells]
theorem elemHost : Elem 23 97 3 24 := elem_mk (.agg #[.int .i64 0, .int .i64 0, .int .i64 0]) Try.underlying23 (by kernel_rfl) rfl (by decide) (by decide)
theorem one3 (a b c : Int) : ∀ u ∈ [Value.int .i64 a, .int .i64 b, .int .i64 c], u.oneCell' = true := by
  intro u hu
  simp only [List.mem_cons, List.not_mem_nil, or_false] at hu
  rcases hu with rfl | rfl | rfl <;> rfl
theorem zone_in {hs : List H3} {zs : List Int} {z : Int} {k : Nat} {N W S : Int} (hz : zs.getD k 0 = z) (h : (hs.getD k (0, 0, 0)) = (N, W, S)) : hcells (zoneTo hs zs z (k + 1)) = hcells (zoneTo hs zs z k) ++ [.int .i64 N, .int .i64 W, .int .i64 S] ∧ (zoneTo hs zs z (k + 1)).length = (zoneTo hs zs z k).length + 1 := by
  have e : zoneTo hs zs z (k + 1) = zoneTo hs zs z k ++ [hs.getD k (0, 0, 0)] := by rw [zoneTo, if_pos hz]
  rw [e, hcells_snoc, h]
  exact ⟨rfl, by simp⟩
theorem zone_out {hs : List H3} {zs : List Int} {z : Int} {k : Nat} (hz : zs.getD k 0 ≠ z) : zoneTo hs zs z (k + 1) = zoneTo hs zs z k := by
  rw [zoneTo, if_neg hz, List.append_nil]
theorem ret_noRow (w w' : World) (e : TypeId) (size : Nat) (xs : List H3) (h : xs = []) (hb : Below w.heap.size w w') : RetRow w e size xs.length (hcells xs) (.returned (.slice none 0 0)) w' := by
  subst h; exact ⟨none, 0, rfl, row_nil _ _ _ _, below_grown hb⟩
/-- The pool is valid, and there are as many zones. -/
def ZOk (hs : List H3) (n n' : Nat) : Prop := pv hs = true ∧ n' = n
theorem ret_noRow2 (w w' : World) (e : TypeId) (size : Nat) (xs : List H3) (h : xs = []) (b c : Nat) (ho : w'.ownsRow w.heap.size e size (.slice (some ⟨b, 0, none⟩) 0 c) 0 (hcells [])) (hb : Below w.heap.size w w') : RetRow w e size xs.length (hcells xs) (.returned (.slice (some ⟨b, 0, none⟩) 0 c)) w' := by
  subst h; exact ⟨_, c, rfl, ho, below_grown hb⟩
end Go.Proofs.Ytdkdfehlmphikaa
